/- Part 6 of a proof of a statement about the given program: an abstract machine over the model, proved sound, and contracts of the functions that the statement reaches; the last part proves the statement, for every input, with no condition. -/
import Derived.Test.YtcfelhfcjdofoaaGreatDoorX4
set_option autoImplicit false
set_option linter.unusedSimpArgs false
set_option linter.unusedVariables false
namespace Go.Ab
section
variable {P:Program} {T:Nat→TI} {N:Nat}
theorem fO (hT:TOK P T N) {I:Imm} {ρ:Pl} {w:World} {t:Nat} (ht:t<N) {v:AV} {seg:List Value} (hr:Rep T N I ρ v seg) (hf:fit T t v=true) (hl:seg.length=(T t).size)
 {cs:Array Value} {off:Nat} (hc:∀ o,o<(T t).size→cs[off+o]? = seg[o]?):(part t cs off).run P w = .ok (bZ v seg) w:=by
 cases hk:(T t).kind.isAgg with
 | true =>
  obtain ⟨n,g,rfl⟩:=nY hf hk;have e:cs.extract off (off+(T t).size)=seg.toArray:=by
   apply Array.ext';apply List.ext_getElem?;intro o;simp only [Array.toList_extract,List.extract_eq_take_drop,List.getElem?_take,List.getElem?_drop,Array.getElem?_toList];by_cases ho:o<(T t).size
   ·rw [if_pos (by omega),hc o ho]
   ·rw [if_neg (by omega),List.getElem?_eq_none (by omega)]
  simp [part,hT.runAgg ht,hk,hT.runSize ht,e,bZ]
 | false =>
  obtain ⟨y,rfl,hy⟩:=hr.one (rD hf hk);have h0:=hc 0 (by simp at hl;omega)
  simp only [Nat.add_zero,List.getElem?_cons_zero]at h0;have hp:bZ v [y]=y:=by
   unfold bZ;split
   ·exact absurd rfl (rD hf hk _ _ _)
   ·rfl
  simp [part,hT.runAgg ht,hk,h0,hp]
theorem dI.agg_inv {I:Imm} {ρ:Pl} {t n:Nat} {g:Nat→AV} {y:Value} (h:dI T N I ρ (.agg t n g) y):∃ cs,Rep T N I ρ (.agg t n g) cs∧y = .agg cs.toArray∧(T t).kind.isAgg=true∧t<N:=by
 obtain ⟨cs,h1,h2⟩:=h;refine ⟨cs,h1,h2,?_⟩;cases h1 with
 | struct fs segs hk hn ht=>exact ⟨by rw [hk];rfl,ht⟩
 | array e segs hk ht=>exact ⟨by rw [hk];rfl,ht⟩
theorem Rep.agg_len (hT:TOK P T N) {I:Imm} {ρ:Pl} {t n:Nat} {g:Nat→AV} {cs:List Value} (h:Rep T N I ρ (.agg t n g) cs):cs.length=(T t).size:=by
 cases h with
 | struct fs segs hk hn ht h hf hl =>
  rw [bV,(hT.struct t fs hk).2];subst hn;exact dh fun i hi=>by
   have hi':i<fs.length:=hi;simp only [List.getElem?_eq_getElem hi',Option.map_some,Option.getD_some];exact hl i _ (List.getElem?_eq_getElem hi')
 | array e segs hk ht h hf hl =>
  rw [bV,(hT.array t n e hk).2,← jC];exact dh fun i hi=>hl i hi
theorem o8 {s:Sem Value} {r:AV} (h:Ih s=some r):∃ x,s = .pure x∧r = .v x∧kK x=true:=by
 unfold Ih at h;split at h
 ·rename_i x;cases hp:kK x with
  | true=>rw [hp]at h;simp at h;exact ⟨x,rfl,h.symm,hp⟩
  | false=>rw [hp]at h;simp at h
 ·cases h
theorem bP (op:BinOp) (t:TypeId) (x y:Operand) {a b:Value} (h1:∀ c,a ≠ .agg c) (h2:a ≠ .nilIface) (w:World):(eqGuard op t x y a b).run P w = .ok () w:=by
 unfold eqGuard;cases op <;> first | rfl | skip
 all_goals
  cases a <;> first | exact absurd rfl h2 | exact absurd rfl (h1 _) | (cases b <;> rfl)
theorem jD {op:BinOp} {b:Bool} {r:AV} (h:Bh op b=some r):(op = .eql∧r = .v (.bool b))∨(op = .neq∧r = .v (.bool (!b))):=by
 unfold Bh at h;split at h <;> first | (cases h;exact .inl ⟨rfl,rfl⟩) | (cases h;exact .inr ⟨rfl,rfl⟩) | cases h
theorem nO {x:Option AV} {r:AV×Option Prop} (h:noC x=some r):∃ a,x=some a∧r=(a,none):=by
 simp only [noC,Option.bind_eq_some_iff,Option.some.injEq]at h;obtain ⟨a,h1,h2⟩:=h;exact ⟨a,h1,h2.symm⟩
def xH (P:Program) (T:Nat→TI) (N:Nat):Prop := ∀ (I:Imm) (ρ:Pl) (f t:Nat) (x y:AV) (u v:Value) (b:Bool) (w:World),dI T N I ρ x u→dI T N I ρ y v→(T t).kind.isAgg=true→iH T f t x y=some b→f≤40 →
 (Op.equal t u v).run P w = .ok b w∧(∀ (op:BinOp) (p q:Operand),(eqGuard op t p q u v).run P w = .ok () w)∧(b=true→Instr.sameBits 10000 v u=true)
theorem Gl {f t:Nat} {t1 n t2 k:Nat} {g h:Nat→AV} {b:Bool} (e:iH T f t (.agg t1 n g) (.agg t2 k h)=some b):(T t).kind.isAgg=true:=by
 cases f with
 | zero=>simp [iH]at e
 | succ f =>
  unfold iH at e;cases hk:(T t).kind <;> simp [hk]at e <;> rfl
theorem IQ (hT:TOK P T N) {t:Nat} (hk:(T t).kind = .bool):∀ w,(underlying t).run P w = .ok .bool w:=by
 obtain ⟨d,hd,_,h2⟩:=hT.runUnd (hT.lt (t:=t) (by rw [hk];simp));rw [hk]at h2;cases d <;> simp only [kindOf,reduceCtorEq]at h2
 exact hd
theorem bQ {t e:Nat} (hu:∀ w,(underlying t).run P w = .ok (.slice e) w) (w:World) (x y:Option Addr) (n c n' c':Nat) (h:x=none∨y=none) :
 (Op.equal t (.slice x n c) (.slice y n' c')).run P w = .ok (x.isNone&&y.isNone) w:=by
 unfold Op.equal Op.maxDepth;rw [show (10000:Nat)=9999+1 from rfl,Op.equalIn];simp only [Sem.run_bind,hu,Result.andThen_ok];rcases h with rfl | rfl
 ·cases y <;> rfl
 ·cases x <;> rfl
theorem nD {t:Nat} (hu:∀ w,(underlying t).run P w = .ok .bool w) (w:World) (x y:Bool) :
 (Op.equal t (.bool x) (.bool y)).run P w = .ok (x==y) w:=by
 unfold Op.equal Op.maxDepth;rw [show (10000:Nat)=9999+1 from rfl,Op.equalIn];simp only [Sem.run_bind,hu,Result.andThen_ok];rfl
theorem xE {α:Type} {b:Bool} {x:Option α} {r:α} (h:(bif b then x else none)=some r):b=true∧x=some r:=by
 cases b with
 | true=>exact ⟨rfl,h⟩
 | false=>cases h
theorem CQ (hT:TOK P T N) {I:Imm} {ρ:Pl} {op:BinOp} {t:Nat} {x y r:AV} {u v:Value} (hx:dI T N I ρ x u) (hy:dI T N I ρ y v) (h:Ad T op t x y=some r) (w:World) :
 ∃ z,(binOp op t u v).run P w = .ok z w∧gI T N I ρ r z:=by
 unfold Ad at h;split at h
 ·rename_i e _ _ _ _ hk;have hu:=(hT.sli hk).2
  obtain ⟨hpos,h⟩:=xE h;rcases Rep.row_inv hx with ⟨_,h0,_⟩ | ⟨b,off,cap,segs,_,_,_,_,_,_,_,_,rfl⟩
  ·subst h0;cases hpos
  obtain ⟨rfl,_⟩:=dI.v hy;rcases jD h with ⟨rfl,rfl⟩ | ⟨rfl,rfl⟩
  ·exact ⟨_,by simp only [binOp,Sem.run_bind];rw [bQ hu w (some ⟨b,off,none⟩) none _ cap 0 0 (.inr rfl)];rfl,cZ rfl⟩
  ·exact ⟨_,by simp only [binOp,Sem.run_bind];rw [bQ hu w (some ⟨b,off,none⟩) none _ cap 0 0 (.inr rfl)];rfl,cZ rfl⟩
 ·rename_i hk;have hu:=(hT.sli hk).2
  obtain ⟨rfl,_⟩:=dI.v hx;obtain ⟨rfl,_⟩:=dI.v hy;rcases jD h with ⟨rfl,rfl⟩ | ⟨rfl,rfl⟩
  ·exact ⟨_,by simp only [binOp,Sem.run_bind];rw [bQ hu w none none 0 0 0 0 (.inr rfl)];rfl,cZ rfl⟩
  ·exact ⟨_,by simp only [binOp,Sem.run_bind];rw [bQ hu w none none 0 0 0 0 (.inr rfl)];rfl,cZ rfl⟩
 ·rename_i e _ _ _ _ hk;have hu:=(hT.sli hk).2
  obtain ⟨rfl,_⟩:=dI.v hx;obtain ⟨hpos,h⟩:=xE h;rcases Rep.row_inv hy with ⟨_,h0,_⟩ | ⟨b,off,cap,segs,_,_,_,_,_,_,_,_,rfl⟩
  ·subst h0;cases hpos
  rcases jD h with ⟨rfl,rfl⟩ | ⟨rfl,rfl⟩
  ·exact ⟨_,by simp only [binOp,Sem.run_bind];rw [bQ hu w none (some ⟨b,off,none⟩) 0 0 _ cap (.inl rfl)];rfl,cZ rfl⟩
  ·exact ⟨_,by simp only [binOp,Sem.run_bind];rw [bQ hu w none (some ⟨b,off,none⟩) 0 0 _ cap (.inl rfl)];rfl,cZ rfl⟩
 ·cases h
theorem sJ {op:BinOp} {t:Nat} {x y:AV} {r:AV×Option Prop} (h:Bd T op t x y=some r):(∀ vs,x ≠ .tup vs)∧(∀ vs,y ≠ .tup vs):=by
 constructor
 ·rintro vs rfl;unfold Bd at h;cases y <;> simp [noC,Ad]at h
 ·rintro vs rfl;unfold Bd at h;cases x <;> first | (simp [noC,Ad]at h;done) | (rename_i z;cases z <;> simp [noC,Ad]at h)
theorem Df (hT:TOK P T N) (hE:xH P T N) {I:Imm} {ρ:Pl} {op:BinOp} {t:Nat} {x y:AV} {r:AV×Option Prop} {u v:Value} (hx0:gI T N I ρ x u) (hy0:gI T N I ρ y v) (h:Bd T op t x y=some r) (hc:aj r.2) (w:World) (p q:Operand) :
 ∃ z,(do eqGuard op t p q u v;binOp op t u v:Sem Value).run P w = .ok z w∧gI T N I ρ r.1 z:=by
 have hnt:=sJ h;have hx:=hx0.rep1 hnt.1
 have hy:=hy0.rep1 hnt.2;clear hx0 hy0 hnt;unfold Bd at h;split at h
 ·
   rename_i j a k b;obtain ⟨rfl,_⟩:=dI.v hx;obtain ⟨rfl,_⟩:=dI.v hy;have hg:(eqGuard op t p q (.int j a) (.int k b)).run P w = .ok () w:=bP op t p q (by simp) (by simp) w
   simp only [Sem.run_bind,hg,Result.andThen_ok];split at h
   ·cases h;have hb:¬ b<0:=by simp only [aj]at hc;omega
    exact ⟨_,by simp [binOp,Op.shift,hb],cZ rfl⟩
   ·cases h;have hb:¬ b<0:=by simp only [aj]at hc;omega
    exact ⟨_,by simp [binOp,Op.shift,hb],cZ rfl⟩
   ·by_cases hjk:j=k
    ·subst hjk;simp at h;subst h;simp only [aj]at hc;exact ⟨_,by simp [binOp,Op.intDiv,hc],cZ rfl⟩
    ·simp [hjk]at h
   ·by_cases hjk:j=k
    ·subst hjk;simp at h;subst h;simp only [aj]at hc;exact ⟨_,by simp [binOp,Op.intDiv,hc],cZ rfl⟩
    ·simp [hjk]at h
   ·obtain ⟨a',h1,rfl⟩:=nO h;obtain ⟨z,h2,rfl,h3⟩:=o8 h1;exact ⟨z,by rw [h2];rfl,cZ h3⟩
 ·
   rename_i a b;obtain ⟨rfl,_⟩:=dI.v hx;obtain ⟨rfl,_⟩:=dI.v hy;have hg:(eqGuard op t p q (.string a) (.string b)).run P w = .ok () w:=bP op t p q (by simp) (by simp) w
   simp only [Sem.run_bind,hg,Result.andThen_ok];split at h
   ·cases h;simp only [aj]at hc;refine ⟨_,?_,cZ rfl⟩;have:¬ (((a.size+b.size:Nat):Int)>IntKind.i64.max):=by simp [IntKind.max,IntKind.signed,IntKind.bits];omega
    simp only [binOp,Op.stringOp,this,if_false];rfl
   ·obtain ⟨a',h1,rfl⟩:=nO h;obtain ⟨z,h2,rfl,h3⟩:=o8 h1;exact ⟨z,by rw [h2];rfl,cZ h3⟩
 ·
   rename_i a b;obtain ⟨rfl,_⟩:=dI.v hx;obtain ⟨rfl,_⟩:=dI.v hy;have hg:(eqGuard op t p q (.bool a) (.bool b)).run P w = .ok () w:=bP op t p q (by simp) (by simp) w
   simp only [Sem.run_bind,hg,Result.andThen_ok];split at h
   ·rename_i hk;have hu:=IQ hT hk
    obtain ⟨a',h1,rfl⟩:=nO h;rcases jD h1 with ⟨rfl,rfl⟩ | ⟨rfl,rfl⟩
    ·exact ⟨_,by simp only [binOp,Sem.run_bind,nD hu,Result.andThen_ok];rfl,cZ rfl⟩
    ·exact ⟨_,by simp only [binOp,Sem.run_bind,nD hu,Result.andThen_ok];rfl,cZ rfl⟩
   ·cases h
 ·
   rename_i t1 n g t2 k h';simp only [Option.bind_eq_some_iff]at h;obtain ⟨b,h1,h2⟩:=h;obtain ⟨a',h3,rfl⟩:=nO h2;obtain ⟨e1,e2,_⟩:=hE I ρ 40 t _ _ u v b w hx hy (Gl h1) h1 (Nat.le_refl _);simp only [Sem.run_bind,e2,Result.andThen_ok];obtain ⟨cs,_,rfl,_⟩:=dI.agg_inv hx;obtain ⟨ds,_,rfl,_⟩:=dI.agg_inv hy;rcases jD h3 with ⟨rfl,rfl⟩ | ⟨rfl,rfl⟩
   ·exact ⟨_,by simp [binOp,e1],cZ rfl⟩
   ·exact ⟨_,by simp [binOp,e1],cZ rfl⟩
 ·
   obtain ⟨a',h1,rfl⟩:=nO h;obtain ⟨z,h2,h3⟩:=CQ hT hx hy h1 w;have hg:(eqGuard op t p q u v).run P w = .ok () w:=by
    unfold Ad at h1;split at h1
    ·rcases Rep.row_inv hx with ⟨⟨_,rfl⟩,_,_⟩ | ⟨_,_,_,_,_,_,_,_,_,_,_,_,rfl⟩ <;>
     exact bP op t p q (by simp) (by simp) w
    ·obtain ⟨rfl,_⟩:=dI.v hx;exact bP op t p q (by simp) (by simp) w
    ·obtain ⟨rfl,_⟩:=dI.v hx;exact bP op t p q (by simp) (by simp) w
    ·cases h1
   exact ⟨z,by simp [hg,h2],h3⟩
end
end Go.Ab
