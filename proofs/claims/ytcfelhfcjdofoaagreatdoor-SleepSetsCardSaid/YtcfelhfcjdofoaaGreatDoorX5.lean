/- Part 6 of a proof of a statement about the given program: an abstract machine over the model, proved sound, and contracts of the functions that the statement reaches; the last part proves the statement, for every input, with no condition. -/
import Derived.Test.YtcfelhfcjdofoaaGreatDoorX4
set_option autoImplicit false
set_option linter.unusedSimpArgs false
set_option linter.unusedVariables false
namespace Go.Ab
section
variable {P:Program} {T:Nat->TI} {N:Nat}
theorem kP (hT:jf P T N) {I:fG} {ρ:Pl} {w:World} {t:Nat} (ht:t<N) {v:AV} {seg:List Value} (c:Rep T N I ρ v seg) (hf:fit T t v=true) (hl:seg.length=(T t).size)
 {cs:Array Value} {off:Nat} (hc:∀ o,o<(T t).size->cs[off+o]? = seg[o]?):(part t cs off).run P w = .ok (fC v seg) w:=by
 cases hk:(T t).kind.isAgg with
 | true =>
  obtain ⟨n,g,rfl⟩:=vg hf hk;have e:cs.extract off (off+(T t).size)=seg.toArray:=by
   apply ad1;apply List.ext_getElem?;intro o;simp only [Array.toList_extract,List.extract_eq_take_drop,adL,aeP,adi];by_cases b:o<(T t).size
   ·rw [aaW (by omega),hc o b]
   ·rw [MC (by omega),adn (by omega)]
  simp [part,hT.runAgg ht,hk,hT.runSize ht,e,fC]
 | false =>
  obtain ⟨y,rfl,d⟩:=c.one (zJ hf hk);have a:=hc 0 (by simp at hl;omega)
  simp only [adV,List.getElem?_cons_zero]at a;have hp:fC v [y]=y:=by
   unfold fC;split
   ·exact absurd rfl (zJ hf hk _ _ _)
   ·rfl
  simp [part,hT.runAgg ht,hk,a,hp]
theorem dQ.agg_inv {I:fG} {ρ:Pl} {t n:Nat} {g:Nat->AV} {y:Value} (h:dQ T N I ρ (.agg t n g) y):∃ cs,Rep T N I ρ (.agg t n g) cs/\y = .agg cs.toArray/\(T t).kind.isAgg=true/\t<N:=by
 obtain ⟨cs,a,b⟩:=h;refine ⟨cs,a,b,?_⟩;cases a with| struct fs segs hk hn ht=>exact ⟨by rw [hk];rfl,ht⟩| array e segs hk ht=>exact ⟨by rw [hk];rfl,ht⟩
theorem Rep.agg_len (hT:jf P T N) {I:fG} {ρ:Pl} {t n:Nat} {g:Nat->AV} {cs:List Value} (h:Rep T N I ρ (.agg t n g) cs):cs.length=(T t).size:=by
 cases h with| struct fs segs hk hn ht h hf hl=>rw [gI,(hT.struct t fs hk).2];subst hn;(exact gZ λi hi=>by have a:i<fs.length:=hi;simp only [aaT a,adU,adr];exact hl i _ (aaT a))| array e segs hk ht h hf hl=>rw [gI,(hT.array t n e hk).2,<- pF];exact gZ λi hi=>hl i hi
theorem yY {s:Sem Value} {r:AV} (h:Oe s=some r):∃ x,s = .pure x/\r = .v x/\qh x=true:=by
 unfold Oe at h;split at h
 ·rename_i x;cases hp:qh x with| true=>rw [hp]at h;simp at h;exact ⟨x,rfl,h.symm,hp⟩| false=>rw [hp]at h;simp at h
 cases h
theorem gJ (op:BinOp) (t:TypeId) (x y:Operand) {a b:Value} (d:∀ c,a ≠ .agg c) (e:a ≠ .nilIface) (w:World):(eqGuard op t x y a b).run P w = .ok () w:=by
 unfold eqGuard;cases op <;> first | rfl | skip
 all_goals cases a <;> first | exact absurd rfl e | exact absurd rfl (d _) | (cases b <;> rfl)
theorem pU {op:BinOp} {b:Bool} {r:AV} (h:EL op b=some r):(op = .eql/\r = .v (.bool b))\/(op = .neq/\r = .v (.bool (!b))):=by
 unfold EL at h;split at h <;> first | (cases h;exact .inl ⟨rfl,rfl⟩) | (cases h;exact .inr ⟨rfl,rfl⟩) | cases h
theorem wL {x:Option AV} {r:AV×Option Prop} (h:XK x=some r):∃ a,x=some a/\r=(a,none):=by
 simp only [XK,Y0,abI]at h;obtain ⟨a,b,c⟩:=h;exact ⟨a,b,c.symm⟩
def xg (P:Program) (T:Nat->TI) (N:Nat):Prop := ∀ (I:fG) (ρ:Pl) (f t:Nat) (x y:AV) (u v:Value) (b:Bool) (w:World),dQ T N I ρ x u->dQ T N I ρ y v->(T t).kind.isAgg=true->kG T f t x y=some b->f<=40 ->
 (Op.equal t u v).run P w = .ok b w/\(∀ (op:BinOp) (p q:Operand),(eqGuard op t p q u v).run P w = .ok () w)/\(b=true->Instr.sameBits 10000 v u=true)
theorem Q9 {f t:Nat} {a n c k:Nat} {g h:Nat->AV} {b:Bool} (e:kG T f t (.agg a n g) (.agg c k h)=some b):(T t).kind.isAgg=true:=by
 cases f with| zero=>simp [kG]at e| succ f=>unfold kG at e;(cases hk:(T t).kind <;> simp [hk]at e <;> rfl)
theorem Vf (hT:jf P T N) {t:Nat} (hk:(T t).kind = .bool):∀ w,(underlying t).run P w = .ok .bool w:=by
 obtain ⟨d,hd,_,a⟩:=hT.runUnd (hT.lt (t:=t) (by rw [hk];simp));rw [hk]at a;cases d <;> simp only [kindOf,reduceCtorEq]at a
 exact hd
theorem gV {t e:Nat} (b:∀ w,(underlying t).run P w = .ok (.slice e) w) (w:World) (x y:Option Addr) (n c d a:Nat) (h:x=none\/y=none) :
 (Op.equal t (.slice x n c) (.slice y d a)).run P w = .ok (x.isNone&&y.isNone) w:=by
 unfold Op.equal Op.maxDepth;rw [show (10000:Nat)=9999+1 from rfl,Op.equalIn];simp only [Sem.run_bind,b,Result.andThen_ok];rcases h with rfl | rfl
 ·cases y <;> rfl
 ·cases x <;> rfl
theorem yx {t:Nat} (a:∀ w,(underlying t).run P w = .ok .bool w) (w:World) (x y:Bool) :
 (Op.equal t (.bool x) (.bool y)).run P w = .ok (x==y) w:=by
 unfold Op.equal Op.maxDepth;rw [show (10000:Nat)=9999+1 from rfl,Op.equalIn];simp only [Sem.run_bind,a,Result.andThen_ok];rfl
theorem Iu {α:Type} {b:Bool} {x:Option α} {r:α} (h:(bif b then x else none)=some r):b=true/\x=some r:=by
 cases b with| true=>exact ⟨rfl,h⟩| false=>(cases h)
theorem Oy (hT:jf P T N) {I:fG} {ρ:Pl} {op:BinOp} {t:Nat} {x y r:AV} {u v:Value} (hx:dQ T N I ρ x u) (f:dQ T N I ρ y v) (h:Ew T op t x y=some r) (w:World) :
 ∃ z,(binOp op t u v).run P w = .ok z w/\fQ T N I ρ r z:=by
 unfold Ew at h;split at h
 ·rename_i e _ _ _ _ hk;have c:=(hT.sli hk).2
  obtain ⟨a,h⟩:=Iu h;rcases Rep.row_inv hx with ⟨_,d,_⟩ | ⟨b,off,cap,segs,_,_,_,_,_,_,_,_,rfl⟩
  ·subst d;cases a
  obtain ⟨rfl,_⟩:=dQ.v f;rcases pU h with ⟨rfl,rfl⟩ | ⟨rfl,rfl⟩
  ·exact ⟨_,by simp only [binOp,Sem.run_bind];rw [gV c w (some ⟨b,off,none⟩) none _ cap 0 0 (.inr rfl)];rfl,fU rfl⟩
  ·exact ⟨_,by simp only [binOp,Sem.run_bind];rw [gV c w (some ⟨b,off,none⟩) none _ cap 0 0 (.inr rfl)];rfl,fU rfl⟩
 ·rename_i hk;have c:=(hT.sli hk).2
  obtain ⟨rfl,_⟩:=dQ.v hx;obtain ⟨rfl,_⟩:=dQ.v f;rcases pU h with ⟨rfl,rfl⟩ | ⟨rfl,rfl⟩
  ·exact ⟨_,by simp only [binOp,Sem.run_bind];rw [gV c w none none 0 0 0 0 (.inr rfl)];rfl,fU rfl⟩
  ·exact ⟨_,by simp only [binOp,Sem.run_bind];rw [gV c w none none 0 0 0 0 (.inr rfl)];rfl,fU rfl⟩
 ·rename_i e _ _ _ _ hk;have c:=(hT.sli hk).2
  obtain ⟨rfl,_⟩:=dQ.v hx;obtain ⟨a,h⟩:=Iu h;rcases Rep.row_inv f with ⟨_,d,_⟩ | ⟨b,off,cap,segs,_,_,_,_,_,_,_,_,rfl⟩
  ·subst d;cases a
  rcases pU h with ⟨rfl,rfl⟩ | ⟨rfl,rfl⟩
  ·exact ⟨_,by simp only [binOp,Sem.run_bind];rw [gV c w none (some ⟨b,off,none⟩) 0 0 _ cap (.inl rfl)];rfl,fU rfl⟩
  ·exact ⟨_,by simp only [binOp,Sem.run_bind];rw [gV c w none (some ⟨b,off,none⟩) 0 0 _ cap (.inl rfl)];rfl,fU rfl⟩
 ·cases h
theorem DZ {op:BinOp} {t:Nat} {x y:AV} {r:AV×Option Prop} (h:EK T op t x y=some r):(∀ vs,x ≠ .tup vs)/\(∀ vs,y ≠ .tup vs):=by
 constructor
 ·rintro vs rfl;unfold EK at h;cases y <;> simp [XK,Ew]at h
 rintro vs rfl;unfold EK at h;cases x <;> first | (simp [XK,Ew]at h;done) | (rename_i z;cases z <;> simp [XK,Ew]at h)
theorem O8 (hT:jf P T N) (hE:xg P T N) {I:fG} {ρ:Pl} {op:BinOp} {t:Nat} {x y:AV} {r:AV×Option Prop} {u v:Value} (m:fQ T N I ρ x u) (o:fQ T N I ρ y v) (h:EK T op t x y=some r) (hc:ay r.2) (w:World) (p q:Operand) :
 ∃ z,(do eqGuard op t p q u v;binOp op t u v:Sem Value).run P w = .ok z w/\fQ T N I ρ r.1 z:=by
 have i:=DZ h;have hx:=m.rep1 i.1
 have l:=o.rep1 i.2;clear m o i;unfold EK at h;split at h
 ·
   rename_i j a k b;obtain ⟨rfl,_⟩:=dQ.v hx;obtain ⟨rfl,_⟩:=dQ.v l;have hg:(eqGuard op t p q (.int j a) (.int k b)).run P w = .ok () w:=gJ op t p q (by simp) (by simp) w
   simp only [Sem.run_bind,hg,Result.andThen_ok];split at h
   ·cases h;have hb:¬ b<0:=by simp only [ay]at hc;omega
    exact ⟨_,by simp [binOp,Op.shift,hb],fU rfl⟩
   ·cases h;have hb:¬ b<0:=by simp only [ay]at hc;omega
    exact ⟨_,by simp [binOp,Op.shift,hb],fU rfl⟩
   ·by_cases d:j=k
    ·subst d;simp at h;subst h;simp only [ay]at hc;exact ⟨_,by simp [binOp,Op.intDiv,hc],fU rfl⟩
    ·simp [d]at h
   ·by_cases d:j=k
    ·subst d;simp at h;subst h;simp only [ay]at hc;exact ⟨_,by simp [binOp,Op.intDiv,hc],fU rfl⟩
    ·simp [d]at h
   ·obtain ⟨s,c,rfl⟩:=wL h;obtain ⟨z,e,rfl,f⟩:=yY c;exact ⟨z,by rw [e];rfl,fU f⟩
 ·
   rename_i a b;obtain ⟨rfl,_⟩:=dQ.v hx;obtain ⟨rfl,_⟩:=dQ.v l;have hg:(eqGuard op t p q (.string a) (.string b)).run P w = .ok () w:=gJ op t p q (by simp) (by simp) w
   simp only [Sem.run_bind,hg,Result.andThen_ok];split at h
   ·cases h;simp only [ay]at hc;refine ⟨_,?_,fU rfl⟩;have:¬ (((a.size+b.size:Nat):Int)>IntKind.i64.max):=by simp [IntKind.max,IntKind.signed,IntKind.bits];omega
    simp only [binOp,Op.stringOp,this,adA];rfl
   ·obtain ⟨s,c,rfl⟩:=wL h;obtain ⟨z,e,rfl,f⟩:=yY c;exact ⟨z,by rw [e];rfl,fU f⟩
 ·
   rename_i a b;obtain ⟨rfl,_⟩:=dQ.v hx;obtain ⟨rfl,_⟩:=dQ.v l;have hg:(eqGuard op t p q (.bool a) (.bool b)).run P w = .ok () w:=gJ op t p q (by simp) (by simp) w
   simp only [Sem.run_bind,hg,Result.andThen_ok];split at h
   ·rename_i hk;have hu:=Vf hT hk
    obtain ⟨s,c,rfl⟩:=wL h;rcases pU c with ⟨rfl,rfl⟩ | ⟨rfl,rfl⟩
    ·exact ⟨_,by simp only [binOp,Sem.run_bind,yx hu,Result.andThen_ok];rfl,fU rfl⟩
    ·exact ⟨_,by simp only [binOp,Sem.run_bind,yx hu,Result.andThen_ok];rfl,fU rfl⟩
   ·cases h
 ·
   rename_i t1 n g t2 k h';simp only [Y0]at h;obtain ⟨b,c,e⟩:=h;obtain ⟨s,f,rfl⟩:=wL e;obtain ⟨e1,e2,_⟩:=hE I ρ 40 t _ _ u v b w hx l (Q9 c) c (aa4 _);simp only [Sem.run_bind,e2,Result.andThen_ok];obtain ⟨cs,_,rfl,_⟩:=dQ.agg_inv hx;obtain ⟨ds,_,rfl,_⟩:=dQ.agg_inv l;rcases pU f with ⟨rfl,rfl⟩ | ⟨rfl,rfl⟩
   ·exact ⟨_,by simp [binOp,e1],fU rfl⟩
   ·exact ⟨_,by simp [binOp,e1],fU rfl⟩
 ·
   obtain ⟨s,c,rfl⟩:=wL h;obtain ⟨z,e,f⟩:=Oy hT hx l c w;have hg:(eqGuard op t p q u v).run P w = .ok () w:=by
    unfold Ew at c;split at c
    ·rcases Rep.row_inv hx with ⟨⟨_,rfl⟩,_,_⟩ | ⟨_,_,_,_,_,_,_,_,_,_,_,_,rfl⟩ <;>
     exact gJ op t p q (by simp) (by simp) w
    ·obtain ⟨rfl,_⟩:=dQ.v hx;exact gJ op t p q (by simp) (by simp) w
    ·obtain ⟨rfl,_⟩:=dQ.v hx;exact gJ op t p q (by simp) (by simp) w
    ·cases c
   exact ⟨z,by simp [hg,e],f⟩
end
end Go.Ab
