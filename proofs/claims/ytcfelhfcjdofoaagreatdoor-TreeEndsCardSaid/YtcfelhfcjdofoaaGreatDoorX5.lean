/- Part 6 of a proof of a statement about the given program: an abstract machine over the model, proved sound, and contracts of the functions that the statement reaches; the last part proves the statement, for every input, with no condition. -/
import Derived.Test.YtcfelhfcjdofoaaGreatDoorX4
set_option autoImplicit false
set_option linter.unusedSimpArgs false
set_option linter.unusedVariables false
namespace Go.Ab
section
variable {P:Program} {T:Nat->TI} {N:Nat}
theorem kS (hT:jf P T N) {I:fK} {ρ:Pl} {w:World} {t:Nat} (ht:t<N) {v:AV} {seg:List Value} (c:Rep T N I ρ v seg) (hf:fit T t v=true) (hl:seg.length=(T t).size)
 {cs:Array Value} {off:Nat} (hc:∀ o,o<(T t).size->cs[off+o]? = seg[o]?):(part t cs off).run P w = .ok (fF v seg) w:=by
 cases hk:(T t).kind.isAgg with
 | true =>
  obtain ⟨n,g,rfl⟩:=uV hf hk;have e:cs.extract off (off+(T t).size)=seg.toArray:=by
   apply ad4;apply List.ext_getElem?;intro o;simp only [Array.toList_extract,List.extract_eq_take_drop,adO,aeT,adn];by_cases b:o<(T t).size
   ·rw [aaU (by omega),hc o b]
   ·rw [Y0 (by omega),adq (by omega)]
  simp [part,hT.runAgg ht,hk,hT.runSize ht,e,fF]
 | false =>
  obtain ⟨y,rfl,d⟩:=c.one (zU hf hk);have a:=hc 0 (by simp at hl;omega)
  simp only [ad2,List.getElem?_cons_zero]at a;have hp:fF v [y]=y:=by
   unfold fF;split
   ·exact absurd rfl (zU hf hk _ _ _)
   ·rfl
  simp [part,hT.runAgg ht,hk,a,hp]
theorem dU.agg_inv {I:fK} {ρ:Pl} {t n:Nat} {g:Nat->AV} {y:Value} (h:dU T N I ρ (.agg t n g) y):∃ cs,Rep T N I ρ (.agg t n g) cs/\y = .agg cs.toArray/\(T t).kind.isAgg=true/\t<N:=by
 obtain ⟨cs,a,b⟩:=h;refine ⟨cs,a,b,?_⟩;cases a with| struct fs segs hk hn ht=>exact ⟨by rw [hk];rfl,ht⟩| array e segs hk ht=>exact ⟨by rw [hk];rfl,ht⟩
theorem Rep.agg_len (hT:jf P T N) {I:fK} {ρ:Pl} {t n:Nat} {g:Nat->AV} {cs:List Value} (h:Rep T N I ρ (.agg t n g) cs):cs.length=(T t).size:=by
 cases h with| struct fs segs hk hn ht h hf hl=>rw [gQ,(hT.struct t fs hk).2];subst hn;(exact iw λi hi=>by have a:i<fs.length:=hi;simp only [aaR a,adU,adx];exact hl i _ (aaR a))| array e segs hk ht h hf hl=>rw [gQ,(hT.array t n e hk).2,<- pG];exact iw λi hi=>hl i hi
theorem zf {s:Sem Value} {r:AV} (h:Oa s=some r):∃ x,s = .pure x/\r = .v x/\qj x=true:=by
 unfold Oa at h;split at h
 ·rename_i x;cases hp:qj x with| true=>rw [hp]at h;simp at h;exact ⟨x,rfl,h.symm,hp⟩| false=>rw [hp]at h;simp at h
 cases h
theorem gU (op:BinOp) (t:TypeId) (x y:Operand) {a b:Value} (d:∀ c,a ≠ .agg c) (e:a ≠ .nilIface) (w:World):(eqGuard op t x y a b).run P w = .ok () w:=by
 unfold eqGuard;cases op <;> first | rfl | skip
 all_goals cases a <;> first | exact absurd rfl e | exact absurd rfl (d _) | (cases b <;> rfl)
theorem pW {op:BinOp} {b:Bool} {r:AV} (h:EO op b=some r):(op = .eql/\r = .v (.bool b))\/(op = .neq/\r = .v (.bool (!b))):=by
 unfold EO at h;split at h <;> first | (cases h;exact .inl ⟨rfl,rfl⟩) | (cases h;exact .inr ⟨rfl,rfl⟩) | cases h
theorem wH {x:Option AV} {r:AV×Option Prop} (h:XU x=some r):∃ a,x=some a/\r=(a,none):=by
 simp only [XU,aaC,abf]at h;obtain ⟨a,b,c⟩:=h;exact ⟨a,b,c.symm⟩
def wZ (P:Program) (T:Nat->TI) (N:Nat):Prop := ∀ (I:fK) (ρ:Pl) (f t:Nat) (x y:AV) (u v:Value) (b:Bool) (w:World),dU T N I ρ x u->dU T N I ρ y v->(T t).kind.isAgg=true->dI T f t x y=some b->f<=40 ->
 (Op.equal t u v).run P w = .ok b w/\(∀ (op:BinOp) (p q:Operand),(eqGuard op t p q u v).run P w = .ok () w)/\(b=true->Instr.sameBits 10000 v u=true)
theorem QN {f t:Nat} {a n c k:Nat} {g h:Nat->AV} {b:Bool} (e:dI T f t (.agg a n g) (.agg c k h)=some b):(T t).kind.isAgg=true:=by
 cases f with| zero=>simp [dI]at e| succ f=>unfold dI at e;(cases hk:(T t).kind <;> simp [hk]at e <;> rfl)
theorem Vg (hT:jf P T N) {t:Nat} (hk:(T t).kind = .bool):∀ w,(underlying t).run P w = .ok .bool w:=by
 obtain ⟨d,hd,_,a⟩:=hT.runUnd (hT.lt (t:=t) (by rw [hk];simp));rw [hk]at a;cases d <;> simp only [kindOf,reduceCtorEq]at a
 exact hd
theorem gY {t e:Nat} (b:∀ w,(underlying t).run P w = .ok (.slice e) w) (w:World) (x y:Option Addr) (n c d a:Nat) (h:x=none\/y=none) :
 (Op.equal t (.slice x n c) (.slice y d a)).run P w = .ok (x.isNone&&y.isNone) w:=by
 unfold Op.equal Op.maxDepth;rw [show (10000:Nat)=9999+1 from rfl,Op.equalIn];simp only [Sem.run_bind,b,Result.andThen_ok];rcases h with rfl | rfl
 ·cases y <;> rfl
 ·cases x <;> rfl
theorem yA {t:Nat} (a:∀ w,(underlying t).run P w = .ok .bool w) (w:World) (x y:Bool) :
 (Op.equal t (.bool x) (.bool y)).run P w = .ok (x==y) w:=by
 unfold Op.equal Op.maxDepth;rw [show (10000:Nat)=9999+1 from rfl,Op.equalIn];simp only [Sem.run_bind,a,Result.andThen_ok];rfl
theorem IU {α:Type} {b:Bool} {x:Option α} {r:α} (h:(bif b then x else none)=some r):b=true/\x=some r:=by
 cases b with| true=>exact ⟨rfl,h⟩| false=>(cases h)
theorem Ov (hT:jf P T N) {I:fK} {ρ:Pl} {op:BinOp} {t:Nat} {x y r:AV} {u v:Value} (hx:dU T N I ρ x u) (f:dU T N I ρ y v) (h:ED T op t x y=some r) (w:World) :
 ∃ z,(binOp op t u v).run P w = .ok z w/\gB T N I ρ r z:=by
 unfold ED at h;split at h
 ·rename_i e _ _ _ _ hk;have c:=(hT.sli hk).2
  obtain ⟨a,h⟩:=IU h;rcases Rep.row_inv hx with ⟨_,d,_⟩ | ⟨b,off,cap,segs,_,_,_,_,_,_,_,_,rfl⟩
  ·subst d;cases a
  obtain ⟨rfl,_⟩:=dU.v f;rcases pW h with ⟨rfl,rfl⟩ | ⟨rfl,rfl⟩
  ·exact ⟨_,by simp only [binOp,Sem.run_bind];rw [gY c w (some ⟨b,off,none⟩) none _ cap 0 0 (.inr rfl)];rfl,fZ rfl⟩
  ·exact ⟨_,by simp only [binOp,Sem.run_bind];rw [gY c w (some ⟨b,off,none⟩) none _ cap 0 0 (.inr rfl)];rfl,fZ rfl⟩
 ·rename_i hk;have c:=(hT.sli hk).2
  obtain ⟨rfl,_⟩:=dU.v hx;obtain ⟨rfl,_⟩:=dU.v f;rcases pW h with ⟨rfl,rfl⟩ | ⟨rfl,rfl⟩
  ·exact ⟨_,by simp only [binOp,Sem.run_bind];rw [gY c w none none 0 0 0 0 (.inr rfl)];rfl,fZ rfl⟩
  ·exact ⟨_,by simp only [binOp,Sem.run_bind];rw [gY c w none none 0 0 0 0 (.inr rfl)];rfl,fZ rfl⟩
 ·rename_i e _ _ _ _ hk;have c:=(hT.sli hk).2
  obtain ⟨rfl,_⟩:=dU.v hx;obtain ⟨a,h⟩:=IU h;rcases Rep.row_inv f with ⟨_,d,_⟩ | ⟨b,off,cap,segs,_,_,_,_,_,_,_,_,rfl⟩
  ·subst d;cases a
  rcases pW h with ⟨rfl,rfl⟩ | ⟨rfl,rfl⟩
  ·exact ⟨_,by simp only [binOp,Sem.run_bind];rw [gY c w none (some ⟨b,off,none⟩) 0 0 _ cap (.inl rfl)];rfl,fZ rfl⟩
  ·exact ⟨_,by simp only [binOp,Sem.run_bind];rw [gY c w none (some ⟨b,off,none⟩) 0 0 _ cap (.inl rfl)];rfl,fZ rfl⟩
 ·cases h
theorem D7 {op:BinOp} {t:Nat} {x y:AV} {r:AV×Option Prop} (h:EN T op t x y=some r):(∀ vs,x ≠ .tup vs)/\(∀ vs,y ≠ .tup vs):=by
 constructor
 ·rintro vs rfl;unfold EN at h;cases y <;> simp [XU,ED]at h
 rintro vs rfl;unfold EN at h;cases x <;> first | (simp [XU,ED]at h;done) | (rename_i z;cases z <;> simp [XU,ED]at h)
theorem OY (hT:jf P T N) (hE:wZ P T N) {I:fK} {ρ:Pl} {op:BinOp} {t:Nat} {x y:AV} {r:AV×Option Prop} {u v:Value} (m:gB T N I ρ x u) (o:gB T N I ρ y v) (h:EN T op t x y=some r) (hc:ay r.2) (w:World) (p q:Operand) :
 ∃ z,(do eqGuard op t p q u v;binOp op t u v:Sem Value).run P w = .ok z w/\gB T N I ρ r.1 z:=by
 have i:=D7 h;have hx:=m.rep1 i.1
 have l:=o.rep1 i.2;clear m o i;unfold EN at h;split at h
 ·
   rename_i j a k b;obtain ⟨rfl,_⟩:=dU.v hx;obtain ⟨rfl,_⟩:=dU.v l;have hg:(eqGuard op t p q (.int j a) (.int k b)).run P w = .ok () w:=gU op t p q (by simp) (by simp) w
   simp only [Sem.run_bind,hg,Result.andThen_ok];split at h
   ·cases h;have hb:¬ b<0:=by simp only [ay]at hc;omega
    exact ⟨_,by simp [binOp,Op.shift,hb],fZ rfl⟩
   ·cases h;have hb:¬ b<0:=by simp only [ay]at hc;omega
    exact ⟨_,by simp [binOp,Op.shift,hb],fZ rfl⟩
   ·by_cases d:j=k
    ·subst d;simp at h;subst h;simp only [ay]at hc;exact ⟨_,by simp [binOp,Op.intDiv,hc],fZ rfl⟩
    ·simp [d]at h
   ·by_cases d:j=k
    ·subst d;simp at h;subst h;simp only [ay]at hc;exact ⟨_,by simp [binOp,Op.intDiv,hc],fZ rfl⟩
    ·simp [d]at h
   ·obtain ⟨s,c,rfl⟩:=wH h;obtain ⟨z,e,rfl,f⟩:=zf c;exact ⟨z,by rw [e];rfl,fZ f⟩
 ·
   rename_i a b;obtain ⟨rfl,_⟩:=dU.v hx;obtain ⟨rfl,_⟩:=dU.v l;have hg:(eqGuard op t p q (.string a) (.string b)).run P w = .ok () w:=gU op t p q (by simp) (by simp) w
   simp only [Sem.run_bind,hg,Result.andThen_ok];split at h
   ·cases h;simp only [ay]at hc;refine ⟨_,?_,fZ rfl⟩;have:¬ (((a.size+b.size:Nat):Int)>IntKind.i64.max):=by simp [IntKind.max,IntKind.signed,IntKind.bits];omega
    simp only [binOp,Op.stringOp,this,adH];rfl
   ·obtain ⟨s,c,rfl⟩:=wH h;obtain ⟨z,e,rfl,f⟩:=zf c;exact ⟨z,by rw [e];rfl,fZ f⟩
 ·
   rename_i a b;obtain ⟨rfl,_⟩:=dU.v hx;obtain ⟨rfl,_⟩:=dU.v l;have hg:(eqGuard op t p q (.bool a) (.bool b)).run P w = .ok () w:=gU op t p q (by simp) (by simp) w
   simp only [Sem.run_bind,hg,Result.andThen_ok];split at h
   ·rename_i hk;have hu:=Vg hT hk
    obtain ⟨s,c,rfl⟩:=wH h;rcases pW c with ⟨rfl,rfl⟩ | ⟨rfl,rfl⟩
    ·exact ⟨_,by simp only [binOp,Sem.run_bind,yA hu,Result.andThen_ok];rfl,fZ rfl⟩
    ·exact ⟨_,by simp only [binOp,Sem.run_bind,yA hu,Result.andThen_ok];rfl,fZ rfl⟩
   ·cases h
 ·
   rename_i t1 n g t2 k h';simp only [aaC]at h;obtain ⟨b,c,e⟩:=h;obtain ⟨s,f,rfl⟩:=wH e;obtain ⟨e1,e2,_⟩:=hE I ρ 40 t _ _ u v b w hx l (QN c) c (aa3 _);simp only [Sem.run_bind,e2,Result.andThen_ok];obtain ⟨cs,_,rfl,_⟩:=dU.agg_inv hx;obtain ⟨ds,_,rfl,_⟩:=dU.agg_inv l;rcases pW f with ⟨rfl,rfl⟩ | ⟨rfl,rfl⟩
   ·exact ⟨_,by simp [binOp,e1],fZ rfl⟩
   ·exact ⟨_,by simp [binOp,e1],fZ rfl⟩
 ·
   obtain ⟨s,c,rfl⟩:=wH h;obtain ⟨z,e,f⟩:=Ov hT hx l c w;have hg:(eqGuard op t p q u v).run P w = .ok () w:=by
    unfold ED at c;split at c
    ·rcases Rep.row_inv hx with ⟨⟨_,rfl⟩,_,_⟩ | ⟨_,_,_,_,_,_,_,_,_,_,_,_,rfl⟩ <;>
     exact gU op t p q (by simp) (by simp) w
    ·obtain ⟨rfl,_⟩:=dU.v hx;exact gU op t p q (by simp) (by simp) w
    ·obtain ⟨rfl,_⟩:=dU.v hx;exact gU op t p q (by simp) (by simp) w
    ·cases c
   exact ⟨z,by simp [hg,e],f⟩
end
end Go.Ab
