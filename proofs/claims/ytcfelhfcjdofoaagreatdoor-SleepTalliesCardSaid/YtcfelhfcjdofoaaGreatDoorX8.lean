/- Part 9 of a proof of a statement about the given program: an abstract machine over the model, proved sound, and contracts of the functions that the statement reaches; the last part proves the statement, for every input, with no condition. -/
import Derived.Test.YtcfelhfcjdofoaaGreatDoorX7
import Derived.Laws.MakeOwn
import Derived.Laws.IdiomRangeMap
set_option autoImplicit false
set_option linter.unusedSimpArgs false
set_option linter.unusedVariables false
namespace Go.Ab
theorem ED {a b:Id} (h:Id.beq a b=true):a=b:=by
 cases a <;> cases b <;> simp [Id.beq]at h
 ·rw [h]
 ·rw [h.1,h.2]
theorem aN (a:Id):Id.beq a a=true:=by cases a <;> simp [Id.beq]
theorem l7 {a b:Id} (h:a≠b):Id.beq a b=false:=by
 cases e:Id.beq a b with
 | false=>rfl
 | true=>exact absurd (ED e) h
theorem bC (m:Id→Option Ob) (k:Id) (x:Ob):vV m k x k=some x:=by simp [vV,aN]
theorem dL (m:Id→Option Ob) {k a:Id} (x:Ob) (h:a≠k):vV m k x a=m a:=by simp [vV,l7 h]
def mZ (ρ:Pl) (k:Id) (p:Place):Pl:=fun a=>if a=k then some p else ρ a
theorem aU (ρ:Pl) (k:Id) (p:Place):mZ ρ k p k=some p:=by simp [mZ]
theorem aZ (ρ:Pl) {k a:Id} (p:Place) (h:a≠k):mZ ρ k p a=ρ a:=by simp [mZ,h]
theorem jd {w w':World} {b o:Nat} (h:w'.heap[b]? = w.heap[b]?):w'.cell? ⟨b,o,none⟩=w.cell? ⟨b,o,none⟩:=by simp [World.cell?,h]
theorem iE {w:World} {b o:Nat} {y:Value} (h:w.cell? ⟨b,o,none⟩=some y):b<w.heap.size:=World.block_lt_of_cell? w _ h
section
variable {P:Program} {T:Nat→TI} {N:Nat}
theorem dR.place_lt {I:Imm} {ρ:Pl} {m:Id→Option Ob} {w:World} (hw:dR T N I ρ m w) {id:Id} {p:Place} (h:ρ id=some p):p.b<w.heap.size:=by
 cases hm:m id with
 | none=>exact absurd hm (hw.dom id p h)
 | some o =>
  cases o with
  | cells B =>
   obtain ⟨q,cs,c1,_,_,_,c5,_⟩:=hw.cellsAt hm h;rw [h]at c1;cases c1;exact (Array.getElem?_eq_some_iff.1 c5).1
  | map es =>
   obtain ⟨q,en,cl,c1,_,c3,_⟩:=hw.maps id es hm;rw [h]at c1;cases c1;exact (Array.getElem?_eq_some_iff.1 c3).1
theorem dR.none_place {I:Imm} {ρ:Pl} {m:Id→Option Ob} {w:World} (hw:dR T N I ρ m w) {id:Id} (h:m id=none):ρ id=none:=by
 cases hp:ρ id with
 | none=>rfl
 | some p=>exact absurd h (hw.dom id p hp)
theorem dR.change {I:Imm} {ρ:Pl} {m:Id→Option Ob} {w w':World} (hw:dR T N I ρ m w) {id:Id} {B B':Blk} {q:Place} (hm:m id=some (.cells B)) (hq:ρ id=some q) {cs cs':Array Value}
 (hh:w.heap[q.b]? = some (.cells cs B.ty (0,0))) (hty:B'.ty=B.ty) (hfz:B'.fz=B.fz) (hn:B.n≤B'.n) (hsz:cs'.size=cs.size) (hfit:B'.n*(T B.ty).size≤cs'.size)
 (hh':w'.heap[q.b]? = some (.cells cs' B.ty (0,0))) (hoth:∀ b,b<w.heap.size→b≠q.b→w'.heap[b]? = w.heap[b]?)
 (hold:∀ j,j<B.fz*(T B.ty).size→cs'[j]? = cs[j]?)
 (hel:∀ i,i<B'.n → ∃ seg,Rep T N I (mZ ρ id { q with n:=B'.n}) (B'.get i) seg∧fit T B.ty (B'.get i)=true∧seg.length=(T B.ty).size ∧ ∀ o,o<(T B.ty).size→cs'[i*(T B.ty).size+o]? = seg[o]?) :
 iP ρ (mZ ρ id { q with n:=B'.n})∧dR T N I (mZ ρ id { q with n:=B'.n}) (vV m id (.cells B')) w':=by
 obtain ⟨q',cs0,c1,c2,c3,c4,c5,c6,c7,c8,c9,c10⟩:=hw.cellsAt hm hq;rw [hq]at c1;cases c1;rw [hh]at c5;cases c5;have hle:iP ρ (mZ ρ id { q with n:=B'.n}):=by
  intro a p hp;by_cases ha:a=id
  ·subst ha;rw [hq]at hp;cases hp;refine ⟨_,aU _ _ _,by rw [c3];exact hn,fun e=>?_⟩;cases q;simp_all
  ·exact ⟨p,by rw [aZ _ _ ha,hp],Nat.le_refl _,fun _=>rfl⟩
 have hpl:∀ a p,mZ ρ id { q with n:=B'.n} a=some p → ∃ p0,ρ a=some p0∧p0.b=p.b:=by
  intro a p hp;by_cases ha:a=id
  ·subst ha;rw [aU]at hp;cases hp;exact ⟨q,hq,rfl⟩
  ·rw [aZ _ _ ha]at hp;exact ⟨p,hp,rfl⟩
 refine ⟨hle,?_,?_,?_,?_,?_,hw.gl⟩
 ·intro a A hA;by_cases ha:a=id
  ·subst ha;rw [bC]at hA;cases hA;exact .inr ⟨_,cs',aU _ _ _,by simp [c2,hty],rfl,by rw [hty];exact c4,by rw [hty];exact hh',by simp [hsz,c6],by rw [hty];simp only;rw [← c6,← hsz];exact hfit,
    by rw [hty];exact hel,by rw [hty,hfz];exact c9,by rw [hfz];omega⟩
  ·rw [dL _ _ ha]at hA;rcases hw.cells a A hA with ⟨d1,d2⟩ | ⟨p,ds,d1,d2,d3,d4,d5,d6,d7,d8,d9,d10⟩
   ·exact .inl ⟨by rw [aZ _ _ ha];exact d1,d2⟩
   refine .inr ⟨p,ds,by rw [aZ _ _ ha];exact d1,d2,d3,d4,?_,d6,d7,fun i hi=>?_,d9,d10⟩
   ·rw [hoth _ (hw.place_lt d1) (fun e=>ha (hw.inj a id p q d1 hq e))];exact d5
   ·obtain ⟨seg,e1,e2,e3,e4⟩:=d8 i hi;exact ⟨seg,e1.mono (iQ.refl _) hle,e2,e3,e4⟩
 ·intro a es hA;have ha:a≠id:=by rintro rfl;rw [bC]at hA;cases hA
  rw [dL _ _ ha]at hA;obtain ⟨p,en,cl,d1,d2,d3,d4,d5,d6⟩:=hw.maps a es hA;refine ⟨p,en,cl,by rw [aZ _ _ ha];exact d1,d2,?_,d4,d5,fun i k v hi=>?_⟩
  ·rw [hoth _ (hw.place_lt d1) (fun e=>ha (hw.inj a id p q d1 hq e))];exact d3
  ·obtain ⟨e,e1,e2,e3⟩:=d6 i k v hi;exact ⟨e,e1,e2.mono (iQ.refl _) hle,e3.mono (iQ.refl _) hle⟩
 ·intro a p hp;by_cases ha:a=id
  ·subst ha;rw [bC];simp
  ·rw [dL _ _ ha];rw [aZ _ _ ha]at hp;exact hw.dom a p hp
 ·intro a b p r hp hr e;obtain ⟨p0,h1,h2⟩:=hpl a p hp;obtain ⟨r0,h3,h4⟩:=hpl b r hr;exact hw.inj a b p0 r0 h1 h3 (by rw [h2,h4,e])
 ·intro b o y hy;have h0:=hw.imm b o y hy
  by_cases hb:b=q.b
  ·subst hb;have h1:=c9 o (by rw [hy];simp)
   simp only [World.cell?,hh]at h0;simp only [World.cell?,hh'];simpa [hold o h1]using h0
  ·rw [jd (hoth b (iE h0) hb)];exact h0
theorem Ev.change {I:Imm} {ρ ρ':Pl} {m:Id→Option Ob} {w w':World} (hw:dR T N I ρ m w) {id:Id} {q:Place} (hq:ρ id=some q) (hle:iP ρ ρ') (hpl:∀ a p,ρ' a=some p → ∃ a0 p0,ρ a0=some p0∧p0.b=p.b)
 (hoth:∀ b,b<w.heap.size→b≠q.b→w'.heap[b]? = w.heap[b]?) (hs:w.heap.size≤w'.heap.size) (h1:w'.os=w.os) (h2:w'.output=w.output) (h3:(w'.tape=w.tape∧w.drawn≤w'.drawn)):Ev I ρ w I ρ' w' where
 imm:=iQ.refl _
 immN:=fun b o h h'=>absurd h h'
 pl:=hle
 plN:=fun a p hp => .inl (hpl a p hp)
 frame:=fun b hb hne=>hoth b hb (fun e=>hne id q hq e.symm)
 size:=hs
 os:=h1
 output:=h2
 tape:=h3
theorem bF (w:World) (o:Obj) {r:Nat} (h:r<w.heap.size):(w.alloc o).heap[r]? = w.heap[r]? := by
 show (w.heap.push o)[r]? = _;rw [Array.getElem?_push_lt h];simp [h]
theorem dF (w:World) (o:Obj):(w.alloc o).heap[w.heap.size]? = some o:=by
 show (w.heap.push o)[w.heap.size]? = _;simp
theorem dR.fresh {I:Imm} {ρ:Pl} {m:Id→Option Ob} {w w':World} (hw:dR T N I ρ m w) {id:Id} {B:Blk} (hnp:ρ id=none) {cs:Array Value} {b:Nat} (hbs:w.heap.size≤b)
 (hold:∀ r,r<w.heap.size→w'.heap[r]? = w.heap[r]?) (hnew:w'.heap[b]? = some (.cells cs B.ty (0,0))) (ht:B.ty<N) (hn:B.n*(T B.ty).size≤cs.size) (hfz:B.fz=0)
 (hel:∀ i,i<B.n → ∃ seg,Rep T N I (mZ ρ id ⟨b,B.ty,B.n,cs.size⟩) (B.get i) seg∧fit T B.ty (B.get i)=true∧seg.length=(T B.ty).size ∧ ∀ o,o<(T B.ty).size→cs[i*(T B.ty).size+o]? = seg[o]?) :
 iP ρ (mZ ρ id ⟨b,B.ty,B.n,cs.size⟩)∧dR T N I (mZ ρ id ⟨b,B.ty,B.n,cs.size⟩) (vV m id (.cells B)) w':=by
 have hle:iP ρ (mZ ρ id ⟨b,B.ty,B.n,cs.size⟩):=by
  intro a p hp;have ha:a≠id:=by rintro rfl;rw [hnp]at hp;cases hp
  exact ⟨p,by rw [aZ _ _ ha,hp],Nat.le_refl _,fun _=>rfl⟩
 have hI:∀ o,I b o=none:=fun o=>by
  cases h:I b o with
  | none=>rfl
  | some y=>have:=iE (hw.imm b o y h);omega
 refine ⟨hle,?_,?_,?_,?_,?_,hw.gl⟩
 ·intro a A hA;by_cases ha:a=id
  ·subst ha;rw [bC]at hA;cases hA;exact .inr ⟨_,cs,aU _ _ _,rfl,rfl,ht,hnew,rfl,hn,hel,fun j hj=>absurd (hI j) hj,by omega⟩
  ·rw [dL _ _ ha]at hA;rcases hw.cells a A hA with ⟨d1,d2⟩ | ⟨p,ds,d1,d2,d3,d4,d5,d6,d7,d8,d9,d10⟩
   ·exact .inl ⟨by rw [aZ _ _ ha];exact d1,d2⟩
   refine .inr ⟨p,ds,by rw [aZ _ _ ha];exact d1,d2,d3,d4,by rw [hold _ (hw.place_lt d1)];exact d5,d6,d7,fun i hi=>?_,d9,d10⟩;obtain ⟨seg,e1,e2,e3,e4⟩:=d8 i hi;exact ⟨seg,e1.mono (iQ.refl _) hle,e2,e3,e4⟩
 ·intro a es hA;have ha:a≠id:=by rintro rfl;rw [bC]at hA;cases hA
  rw [dL _ _ ha]at hA;obtain ⟨p,en,cl,d1,d2,d3,d4,d5,d6⟩:=hw.maps a es hA;refine ⟨p,en,cl,by rw [aZ _ _ ha];exact d1,d2,by rw [hold _ (hw.place_lt d1)];exact d3,d4,d5,fun i k v hi=>?_⟩;obtain ⟨e,e1,e2,e3⟩:=d6 i k v hi;exact ⟨e,e1,e2.mono (iQ.refl _) hle,e3.mono (iQ.refl _) hle⟩
 ·intro a p hp;by_cases ha:a=id
  ·subst ha;rw [bC];simp
  ·rw [dL _ _ ha];rw [aZ _ _ ha]at hp;exact hw.dom a p hp
 ·intro a c p r hp hr e;by_cases ha:a=id
  ·by_cases hc:c=id
   ·rw [ha,hc]
   ·subst ha;rw [aU]at hp;cases hp;rw [aZ _ _ hc]at hr;have:=hw.place_lt hr
    simp only at e;omega
  ·rw [aZ _ _ ha]at hp;by_cases hc:c=id
   ·subst hc;rw [aU]at hr;cases hr;have:=hw.place_lt hp
    simp only at e;omega
   ·rw [aZ _ _ hc]at hr;exact hw.inj a c p r hp hr e
 ·intro c o y hy;have h0:=hw.imm c o y hy
  rw [jd (hold c (iE h0))];exact h0
theorem Ev.fresh {I:Imm} {ρ:Pl} {w w':World} {id:Id} (hnp:ρ id=none) {p:Place} (hb:w.heap.size≤p.b)
 (hold:∀ r,r<w.heap.size→w'.heap[r]? = w.heap[r]?) (hs:w.heap.size≤w'.heap.size) (h1:w'.os=w.os) (h2:w'.output=w.output) (h3:(w'.tape=w.tape∧w.drawn≤w'.drawn)):Ev I ρ w I (mZ ρ id p) w' where
 imm:=iQ.refl _
 immN:=fun b o h h'=>absurd h h'
 pl:=fun a q hq=>by
  have ha:a≠id:=by rintro rfl;rw [hnp]at hq;cases hq
  exact ⟨q,by rw [aZ _ _ ha,hq],Nat.le_refl _,fun _=>rfl⟩
 plN:=fun a q hq=>by
  by_cases ha:a=id
  ·subst ha;rw [aU]at hq;cases hq;exact .inr hb
  ·rw [aZ _ _ ha]at hq;exact .inl ⟨a,q,hq,rfl⟩
 frame:=fun b hb' _=>hold b hb'
 size:=hs
 os:=h1
 output:=h2
 tape:=h3
theorem dR.move {I:Imm} {ρ:Pl} {m:Id→Option Ob} {w w':World} (hw:dR T N I ρ m w) {id:Id} {B B':Blk} {q:Place} (hm:m id=some (.cells B)) (hq:ρ id=some q) {cs:Array Value} {b:Nat} (hbs:w.heap.size≤b)
 (hold:∀ r,r<w.heap.size→w'.heap[r]? = w.heap[r]?) (hnew:w'.heap[b]? = some (.cells cs B'.ty (0,0))) (ht:B'.ty<N) (hn:B'.n*(T B'.ty).size≤cs.size) (hfz:B'.fz≤B'.n) (hgrow:B.n<B'.n)
 (hel:∀ i,i<B'.n → ∃ seg,Rep T N I (mZ ρ id ⟨b,B'.ty,B'.n,cs.size⟩) (B'.get i) seg∧fit T B'.ty (B'.get i)=true∧seg.length=(T B'.ty).size ∧ ∀ o,o<(T B'.ty).size→cs[i*(T B'.ty).size+o]? = seg[o]?) :
 iP ρ (mZ ρ id ⟨b,B'.ty,B'.n,cs.size⟩)∧dR T N I (mZ ρ id ⟨b,B'.ty,B'.n,cs.size⟩) (vV m id (.cells B')) w'∧Ev I ρ w I (mZ ρ id ⟨b,B'.ty,B'.n,cs.size⟩) w'∨¬ (w.heap.size≤w'.heap.size∧w'.os=w.os∧w'.output=w.output∧(w'.tape=w.tape∧w.drawn≤w'.drawn)):=by
 by_cases hside:w.heap.size≤w'.heap.size∧w'.os=w.os∧w'.output=w.output∧(w'.tape=w.tape∧w.drawn≤w'.drawn)
 case neg=>exact .inr hside
 refine .inl ?_;obtain ⟨q',cs0,c1,c2,c3,c4,c5,c6,c7,c8,c9,c10⟩:=hw.cellsAt hm hq;rw [hq]at c1;cases c1;have hle:iP ρ (mZ ρ id ⟨b,B'.ty,B'.n,cs.size⟩):=by
  intro a p hp;by_cases ha:a=id
  ·subst ha;rw [hq]at hp;cases hp;exact ⟨_,aU _ _ _,by simp only;omega,fun e=>by simp only at e;omega⟩
  ·exact ⟨p,by rw [aZ _ _ ha,hp],Nat.le_refl _,fun _=>rfl⟩
 have hI:∀ o,I b o=none:=fun o=>by
  cases h:I b o with
  | none=>rfl
  | some y=>have:=iE (hw.imm b o y h);omega
 refine ⟨hle,⟨?_,?_,?_,?_,?_,hw.gl⟩,?_⟩
 ·intro a A hA;by_cases ha:a=id
  ·subst ha;rw [bC]at hA;cases hA;exact .inr ⟨_,cs,aU _ _ _,rfl,rfl,ht,hnew,rfl,hn,hel,fun j hj=>absurd (hI j) hj,hfz⟩
  ·rw [dL _ _ ha]at hA;rcases hw.cells a A hA with ⟨d1,d2⟩ | ⟨p,ds,d1,d2,d3,d4,d5,d6,d7,d8,d9,d10⟩
   ·exact .inl ⟨by rw [aZ _ _ ha];exact d1,d2⟩
   refine .inr ⟨p,ds,by rw [aZ _ _ ha];exact d1,d2,d3,d4,by rw [hold _ (hw.place_lt d1)];exact d5,d6,d7,fun i hi=>?_,d9,d10⟩;obtain ⟨seg,e1,e2,e3,e4⟩:=d8 i hi;exact ⟨seg,e1.mono (iQ.refl _) hle,e2,e3,e4⟩
 ·intro a es hA;have ha:a≠id:=by rintro rfl;rw [bC]at hA;cases hA
  rw [dL _ _ ha]at hA;obtain ⟨p,en,cl,d1,d2,d3,d4,d5,d6⟩:=hw.maps a es hA;refine ⟨p,en,cl,by rw [aZ _ _ ha];exact d1,d2,by rw [hold _ (hw.place_lt d1)];exact d3,d4,d5,fun i k v hi=>?_⟩;obtain ⟨e,e1,e2,e3⟩:=d6 i k v hi;exact ⟨e,e1,e2.mono (iQ.refl _) hle,e3.mono (iQ.refl _) hle⟩
 ·intro a p hp;by_cases ha:a=id
  ·subst ha;rw [bC];simp
  ·rw [dL _ _ ha];rw [aZ _ _ ha]at hp;exact hw.dom a p hp
 ·intro a c p r hp hr e;by_cases ha:a=id
  ·by_cases hc:c=id
   ·rw [ha,hc]
   ·subst ha;rw [aU]at hp;cases hp;rw [aZ _ _ hc]at hr;have:=hw.place_lt hr
    simp only at e;omega
  ·rw [aZ _ _ ha]at hp;by_cases hc:c=id
   ·subst hc;rw [aU]at hr;cases hr;have:=hw.place_lt hp
    simp only at e;omega
   ·rw [aZ _ _ hc]at hr;exact hw.inj a c p r hp hr e
 ·intro c o y hy;have h0:=hw.imm c o y hy
  rw [jd (hold c (iE h0))];exact h0
 ·refine ⟨iQ.refl _,fun b o h h'=>absurd h h',hle,fun a p hp=>?_,fun r hr _=>hold r hr,hside.1,hside.2.1,hside.2.2.1,hside.2.2.2⟩;by_cases ha:a=id
  ·subst ha;rw [aU]at hp;cases hp;exact .inr hbs
  ·rw [aZ _ _ ha]at hp;exact .inl ⟨a,p,hp,rfl⟩
def JO (I:Imm) (b:Nat) (cs:List Value):Imm:=fun c o=>if c=b then cs[o]? else I c o
theorem dR.imm_fresh {I:Imm} {ρ:Pl} {m:Id→Option Ob} {w w':World} (hw:dR T N I ρ m w) {b:Nat} (hbs:w.heap.size≤b) {cs:Array Value} {ty:Nat} {fr:Nat×Nat}
 (hold:∀ r,r<w.heap.size→w'.heap[r]? = w.heap[r]?) (hnew:w'.heap[b]? = some (.cells cs ty fr)) :
 iQ I (JO I b cs.toList)∧dR T N (JO I b cs.toList) ρ m w':=by
 have hI:∀ c o,c<w.heap.size→JO I b cs.toList c o=I c o:=fun c o hc=>by unfold JO;rw [if_neg (by omega)]
 have hle:iQ I (JO I b cs.toList):=fun c o y h=>by rw [hI c o (iE (hw.imm c o y h))];exact h
 refine ⟨hle,?_,?_,hw.dom,hw.inj,?_,fun b o n h=>hle _ _ _ (hw.gl b o n h)⟩
 ·intro a A hA;rcases hw.cells a A hA with h | ⟨p,ds,d1,d2,d3,d4,d5,d6,d7,d8,d9,d10⟩
  ·exact .inl h
  have hp:=hw.place_lt d1;refine .inr ⟨p,ds,d1,d2,d3,d4,by rw [hold _ hp];exact d5,d6,d7,fun i hi=>?_,fun j hj=>d9 j (by rwa [hI _ _ hp]at hj),d10⟩;obtain ⟨seg,e1,e2,e3,e4⟩:=d8 i hi;exact ⟨seg,e1.mono hle (iP.refl _),e2,e3,e4⟩
 ·intro a es hA;obtain ⟨p,en,cl,d1,d2,d3,d4,d5,d6⟩:=hw.maps a es hA;have hp:=hw.place_lt d1
  refine ⟨p,en,cl,d1,d2,by rw [hold _ hp];exact d3,d4,fun j=>by rw [hI _ _ hp];exact d5 j,fun i k v hi=>?_⟩;obtain ⟨e,e1,e2,e3⟩:=d6 i k v hi;exact ⟨e,e1,e2.mono hle (iP.refl _),e3.mono hle (iP.refl _)⟩
 ·intro c o y hy;by_cases hc:c=b
  ·subst hc;simp only [JO,if_true]at hy;simp only [World.cell?,hnew];simpa using hy
  ·unfold JO at hy;rw [if_neg hc]at hy;have h0:=hw.imm c o y hy
   rw [jd (hold c (iE h0))];exact h0
theorem Ev.imm_fresh {I:Imm} {ρ:Pl} {m:Id→Option Ob} {w w':World} (hw:dR T N I ρ m w) {b:Nat} (hbs:w.heap.size≤b) {cs:List Value}
 (hold:∀ r,r<w.heap.size→w'.heap[r]? = w.heap[r]?) (hs:w.heap.size≤w'.heap.size) (h1:w'.os=w.os) (h2:w'.output=w.output) (h3:(w'.tape=w.tape∧w.drawn≤w'.drawn)):Ev I ρ w (JO I b cs) ρ w' where
 imm:=fun c o y h=>by have:=iE (hw.imm c o y h);unfold JO;rw [if_neg (by omega)];exact h
 immN:=fun c o h h'=>by
  by_cases hc:c=b
  ·exact .inr (hc▸hbs)
  ·exfalso;apply h';unfold JO;rw [if_neg hc];exact h
 pl:=iP.refl _
 plN:=fun a q hq => .inl ⟨a,q,hq,rfl⟩
 frame:=fun c hc _=>hold c hc
 size:=hs
 os:=h1
 output:=h2
 tape:=h3
end
end Go.Ab
