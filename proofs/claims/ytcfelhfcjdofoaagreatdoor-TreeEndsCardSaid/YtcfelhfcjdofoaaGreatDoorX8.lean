/- Part 9 of a proof of a statement about the given program: an abstract machine over the model, proved sound, and contracts of the functions that the statement reaches; the last part proves the statement, for every input, with no condition. -/
import Derived.Test.YtcfelhfcjdofoaaGreatDoorX7
import Derived.Laws.MakeOwn
import Derived.Laws.IdiomRangeMap
set_option autoImplicit false
set_option linter.unusedSimpArgs false
set_option linter.unusedVariables false
namespace Go.Ab
theorem OD {a b:Id} (h:Id.beq a b=true):a=b:=by
 cases a <;> cases b <;> simp [Id.beq]at h
 ·rw [h]
 rw [h.1,h.2]
theorem aU (a:Id):Id.beq a a=true:=by cases a <;> simp [Id.beq]
theorem tZ {a b:Id} (h:a≠b):Id.beq a b=false:=by
 cases e:Id.beq a b with| false=>rfl| true=>exact absurd (OD e) h
theorem eY (m:Id->Option Ob) (k:Id) (x:Ob):uy m k x k=some x:=by simp [uy,aU]
theorem iI (m:Id->Option Ob) {k a:Id} (x:Ob) (h:a≠k):uy m k x a=m a:=by simp [uy,tZ h]
def nJ (ρ:Pl) (k:Id) (p:Place):Pl:=λa=>if a=k then some p else ρ a
theorem dW (ρ:Pl) (k:Id) (p:Place):nJ ρ k p k=some p:=by simp [nJ]
theorem dS (ρ:Pl) {k a:Id} (p:Place) (h:a≠k):nJ ρ k p a=ρ a:=by simp [nJ,h]
theorem nX {w w':World} {b o:Nat} (h:w'.heap[b]? = w.heap[b]?):w'.cell? ⟨b,o,none⟩=w.cell? ⟨b,o,none⟩:=by simp [World.cell?,h]
theorem lQ {w:World} {b o:Nat} {y:Value} (h:w.cell? ⟨b,o,none⟩=some y):b<w.heap.size:=World.block_lt_of_cell? w _ h
section
variable {P:Program} {T:Nat->TI} {N:Nat}
theorem dY.place_lt {I:fK} {ρ:Pl} {m:Id->Option Ob} {w:World} (hw:dY T N I ρ m w) {id:Id} {p:Place} (h:ρ id=some p):p.b<w.heap.size:=by
 cases hm:m id with| none=>exact absurd hm (hw.dom id p h)| some o=>(cases o with| cells B=>obtain ⟨q,cs,c1,_,_,_,c5,_⟩:=hw.cellsAt hm h;rw [h]at c1;cases c1;exact (Array.getElem?_eq_some_iff.1 c5).1| map es=>obtain ⟨q,a,cl,c1,_,c3,_⟩:=hw.maps id es hm;rw [h]at c1;cases c1;exact (Array.getElem?_eq_some_iff.1 c3).1)
theorem dY.none_place {I:fK} {ρ:Pl} {m:Id->Option Ob} {w:World} (hw:dY T N I ρ m w) {id:Id} (h:m id=none):ρ id=none:=by
 cases hp:ρ id with| none=>rfl| some p=>exact absurd h (hw.dom id p hp)
theorem dY.change {I:fK} {ρ:Pl} {m:Id->Option Ob} {w w':World} (hw:dY T N I ρ m w) {id:Id} {B B':zI} {q:Place} (hm:m id=some (.cells B)) (l:ρ id=some q) {cs cs':Array Value}
 (hh:w.heap[q.b]? = some (.cells cs B.ty (0,0))) (d:B'.ty=B.ty) (u:B'.fz=B.fz) (hn:B.n<=B'.n) (hsz:cs'.size=cs.size) (t:B'.n*(T B.ty).size<=cs'.size)
 (x:w'.heap[q.b]? = some (.cells cs' B.ty (0,0))) (f:∀ b,b<w.heap.size->b≠q.b->w'.heap[b]? = w.heap[b]?)
 (hold:∀ j,j<B.fz*(T B.ty).size->cs'[j]? = cs[j]?)
 (a9:∀ i,i<B'.n -> ∃ seg,Rep T N I (nJ ρ id { q with n:=B'.n}) (B'.get i) seg/\fit T B.ty (B'.get i)=true/\seg.length=(T B.ty).size /\ ∀ o,o<(T B.ty).size->cs'[i*(T B.ty).size+o]? = seg[o]?) :
 iJ ρ (nJ ρ id { q with n:=B'.n})/\dY T N I (nJ ρ id { q with n:=B'.n}) (uy m id (.cells B')) w':=by
 obtain ⟨q',b5,c1,c2,c3,c4,c5,c6,c7,c8,c9,b4⟩:=hw.cellsAt hm l;rw [l]at c1;cases c1;rw [hh]at c5;cases c5;have h:iJ ρ (nJ ρ id { q with n:=B'.n}):=by
  intro a p hp;by_cases c:a=id
  ·subst c;rw [l]at hp;cases hp;refine ⟨_,dW _ _ _,by rw [c3];exact hn,λe=>?_⟩;cases q;simp_all
  ·exact ⟨p,by rw [dS _ _ c,hp],aa3 _,λ_=>rfl⟩
 have z:∀ a p,nJ ρ id { q with n:=B'.n} a=some p -> ∃ p0,ρ a=some p0/\p0.b=p.b:=by
  intro a p hp;by_cases c:a=id
  ·subst c;rw [dW]at hp;cases hp;exact ⟨q,l,rfl⟩
  ·rw [dS _ _ c]at hp;exact ⟨p,hp,rfl⟩
 refine ⟨h,?_,?_,?_,?_,?_,hw.gl⟩
 ·intro a A hA;by_cases c:a=id
  ·subst c;rw [eY]at hA;cases hA;exact .inr ⟨_,cs',dW _ _ _,by simp [c2,d],rfl,by rw [d];exact c4,by rw [d];exact x,by simp [hsz,c6],by rw [d];simp only;rw [<- c6,<- hsz];exact t,
    by rw [d];exact a9,by rw [d,u];exact c9,by rw [u];omega⟩
  ·rw [iI _ _ c]at hA;rcases hw.cells a A hA with ⟨g,s⟩ | ⟨p,ds,g,s,d3,d4,d5,d6,d7,d8,d9,d10⟩
   ·exact .inl ⟨by rw [dS _ _ c];exact g,s⟩
   refine .inr ⟨p,ds,by rw [dS _ _ c];exact g,s,d3,d4,?_,d6,d7,λi hi=>?_,d9,d10⟩
   ·rw [f _ (hw.place_lt g) (λe=>c (hw.inj a id p q g l e))];exact d5
   ·obtain ⟨seg,e1,e2,e3,e4⟩:=d8 i hi;exact ⟨seg,e1.mono (iK.refl _) h,e2,e3,e4⟩
 ·intro a es hA;have c:a≠id:=by rintro rfl;rw [eY]at hA;cases hA
  rw [iI _ _ c]at hA;obtain ⟨p,en,cl,g,s,d3,d4,d5,d6⟩:=hw.maps a es hA;refine ⟨p,en,cl,by rw [dS _ _ c];exact g,s,?_,d4,d5,λi k v hi=>?_⟩
  ·rw [f _ (hw.place_lt g) (λe=>c (hw.inj a id p q g l e))];exact d3
  ·obtain ⟨e,e1,e2,e3⟩:=d6 i k v hi;exact ⟨e,e1,e2.mono (iK.refl _) h,e3.mono (iK.refl _) h⟩
 ·intro a p hp;by_cases c:a=id
  ·subst c;rw [eY];simp
  ·rw [iI _ _ c];rw [dS _ _ c]at hp;exact hw.dom a p hp
 ·intro a b p r hp hr e;obtain ⟨p0,h1,h2⟩:=z a p hp;obtain ⟨r0,h3,h4⟩:=z b r hr;exact hw.inj a b p0 r0 h1 h3 (by rw [h2,h4,e])
 ·intro b o y hy;have h0:=hw.imm b o y hy
  by_cases hb:b=q.b
  ·subst hb;have h1:=c9 o (by rw [hy];simp)
   simp only [World.cell?,hh]at h0;simp only [World.cell?,x];simpa [hold o h1]using h0
  ·rw [nX (f b (lQ h0) hb)];exact h0
theorem Ev.change {I:fK} {ρ ρ':Pl} {m:Id->Option Ob} {w w':World} (hw:dY T N I ρ m w) {id:Id} {q:Place} (n:ρ id=some q) (d:iJ ρ ρ') (g:∀ a p,ρ' a=some p -> ∃ a0 p0,ρ a0=some p0/\p0.b=p.b)
 (c:∀ b,b<w.heap.size->b≠q.b->w'.heap[b]? = w.heap[b]?) (r:w.heap.size<=w'.heap.size) (j:w'.os=w.os) (k:w'.output=w.output) (l:(w'.tape=w.tape/\w.drawn<=w'.drawn)):Ev I ρ w I ρ' w' where
 imm:=iK.refl _
 immN:=λb o h i=>absurd h i
 pl:=d
 plN:=λa p hp => .inl (g a p hp)
 frame:=λb hb f=>c b hb (λe=>f id q n e.symm)
 size:=r
 os:=j
 output:=k
 tape:=l
theorem fM (w:World) (o:Obj) {r:Nat} (h:r<w.heap.size):(w.alloc o).heap[r]? = w.heap[r]? := by
 show (w.heap.push o)[r]? = _;rw [Array.getElem?_push_lt h];simp [h]
theorem iZ (w:World) (o:Obj):(w.alloc o).heap[w.heap.size]? = some o:=by
 show (w.heap.push o)[w.heap.size]? = _;simp
theorem dY.fresh {I:fK} {ρ:Pl} {m:Id->Option Ob} {w w':World} (hw:dY T N I ρ m w) {id:Id} {B:zI} (a4:ρ id=none) {cs:Array Value} {b:Nat} (a9:w.heap.size<=b)
 (hold:∀ r,r<w.heap.size->w'.heap[r]? = w.heap[r]?) (s:w'.heap[b]? = some (.cells cs B.ty (0,0))) (ht:B.ty<N) (hn:B.n*(T B.ty).size<=cs.size) (b0:B.fz=0)
 (a3:∀ i,i<B.n -> ∃ seg,Rep T N I (nJ ρ id ⟨b,B.ty,B.n,cs.size⟩) (B.get i) seg/\fit T B.ty (B.get i)=true/\seg.length=(T B.ty).size /\ ∀ o,o<(T B.ty).size->cs[i*(T B.ty).size+o]? = seg[o]?) :
 iJ ρ (nJ ρ id ⟨b,B.ty,B.n,cs.size⟩)/\dY T N I (nJ ρ id ⟨b,B.ty,B.n,cs.size⟩) (uy m id (.cells B)) w':=by
 have f:iJ ρ (nJ ρ id ⟨b,B.ty,B.n,cs.size⟩):=by
  intro a p hp;have d:a≠id:=by rintro rfl;rw [a4]at hp;cases hp
  exact ⟨p,by rw [dS _ _ d,hp],aa3 _,λ_=>rfl⟩
 have hI:∀ o,I b o=none:=λo=>by
  cases h:I b o with
  | none=>rfl
  | some y=>have:=lQ (hw.imm b o y h);omega
 refine ⟨f,?_,?_,?_,?_,?_,hw.gl⟩
 ·intro a A hA;by_cases d:a=id
  ·subst d;rw [eY]at hA;cases hA;exact .inr ⟨_,cs,dW _ _ _,rfl,rfl,ht,s,rfl,hn,a3,λj hj=>absurd (hI j) hj,by omega⟩
  ·rw [iI _ _ d]at hA;rcases hw.cells a A hA with ⟨g,q⟩ | ⟨p,ds,g,q,t,u,x,z,d7,d8,d9,d10⟩
   ·exact .inl ⟨by rw [dS _ _ d];exact g,q⟩
   refine .inr ⟨p,ds,by rw [dS _ _ d];exact g,q,t,u,by rw [hold _ (hw.place_lt g)];exact x,z,d7,λi hi=>?_,d9,d10⟩;obtain ⟨seg,e1,e2,e3,e4⟩:=d8 i hi;exact ⟨seg,e1.mono (iK.refl _) f,e2,e3,e4⟩
 ·intro a es hA;have d:a≠id:=by rintro rfl;rw [eY]at hA;cases hA
  rw [iI _ _ d]at hA;obtain ⟨p,en,cl,g,q,t,u,x,z⟩:=hw.maps a es hA;refine ⟨p,en,cl,by rw [dS _ _ d];exact g,q,by rw [hold _ (hw.place_lt g)];exact t,u,x,λi k v hi=>?_⟩;obtain ⟨e,e1,e2,e3⟩:=z i k v hi;exact ⟨e,e1,e2.mono (iK.refl _) f,e3.mono (iK.refl _) f⟩
 ·intro a p hp;by_cases d:a=id
  ·subst d;rw [eY];simp
  ·rw [iI _ _ d];rw [dS _ _ d]at hp;exact hw.dom a p hp
 ·intro a c p r hp l e;by_cases d:a=id
  ·by_cases hc:c=id
   ·rw [d,hc]
   ·subst d;rw [dW]at hp;cases hp;rw [dS _ _ hc]at l;have:=hw.place_lt l
    simp only at e;omega
  ·rw [dS _ _ d]at hp;by_cases hc:c=id
   ·subst hc;rw [dW]at l;cases l;have:=hw.place_lt hp
    simp only at e;omega
   ·rw [dS _ _ hc]at l;exact hw.inj a c p r hp l e
 ·intro c o y hy;have h0:=hw.imm c o y hy
  rw [nX (hold c (lQ h0))];exact h0
theorem Ev.fresh {I:fK} {ρ:Pl} {w w':World} {id:Id} (f:ρ id=none) {p:Place} (hb:w.heap.size<=p.b)
 (hold:∀ r,r<w.heap.size->w'.heap[r]? = w.heap[r]?) (l:w.heap.size<=w'.heap.size) (i:w'.os=w.os) (j:w'.output=w.output) (k:(w'.tape=w.tape/\w.drawn<=w'.drawn)):Ev I ρ w I (nJ ρ id p) w' where
 imm:=iK.refl _
 immN:=λb o h g=>absurd h g
 pl:=λa q c=>by(have d:a≠id:=by rintro rfl;rw [f]at c;cases c);exact ⟨q,by rw [dS _ _ d,c],aa3 _,λ_=>rfl⟩
 plN:=λa q c=>by by_cases d:a=id;{subst d;rw [dW]at c;cases c;exact .inr hb};rw [dS _ _ d]at c;exact .inl ⟨a,q,c,rfl⟩
 frame:=λb e _=>hold b e
 size:=l
 os:=i
 output:=j
 tape:=k
theorem dY.move {I:fK} {ρ:Pl} {m:Id->Option Ob} {w w':World} (hw:dY T N I ρ m w) {id:Id} {B B':zI} {q:Place} (hm:m id=some (.cells B)) (hq:ρ id=some q) {cs:Array Value} {b:Nat} (a5:w.heap.size<=b)
 (hold:∀ r,r<w.heap.size->w'.heap[r]? = w.heap[r]?) (u:w'.heap[b]? = some (.cells cs B'.ty (0,0))) (ht:B'.ty<N) (hn:B'.n*(T B'.ty).size<=cs.size) (a7:B'.fz<=B'.n) (a8:B.n<B'.n)
 (a6:∀ i,i<B'.n -> ∃ seg,Rep T N I (nJ ρ id ⟨b,B'.ty,B'.n,cs.size⟩) (B'.get i) seg/\fit T B'.ty (B'.get i)=true/\seg.length=(T B'.ty).size /\ ∀ o,o<(T B'.ty).size->cs[i*(T B'.ty).size+o]? = seg[o]?) :
 iJ ρ (nJ ρ id ⟨b,B'.ty,B'.n,cs.size⟩)/\dY T N I (nJ ρ id ⟨b,B'.ty,B'.n,cs.size⟩) (uy m id (.cells B')) w'/\Ev I ρ w I (nJ ρ id ⟨b,B'.ty,B'.n,cs.size⟩) w'\/¬ (w.heap.size<=w'.heap.size/\w'.os=w.os/\w'.output=w.output/\(w'.tape=w.tape/\w.drawn<=w'.drawn)):=by
 by_cases d:w.heap.size<=w'.heap.size/\w'.os=w.os/\w'.output=w.output/\(w'.tape=w.tape/\w.drawn<=w'.drawn)
 case neg=>exact .inr d
 refine .inl ?_;obtain ⟨q',b2,c1,c2,c3,c4,c5,c6,c7,c8,c9,b1⟩:=hw.cellsAt hm hq;rw [hq]at c1;cases c1;have g:iJ ρ (nJ ρ id ⟨b,B'.ty,B'.n,cs.size⟩):=by
  intro a p hp;by_cases f:a=id
  ·subst f;rw [hq]at hp;cases hp;exact ⟨_,dW _ _ _,by simp only;omega,λe=>by simp only at e;omega⟩
  ·exact ⟨p,by rw [dS _ _ f,hp],aa3 _,λ_=>rfl⟩
 have hI:∀ o,I b o=none:=λo=>by
  cases h:I b o with
  | none=>rfl
  | some y=>have:=lQ (hw.imm b o y h);omega
 refine ⟨g,⟨?_,?_,?_,?_,?_,hw.gl⟩,?_⟩
 ·intro a A hA;by_cases f:a=id
  ·subst f;rw [eY]at hA;cases hA;exact .inr ⟨_,cs,dW _ _ _,rfl,rfl,ht,u,rfl,hn,a6,λj hj=>absurd (hI j) hj,a7⟩
  ·rw [iI _ _ f]at hA;rcases hw.cells a A hA with ⟨s,t⟩ | ⟨p,ds,s,t,x,z,d5,d6,d7,d8,d9,d10⟩
   ·exact .inl ⟨by rw [dS _ _ f];exact s,t⟩
   refine .inr ⟨p,ds,by rw [dS _ _ f];exact s,t,x,z,by rw [hold _ (hw.place_lt s)];exact d5,d6,d7,λi hi=>?_,d9,d10⟩;obtain ⟨seg,e1,e2,e3,e4⟩:=d8 i hi;exact ⟨seg,e1.mono (iK.refl _) g,e2,e3,e4⟩
 ·intro a es hA;have f:a≠id:=by rintro rfl;rw [eY]at hA;cases hA
  rw [iI _ _ f]at hA;obtain ⟨p,en,cl,s,t,x,z,d5,d6⟩:=hw.maps a es hA;refine ⟨p,en,cl,by rw [dS _ _ f];exact s,t,by rw [hold _ (hw.place_lt s)];exact x,z,d5,λi k v hi=>?_⟩;obtain ⟨e,e1,e2,e3⟩:=d6 i k v hi;exact ⟨e,e1,e2.mono (iK.refl _) g,e3.mono (iK.refl _) g⟩
 ·intro a p hp;by_cases f:a=id
  ·subst f;rw [eY];simp
  ·rw [iI _ _ f];rw [dS _ _ f]at hp;exact hw.dom a p hp
 ·intro a c p r hp l e;by_cases f:a=id
  ·by_cases hc:c=id
   ·rw [f,hc]
   ·subst f;rw [dW]at hp;cases hp;rw [dS _ _ hc]at l;have:=hw.place_lt l
    simp only at e;omega
  ·rw [dS _ _ f]at hp;by_cases hc:c=id
   ·subst hc;rw [dW]at l;cases l;have:=hw.place_lt hp
    simp only at e;omega
   ·rw [dS _ _ hc]at l;exact hw.inj a c p r hp l e
 ·intro c o y hy;have h0:=hw.imm c o y hy
  rw [nX (hold c (lQ h0))];exact h0
 ·refine ⟨iK.refl _,λb o h h'=>absurd h h',g,λa p hp=>?_,λr l _=>hold r l,d.1,d.2.1,d.2.2.1,d.2.2.2⟩;by_cases f:a=id
  ·subst f;rw [dW]at hp;cases hp;exact .inr a5
  ·rw [dS _ _ f]at hp;exact .inl ⟨a,p,hp,rfl⟩
def I8 (I:fK) (b:Nat) (cs:List Value):fK:=λc o=>if c=b then cs[o]? else I c o
theorem dY.imm_fresh {I:fK} {ρ:Pl} {m:Id->Option Ob} {w w':World} (hw:dY T N I ρ m w) {b:Nat} (a6:w.heap.size<=b) {cs:Array Value} {ty:Nat} {fr:Nat×Nat}
 (hold:∀ r,r<w.heap.size->w'.heap[r]? = w.heap[r]?) (g:w'.heap[b]? = some (.cells cs ty fr)) :
 iK I (I8 I b cs.toList)/\dY T N (I8 I b cs.toList) ρ m w':=by
 have hI:∀ c o,c<w.heap.size->I8 I b cs.toList c o=I c o:=λc o hc=>by unfold I8;rw [Y0 (by omega)]
 have d:iK I (I8 I b cs.toList):=λc o y h=>by rw [hI c o (lQ (hw.imm c o y h))];exact h
 refine ⟨d,?_,?_,hw.dom,hw.inj,?_,λb o n h=>d _ _ _ (hw.gl b o n h)⟩
 ·intro a A hA;rcases hw.cells a A hA with h | ⟨p,ds,f,q,s,t,u,x,d7,d8,d9,d10⟩
  ·exact .inl h
  have hp:=hw.place_lt f;refine .inr ⟨p,ds,f,q,s,t,by rw [hold _ hp];exact u,x,d7,λi hi=>?_,λj hj=>d9 j (by rwa [hI _ _ hp]at hj),d10⟩;obtain ⟨seg,z,e2,e3,e4⟩:=d8 i hi;exact ⟨seg,z.mono d (iJ.refl _),e2,e3,e4⟩
 ·intro a es hA;obtain ⟨p,en,cl,f,q,s,t,u,x⟩:=hw.maps a es hA;have hp:=hw.place_lt f
  refine ⟨p,en,cl,f,q,by rw [hold _ hp];exact s,t,λj=>by rw [hI _ _ hp];exact u j,λi k v hi=>?_⟩;obtain ⟨e,z,e2,e3⟩:=x i k v hi;exact ⟨e,z,e2.mono d (iJ.refl _),e3.mono d (iJ.refl _)⟩
 ·intro c o y l;by_cases hc:c=b
  ·subst hc;simp only [I8,ad5]at l;simp only [World.cell?,g];simpa using l
  ·unfold I8 at l;rw [Y0 hc]at l;have h0:=hw.imm c o y l
   rw [nX (hold c (lQ h0))];exact h0
theorem Ev.imm_fresh {I:fK} {ρ:Pl} {m:Id->Option Ob} {w w':World} (hw:dY T N I ρ m w) {b:Nat} (d:w.heap.size<=b) {cs:List Value}
 (hold:∀ r,r<w.heap.size->w'.heap[r]? = w.heap[r]?) (k:w.heap.size<=w'.heap.size) (f:w'.os=w.os) (g:w'.output=w.output) (i:(w'.tape=w.tape/\w.drawn<=w'.drawn)):Ev I ρ w (I8 I b cs) ρ w' where
 imm:=λc o y h=>by have:=lQ (hw.imm c o y h);unfold I8;rw [Y0 (by omega)];exact h
 immN:=λc o h e=>by by_cases hc:c=b;{exact .inr (hc▸d)};exfalso;apply e;unfold I8;rw [Y0 hc];exact h
 pl:=iJ.refl _
 plN:=λa q j => .inl ⟨a,q,j,rfl⟩
 frame:=λc hc _=>hold c hc
 size:=k
 os:=f
 output:=g
 tape:=i
end
end Go.Ab
