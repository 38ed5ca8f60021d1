/- Part 11 of a proof of a statement about the given program: an abstract machine over the model, proved sound, and contracts of the functions that the statement reaches; the last part proves the statement, for every input, with no condition. -/
import Derived.Test.YtcfelhfcjdofoaaGreatDoorX9
set_option autoImplicit false
set_option linter.unusedSimpArgs false
set_option linter.unusedVariables false
namespace Go.Ab
section
variable {P:Program} {T:Nat->TI} {N:Nat}
theorem iR {α:Type} (segs:Nat->List α) {n sz:Nat} (h:∀ i,i<n->(segs i).length=sz):((List.range n).flatMap segs).length=n*sz:=by
 rw [gQ,<- pG];exact iw λi hi=>h i hi
theorem jA {α:Type} (segs:Nat->List α) {n sz:Nat} (h:∀ i,i<n->(segs i).length=sz) {i o:Nat} (hi:i<n) (a:o<sz):((List.range n).flatMap segs)[i*sz+o]? = (segs i)[o]? := by
 have e:i*sz=iY (λi=>(segs i).length) i:=by rw [<- pG];exact iw λj b=>(h j (by omega)).symm
 rw [e];exact vT segs hi (by rw [h i hi];exact a)
theorem div_lt {n sz j:Nat} (hsz:0<sz) (h:j<n*sz):j / sz<n:=by rw [Nat.div_lt_iff_lt_mul hsz];exact h
theorem mM {α:Type} (segs:Nat->List α) {n sz:Nat} (hsz:0<sz) (h:∀ i,i<n->(segs i).length=sz) {j:Nat} (b:j<n*sz):((List.range n).flatMap segs)[j]? = (segs (j / sz))[j % sz]? := by
 have a:=jA segs h (i:=j / sz) (o:=j % sz) (div_lt hsz b) (aeZ _ hsz);rw [<- a];congr 1;rw [aer];exact (aeM j sz).symm
theorem yB (t ty e:TypeId) (i:TypeInfo) (ht:P.underlying t=some (.slice e)) (hi:P.info? e=some i) (b:Option Addr) (l c:Nat) (hl:l<=c) (a:Addr) (d:Nat) (w:World) :
 (Builtin.append_ #[t,t] ty #[.slice b l c,.slice (some a) 0 d]).run P w = .ok (.slice b l c) w/\(Builtin.append_ #[t,t] ty #[.slice b l c,.slice none 0 0]).run P w = .ok (.slice b l c) w:=by
 have f:=run_firstCells_some (P:=P) w i.size 0 a 0 d [] (by simp) (by simp);constructor <;> cases b <;> simp [Builtin.append_,run_underlying ht,sizeOf,typeInfo,hi,Builtin.lenOf,hl,f,run_firstCells_none,storeCells]
def aaW (P:Program) (t ty:Nat) (a:Addr) (n c:Nat) (y:Value):Prop :=
 ∀ (b:Option Addr) (l k:Nat) (w w':World) (v:Value),l<=k->(Builtin.append_ #[t,t] ty #[.slice b l k,.slice (some a) n c]).run P w = .ok v w'->(Builtin.append_ #[t,t] ty #[.slice b l k,y]).run P w = .ok v w'
def Ud (a:Addr) (n c:Nat) (y:Value):Prop:=y = .slice (some a) n c\/(y = .slice none 0 0/\n=0)
theorem Ud.as {a:Addr} {n c:Nat} {y:Value} (h:Ud a n c y) {t e:Nat} (ht:P.underlying t=some (.slice e)) {j:TypeInfo} (g:P.info? e=some j) (ty:Nat):aaW P t ty a n c y:=by
 intro b l k w w' v d f;rcases h with rfl | ⟨rfl,rfl⟩
 ·exact f
 have i:=yB (P:=P) t ty e j ht g b l k d a c w;rw [i.1]at f;rw [i.2];exact f
theorem yR (hT:jf P T N) {I:fK} {ρ:Pl} {m:Id->Option Ob} {w:World} (hw:dY T N I ρ m w) {x:AV} {y:Value} {e:Nat} (he:0<(T e).size) {r:Nat×(Nat->AV)×List Id} (hx:dU T N I ρ x y) (h:Je T m e x=some r) (a8:ay (nP m x)) :
 ∃ (a:Addr) (c:Nat) (news:List Value),Ud a r.1 c y/\news.length=r.1*(T e).size/\(∀ (j:Nat) (u:Value),news[j]? = some u->w.cell? (a.add j)=some u)/\(∀ u∈news,u.oneCell'=true)/\r.1<2 ^ 63 /\
  ∀ i,i<r.1 -> ∃ seg,Rep T N I ρ (r.2.1 i) seg/\fit T e (r.2.1 i)=true/\seg.length=(T e).size /\ ∀ o,o<(T e).size->news[i*(T e).size+o]? = seg[o]? := by
 unfold Je at h;split at h
 ·rename_i u full n g;obtain ⟨hb,h⟩:=aB h;cases h;have e1:=abJ hb
  subst e1;rcases Rep.row_inv hx with ⟨⟨ad,rfl⟩,rfl,hN⟩ | ⟨b,off,cap,segs,hN,hc,hm,hfull,h1,h2,h3,h4,rfl⟩
  ·cases ad with
   | none=>refine ⟨⟨0,0,none⟩,0,[],.inr ⟨rfl,rfl⟩,by simp,by simp,by simp,by simp,λi hi=>absurd hi (by simp)⟩
   | some ad=>refine ⟨ad,0,[],.inl rfl,by simp,by simp,by simp,by simp,λi hi=>absurd hi (by simp)⟩
  refine ⟨⟨b,off,none⟩,cap,(List.range n).flatMap segs,.inl rfl,iR segs h3,?_,?_,by simp only;omega,λi hi=>⟨segs i,(h1 i hi).mono (iK.refl _) (FP _),h2 i hi,h3 i hi,λo ho=>jA segs h3 hi ho⟩⟩
  ·intro j v f;have z:j<n*(T u).size:=by rw [<- iR segs h3];exact (List.getElem?_eq_some_iff.1 f).1
   rw [mM segs he h3 z]at f;rw [jD];have hk:=h4 (j / (T u).size) (div_lt he z) (j % (T u).size) (aeZ _ he)
   rw [f,show j / (T u).size*(T u).size+j % (T u).size=j from by rw [aer];exact aeM j _]at hk;exact hw.imm _ _ _ hk
  ·intro v f;simp only [aeQ,adE]at f;obtain ⟨i,hi,f⟩:=f;exact (h1 i hi).cells_one v f
 ·rename_i id n i len cap;split at h
  ·rename_i B hm;obtain ⟨hb,h⟩:=aB h;rw [show (λj=>B.get (j+i))=λj=>B.get (i+j)from funext λj=>by rw [aea]]at h
   cases h;have e1:B.n=n:=by simpa [nP,nC,hm,ay]using a8
   have e2:=abJ hb;rcases Rep.own_inv hx with ⟨rfl,rfl,rfl,rfl⟩ | ⟨q,hq,hn,hx⟩
   ·refine ⟨⟨0,0,none⟩,0,[],.inr ⟨rfl,rfl⟩,by simp,by simp,by simp,by simp,λi hi=>absurd hi (by simp)⟩
   obtain ⟨q',cs,c1,c2,c3,c4,c5,c6,c7,c8,c9,b0⟩:=hw.cellsAt hm hq;rw [hq]at c1;cases c1;obtain ⟨c,rfl,g1,g2,g3,g4,g5,g6⟩:=hx (by rw [c3,e1]);subst e2;have hex:∀ k,∃ seg,k<len->Rep T N I ρ (B.get (i+k)) seg/\fit T B.ty (B.get (i+k))=true/\seg.length=(T B.ty).size /\ ∀ o,o<(T B.ty).size->cs[(i+k)*(T B.ty).size+o]? = seg[o]? := by
    intro k;by_cases hk:k<len
    ·obtain ⟨seg,hs⟩:=c8 (i+k) (by omega);exact ⟨seg,λ_=>hs⟩
    ·exact ⟨[],λh=>absurd h hk⟩
   have s:=λk=>adt (hex k);generalize a1:(λk=>Classical.choose (hex k))=segs at s;have d:∀ k,k<len->Rep T N I ρ (B.get (i+k)) (segs k)/\fit T B.ty (B.get (i+k))=true/\(segs k).length=(T B.ty).size /\ ∀ o,o<(T B.ty).size->cs[(i+k)*(T B.ty).size+o]? = (segs k)[o]? := by
    intro k hk;have h1:=s k hk
    rw [<- a1];exact h1
   have hsz:∀ k,k<len->(segs k).length=(T B.ty).size:=λk hk=>(d k hk).2.2.1;refine ⟨⟨q.b,i*(T q.ty).size,none⟩,c,(List.range len).flatMap segs,.inl rfl,iR segs hsz,?_,?_,by simp only;omega,λk hk=>⟨segs k,(d k hk).1,(d k hk).2.1,hsz k hk,λo ho=>jA segs hsz hk ho⟩⟩
   ·intro j v f;have z:j<len*(T B.ty).size:=by rw [<- iR segs hsz];exact (List.getElem?_eq_some_iff.1 f).1
    rw [mM segs he hsz z]at f;rw [jD,c2];have hk:=(d (j / (T B.ty).size) (div_lt he z)).2.2.2 (j % (T B.ty).size) (aeZ _ he)
    rw [f,adD,adN,show j / (T B.ty).size*(T B.ty).size+j % (T B.ty).size=j from by rw [aer];exact aeM j _]at hk;simpa [World.cell?,c5]using hk
   ·intro v f;simp only [aeQ,adE]at f;obtain ⟨k,hk,f⟩:=f;exact (d k hk).1.cells_one v f
  ·cases h
 ·rename_i id n i p lo len hi;split at h
  ·rename_i B hm;obtain ⟨hb,h⟩:=aB h;cases h;have a7:=uS hb
   have e1:B.n=n:=by simpa [nP,nC,hm,ay]using a8
   obtain ⟨q,hq,hn,hx⟩:=Rep.arr_inv hx;obtain ⟨q',cs,c1,c2,c3,c4,c5,c6,c7,c8,c9,b0⟩:=hw.cellsAt hm hq;rw [hq]at c1;cases c1;obtain ⟨b2,ta,ka,l,g1,g2,g3,g4,g5,g6,rfl⟩:=hx (by rw [c3,e1]);rw [<- c2,lV p g1]at a7;have b1:l=e:=by simpa [aY,g3]using a7
   subst b1;have hex:∀ k,∃ seg,k<len->Rep T N I ρ (((B.get i).at p).at [lo+k]) seg/\fit T l (((B.get i).at p).at [lo+k])=true/\seg.length=(T l).size /\
    ∀ o,o<(T l).size->w.cell? ⟨q.b,i*(T q.ty).size+aG T q.ty p+lo*(T l).size+(k*(T l).size+o),none⟩=seg[o]? := by
    intro k;by_cases hk:k<len
    ·obtain ⟨seg,s1,s2,s3,s4⟩:=ptr_cells hw hm hq (i:=i) (p:=p++[lo+k]) (t:=l) (by rw [e1];exact b2) (by rw [<- c2,lV p g1];simp [aY,g3]) (by rw [<- c2];exact nN p g1 g2 (by simp [pathIn,g3];omega));rw [F6]at s1 s2;refine ⟨seg,λ_=>⟨s1,s2,s3,λo ho=>?_⟩⟩;rw [<- s4 o ho,lZ p g1];congr 2;simp only [aG,g3,adD];omega
    ·exact ⟨[],λh=>absurd h hk⟩
   have s:=λk=>adt (hex k);generalize a1:(λk=>Classical.choose (hex k))=segs at s;have d:∀ k,k<len->Rep T N I ρ (((B.get i).at p).at [lo+k]) (segs k)/\fit T l (((B.get i).at p).at [lo+k])=true/\(segs k).length=(T l).size /\
    ∀ o,o<(T l).size->w.cell? ⟨q.b,i*(T q.ty).size+aG T q.ty p+lo*(T l).size+(k*(T l).size+o),none⟩=(segs k)[o]? := by
    intro k hk;have h1:=s k hk
    rw [<- a1];exact h1
   have hsz:∀ k,k<len->(segs k).length=(T l).size:=λk hk=>(d k hk).2.2.1;refine ⟨⟨q.b,i*(T q.ty).size+aG T q.ty p+lo*(T l).size,none⟩,hi - lo,(List.range len).flatMap segs,.inl rfl,iR segs hsz,?_,?_,by simp only;omega,λk hk=>⟨segs k,(d k hk).1,(d k hk).2.1,hsz k hk,λo ho=>jA segs hsz hk ho⟩⟩
   ·intro j v f;have z:j<len*(T l).size:=by rw [<- iR segs hsz];exact (List.getElem?_eq_some_iff.1 f).1
    rw [mM segs he hsz z]at f;rw [jD];have hk:=(d (j / (T l).size) (div_lt he z)).2.2.2 (j % (T l).size) (aeZ _ he)
    rw [f,show j / (T l).size*(T l).size+j % (T l).size=j from by rw [aer];exact aeM j _]at hk;exact hk
   ·intro v f;simp only [aeQ,adE]at f;obtain ⟨k,hk,f⟩:=f;exact (d k hk).1.cells_one v f
  ·cases h
 ·cases h
theorem Az (hT:jf P T N) {I:fK} {ρ:Pl} {m:Id->Option Ob} {w:World} (hw:dY T N I ρ m w) {x:AV} {y:Value} {e:Nat} (he:0<(T e).size) {r:Nat×(Nat->AV)×List Id} (hx:dU T N I ρ x y) (h:Je T m e x=some r) {t:Nat} (b:ay (nP m x)) (ht:P.underlying t=some (.slice e)) {k:TypeInfo} (d:P.info? e=some k) (ty:Nat) :
 ∃ (a:Addr) (c:Nat) (news:List Value),aaW P t ty a r.1 c y/\news.length=r.1*(T e).size/\(∀ (j:Nat) (u:Value),news[j]? = some u->w.cell? (a.add j)=some u)/\(∀ u∈news,u.oneCell'=true)/\r.1<2 ^ 63 /\
  ∀ i,i<r.1 -> ∃ seg,Rep T N I ρ (r.2.1 i) seg/\fit T e (r.2.1 i)=true/\seg.length=(T e).size /\ ∀ o,o<(T e).size->news[i*(T e).size+o]? = seg[o]? := by
 obtain ⟨a,c,news,f,g⟩:=yR (P:=P) hT hw he hx h b;exact ⟨a,c,news,f.as ht d ty,g⟩
theorem HY {n k i:Nat} {g h:Nat->AV} (hi:i<n):pV n k g h i=g i:=by
 unfold pV;split
 ·simp only [Wy,kJ (show ¬ i=n by omega),ads]
 (have:Nat.blt i n=true:=by simpa [adV]using hi);simp only [abY,this,adv]
theorem wL {n k i:Nat} {g h:Nat->AV} (hi:n<=i) (hk:i<n+k):pV n k g h i=h (i - n):=by
 unfold pV;split
 ·(have:i=n:=by omega);subst this;simp only [Wy,aeY,adv,Nat.sub_self]
 (have:Nat.blt i n=false:=by cases e:Nat.blt i n with| false=>rfl| true=>(have a:i<n:=by simpa [adV]using e);omega);simp only [abY,this,ads]
theorem CY {I:fK} {ρ:Pl} {e n k:Nat} {g h:Nat->AV} {olds news rest:List Value} (r:olds.length=n*(T e).size) (q:news.length=k*(T e).size)
 (l:∀ i,i<n -> ∃ seg,Rep T N I ρ (g i) seg/\fit T e (g i)=true/\seg.length=(T e).size /\ ∀ o,o<(T e).size->olds[i*(T e).size+o]? = seg[o]?)
 (m:∀ i,i<k -> ∃ seg,Rep T N I ρ (h i) seg/\fit T e (h i)=true/\seg.length=(T e).size /\ ∀ o,o<(T e).size->news[i*(T e).size+o]? = seg[o]?) :
 ∀ i,i<n+k -> ∃ seg,Rep T N I ρ (pV n k g h i) seg/\fit T e (pV n k g h i)=true/\seg.length=(T e).size /\ ∀ o,o<(T e).size->(olds++news++rest)[i*(T e).size+o]? = seg[o]? := by
 intro i hi;rcases ado i n with f | f
 ·obtain ⟨seg,a,b,c,d⟩:=l i f;rw [HY f];refine ⟨seg,a,b,c,λo j=>?_⟩;have:(i+1)*(T e).size<=n*(T e).size:=ab7 _ f
  rw [adK]at this;rw [adu,ac6 (by omega),d o j]
 ·obtain ⟨seg,a,b,c,d⟩:=m (i - n) (by omega);rw [wL f hi];refine ⟨seg,a,b,c,λo j=>?_⟩;have s:(i - n)*(T e).size+n*(T e).size=i*(T e).size:=by rw [<- adD];congr 1;omega
  have p:(i - n+1)*(T e).size<=k*(T e).size:=ab7 _ (by omega);rw [adK]at p;rw [adu,adi (by omega),ac6 (by omega),<- d o j];congr 1;omega
theorem oN {G:D} (h:BJ G=true):G.tr:=by
 cases G with
 | always=>trivial
 | when g=>cases g with
  | true=>rfl
  | false=>cases h
theorem vI {z:Array Value} {n sz i o:Nat} (d:z.size=sz) (c:o<sz) (hi:i*sz+o<n):(madeCells z n)[i*sz+o]? = z.toList[o]? := by
 have a:(i*sz+o) % z.size=o:=by rw [d,aer,Nat.mul_add_mod];exact aew c
 have b:o<z.size:=by omega
 simp [madeCells,hi,a,b]
theorem nV (hT:jf P T N) {I:fK} {ρ:Pl} {m:Id->Option Ob} {w:World} (hw:dY T N I ρ m w) {o:Oper} {id:Id} {e n k cap:Nat} {g h:Nat->AV} {c:Option Prop} {f:List Id} {olds news:List Value} {rest:Array Value}
 (he:e<N) (hn:ρ id=none) (s:olds.length=n*(T e).size) (p:news.length=k*(T e).size) (l:n+k<=cap) (v:cap<2 ^ 63) (t:rest.size=(cap - (n+k))*(T e).size)
 (h1:∀ i,i<n -> ∃ seg,Rep T N I ρ (g i) seg/\fit T e (g i)=true/\seg.length=(T e).size /\ ∀ o,o<(T e).size->olds[i*(T e).size+o]? = seg[o]?)
 (h2:∀ i,i<k -> ∃ seg,Rep T N I ρ (h i) seg/\fit T e (h i)=true/\seg.length=(T e).size /\ ∀ o,o<(T e).size->news[i*(T e).size+o]? = seg[o]?)
 {run:World->Result Next} (u:run w = .ok (.value (.slice (some ⟨w.heap.size,0,none⟩) (n+k) cap)) (w.drew.alloc (.cells (olds.toArray++news.toArray++rest) e))) :
 Did P T N o I ρ m ⟨.own id (n+k) 0 (n+k) none,[(id,.cells ⟨e,n+k,pV n k g h,0⟩)],f,c⟩ run w:=by
 have j:(olds.toArray++news.toArray++rest).size=cap*(T e).size:=by
  simp only [Array.size_append,aeb,s,p,t,<- adD];congr 1;omega
 have hj:=CY (rest:=rest.toList) s p h1 h2;have y:iJ ρ (nJ ρ id ⟨w.heap.size,e,n+k,(olds.toArray++news.toArray++rest).size⟩):=by
  intro a q z;have ha:a≠id:=by rintro rfl;rw [hn]at z;cases z
  exact ⟨q,by rw [dS _ _ ha,z],aa3 _,λ_=>rfl⟩
 have x:=dY.fresh (w':=w.drew.alloc (.cells (olds.toArray++news.toArray++rest) e)) (B:=⟨e,n+k,pV n k g h,0⟩) (b:=w.heap.size) (cs:=olds.toArray++news.toArray++rest) hw hn (aa3 _)
  (λr t=>fM w.drew _ t) (iZ w.drew _) he (by simp only;rw [j];exact ab7 _ l) rfl
  (
   λi hi=>by
   obtain ⟨seg,a,b,d,f⟩:=hj i hi;refine ⟨seg,a.mono (iK.refl _) y,b,d,λo ho=>?_⟩;have:=f o ho
   rw [<- this];simp [<- adn])
 refine ⟨_,_,I,_,u,.inl ⟨_,rfl,.one ⟨[_],.own (ρ:=nJ ρ id ⟨w.heap.size,e,n+k,(olds.toArray++news.toArray++rest).size⟩) _ (dW _ _ _) (aa3 _) rfl (λ_=>⟨cap,?_⟩),rfl⟩⟩,?_,?_⟩
 ·refine ⟨by simp [fF],l,v,by omega,by simp only [j,acY];exact aa3 _,λ_=>by simp only [j,acY],λk hk=>by cases hk⟩
 ·exact Ev.fresh hn (aa3 _) (λr t=>fM w.drew _ t) (by simp) rfl rfl ⟨rfl,by first | exact aa3 _ | exact aeG _⟩
 ·simpa [iP]using x.2
theorem jK (z:Array Value) (n:Nat):(Builtin.zeroCells z n).size=n*z.size:=by simp [Builtin.zeroCells]
theorem nT (w:World) (need old:Nat) (e:TypeId) (h:need<2 ^ 63):grownCap w need old e<2 ^ 63:=by
 have a:=aeZ (w.tape w.drawn (.appendCap need old e)) (show 0<2 ^ 63 - need by omega);simp only [grownCap,Question.cut]at *;omega
theorem oh (w:World) (need old:Nat) (e:TypeId):need<=grownCap w need old e:=by simp [grownCap,Question.cut]
theorem IQ (hT:jf P T N) {I:fK} {ρ:Pl} {m:Id->Option Ob} {w:World} (hw:dY T N I ρ m w) {o:Oper} {id:Id} {B:zI} {q:Place} {k g:Nat} {h:Nat->AV} {c:Option Prop} {f:List Id} {news:List Value} {a:Addr} {mc:Nat} {t ty:Nat} {z:Value} {i:TypeInfo}
 (hm:m id=some (.cells B)) (hq:ρ id=some q) (ht:P.underlying t=some (.slice B.ty)) (hi:P.info? B.ty=some i) (hz:i.zero=some z) (a0:i.size=(T B.ty).size) (b9:z.cells.size=(T B.ty).size)
 (d1:B.n<=g) (b8:g<2 ^ 63) (a6:g*(T B.ty).size=q.lim) (y:news.length=k*(T B.ty).size) (a2:∀ (j:Nat) (u:Value),news[j]? = some u->w.cell? (a.add j)=some u) (h1:∀ u∈news,u.oneCell'=true)
 (b6:B.n+k<2 ^ 63) (b7:(B.n+k)*i.bytes<=140737488355328) (d2:0<(T B.ty).size)
 (h2:∀ i,i<k -> ∃ seg,Rep T N I ρ (h i) seg/\fit T B.ty (h i)=true/\seg.length=(T B.ty).size /\ ∀ o,o<(T B.ty).size->news[i*(T B.ty).size+o]? = seg[o]?)
 {run:World->Result Next} (a8:∀ v w',(Builtin.append_ #[t,t] ty #[.slice (some ⟨q.b,0,none⟩) B.n g,.slice (some a) k mc]).run P w = .ok v w'->run w = .ok (.value v) w') :
 Did P T N o I ρ m ⟨.own id (B.n+k) 0 (B.n+k) none,[(id,.cells { B with n:=B.n+k,get:=pV B.n k B.get h})],f,c⟩ run w:=by
 obtain ⟨q',cs,c1,c2,c3,c4,c5,c6,c7,c8,c9,b5⟩:=hw.cellsAt hm hq;rw [hq]at c1;cases c1;have a3:(cs.toList.take (B.n*(T B.ty).size)).length=B.n*(T B.ty).size:=by rw [adg,aen,c6];omega
 have a4:∀ i,i<B.n -> ∃ seg,Rep T N I ρ (B.get i) seg/\fit T B.ty (B.get i)=true/\seg.length=(T B.ty).size /\ ∀ o,o<(T B.ty).size->(cs.toList.take (B.n*(T B.ty).size))[i*(T B.ty).size+o]? = seg[o]? := by
  intro i hi;obtain ⟨seg,e1,e2,e3,e4⟩:=c8 i hi;refine ⟨seg,e1,e2,e3,λo ho=>?_⟩;have:(i+1)*(T B.ty).size<=B.n*(T B.ty).size:=ab7 _ hi
  rw [adK]at this;rw [adO,aaU (by omega),adn,e4 o ho]
 by_cases l:B.n+k<=g
 ·
   have a5:B.n*i.size+news.length<=cs.size:=by
    rw [a0,y,<- adD,c6,<- a6];exact ab7 _ l
   have hr:=a8 _ _ (run_append_room w t ty B.ty i ht hi q.b B.n g cs c5 a k mc news (by rw [a0];exact y) a2 h1 l a5);rw [a0]at hr a5;have hj:=CY (rest:=cs.toList.drop (B.n*(T B.ty).size+news.length)) a3 y a4 h2
   have hsz:(cs.toList.take (B.n*(T B.ty).size)++news++cs.toList.drop (B.n*(T B.ty).size+news.length)).toArray.size=cs.size:=by
    simp only [aeb,adl,a3,aeR,aen];omega
   have a1:iJ ρ (nJ ρ id { q with n:=B.n+k}):=by
    intro b p hp;by_cases hb:b=id
    ·subst hb;rw [hq]at hp;cases hp;refine ⟨_,dW _ _ _,by simp only;omega,λe=>?_⟩;cases q;simp_all
    ·exact ⟨p,by rw [dS _ _ hb,hp],aa3 _,λ_=>rfl⟩
   have b0:=dY.change (B':={ B with n:=B.n+k,get:=pV B.n k B.get h}) (w':=w.setRow q.b (cs.toList.take (B.n*(T B.ty).size)++news++cs.toList.drop (B.n*(T B.ty).size+news.length)).toArray) hw hm hq c5 rfl rfl (by simp only;omega) hsz
    (by rw [hsz];simp only;rw [adD];omega) (setRow_heap w q.b cs _ B.ty (0,0) c5) (λb _ hb=>setRow_other w q.b b _ hb)
    (
     λj hj=>by
     have:B.fz*(T B.ty).size<=B.n*(T B.ty).size:=ab7 _ b5;simp only [aeC];rw [adu,ac6 (by omega),adO,aaU (by omega),adn])
    (
     λi hi=>by
     obtain ⟨seg,a,b,d,f⟩:=hj i hi;exact ⟨seg,a.mono (iK.refl _) a1,b,d,λo ho=>by simpa using f o ho⟩)
   refine ⟨_,_,I,_,hr,.inl ⟨_,rfl,.one ⟨[_],.own (ρ:=nJ ρ id { q with n:=B.n+k}) _ (dW _ _ _) (aa3 _) rfl (λ_=>⟨g,?_⟩),rfl⟩⟩,?_,by simpa [iP]using b0.2⟩
   ·refine ⟨by simp [fF],l,b8,by omega,by simp only [c2,acY];omega,λ_=>by simp only [c2,acY];exact a6,λk hk=>by cases hk⟩
   ·refine Ev.change hw hq b0.1 (λb p hp=>?_) (λb _ hb=>setRow_other w q.b b _ hb) (by simp) rfl rfl ⟨rfl,by first | exact aa3 _ | exact aeG _⟩;by_cases hb:b=id
    ·subst hb;rw [dW]at hp;cases hp;exact ⟨_,q,hq,rfl⟩
    ·rw [dS _ _ hb]at hp;exact ⟨b,p,hp,rfl⟩
 ·
   have b1:=oh w (B.n+k) g B.ty;have hr:=a8 _ _ (run_append_grow w t ty B.ty i z ht hi hz ⟨q.b,0,none⟩ B.n g (cs.toList.take (B.n*(T B.ty).size)) (by rw [a0];exact a3)
    (
     λj v hv=>by
     rw [jD,acY];rw [adO]at hv;split at hv
     ·simp only [World.cell?,c5];simpa using hv
     ·cases hv) a k mc news (by rw [a0];exact y) a2 (by omega) (by omega) (growslice_fits (by omega) b7))
   have hj:=CY (rest:=(Builtin.zeroCells z.cells (grownCap w (B.n+k) g B.ty - (B.n+k))).toList) a3 y a4 h2;have s:((cs.toList.take (B.n*(T B.ty).size)).toArray++news.toArray++Builtin.zeroCells z.cells (grownCap w (B.n+k) g B.ty - (B.n+k))).size=grownCap w (B.n+k) g B.ty*(T B.ty).size:=by
    simp only [Array.size_append,aeb,a3,y,jK,b9,<- adD];congr 1;omega
   have a1:iJ ρ (nJ ρ id ⟨w.heap.size,B.ty,B.n+k,((cs.toList.take (B.n*(T B.ty).size)).toArray++news.toArray++Builtin.zeroCells z.cells (grownCap w (B.n+k) g B.ty - (B.n+k))).size⟩):=by
    intro b p hp;by_cases hb:b=id
    ·subst hb;rw [hq]at hp;cases hp;exact ⟨_,dW _ _ _,by simp only;omega,λe=>by simp only at e;omega⟩
    ·exact ⟨p,by rw [dS _ _ hb,hp],aa3 _,λ_=>rfl⟩
   have x:=dY.move (B':={ B with n:=B.n+k,get:=pV B.n k B.get h}) (b:=w.heap.size) (w':=w.drew.alloc (.cells ((cs.toList.take (B.n*(T B.ty).size)).toArray++news.toArray++Builtin.zeroCells z.cells (grownCap w (B.n+k) g B.ty - (B.n+k))) B.ty))
    hw hm hq (aa3 _) (λr hr=>fM w.drew _ hr) (iZ w.drew _) c4 (by simp only;rw [s];exact ab7 _ b1) (by simp only;omega) (by simp only;omega)
    (
     λi hi=>by
     obtain ⟨seg,a,b,d,f⟩:=hj i hi;refine ⟨seg,a.mono (iK.refl _) a1,b,d,λo ho=>?_⟩;have:=f o ho
     rw [<- this];simp [<- adn])
   rcases x with x | x
   case inr=>exact absurd ⟨by simp,rfl,rfl,rfl,aeG _⟩ x
   refine ⟨_,_,I,_,hr,.inl ⟨_,rfl,.one ⟨[_],.own _ (dW _ _ _) (aa3 _) rfl (λ_=>⟨grownCap w (B.n+k) g B.ty,?_⟩),rfl⟩⟩,x.2.2,by simpa [iP]using x.2.1⟩;exact ⟨by simp [fF],b1,nT w _ _ _ b6,by omega,by simp only [s,acY];exact aa3 _,λ_=>by simp only [s,acY],λk hk=>by cases hk⟩
theorem Fj (hT:jf P T N) {I:fK} {ρ:Pl} {m:Id->Option Ob} {w:World} (hw:dY T N I ρ m w) {o:Oper} {id:Id} {B:zI} {k:Nat} {h:Nat->AV} {c:Option Prop} {f:List Id} {news:List Value} {a:Addr} {mc:Nat} {t ty:Nat} {z:Value} {i:TypeInfo}
 (hm:m id=some (.cells B)) (hB:B.n=0) (he:B.ty<N) (ht:P.underlying t=some (.slice B.ty)) (hi:P.info? B.ty=some i) (hz:i.zero=some z) (a3:i.size=(T B.ty).size) (a1:z.cells.size=(T B.ty).size)
 (y:news.length=k*(T B.ty).size) (a0:∀ (j:Nat) (u:Value),news[j]? = some u->w.cell? (a.add j)=some u)
 (hk:0<k) (a2:k<2 ^ 63) (b5:k*i.bytes<=140737488355328)
 (h2:∀ i,i<k -> ∃ seg,Rep T N I ρ (h i) seg/\fit T B.ty (h i)=true/\seg.length=(T B.ty).size /\ ∀ o,o<(T B.ty).size->news[i*(T B.ty).size+o]? = seg[o]?)
 {run:World->Result Next} (a5:∀ v w',(Builtin.append_ #[t,t] ty #[.slice none 0 0,.slice (some a) k mc]).run P w = .ok v w'->run w = .ok (.value v) w') :
 Did P T N o I ρ m ⟨.own id (B.n+k) 0 (B.n+k) none,[(id,.cells { B with n:=B.n+k,get:=pV B.n k B.get h})],f,c⟩ run w:=by
 obtain ⟨l,n',g',a8⟩:=B;simp only at hB y h2 he ht hi a3 a1;subst hB;have b1:=oh w k 0 l
 have hr:=a5 _ _ (run_append_nil (P:=P) w t ty l i z ht hi hz a k mc news (by rw [a3];exact y) a0 hk (by omega) (by omega));rcases hw.cells id _ hm with ⟨h1,h3,h4,_⟩ | ⟨q,b3,c1,c2,c3,c4,c5,c6,c7,c8,c9,a7⟩
 ·simp only at h4;subst h4;have:=nV (o:=o) (n:=0) (k:=k) (cap:=grownCap w k 0 l) (g:=g') (h:=h) (c:=c) (f:=f) (olds:=[]) (news:=news) (rest:=Builtin.zeroCells z.cells (grownCap w k 0 l - k)) (run:=run) hT hw he h1 (by simp) y (by omega) (nT w _ _ _ a2)
   (by simp [jK,a1]) (λi hi=>absurd hi (by simp)) h2 (by simpa using hr)
  exact this
 ·simp only at a7 c3;have hj:=CY (rest:=(Builtin.zeroCells z.cells (grownCap w k 0 l - k)).toList) (g:=g') (n:=0) (olds:=[]) (by simp) y (λi hi=>absurd hi (by simp)) h2
  have s:(news.toArray++Builtin.zeroCells z.cells (grownCap w k 0 l - k)).size=grownCap w k 0 l*(T l).size:=by
   simp only [Array.size_append,aeb,y,jK,a1,<- adD];congr 1;omega
  have a4:iJ ρ (nJ ρ id ⟨w.heap.size,l,0+k,(news.toArray++Builtin.zeroCells z.cells (grownCap w k 0 l - k)).size⟩):=by
   intro b p hp;by_cases hb:b=id
   ·subst hb;rw [c1]at hp;cases hp;exact ⟨_,dW _ _ _,by rw [c3];exact abM _,λe=>by rw [c3]at e;simp only at e;omega⟩
   ·exact ⟨p,by rw [dS _ _ hb,hp],aa3 _,λ_=>rfl⟩
  have x:=dY.move (B':=⟨l,0+k,pV 0 k g' h,a8⟩) (b:=w.heap.size) (w':=w.drew.alloc (.cells (news.toArray++Builtin.zeroCells z.cells (grownCap w k 0 l - k)) l))
   hw hm c1 (aa3 _) (λr hr=>fM w.drew _ hr) (iZ w.drew _) he (by simp only;rw [s];exact ab7 _ (by omega)) (by simp only;omega) (by simp only;omega)
   (
    λi hi=>by
    obtain ⟨seg,a,b,d,f⟩:=hj i hi;refine ⟨seg,a.mono (iK.refl _) a4,b,d,λo ho=>?_⟩;have:=f o ho
    rw [<- this];simp [<- adn])
  rcases x with x | x
  case inr=>exact absurd ⟨by simp,rfl,rfl,rfl,aeG _⟩ x
  refine ⟨_,_,I,_,hr,.inl ⟨_,rfl,.one ⟨[_],.own _ (dW _ _ _) (aa3 _) rfl (λ_=>⟨grownCap w k 0 l,?_⟩),rfl⟩⟩,x.2.2,by simpa [iP]using x.2.1⟩;exact ⟨by simp [fF],by simp only [acY];exact b1,nT w _ _ _ a2,by omega,by simp only [s,acY];exact aa3 _,λ_=>by simp only [s,acY],λk hk=>by cases hk⟩
end
end Go.Ab
