/- Part 11 of a proof of a statement about the given program: an abstract machine over the model, proved sound, and contracts of the functions that the statement reaches; the last part proves the statement, for every input, with no condition. -/
import Derived.Test.YtcfelhfcjdofoaaGreatDoorX9
set_option autoImplicit false
set_option linter.unusedSimpArgs false
set_option linter.unusedVariables false
namespace Go.Ab
section
variable {P:Program} {T:Nat→TI} {N:Nat}
theorem dK {α:Type} (segs:Nat→List α) {n sz:Nat} (h:∀ i,i<n→(segs i).length=sz):((List.range n).flatMap segs).length=n*sz:=by
 rw [bV,← jC];exact dh fun i hi=>h i hi
theorem dW {α:Type} (segs:Nat→List α) {n sz:Nat} (h:∀ i,i<n→(segs i).length=sz) {i o:Nat} (hi:i<n) (ho:o<sz):((List.range n).flatMap segs)[i*sz+o]? = (segs i)[o]? := by
 have e:i*sz=jq (fun i=>(segs i).length) i:=by
  rw [← jC];exact dh fun j hj=>(h j (by omega)).symm
 rw [e];exact ou segs hi (by rw [h i hi];exact ho)
theorem div_lt {n sz j:Nat} (hsz:0<sz) (h:j<n*sz):j / sz<n:=by rw [Nat.div_lt_iff_lt_mul hsz];exact h
theorem iC {α:Type} (segs:Nat→List α) {n sz:Nat} (hsz:0<sz) (h:∀ i,i<n→(segs i).length=sz) {j:Nat} (hj:j<n*sz):((List.range n).flatMap segs)[j]? = (segs (j / sz))[j % sz]? := by
 have h1:=dW segs h (i:=j / sz) (o:=j % sz) (div_lt hsz hj) (Nat.mod_lt _ hsz);rw [← h1];congr 1;rw [Nat.mul_comm];exact (Nat.div_add_mod j sz).symm
theorem nG (t ty e:TypeId) (i:TypeInfo) (ht:P.underlying t=some (.slice e)) (hi:P.info? e=some i) (b:Option Addr) (l c:Nat) (hl:l≤c) (a:Addr) (c':Nat) (w:World) :
 (Builtin.append_ #[t,t] ty #[.slice b l c,.slice (some a) 0 c']).run P w = .ok (.slice b l c) w∧(Builtin.append_ #[t,t] ty #[.slice b l c,.slice none 0 0]).run P w = .ok (.slice b l c) w:=by
 have h1:=run_firstCells_some (P:=P) w i.size 0 a 0 c' [] (by simp) (by simp);constructor <;> cases b <;> simp [Builtin.append_,run_underlying ht,sizeOf,typeInfo,hi,Builtin.lenOf,hl,h1,run_firstCells_none,storeCells]
def QS (P:Program) (t ty:Nat) (a:Addr) (n c:Nat) (y:Value):Prop :=
 ∀ (b:Option Addr) (l k:Nat) (w w':World) (v:Value),l≤k→(Builtin.append_ #[t,t] ty #[.slice b l k,.slice (some a) n c]).run P w = .ok v w'→(Builtin.append_ #[t,t] ty #[.slice b l k,y]).run P w = .ok v w'
def MV (a:Addr) (n c:Nat) (y:Value):Prop:=y = .slice (some a) n c∨(y = .slice none 0 0∧n=0)
theorem MV.as {a:Addr} {n c:Nat} {y:Value} (h:MV a n c y) {t e:Nat} (ht:P.underlying t=some (.slice e)) {ti:TypeInfo} (hti:P.info? e=some ti) (ty:Nat):QS P t ty a n c y:=by
 intro b l k w w' v hlk hr;rcases h with rfl | ⟨rfl,rfl⟩
 ·exact hr
 ·have h0:=nG (P:=P) t ty e ti ht hti b l k hlk a c w;rw [h0.1]at hr;rw [h0.2];exact hr
theorem oW (hT:TOK P T N) {I:Imm} {ρ:Pl} {m:Id→Option Ob} {w:World} (hw:dR T N I ρ m w) {x:AV} {y:Value} {e:Nat} (he:0<(T e).size) {r:Nat×(Nat→AV)×List Id} (hx:dI T N I ρ x y) (h:JU T m e x=some r) (hnn:aj (nOf m x)) :
 ∃ (a:Addr) (c:Nat) (news:List Value),MV a r.1 c y∧news.length=r.1*(T e).size∧(∀ (j:Nat) (u:Value),news[j]? = some u→w.cell? (a.add j)=some u)∧(∀ u∈news,u.oneCell'=true)∧r.1<2 ^ 63 ∧
  ∀ i,i<r.1 → ∃ seg,Rep T N I ρ (r.2.1 i) seg∧fit T e (r.2.1 i)=true∧seg.length=(T e).size ∧ ∀ o,o<(T e).size→news[i*(T e).size+o]? = seg[o]? := by
 unfold JU at h;split at h
 ·rename_i u full n g;obtain ⟨hb,h⟩:=ak h;cases h;have e1:=Nat.eq_of_beq_eq_true hb
  subst e1;rcases Rep.row_inv hx with ⟨⟨ad,rfl⟩,rfl,hN⟩ | ⟨b,off,cap,segs,hN,hc,hm,hfull,h1,h2,h3,h4,rfl⟩
  ·cases ad with
   | none=>refine ⟨⟨0,0,none⟩,0,[],.inr ⟨rfl,rfl⟩,by simp,by simp,by simp,by simp,fun i hi=>absurd hi (by simp)⟩
   | some ad=>refine ⟨ad,0,[],.inl rfl,by simp,by simp,by simp,by simp,fun i hi=>absurd hi (by simp)⟩
  refine ⟨⟨b,off,none⟩,cap,(List.range n).flatMap segs,.inl rfl,dK segs h3,?_,?_,by simp only;omega,fun i hi=>⟨segs i,(h1 i hi).mono (iQ.refl _) (yC _),h2 i hi,h3 i hi,fun o ho=>dW segs h3 hi ho⟩⟩
  ·intro j v hv;have hj:j<n*(T u).size:=by rw [← dK segs h3];exact (List.getElem?_eq_some_iff.1 hv).1
   rw [iC segs he h3 hj]at hv;rw [fA];have hk:=h4 (j / (T u).size) (div_lt he hj) (j % (T u).size) (Nat.mod_lt _ he)
   rw [hv,show j / (T u).size*(T u).size+j % (T u).size=j from by rw [Nat.mul_comm];exact Nat.div_add_mod j _]at hk;exact hw.imm _ _ _ hk
  ·intro v hv;simp only [List.mem_flatMap,List.mem_range]at hv;obtain ⟨i,hi,hv⟩:=hv;exact (h1 i hi).cells_one v hv
 ·rename_i id n i len cap;split at h
  ·rename_i B hm;obtain ⟨hb,h⟩:=ak h;rw [show (fun j=>B.get (j+i))=fun j=>B.get (i+j)from funext fun j=>by rw [Nat.add_comm]]at h
   cases h;have e1:B.n=n:=by simpa [nOf,nC,hm,aj]using hnn
   have e2:=Nat.eq_of_beq_eq_true hb;rcases Rep.own_inv hx with ⟨rfl,rfl,rfl,rfl⟩ | ⟨q,hq,hn,hx⟩
   ·refine ⟨⟨0,0,none⟩,0,[],.inr ⟨rfl,rfl⟩,by simp,by simp,by simp,by simp,fun i hi=>absurd hi (by simp)⟩
   obtain ⟨q',cs,c1,c2,c3,c4,c5,c6,c7,c8,c9,c10⟩:=hw.cellsAt hm hq;rw [hq]at c1;cases c1;obtain ⟨c,rfl,g1,g2,g3,g4,g5,g6⟩:=hx (by rw [c3,e1]);subst e2;have hex:∀ k,∃ seg,k<len→Rep T N I ρ (B.get (i+k)) seg∧fit T B.ty (B.get (i+k))=true∧seg.length=(T B.ty).size ∧ ∀ o,o<(T B.ty).size→cs[(i+k)*(T B.ty).size+o]? = seg[o]? := by
    intro k;by_cases hk:k<len
    ·obtain ⟨seg,hs⟩:=c8 (i+k) (by omega);exact ⟨seg,fun _=>hs⟩
    ·exact ⟨[],fun h=>absurd h hk⟩
   have hsel:=fun k=>Classical.choose_spec (hex k);generalize hsg:(fun k=>Classical.choose (hex k))=segs at hsel;have hseg:∀ k,k<len→Rep T N I ρ (B.get (i+k)) (segs k)∧fit T B.ty (B.get (i+k))=true∧(segs k).length=(T B.ty).size ∧ ∀ o,o<(T B.ty).size→cs[(i+k)*(T B.ty).size+o]? = (segs k)[o]? := by
    intro k hk;have h1:=hsel k hk
    rw [← hsg];exact h1
   have hsz:∀ k,k<len→(segs k).length=(T B.ty).size:=fun k hk=>(hseg k hk).2.2.1;refine ⟨⟨q.b,i*(T q.ty).size,none⟩,c,(List.range len).flatMap segs,.inl rfl,dK segs hsz,?_,?_,by simp only;omega,fun k hk=>⟨segs k,(hseg k hk).1,(hseg k hk).2.1,hsz k hk,fun o ho=>dW segs hsz hk ho⟩⟩
   ·intro j v hv;have hj:j<len*(T B.ty).size:=by rw [← dK segs hsz];exact (List.getElem?_eq_some_iff.1 hv).1
    rw [iC segs he hsz hj]at hv;rw [fA,c2];have hk:=(hseg (j / (T B.ty).size) (div_lt he hj)).2.2.2 (j % (T B.ty).size) (Nat.mod_lt _ he)
    rw [hv,Nat.add_mul,Nat.add_assoc,show j / (T B.ty).size*(T B.ty).size+j % (T B.ty).size=j from by rw [Nat.mul_comm];exact Nat.div_add_mod j _]at hk;simpa [World.cell?,c5]using hk
   ·intro v hv;simp only [List.mem_flatMap,List.mem_range]at hv;obtain ⟨k,hk,hv⟩:=hv;exact (hseg k hk).1.cells_one v hv
  ·cases h
 ·rename_i id n i p lo len hi;split at h
  ·rename_i B hm;obtain ⟨hb,h⟩:=ak h;cases h;have he':=nS hb
   have e1:B.n=n:=by simpa [nOf,nC,hm,aj]using hnn
   obtain ⟨q,hq,hn,hx⟩:=Rep.arr_inv hx;obtain ⟨q',cs,c1,c2,c3,c4,c5,c6,c7,c8,c9,c10⟩:=hw.cellsAt hm hq;rw [hq]at c1;cases c1;obtain ⟨hi',ta,ka,ea,g1,g2,g3,g4,g5,g6,rfl⟩:=hx (by rw [c3,e1]);rw [← c2,gZ p g1]at he';have hea:ea=e:=by simpa [aJ,g3]using he'
   subst hea;have hex:∀ k,∃ seg,k<len→Rep T N I ρ (((B.get i).at p).at [lo+k]) seg∧fit T ea (((B.get i).at p).at [lo+k])=true∧seg.length=(T ea).size ∧
    ∀ o,o<(T ea).size→w.cell? ⟨q.b,i*(T q.ty).size+aF T q.ty p+lo*(T ea).size+(k*(T ea).size+o),none⟩=seg[o]? := by
    intro k;by_cases hk:k<len
    ·obtain ⟨seg,s1,s2,s3,s4⟩:=ptr_cells hw hm hq (i:=i) (p:=p++[lo+k]) (t:=ea) (by rw [e1];exact hi') (by rw [← c2,gZ p g1];simp [aJ,g3]) (by rw [← c2];exact iU p g1 g2 (by simp [pathIn,g3];omega));rw [yX]at s1 s2;refine ⟨seg,fun _=>⟨s1,s2,s3,fun o ho=>?_⟩⟩;rw [← s4 o ho,ig p g1];congr 2;simp only [aF,g3,Nat.add_mul];omega
    ·exact ⟨[],fun h=>absurd h hk⟩
   have hsel:=fun k=>Classical.choose_spec (hex k);generalize hsg:(fun k=>Classical.choose (hex k))=segs at hsel;have hseg:∀ k,k<len→Rep T N I ρ (((B.get i).at p).at [lo+k]) (segs k)∧fit T ea (((B.get i).at p).at [lo+k])=true∧(segs k).length=(T ea).size ∧
    ∀ o,o<(T ea).size→w.cell? ⟨q.b,i*(T q.ty).size+aF T q.ty p+lo*(T ea).size+(k*(T ea).size+o),none⟩=(segs k)[o]? := by
    intro k hk;have h1:=hsel k hk
    rw [← hsg];exact h1
   have hsz:∀ k,k<len→(segs k).length=(T ea).size:=fun k hk=>(hseg k hk).2.2.1;refine ⟨⟨q.b,i*(T q.ty).size+aF T q.ty p+lo*(T ea).size,none⟩,hi - lo,(List.range len).flatMap segs,.inl rfl,dK segs hsz,?_,?_,by simp only;omega,fun k hk=>⟨segs k,(hseg k hk).1,(hseg k hk).2.1,hsz k hk,fun o ho=>dW segs hsz hk ho⟩⟩
   ·intro j v hv;have hj:j<len*(T ea).size:=by rw [← dK segs hsz];exact (List.getElem?_eq_some_iff.1 hv).1
    rw [iC segs he hsz hj]at hv;rw [fA];have hk:=(hseg (j / (T ea).size) (div_lt he hj)).2.2.2 (j % (T ea).size) (Nat.mod_lt _ he)
    rw [hv,show j / (T ea).size*(T ea).size+j % (T ea).size=j from by rw [Nat.mul_comm];exact Nat.div_add_mod j _]at hk;exact hk
   ·intro v hv;simp only [List.mem_flatMap,List.mem_range]at hv;obtain ⟨k,hk,hv⟩:=hv;exact (hseg k hk).1.cells_one v hv
  ·cases h
 ·cases h
theorem qN (hT:TOK P T N) {I:Imm} {ρ:Pl} {m:Id→Option Ob} {w:World} (hw:dR T N I ρ m w) {x:AV} {y:Value} {e:Nat} (he:0<(T e).size) {r:Nat×(Nat→AV)×List Id} (hx:dI T N I ρ x y) (h:JU T m e x=some r) {t:Nat} (hnn:aj (nOf m x)) (ht:P.underlying t=some (.slice e)) {ti:TypeInfo} (hti:P.info? e=some ti) (ty:Nat) :
 ∃ (a:Addr) (c:Nat) (news:List Value),QS P t ty a r.1 c y∧news.length=r.1*(T e).size∧(∀ (j:Nat) (u:Value),news[j]? = some u→w.cell? (a.add j)=some u)∧(∀ u∈news,u.oneCell'=true)∧r.1<2 ^ 63 ∧
  ∀ i,i<r.1 → ∃ seg,Rep T N I ρ (r.2.1 i) seg∧fit T e (r.2.1 i)=true∧seg.length=(T e).size ∧ ∀ o,o<(T e).size→news[i*(T e).size+o]? = seg[o]? := by
 obtain ⟨a,c,news,h1,h2⟩:=oW (P:=P) hT hw he hx h hnn;exact ⟨a,c,news,h1.as ht hti ty,h2⟩
theorem yH {n k i:Nat} {g h:Nat→AV} (hi:i<n):lZ n k g h i=g i:=by
 unfold lZ;split
 ·simp only [NZ,gQ (show ¬ i=n by omega),cond_false]
 ·have:Nat.blt i n=true:=by simpa [Nat.blt_eq]using hi
  simp only [Rx,this,cond_true]
theorem sZ {n k i:Nat} {g h:Nat→AV} (hi:n≤i) (hk:i<n+k):lZ n k g h i=h (i - n):=by
 unfold lZ;split
 ·have:i=n:=by omega
  subst this;simp only [NZ,Nat.beq_refl,cond_true,Nat.sub_self]
 ·have:Nat.blt i n=false:=by
   cases e:Nat.blt i n with
   | false=>rfl
   | true =>
    have e':i<n:=by simpa [Nat.blt_eq]using e
    omega
  simp only [Rx,this,cond_false]
theorem sW {I:Imm} {ρ:Pl} {e n k:Nat} {g h:Nat→AV} {olds news rest:List Value} (hol:olds.length=n*(T e).size) (hnl:news.length=k*(T e).size)
 (h1:∀ i,i<n → ∃ seg,Rep T N I ρ (g i) seg∧fit T e (g i)=true∧seg.length=(T e).size ∧ ∀ o,o<(T e).size→olds[i*(T e).size+o]? = seg[o]?)
 (h2:∀ i,i<k → ∃ seg,Rep T N I ρ (h i) seg∧fit T e (h i)=true∧seg.length=(T e).size ∧ ∀ o,o<(T e).size→news[i*(T e).size+o]? = seg[o]?) :
 ∀ i,i<n+k → ∃ seg,Rep T N I ρ (lZ n k g h i) seg∧fit T e (lZ n k g h i)=true∧seg.length=(T e).size ∧ ∀ o,o<(T e).size→(olds++news++rest)[i*(T e).size+o]? = seg[o]? := by
 intro i hi;rcases Nat.lt_or_ge i n with hin | hin
 ·obtain ⟨seg,a,b,c,d⟩:=h1 i hin;rw [yH hin];refine ⟨seg,a,b,c,fun o ho=>?_⟩;have:(i+1)*(T e).size≤n*(T e).size:=Nat.mul_le_mul_right _ hin
  rw [Nat.succ_mul]at this;rw [List.append_assoc,List.getElem?_append_left (by omega),d o ho]
 ·obtain ⟨seg,a,b,c,d⟩:=h2 (i - n) (by omega);rw [sZ hin hi];refine ⟨seg,a,b,c,fun o ho=>?_⟩;have h3:(i - n)*(T e).size+n*(T e).size=i*(T e).size:=by rw [← Nat.add_mul];congr 1;omega
  have h4:(i - n+1)*(T e).size≤k*(T e).size:=Nat.mul_le_mul_right _ (by omega);rw [Nat.succ_mul]at h4;rw [List.append_assoc,List.getElem?_append_right (by omega),List.getElem?_append_left (by omega),← d o ho];congr 1;omega
theorem jE {G:D} (h:xP G=true):G.tr:=by
 cases G with
 | always=>trivial
 | when g=>cases g with
  | true=>rfl
  | false=>cases h
theorem lY {z:Array Value} {n sz i o:Nat} (hz:z.size=sz) (ho:o<sz) (hi:i*sz+o<n):(madeCells z n)[i*sz+o]? = z.toList[o]? := by
 have h1:(i*sz+o) % z.size=o:=by rw [hz,Nat.mul_comm,Nat.mul_add_mod];exact Nat.mod_eq_of_lt ho
 have h2:o<z.size:=by omega
 simp [madeCells,hi,h1,h2]
theorem iL (hT:TOK P T N) {I:Imm} {ρ:Pl} {m:Id→Option Ob} {w:World} (hw:dR T N I ρ m w) {o:Oper} {id:Id} {e n k cap:Nat} {g h:Nat→AV} {c:Option Prop} {f:List Id} {olds news:List Value} {rest:Array Value}
 (he:e<N) (hn:ρ id=none) (hol:olds.length=n*(T e).size) (hnl:news.length=k*(T e).size) (hcap:n+k≤cap) (hcm:cap<2 ^ 63) (hr:rest.size=(cap - (n+k))*(T e).size)
 (h1:∀ i,i<n → ∃ seg,Rep T N I ρ (g i) seg∧fit T e (g i)=true∧seg.length=(T e).size ∧ ∀ o,o<(T e).size→olds[i*(T e).size+o]? = seg[o]?)
 (h2:∀ i,i<k → ∃ seg,Rep T N I ρ (h i) seg∧fit T e (h i)=true∧seg.length=(T e).size ∧ ∀ o,o<(T e).size→news[i*(T e).size+o]? = seg[o]?)
 {run:World→Result Next} (hrun:run w = .ok (.value (.slice (some ⟨w.heap.size,0,none⟩) (n+k) cap)) (w.drew.alloc (.cells (olds.toArray++news.toArray++rest) e))) :
 Did P T N o I ρ m ⟨.own id (n+k) 0 (n+k) none,[(id,.cells ⟨e,n+k,lZ n k g h,0⟩)],f,c⟩ run w:=by
 have hsize:(olds.toArray++news.toArray++rest).size=cap*(T e).size:=by
  simp only [Array.size_append,List.size_toArray,hol,hnl,hr,← Nat.add_mul];congr 1;omega
 have hj:=sW (rest:=rest.toList) hol hnl h1 h2;have hpl:iP ρ (mZ ρ id ⟨w.heap.size,e,n+k,(olds.toArray++news.toArray++rest).size⟩):=by
  intro a q hq;have ha:a≠id:=by rintro rfl;rw [hn]at hq;cases hq
  exact ⟨q,by rw [aZ _ _ ha,hq],Nat.le_refl _,fun _=>rfl⟩
 have hfr:=dR.fresh (w':=w.drew.alloc (.cells (olds.toArray++news.toArray++rest) e)) (B:=⟨e,n+k,lZ n k g h,0⟩) (b:=w.heap.size) (cs:=olds.toArray++news.toArray++rest) hw hn (Nat.le_refl _)
  (fun r hr=>bF w.drew _ hr) (dF w.drew _) he (by simp only;rw [hsize];exact Nat.mul_le_mul_right _ hcap) rfl
  (
   fun i hi=>by
   obtain ⟨seg,a,b,d,f⟩:=hj i hi;refine ⟨seg,a.mono (iQ.refl _) hpl,b,d,fun o ho=>?_⟩;have:=f o ho
   rw [← this];simp [← Array.getElem?_toList])
 refine ⟨_,_,I,_,hrun,.inl ⟨_,rfl,.one ⟨[_],.own (ρ:=mZ ρ id ⟨w.heap.size,e,n+k,(olds.toArray++news.toArray++rest).size⟩) _ (aU _ _ _) (Nat.le_refl _) rfl (fun _=>⟨cap,?_⟩),rfl⟩⟩,?_,?_⟩
 ·refine ⟨by simp [bZ],hcap,hcm,by omega,by simp only [hsize,Nat.zero_add];exact Nat.le_refl _,fun _=>by simp only [hsize,Nat.zero_add],fun k hk=>by cases hk⟩
 ·exact Ev.fresh hn (Nat.le_refl _) (fun r hr=>bF w.drew _ hr) (by simp) rfl rfl ⟨rfl,by first | exact Nat.le_refl _ | exact Nat.le_succ _⟩
 ·simpa [je]using hfr.2
theorem dZ (z:Array Value) (n:Nat):(Builtin.zeroCells z n).size=n*z.size:=by simp [Builtin.zeroCells]
theorem iV (w:World) (need old:Nat) (e:TypeId) (h:need<2 ^ 63):grownCap w need old e<2 ^ 63:=by
 have hlt:=Nat.mod_lt (w.tape w.drawn (.appendCap need old e)) (show 0<2 ^ 63 - need by omega);simp only [grownCap,Question.cut]at *
 omega
theorem iZ (w:World) (need old:Nat) (e:TypeId):need≤grownCap w need old e:=by simp [grownCap,Question.cut]
theorem wB (hT:TOK P T N) {I:Imm} {ρ:Pl} {m:Id→Option Ob} {w:World} (hw:dR T N I ρ m w) {o:Oper} {id:Id} {B:Blk} {q:Place} {k sCap:Nat} {h:Nat→AV} {c:Option Prop} {f:List Id} {news:List Value} {a:Addr} {mc:Nat} {t ty:Nat} {z:Value} {i:TypeInfo}
 (hm:m id=some (.cells B)) (hq:ρ id=some q) (ht:P.underlying t=some (.slice B.ty)) (hi:P.info? B.ty=some i) (hz:i.zero=some z) (his:i.size=(T B.ty).size) (hzs:z.cells.size=(T B.ty).size)
 (hcap:B.n≤sCap) (hcm:sCap<2 ^ 63) (hlim:sCap*(T B.ty).size=q.lim) (hnl:news.length=k*(T B.ty).size) (hnews:∀ (j:Nat) (u:Value),news[j]? = some u→w.cell? (a.add j)=some u) (h1:∀ u∈news,u.oneCell'=true)
 (h63:B.n+k<2 ^ 63) (hby:(B.n+k)*i.bytes≤140737488355328) (hpos:0<(T B.ty).size)
 (h2:∀ i,i<k → ∃ seg,Rep T N I ρ (h i) seg∧fit T B.ty (h i)=true∧seg.length=(T B.ty).size ∧ ∀ o,o<(T B.ty).size→news[i*(T B.ty).size+o]? = seg[o]?)
 {run:World→Result Next} (hrun:∀ v w',(Builtin.append_ #[t,t] ty #[.slice (some ⟨q.b,0,none⟩) B.n sCap,.slice (some a) k mc]).run P w = .ok v w'→run w = .ok (.value v) w') :
 Did P T N o I ρ m ⟨.own id (B.n+k) 0 (B.n+k) none,[(id,.cells { B with n:=B.n+k,get:=lZ B.n k B.get h})],f,c⟩ run w:=by
 obtain ⟨q',cs,c1,c2,c3,c4,c5,c6,c7,c8,c9,c10⟩:=hw.cellsAt hm hq;rw [hq]at c1;cases c1;have hol:(cs.toList.take (B.n*(T B.ty).size)).length=B.n*(T B.ty).size:=by rw [List.length_take,Array.length_toList,c6];omega
 have hels:∀ i,i<B.n → ∃ seg,Rep T N I ρ (B.get i) seg∧fit T B.ty (B.get i)=true∧seg.length=(T B.ty).size ∧ ∀ o,o<(T B.ty).size→(cs.toList.take (B.n*(T B.ty).size))[i*(T B.ty).size+o]? = seg[o]? := by
  intro i hi;obtain ⟨seg,e1,e2,e3,e4⟩:=c8 i hi;refine ⟨seg,e1,e2,e3,fun o ho=>?_⟩;have:(i+1)*(T B.ty).size≤B.n*(T B.ty).size:=Nat.mul_le_mul_right _ hi
  rw [Nat.succ_mul]at this;rw [List.getElem?_take,if_pos (by omega),Array.getElem?_toList,e4 o ho]
 by_cases hroom:B.n+k≤sCap
 ·
   have hfit:B.n*i.size+news.length≤cs.size:=by
    rw [his,hnl,← Nat.add_mul,c6,← hlim];exact Nat.mul_le_mul_right _ hroom
   have hr:=hrun _ _ (run_append_room w t ty B.ty i ht hi q.b B.n sCap cs c5 a k mc news (by rw [his];exact hnl) hnews h1 hroom hfit);rw [his]at hr hfit;have hj:=sW (rest:=cs.toList.drop (B.n*(T B.ty).size+news.length)) hol hnl hels h2
   have hsz:(cs.toList.take (B.n*(T B.ty).size)++news++cs.toList.drop (B.n*(T B.ty).size+news.length)).toArray.size=cs.size:=by
    simp only [List.size_toArray,List.length_append,hol,List.length_drop,Array.length_toList];omega
   have hle0:iP ρ (mZ ρ id { q with n:=B.n+k}):=by
    intro b p hp;by_cases hb:b=id
    ·subst hb;rw [hq]at hp;cases hp;refine ⟨_,aU _ _ _,by simp only;omega,fun e=>?_⟩;cases q;simp_all
    ·exact ⟨p,by rw [aZ _ _ hb,hp],Nat.le_refl _,fun _=>rfl⟩
   have hch:=dR.change (B':={ B with n:=B.n+k,get:=lZ B.n k B.get h}) (w':=w.setRow q.b (cs.toList.take (B.n*(T B.ty).size)++news++cs.toList.drop (B.n*(T B.ty).size+news.length)).toArray) hw hm hq c5 rfl rfl (by simp only;omega) hsz
    (by rw [hsz];simp only;rw [Nat.add_mul];omega) (setRow_heap w q.b cs _ B.ty (0,0) c5) (fun b _ hb=>setRow_other w q.b b _ hb)
    (
     fun j hj=>by
     have:B.fz*(T B.ty).size≤B.n*(T B.ty).size:=Nat.mul_le_mul_right _ c10;simp only [List.getElem?_toArray];rw [List.append_assoc,List.getElem?_append_left (by omega),List.getElem?_take,if_pos (by omega),Array.getElem?_toList])
    (
     fun i hi=>by
     obtain ⟨seg,a,b,d,f⟩:=hj i hi;exact ⟨seg,a.mono (iQ.refl _) hle0,b,d,fun o ho=>by simpa using f o ho⟩)
   refine ⟨_,_,I,_,hr,.inl ⟨_,rfl,.one ⟨[_],.own (ρ:=mZ ρ id { q with n:=B.n+k}) _ (aU _ _ _) (Nat.le_refl _) rfl (fun _=>⟨sCap,?_⟩),rfl⟩⟩,?_,by simpa [je]using hch.2⟩
   ·refine ⟨by simp [bZ],hroom,hcm,by omega,by simp only [c2,Nat.zero_add];omega,fun _=>by simp only [c2,Nat.zero_add];exact hlim,fun k hk=>by cases hk⟩
   ·refine Ev.change hw hq hch.1 (fun b p hp=>?_) (fun b _ hb=>setRow_other w q.b b _ hb) (by simp) rfl rfl ⟨rfl,by first | exact Nat.le_refl _ | exact Nat.le_succ _⟩;by_cases hb:b=id
    ·subst hb;rw [aU]at hp;cases hp;exact ⟨_,q,hq,rfl⟩
    ·rw [aZ _ _ hb]at hp;exact ⟨b,p,hp,rfl⟩
 ·
   have hge:=iZ w (B.n+k) sCap B.ty;have hr:=hrun _ _ (run_append_grow w t ty B.ty i z ht hi hz ⟨q.b,0,none⟩ B.n sCap (cs.toList.take (B.n*(T B.ty).size)) (by rw [his];exact hol)
    (
     fun j v hv=>by
     rw [fA,Nat.zero_add];rw [List.getElem?_take]at hv;split at hv
     ·simp only [World.cell?,c5];simpa using hv
     ·cases hv) a k mc news (by rw [his];exact hnl) hnews (by omega) (by omega) (growslice_fits (by omega) hby))
   have hj:=sW (rest:=(Builtin.zeroCells z.cells (grownCap w (B.n+k) sCap B.ty - (B.n+k))).toList) hol hnl hels h2;have hsize:((cs.toList.take (B.n*(T B.ty).size)).toArray++news.toArray++Builtin.zeroCells z.cells (grownCap w (B.n+k) sCap B.ty - (B.n+k))).size=grownCap w (B.n+k) sCap B.ty*(T B.ty).size:=by
    simp only [Array.size_append,List.size_toArray,hol,hnl,dZ,hzs,← Nat.add_mul];congr 1;omega
   have hle0:iP ρ (mZ ρ id ⟨w.heap.size,B.ty,B.n+k,((cs.toList.take (B.n*(T B.ty).size)).toArray++news.toArray++Builtin.zeroCells z.cells (grownCap w (B.n+k) sCap B.ty - (B.n+k))).size⟩):=by
    intro b p hp;by_cases hb:b=id
    ·subst hb;rw [hq]at hp;cases hp;exact ⟨_,aU _ _ _,by simp only;omega,fun e=>by simp only at e;omega⟩
    ·exact ⟨p,by rw [aZ _ _ hb,hp],Nat.le_refl _,fun _=>rfl⟩
   have hmv:=dR.move (B':={ B with n:=B.n+k,get:=lZ B.n k B.get h}) (b:=w.heap.size) (w':=w.drew.alloc (.cells ((cs.toList.take (B.n*(T B.ty).size)).toArray++news.toArray++Builtin.zeroCells z.cells (grownCap w (B.n+k) sCap B.ty - (B.n+k))) B.ty))
    hw hm hq (Nat.le_refl _) (fun r hr=>bF w.drew _ hr) (dF w.drew _) c4 (by simp only;rw [hsize];exact Nat.mul_le_mul_right _ hge) (by simp only;omega) (by simp only;omega)
    (
     fun i hi=>by
     obtain ⟨seg,a,b,d,f⟩:=hj i hi;refine ⟨seg,a.mono (iQ.refl _) hle0,b,d,fun o ho=>?_⟩;have:=f o ho
     rw [← this];simp [← Array.getElem?_toList])
   rcases hmv with hmv | hmv
   case inr=>exact absurd ⟨by simp,rfl,rfl,rfl,Nat.le_succ _⟩ hmv
   refine ⟨_,_,I,_,hr,.inl ⟨_,rfl,.one ⟨[_],.own _ (aU _ _ _) (Nat.le_refl _) rfl (fun _=>⟨grownCap w (B.n+k) sCap B.ty,?_⟩),rfl⟩⟩,hmv.2.2,by simpa [je]using hmv.2.1⟩;exact ⟨by simp [bZ],hge,iV w _ _ _ h63,by omega,by simp only [hsize,Nat.zero_add];exact Nat.le_refl _,fun _=>by simp only [hsize,Nat.zero_add],fun k hk=>by cases hk⟩
theorem vO (hT:TOK P T N) {I:Imm} {ρ:Pl} {m:Id→Option Ob} {w:World} (hw:dR T N I ρ m w) {o:Oper} {id:Id} {B:Blk} {k:Nat} {h:Nat→AV} {c:Option Prop} {f:List Id} {news:List Value} {a:Addr} {mc:Nat} {t ty:Nat} {z:Value} {i:TypeInfo}
 (hm:m id=some (.cells B)) (hB:B.n=0) (he:B.ty<N) (ht:P.underlying t=some (.slice B.ty)) (hi:P.info? B.ty=some i) (hz:i.zero=some z) (his:i.size=(T B.ty).size) (hzs:z.cells.size=(T B.ty).size)
 (hnl:news.length=k*(T B.ty).size) (hnews:∀ (j:Nat) (u:Value),news[j]? = some u→w.cell? (a.add j)=some u)
 (hk:0<k) (h63:k<2 ^ 63) (hby:k*i.bytes≤140737488355328)
 (h2:∀ i,i<k → ∃ seg,Rep T N I ρ (h i) seg∧fit T B.ty (h i)=true∧seg.length=(T B.ty).size ∧ ∀ o,o<(T B.ty).size→news[i*(T B.ty).size+o]? = seg[o]?)
 {run:World→Result Next} (hrun:∀ v w',(Builtin.append_ #[t,t] ty #[.slice none 0 0,.slice (some a) k mc]).run P w = .ok v w'→run w = .ok (.value v) w') :
 Did P T N o I ρ m ⟨.own id (B.n+k) 0 (B.n+k) none,[(id,.cells { B with n:=B.n+k,get:=lZ B.n k B.get h})],f,c⟩ run w:=by
 obtain ⟨ty',n',g',fz'⟩:=B;simp only at hB hnl h2 he ht hi his hzs;subst hB;have hge:=iZ w k 0 ty'
 have hr:=hrun _ _ (run_append_nil (P:=P) w t ty ty' i z ht hi hz a k mc news (by rw [his];exact hnl) hnews hk (by omega) (by omega));rcases hw.cells id _ hm with ⟨h1,h3,h4,_⟩ | ⟨q,cs0,c1,c2,c3,c4,c5,c6,c7,c8,c9,c10⟩
 ·simp only at h4;subst h4;have:=iL (o:=o) (n:=0) (k:=k) (cap:=grownCap w k 0 ty') (g:=g') (h:=h) (c:=c) (f:=f) (olds:=[]) (news:=news) (rest:=Builtin.zeroCells z.cells (grownCap w k 0 ty' - k)) (run:=run) hT hw he h1 (by simp) hnl (by omega) (iV w _ _ _ h63)
   (by simp [dZ,hzs]) (fun i hi=>absurd hi (by simp)) h2 (by simpa using hr)
  exact this
 ·simp only at c10 c3;have hj:=sW (rest:=(Builtin.zeroCells z.cells (grownCap w k 0 ty' - k)).toList) (g:=g') (n:=0) (olds:=[]) (by simp) hnl (fun i hi=>absurd hi (by simp)) h2
  have hsize:(news.toArray++Builtin.zeroCells z.cells (grownCap w k 0 ty' - k)).size=grownCap w k 0 ty'*(T ty').size:=by
   simp only [Array.size_append,List.size_toArray,hnl,dZ,hzs,← Nat.add_mul];congr 1;omega
  have hle0:iP ρ (mZ ρ id ⟨w.heap.size,ty',0+k,(news.toArray++Builtin.zeroCells z.cells (grownCap w k 0 ty' - k)).size⟩):=by
   intro b p hp;by_cases hb:b=id
   ·subst hb;rw [c1]at hp;cases hp;exact ⟨_,aU _ _ _,by rw [c3];exact Nat.zero_le _,fun e=>by rw [c3]at e;simp only at e;omega⟩
   ·exact ⟨p,by rw [aZ _ _ hb,hp],Nat.le_refl _,fun _=>rfl⟩
  have hmv:=dR.move (B':=⟨ty',0+k,lZ 0 k g' h,fz'⟩) (b:=w.heap.size) (w':=w.drew.alloc (.cells (news.toArray++Builtin.zeroCells z.cells (grownCap w k 0 ty' - k)) ty'))
   hw hm c1 (Nat.le_refl _) (fun r hr=>bF w.drew _ hr) (dF w.drew _) he (by simp only;rw [hsize];exact Nat.mul_le_mul_right _ (by omega)) (by simp only;omega) (by simp only;omega)
   (
    fun i hi=>by
    obtain ⟨seg,a,b,d,f⟩:=hj i hi;refine ⟨seg,a.mono (iQ.refl _) hle0,b,d,fun o ho=>?_⟩;have:=f o ho
    rw [← this];simp [← Array.getElem?_toList])
  rcases hmv with hmv | hmv
  case inr=>exact absurd ⟨by simp,rfl,rfl,rfl,Nat.le_succ _⟩ hmv
  refine ⟨_,_,I,_,hr,.inl ⟨_,rfl,.one ⟨[_],.own _ (aU _ _ _) (Nat.le_refl _) rfl (fun _=>⟨grownCap w k 0 ty',?_⟩),rfl⟩⟩,hmv.2.2,by simpa [je]using hmv.2.1⟩;exact ⟨by simp [bZ],by simp only [Nat.zero_add];exact hge,iV w _ _ _ h63,by omega,by simp only [hsize,Nat.zero_add];exact Nat.le_refl _,fun _=>by simp only [hsize,Nat.zero_add],fun k hk=>by cases hk⟩
end
end Go.Ab
