/- Part 11 of a proof of a statement about the given program: an abstract machine over the model, proved sound, and contracts of the functions that the statement reaches; the last part proves the statement, for every input, with no condition. -/
import Derived.Test.YtcfelhfcjdofoaaGreatDoorX9
set_option autoImplicit false
set_option linter.unusedSimpArgs false
set_option linter.unusedVariables false
namespace Go.Ab
section
variable {P:Program} {T:Nat->TI} {N:Nat}
theorem iQ {α:Type} (segs:Nat->List α) {n sz:Nat} (h:∀ i,i<n->(segs i).length=sz):((List.range n).flatMap segs).length=n*sz:=by
 rw [gI,<- pF];exact gZ λi hi=>h i hi
theorem jw {α:Type} (segs:Nat->List α) {n sz:Nat} (h:∀ i,i<n->(segs i).length=sz) {i o:Nat} (hi:i<n) (a:o<sz):((List.range n).flatMap segs)[i*sz+o]? = (segs i)[o]? := by
 have e:i*sz=iW (λi=>(segs i).length) i:=by rw [<- pF];exact gZ λj b=>(h j (by omega)).symm
 rw [e];exact vW segs hi (by rw [h i hi];exact a)
theorem div_lt {n sz j:Nat} (hsz:0<sz) (h:j<n*sz):j / sz<n:=by rw [Nat.div_lt_iff_lt_mul hsz];exact h
theorem mQ {α:Type} (segs:Nat->List α) {n sz:Nat} (hsz:0<sz) (h:∀ i,i<n->(segs i).length=sz) {j:Nat} (b:j<n*sz):((List.range n).flatMap segs)[j]? = (segs (j / sz))[j % sz]? := by
 have a:=jw segs h (i:=j / sz) (o:=j % sz) (div_lt hsz b) (aeU _ hsz);rw [<- a];congr 1;rw [aeo];exact (aeJ j sz).symm
theorem yA (t ty e:TypeId) (i:TypeInfo) (ht:P.underlying t=some (.slice e)) (hi:P.info? e=some i) (b:Option Addr) (l c:Nat) (hl:l<=c) (a:Addr) (d:Nat) (w:World) :
 (Builtin.append_ #[t,t] ty #[.slice b l c,.slice (some a) 0 d]).run P w = .ok (.slice b l c) w/\(Builtin.append_ #[t,t] ty #[.slice b l c,.slice none 0 0]).run P w = .ok (.slice b l c) w:=by
 have f:=run_firstCells_some (P:=P) w i.size 0 a 0 d [] (by simp) (by simp);constructor <;> cases b <;> simp [Builtin.append_,run_underlying ht,sizeOf,typeInfo,hi,Builtin.lenOf,hl,f,run_firstCells_none,storeCells]
def aaX (P:Program) (t ty:Nat) (a:Addr) (n c:Nat) (y:Value):Prop :=
 ∀ (b:Option Addr) (l k:Nat) (w w':World) (v:Value),l<=k->(Builtin.append_ #[t,t] ty #[.slice b l k,.slice (some a) n c]).run P w = .ok v w'->(Builtin.append_ #[t,t] ty #[.slice b l k,y]).run P w = .ok v w'
def Ub (a:Addr) (n c:Nat) (y:Value):Prop:=y = .slice (some a) n c\/(y = .slice none 0 0/\n=0)
theorem Ub.as {a:Addr} {n c:Nat} {y:Value} (h:Ub a n c y) {t e:Nat} (ht:P.underlying t=some (.slice e)) {j:TypeInfo} (g:P.info? e=some j) (ty:Nat):aaX P t ty a n c y:=by
 intro b l k w w' v d f;rcases h with rfl | ⟨rfl,rfl⟩
 ·exact f
 have i:=yA (P:=P) t ty e j ht g b l k d a c w;rw [i.1]at f;rw [i.2];exact f
theorem yN (hT:jf P T N) {I:fG} {ρ:Pl} {m:Id->Option Ob} {w:World} (hw:dW T N I ρ m w) {x:AV} {y:Value} {e:Nat} (he:0<(T e).size) {r:Nat×(Nat->AV)×List Id} (hx:dQ T N I ρ x y) (h:IQ T m e x=some r) (a8:ay (nX m x)) :
 ∃ (a:Addr) (c:Nat) (news:List Value),Ub a r.1 c y/\news.length=r.1*(T e).size/\(∀ (j:Nat) (u:Value),news[j]? = some u->w.cell? (a.add j)=some u)/\(∀ u∈news,u.oneCell'=true)/\r.1<2 ^ 63 /\
  ∀ i,i<r.1 -> ∃ seg,Rep T N I ρ (r.2.1 i) seg/\fit T e (r.2.1 i)=true/\seg.length=(T e).size /\ ∀ o,o<(T e).size->news[i*(T e).size+o]? = seg[o]? := by
 unfold IQ at h;split at h
 ·rename_i u full n g;obtain ⟨hb,h⟩:=aB h;cases h;have e1:=abM hb
  subst e1;rcases Rep.row_inv hx with ⟨⟨ad,rfl⟩,rfl,hN⟩ | ⟨b,off,cap,segs,hN,hc,hm,hfull,h1,h2,h3,h4,rfl⟩
  ·cases ad with
   | none=>refine ⟨⟨0,0,none⟩,0,[],.inr ⟨rfl,rfl⟩,by simp,by simp,by simp,by simp,λi hi=>absurd hi (by simp)⟩
   | some ad=>refine ⟨ad,0,[],.inl rfl,by simp,by simp,by simp,by simp,λi hi=>absurd hi (by simp)⟩
  refine ⟨⟨b,off,none⟩,cap,(List.range n).flatMap segs,.inl rfl,iQ segs h3,?_,?_,by simp only;omega,λi hi=>⟨segs i,(h1 i hi).mono (iJ.refl _) (Fq _),h2 i hi,h3 i hi,λo ho=>jw segs h3 hi ho⟩⟩
  ·intro j v f;have z:j<n*(T u).size:=by rw [<- iQ segs h3];exact (List.getElem?_eq_some_iff.1 f).1
   rw [mQ segs he h3 z]at f;rw [jk];have hk:=h4 (j / (T u).size) (div_lt he z) (j % (T u).size) (aeU _ he)
   rw [f,show j / (T u).size*(T u).size+j % (T u).size=j from by rw [aeo];exact aeJ j _]at hk;exact hw.imm _ _ _ hk
  ·intro v f;simp only [aeL,adB]at f;obtain ⟨i,hi,f⟩:=f;exact (h1 i hi).cells_one v f
 ·rename_i id n i len cap;split at h
  ·rename_i B hm;obtain ⟨hb,h⟩:=aB h;rw [show (λj=>B.get (j+i))=λj=>B.get (i+j)from funext λj=>by rw [ad9]]at h
   cases h;have e1:B.n=n:=by simpa [nX,nC,hm,ay]using a8
   have e2:=abM hb;rcases Rep.own_inv hx with ⟨rfl,rfl,rfl,rfl⟩ | ⟨q,hq,hn,hx⟩
   ·refine ⟨⟨0,0,none⟩,0,[],.inr ⟨rfl,rfl⟩,by simp,by simp,by simp,by simp,λi hi=>absurd hi (by simp)⟩
   obtain ⟨q',cs,c1,c2,c3,c4,c5,c6,c7,c8,c9,b0⟩:=hw.cellsAt hm hq;rw [hq]at c1;cases c1;obtain ⟨c,rfl,g1,g2,g3,g4,g5,g6⟩:=hx (by rw [c3,e1]);subst e2;have hex:∀ k,∃ seg,k<len->Rep T N I ρ (B.get (i+k)) seg/\fit T B.ty (B.get (i+k))=true/\seg.length=(T B.ty).size /\ ∀ o,o<(T B.ty).size->cs[(i+k)*(T B.ty).size+o]? = seg[o]? := by
    intro k;by_cases hk:k<len
    ·obtain ⟨seg,hs⟩:=c8 (i+k) (by omega);exact ⟨seg,λ_=>hs⟩
    ·exact ⟨[],λh=>absurd h hk⟩
   have s:=λk=>adk (hex k);generalize a1:(λk=>Classical.choose (hex k))=segs at s;have d:∀ k,k<len->Rep T N I ρ (B.get (i+k)) (segs k)/\fit T B.ty (B.get (i+k))=true/\(segs k).length=(T B.ty).size /\ ∀ o,o<(T B.ty).size->cs[(i+k)*(T B.ty).size+o]? = (segs k)[o]? := by
    intro k hk;have h1:=s k hk
    rw [<- a1];exact h1
   have hsz:∀ k,k<len->(segs k).length=(T B.ty).size:=λk hk=>(d k hk).2.2.1;refine ⟨⟨q.b,i*(T q.ty).size,none⟩,c,(List.range len).flatMap segs,.inl rfl,iQ segs hsz,?_,?_,by simp only;omega,λk hk=>⟨segs k,(d k hk).1,(d k hk).2.1,hsz k hk,λo ho=>jw segs hsz hk ho⟩⟩
   ·intro j v f;have z:j<len*(T B.ty).size:=by rw [<- iQ segs hsz];exact (List.getElem?_eq_some_iff.1 f).1
    rw [mQ segs he hsz z]at f;rw [jk,c2];have hk:=(d (j / (T B.ty).size) (div_lt he z)).2.2.2 (j % (T B.ty).size) (aeU _ he)
    rw [f,adD,adK,show j / (T B.ty).size*(T B.ty).size+j % (T B.ty).size=j from by rw [aeo];exact aeJ j _]at hk;simpa [World.cell?,c5]using hk
   ·intro v f;simp only [aeL,adB]at f;obtain ⟨k,hk,f⟩:=f;exact (d k hk).1.cells_one v f
  ·cases h
 ·rename_i id n i p lo len hi;split at h
  ·rename_i B hm;obtain ⟨hb,h⟩:=aB h;cases h;have a7:=uY hb
   have e1:B.n=n:=by simpa [nX,nC,hm,ay]using a8
   obtain ⟨q,hq,hn,hx⟩:=Rep.arr_inv hx;obtain ⟨q',cs,c1,c2,c3,c4,c5,c6,c7,c8,c9,b0⟩:=hw.cellsAt hm hq;rw [hq]at c1;cases c1;obtain ⟨b2,ta,ka,l,g1,g2,g3,g4,g5,g6,rfl⟩:=hx (by rw [c3,e1]);rw [<- c2,lX p g1]at a7;have b1:l=e:=by simpa [aZ,g3]using a7
   subst b1;have hex:∀ k,∃ seg,k<len->Rep T N I ρ (((B.get i).at p).at [lo+k]) seg/\fit T l (((B.get i).at p).at [lo+k])=true/\seg.length=(T l).size /\
    ∀ o,o<(T l).size->w.cell? ⟨q.b,i*(T q.ty).size+aH T q.ty p+lo*(T l).size+(k*(T l).size+o),none⟩=seg[o]? := by
    intro k;by_cases hk:k<len
    ·obtain ⟨seg,s1,s2,s3,s4⟩:=ptr_cells hw hm hq (i:=i) (p:=p++[lo+k]) (t:=l) (by rw [e1];exact b2) (by rw [<- c2,lX p g1];simp [aZ,g3]) (by rw [<- c2];exact nM p g1 g2 (by simp [pathIn,g3];omega));rw [FP]at s1 s2;refine ⟨seg,λ_=>⟨s1,s2,s3,λo ho=>?_⟩⟩;rw [<- s4 o ho,l9 p g1];congr 2;simp only [aH,g3,adD];omega
    ·exact ⟨[],λh=>absurd h hk⟩
   have s:=λk=>adk (hex k);generalize a1:(λk=>Classical.choose (hex k))=segs at s;have d:∀ k,k<len->Rep T N I ρ (((B.get i).at p).at [lo+k]) (segs k)/\fit T l (((B.get i).at p).at [lo+k])=true/\(segs k).length=(T l).size /\
    ∀ o,o<(T l).size->w.cell? ⟨q.b,i*(T q.ty).size+aH T q.ty p+lo*(T l).size+(k*(T l).size+o),none⟩=(segs k)[o]? := by
    intro k hk;have h1:=s k hk
    rw [<- a1];exact h1
   have hsz:∀ k,k<len->(segs k).length=(T l).size:=λk hk=>(d k hk).2.2.1;refine ⟨⟨q.b,i*(T q.ty).size+aH T q.ty p+lo*(T l).size,none⟩,hi - lo,(List.range len).flatMap segs,.inl rfl,iQ segs hsz,?_,?_,by simp only;omega,λk hk=>⟨segs k,(d k hk).1,(d k hk).2.1,hsz k hk,λo ho=>jw segs hsz hk ho⟩⟩
   ·intro j v f;have z:j<len*(T l).size:=by rw [<- iQ segs hsz];exact (List.getElem?_eq_some_iff.1 f).1
    rw [mQ segs he hsz z]at f;rw [jk];have hk:=(d (j / (T l).size) (div_lt he z)).2.2.2 (j % (T l).size) (aeU _ he)
    rw [f,show j / (T l).size*(T l).size+j % (T l).size=j from by rw [aeo];exact aeJ j _]at hk;exact hk
   ·intro v f;simp only [aeL,adB]at f;obtain ⟨k,hk,f⟩:=f;exact (d k hk).1.cells_one v f
  ·cases h
 ·cases h
theorem Aj (hT:jf P T N) {I:fG} {ρ:Pl} {m:Id->Option Ob} {w:World} (hw:dW T N I ρ m w) {x:AV} {y:Value} {e:Nat} (he:0<(T e).size) {r:Nat×(Nat->AV)×List Id} (hx:dQ T N I ρ x y) (h:IQ T m e x=some r) {t:Nat} (b:ay (nX m x)) (ht:P.underlying t=some (.slice e)) {k:TypeInfo} (d:P.info? e=some k) (ty:Nat) :
 ∃ (a:Addr) (c:Nat) (news:List Value),aaX P t ty a r.1 c y/\news.length=r.1*(T e).size/\(∀ (j:Nat) (u:Value),news[j]? = some u->w.cell? (a.add j)=some u)/\(∀ u∈news,u.oneCell'=true)/\r.1<2 ^ 63 /\
  ∀ i,i<r.1 -> ∃ seg,Rep T N I ρ (r.2.1 i) seg/\fit T e (r.2.1 i)=true/\seg.length=(T e).size /\ ∀ o,o<(T e).size->news[i*(T e).size+o]? = seg[o]? := by
 obtain ⟨a,c,news,f,g⟩:=yN (P:=P) hT hw he hx h b;exact ⟨a,c,news,f.as ht d ty,g⟩
theorem Hl {n k i:Nat} {g h:Nat->AV} (hi:i<n):ql n k g h i=g i:=by
 unfold ql;split
 ·simp only [WH,jQ (show ¬ i=n by omega),ado]
 (have:Nat.blt i n=true:=by simpa [adR]using hi);simp only [ab1,this,adq]
theorem CS {n k i:Nat} {g h:Nat->AV} (hi:n<=i) (hk:i<n+k):ql n k g h i=h (i - n):=by
 unfold ql;split
 ·(have:i=n:=by omega);subst this;simp only [WH,aeT,adq,Nat.sub_self]
 (have:Nat.blt i n=false:=by cases e:Nat.blt i n with| false=>rfl| true=>(have a:i<n:=by simpa [adR]using e);omega);simp only [ab1,this,ado]
theorem CQ {I:fG} {ρ:Pl} {e n k:Nat} {g h:Nat->AV} {olds news rest:List Value} (r:olds.length=n*(T e).size) (q:news.length=k*(T e).size)
 (l:∀ i,i<n -> ∃ seg,Rep T N I ρ (g i) seg/\fit T e (g i)=true/\seg.length=(T e).size /\ ∀ o,o<(T e).size->olds[i*(T e).size+o]? = seg[o]?)
 (m:∀ i,i<k -> ∃ seg,Rep T N I ρ (h i) seg/\fit T e (h i)=true/\seg.length=(T e).size /\ ∀ o,o<(T e).size->news[i*(T e).size+o]? = seg[o]?) :
 ∀ i,i<n+k -> ∃ seg,Rep T N I ρ (ql n k g h i) seg/\fit T e (ql n k g h i)=true/\seg.length=(T e).size /\ ∀ o,o<(T e).size->(olds++news++rest)[i*(T e).size+o]? = seg[o]? := by
 intro i hi;rcases adf i n with f | f
 ·obtain ⟨seg,a,b,c,d⟩:=l i f;rw [Hl f];refine ⟨seg,a,b,c,λo j=>?_⟩;have:(i+1)*(T e).size<=n*(T e).size:=abZ _ f
  rw [adH]at this;rw [adu,acV (by omega),d o j]
 ·obtain ⟨seg,a,b,c,d⟩:=m (i - n) (by omega);rw [CS f hi];refine ⟨seg,a,b,c,λo j=>?_⟩;have s:(i - n)*(T e).size+n*(T e).size=i*(T e).size:=by rw [<- adD];congr 1;omega
  have p:(i - n+1)*(T e).size<=k*(T e).size:=abZ _ (by omega);rw [adH]at p;rw [adu,adb (by omega),acV (by omega),<- d o j];congr 1;omega
theorem oM {G:D} (h:Bj G=true):G.tr:=by
 cases G with
 | always=>trivial
 | when g=>cases g with
  | true=>rfl
  | false=>cases h
theorem vK {z:Array Value} {n sz i o:Nat} (d:z.size=sz) (c:o<sz) (hi:i*sz+o<n):(madeCells z n)[i*sz+o]? = z.toList[o]? := by
 have a:(i*sz+o) % z.size=o:=by rw [d,aeo,Nat.mul_add_mod];exact aes c
 have b:o<z.size:=by omega
 simp [madeCells,hi,a,b]
theorem nT (hT:jf P T N) {I:fG} {ρ:Pl} {m:Id->Option Ob} {w:World} (hw:dW T N I ρ m w) {o:Oper} {id:Id} {e n k cap:Nat} {g h:Nat->AV} {c:Option Prop} {f:List Id} {olds news:List Value} {rest:Array Value}
 (he:e<N) (hn:ρ id=none) (s:olds.length=n*(T e).size) (p:news.length=k*(T e).size) (l:n+k<=cap) (v:cap<2 ^ 63) (t:rest.size=(cap - (n+k))*(T e).size)
 (h1:∀ i,i<n -> ∃ seg,Rep T N I ρ (g i) seg/\fit T e (g i)=true/\seg.length=(T e).size /\ ∀ o,o<(T e).size->olds[i*(T e).size+o]? = seg[o]?)
 (h2:∀ i,i<k -> ∃ seg,Rep T N I ρ (h i) seg/\fit T e (h i)=true/\seg.length=(T e).size /\ ∀ o,o<(T e).size->news[i*(T e).size+o]? = seg[o]?)
 {run:World->Result Next} (u:run w = .ok (.value (.slice (some ⟨w.heap.size,0,none⟩) (n+k) cap)) (w.drew.alloc (.cells (olds.toArray++news.toArray++rest) e))) :
 Did P T N o I ρ m ⟨.own id (n+k) 0 (n+k) none,[(id,.cells ⟨e,n+k,ql n k g h,0⟩)],f,c⟩ run w:=by
 have j:(olds.toArray++news.toArray++rest).size=cap*(T e).size:=by
  simp only [Array.size_append,aea,s,p,t,<- adD];congr 1;omega
 have hj:=CQ (rest:=rest.toList) s p h1 h2;have y:iI ρ (nI ρ id ⟨w.heap.size,e,n+k,(olds.toArray++news.toArray++rest).size⟩):=by
  intro a q z;have ha:a≠id:=by rintro rfl;rw [hn]at z;cases z
  exact ⟨q,by rw [dP _ _ ha,z],aa4 _,λ_=>rfl⟩
 have x:=dW.fresh (w':=w.drew.alloc (.cells (olds.toArray++news.toArray++rest) e)) (B:=⟨e,n+k,ql n k g h,0⟩) (b:=w.heap.size) (cs:=olds.toArray++news.toArray++rest) hw hn (aa4 _)
  (λr t=>fH w.drew _ t) (iZ w.drew _) he (by simp only;rw [j];exact abZ _ l) rfl
  (
   λi hi=>by
   obtain ⟨seg,a,b,d,f⟩:=hj i hi;refine ⟨seg,a.mono (iJ.refl _) y,b,d,λo ho=>?_⟩;have:=f o ho
   rw [<- this];simp [<- adi])
 refine ⟨_,_,I,_,u,.inl ⟨_,rfl,.one ⟨[_],.own (ρ:=nI ρ id ⟨w.heap.size,e,n+k,(olds.toArray++news.toArray++rest).size⟩) _ (dS _ _ _) (aa4 _) rfl (λ_=>⟨cap,?_⟩),rfl⟩⟩,?_,?_⟩
 ·refine ⟨by simp [fC],l,v,by omega,by simp only [j,acW];exact aa4 _,λ_=>by simp only [j,acW],λk hk=>by cases hk⟩
 ·exact Ev.fresh hn (aa4 _) (λr t=>fH w.drew _ t) (by simp) rfl rfl ⟨rfl,by first | exact aa4 _ | exact aeE _⟩
 ·simpa [iL]using x.2
theorem jH (z:Array Value) (n:Nat):(Builtin.zeroCells z n).size=n*z.size:=by simp [Builtin.zeroCells]
theorem nS (w:World) (need old:Nat) (e:TypeId) (h:need<2 ^ 63):grownCap w need old e<2 ^ 63:=by
 have a:=aeU (w.tape w.drawn (.appendCap need old e)) (show 0<2 ^ 63 - need by omega);simp only [grownCap,Question.cut]at *;omega
theorem og (w:World) (need old:Nat) (e:TypeId):need<=grownCap w need old e:=by simp [grownCap,Question.cut]
theorem Ir (hT:jf P T N) {I:fG} {ρ:Pl} {m:Id->Option Ob} {w:World} (hw:dW T N I ρ m w) {o:Oper} {id:Id} {B:zQ} {q:Place} {k g:Nat} {h:Nat->AV} {c:Option Prop} {f:List Id} {news:List Value} {a:Addr} {mc:Nat} {t ty:Nat} {z:Value} {i:TypeInfo}
 (hm:m id=some (.cells B)) (hq:ρ id=some q) (ht:P.underlying t=some (.slice B.ty)) (hi:P.info? B.ty=some i) (hz:i.zero=some z) (a0:i.size=(T B.ty).size) (b9:z.cells.size=(T B.ty).size)
 (d1:B.n<=g) (b8:g<2 ^ 63) (a6:g*(T B.ty).size=q.lim) (y:news.length=k*(T B.ty).size) (a2:∀ (j:Nat) (u:Value),news[j]? = some u->w.cell? (a.add j)=some u) (h1:∀ u∈news,u.oneCell'=true)
 (b6:B.n+k<2 ^ 63) (b7:(B.n+k)*i.bytes<=140737488355328) (d2:0<(T B.ty).size)
 (h2:∀ i,i<k -> ∃ seg,Rep T N I ρ (h i) seg/\fit T B.ty (h i)=true/\seg.length=(T B.ty).size /\ ∀ o,o<(T B.ty).size->news[i*(T B.ty).size+o]? = seg[o]?)
 {run:World->Result Next} (a8:∀ v w',(Builtin.append_ #[t,t] ty #[.slice (some ⟨q.b,0,none⟩) B.n g,.slice (some a) k mc]).run P w = .ok v w'->run w = .ok (.value v) w') :
 Did P T N o I ρ m ⟨.own id (B.n+k) 0 (B.n+k) none,[(id,.cells { B with n:=B.n+k,get:=ql B.n k B.get h})],f,c⟩ run w:=by
 obtain ⟨q',cs,c1,c2,c3,c4,c5,c6,c7,c8,c9,b5⟩:=hw.cellsAt hm hq;rw [hq]at c1;cases c1;have a3:(cs.toList.take (B.n*(T B.ty).size)).length=B.n*(T B.ty).size:=by rw [adh,ael,c6];omega
 have a4:∀ i,i<B.n -> ∃ seg,Rep T N I ρ (B.get i) seg/\fit T B.ty (B.get i)=true/\seg.length=(T B.ty).size /\ ∀ o,o<(T B.ty).size->(cs.toList.take (B.n*(T B.ty).size))[i*(T B.ty).size+o]? = seg[o]? := by
  intro i hi;obtain ⟨seg,e1,e2,e3,e4⟩:=c8 i hi;refine ⟨seg,e1,e2,e3,λo ho=>?_⟩;have:(i+1)*(T B.ty).size<=B.n*(T B.ty).size:=abZ _ hi
  rw [adH]at this;rw [adL,aaW (by omega),adi,e4 o ho]
 by_cases l:B.n+k<=g
 ·
   have a5:B.n*i.size+news.length<=cs.size:=by
    rw [a0,y,<- adD,c6,<- a6];exact abZ _ l
   have hr:=a8 _ _ (run_append_room w t ty B.ty i ht hi q.b B.n g cs c5 a k mc news (by rw [a0];exact y) a2 h1 l a5);rw [a0]at hr a5;have hj:=CQ (rest:=cs.toList.drop (B.n*(T B.ty).size+news.length)) a3 y a4 h2
   have hsz:(cs.toList.take (B.n*(T B.ty).size)++news++cs.toList.drop (B.n*(T B.ty).size+news.length)).toArray.size=cs.size:=by
    simp only [aea,adp,a3,aeM,ael];omega
   have a1:iI ρ (nI ρ id { q with n:=B.n+k}):=by
    intro b p hp;by_cases hb:b=id
    ·subst hb;rw [hq]at hp;cases hp;refine ⟨_,dS _ _ _,by simp only;omega,λe=>?_⟩;cases q;simp_all
    ·exact ⟨p,by rw [dP _ _ hb,hp],aa4 _,λ_=>rfl⟩
   have b0:=dW.change (B':={ B with n:=B.n+k,get:=ql B.n k B.get h}) (w':=w.setRow q.b (cs.toList.take (B.n*(T B.ty).size)++news++cs.toList.drop (B.n*(T B.ty).size+news.length)).toArray) hw hm hq c5 rfl rfl (by simp only;omega) hsz
    (by rw [hsz];simp only;rw [adD];omega) (setRow_heap w q.b cs _ B.ty (0,0) c5) (λb _ hb=>setRow_other w q.b b _ hb)
    (
     λj hj=>by
     have:B.fz*(T B.ty).size<=B.n*(T B.ty).size:=abZ _ b5;simp only [aeA];rw [adu,acV (by omega),adL,aaW (by omega),adi])
    (
     λi hi=>by
     obtain ⟨seg,a,b,d,f⟩:=hj i hi;exact ⟨seg,a.mono (iJ.refl _) a1,b,d,λo ho=>by simpa using f o ho⟩)
   refine ⟨_,_,I,_,hr,.inl ⟨_,rfl,.one ⟨[_],.own (ρ:=nI ρ id { q with n:=B.n+k}) _ (dS _ _ _) (aa4 _) rfl (λ_=>⟨g,?_⟩),rfl⟩⟩,?_,by simpa [iL]using b0.2⟩
   ·refine ⟨by simp [fC],l,b8,by omega,by simp only [c2,acW];omega,λ_=>by simp only [c2,acW];exact a6,λk hk=>by cases hk⟩
   ·refine Ev.change hw hq b0.1 (λb p hp=>?_) (λb _ hb=>setRow_other w q.b b _ hb) (by simp) rfl rfl ⟨rfl,by first | exact aa4 _ | exact aeE _⟩;by_cases hb:b=id
    ·subst hb;rw [dS]at hp;cases hp;exact ⟨_,q,hq,rfl⟩
    ·rw [dP _ _ hb]at hp;exact ⟨b,p,hp,rfl⟩
 ·
   have b1:=og w (B.n+k) g B.ty;have hr:=a8 _ _ (run_append_grow w t ty B.ty i z ht hi hz ⟨q.b,0,none⟩ B.n g (cs.toList.take (B.n*(T B.ty).size)) (by rw [a0];exact a3)
    (
     λj v hv=>by
     rw [jk,acW];rw [adL]at hv;split at hv
     ·simp only [World.cell?,c5];simpa using hv
     ·cases hv) a k mc news (by rw [a0];exact y) a2 (by omega) (by omega) (growslice_fits (by omega) b7))
   have hj:=CQ (rest:=(Builtin.zeroCells z.cells (grownCap w (B.n+k) g B.ty - (B.n+k))).toList) a3 y a4 h2;have s:((cs.toList.take (B.n*(T B.ty).size)).toArray++news.toArray++Builtin.zeroCells z.cells (grownCap w (B.n+k) g B.ty - (B.n+k))).size=grownCap w (B.n+k) g B.ty*(T B.ty).size:=by
    simp only [Array.size_append,aea,a3,y,jH,b9,<- adD];congr 1;omega
   have a1:iI ρ (nI ρ id ⟨w.heap.size,B.ty,B.n+k,((cs.toList.take (B.n*(T B.ty).size)).toArray++news.toArray++Builtin.zeroCells z.cells (grownCap w (B.n+k) g B.ty - (B.n+k))).size⟩):=by
    intro b p hp;by_cases hb:b=id
    ·subst hb;rw [hq]at hp;cases hp;exact ⟨_,dS _ _ _,by simp only;omega,λe=>by simp only at e;omega⟩
    ·exact ⟨p,by rw [dP _ _ hb,hp],aa4 _,λ_=>rfl⟩
   have x:=dW.move (B':={ B with n:=B.n+k,get:=ql B.n k B.get h}) (b:=w.heap.size) (w':=w.drew.alloc (.cells ((cs.toList.take (B.n*(T B.ty).size)).toArray++news.toArray++Builtin.zeroCells z.cells (grownCap w (B.n+k) g B.ty - (B.n+k))) B.ty))
    hw hm hq (aa4 _) (λr hr=>fH w.drew _ hr) (iZ w.drew _) c4 (by simp only;rw [s];exact abZ _ b1) (by simp only;omega) (by simp only;omega)
    (
     λi hi=>by
     obtain ⟨seg,a,b,d,f⟩:=hj i hi;refine ⟨seg,a.mono (iJ.refl _) a1,b,d,λo ho=>?_⟩;have:=f o ho
     rw [<- this];simp [<- adi])
   rcases x with x | x
   case inr=>exact absurd ⟨by simp,rfl,rfl,rfl,aeE _⟩ x
   refine ⟨_,_,I,_,hr,.inl ⟨_,rfl,.one ⟨[_],.own _ (dS _ _ _) (aa4 _) rfl (λ_=>⟨grownCap w (B.n+k) g B.ty,?_⟩),rfl⟩⟩,x.2.2,by simpa [iL]using x.2.1⟩;exact ⟨by simp [fC],b1,nS w _ _ _ b6,by omega,by simp only [s,acW];exact aa4 _,λ_=>by simp only [s,acW],λk hk=>by cases hk⟩
theorem E5 (hT:jf P T N) {I:fG} {ρ:Pl} {m:Id->Option Ob} {w:World} (hw:dW T N I ρ m w) {o:Oper} {id:Id} {B:zQ} {k:Nat} {h:Nat->AV} {c:Option Prop} {f:List Id} {news:List Value} {a:Addr} {mc:Nat} {t ty:Nat} {z:Value} {i:TypeInfo}
 (hm:m id=some (.cells B)) (hB:B.n=0) (he:B.ty<N) (ht:P.underlying t=some (.slice B.ty)) (hi:P.info? B.ty=some i) (hz:i.zero=some z) (a3:i.size=(T B.ty).size) (a1:z.cells.size=(T B.ty).size)
 (y:news.length=k*(T B.ty).size) (a0:∀ (j:Nat) (u:Value),news[j]? = some u->w.cell? (a.add j)=some u)
 (hk:0<k) (a2:k<2 ^ 63) (b5:k*i.bytes<=140737488355328)
 (h2:∀ i,i<k -> ∃ seg,Rep T N I ρ (h i) seg/\fit T B.ty (h i)=true/\seg.length=(T B.ty).size /\ ∀ o,o<(T B.ty).size->news[i*(T B.ty).size+o]? = seg[o]?)
 {run:World->Result Next} (a5:∀ v w',(Builtin.append_ #[t,t] ty #[.slice none 0 0,.slice (some a) k mc]).run P w = .ok v w'->run w = .ok (.value v) w') :
 Did P T N o I ρ m ⟨.own id (B.n+k) 0 (B.n+k) none,[(id,.cells { B with n:=B.n+k,get:=ql B.n k B.get h})],f,c⟩ run w:=by
 obtain ⟨l,n',g',a8⟩:=B;simp only at hB y h2 he ht hi a3 a1;subst hB;have b1:=og w k 0 l
 have hr:=a5 _ _ (run_append_nil (P:=P) w t ty l i z ht hi hz a k mc news (by rw [a3];exact y) a0 hk (by omega) (by omega));rcases hw.cells id _ hm with ⟨h1,h3,h4,_⟩ | ⟨q,b3,c1,c2,c3,c4,c5,c6,c7,c8,c9,a7⟩
 ·simp only at h4;subst h4;have:=nT (o:=o) (n:=0) (k:=k) (cap:=grownCap w k 0 l) (g:=g') (h:=h) (c:=c) (f:=f) (olds:=[]) (news:=news) (rest:=Builtin.zeroCells z.cells (grownCap w k 0 l - k)) (run:=run) hT hw he h1 (by simp) y (by omega) (nS w _ _ _ a2)
   (by simp [jH,a1]) (λi hi=>absurd hi (by simp)) h2 (by simpa using hr)
  exact this
 ·simp only at a7 c3;have hj:=CQ (rest:=(Builtin.zeroCells z.cells (grownCap w k 0 l - k)).toList) (g:=g') (n:=0) (olds:=[]) (by simp) y (λi hi=>absurd hi (by simp)) h2
  have s:(news.toArray++Builtin.zeroCells z.cells (grownCap w k 0 l - k)).size=grownCap w k 0 l*(T l).size:=by
   simp only [Array.size_append,aea,y,jH,a1,<- adD];congr 1;omega
  have a4:iI ρ (nI ρ id ⟨w.heap.size,l,0+k,(news.toArray++Builtin.zeroCells z.cells (grownCap w k 0 l - k)).size⟩):=by
   intro b p hp;by_cases hb:b=id
   ·subst hb;rw [c1]at hp;cases hp;exact ⟨_,dS _ _ _,by rw [c3];exact abO _,λe=>by rw [c3]at e;simp only at e;omega⟩
   ·exact ⟨p,by rw [dP _ _ hb,hp],aa4 _,λ_=>rfl⟩
  have x:=dW.move (B':=⟨l,0+k,ql 0 k g' h,a8⟩) (b:=w.heap.size) (w':=w.drew.alloc (.cells (news.toArray++Builtin.zeroCells z.cells (grownCap w k 0 l - k)) l))
   hw hm c1 (aa4 _) (λr hr=>fH w.drew _ hr) (iZ w.drew _) he (by simp only;rw [s];exact abZ _ (by omega)) (by simp only;omega) (by simp only;omega)
   (
    λi hi=>by
    obtain ⟨seg,a,b,d,f⟩:=hj i hi;refine ⟨seg,a.mono (iJ.refl _) a4,b,d,λo ho=>?_⟩;have:=f o ho
    rw [<- this];simp [<- adi])
  rcases x with x | x
  case inr=>exact absurd ⟨by simp,rfl,rfl,rfl,aeE _⟩ x
  refine ⟨_,_,I,_,hr,.inl ⟨_,rfl,.one ⟨[_],.own _ (dS _ _ _) (aa4 _) rfl (λ_=>⟨grownCap w k 0 l,?_⟩),rfl⟩⟩,x.2.2,by simpa [iL]using x.2.1⟩;exact ⟨by simp [fC],by simp only [acW];exact b1,nS w _ _ _ a2,by omega,by simp only [s,acW];exact aa4 _,λ_=>by simp only [s,acW],λk hk=>by cases hk⟩
end
end Go.Ab
