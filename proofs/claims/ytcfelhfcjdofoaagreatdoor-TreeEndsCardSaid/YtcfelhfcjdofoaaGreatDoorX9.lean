/- Part 10 of a proof of a statement about the given program: an abstract machine over the model, proved sound, and contracts of the functions that the statement reaches; the last part proves the statement, for every input, with no condition. -/
import Derived.Test.YtcfelhfcjdofoaaGreatDoorX8
set_option autoImplicit false
set_option linter.unusedSimpArgs false
set_option linter.unusedVariables false
namespace Go.Ab
section
variable {P:Program} {T:Nat->TI} {N:Nat}
theorem JI:∀ {l:List AV},Lc l=true -> ∀ {i:Nat} {c:AV},l[i]? = some c->fE c=true
 | [],_,i,c,h=>by simp at h
 | x::r,hl,i,c,h=>by simp only [Lc,abe]at hl;cases i with| zero=>simp at h;subst h;exact hl.1| succ i=>exact JI hl.2 (by simpa using h)
theorem Rep.fE {I:fK} {ρ:Pl} {x:AV} {cs:List Value} (h:Rep T N I ρ x cs):fE x=true -> ∀ ρ',Rep T N I ρ' x cs:=by
 induction h with| v h=>intro _ _;exact .v h| struct fs segs hk hn ht h hf hl a=>intro hi ρ';simp only [Ab.fE,adp,adE]at hi;exact .struct fs segs hk hn ht (λi u g=>a i u g (hi i (by rw [<- hn];exact (List.getElem?_eq_some_iff.1 g).1)) ρ') hf hl| array e segs hk ht h hf hl a=>intro hi ρ';simp only [Ab.fE,adp,adE]at hi;exact .array e segs hk ht (λi d=>a i d (hi i d) ρ') hf hl| row b off cap segs he hc hm hfull h hf hl hI a=>intro _ ρ';exact .row b off cap segs he hc hm hfull h hf hl hI| row0 he=>intro _ _;exact .row0 he| own0=>(intro hi;cases hi)| rp b off seg ht h hf hl hI a=>intro _ ρ';exact .rp b off seg ht h hf hl hI| own=>(intro hi;cases hi)| arr=>(intro hi;cases hi)| ptr=>(intro hi;cases hi)| @clo _ f caps ys hl h a=>intro hi ρ';simp only [Ab.fE]at hi;exact .clo ys hl (λi c h=>a i c h (JI hi h) ρ')| mp=>(intro hi;cases hi)
def Did (P:Program) (T:Nat->TI) (N:Nat) (o:Oper) (I:fK) (ρ:Pl) (m:Id->Option Ob) (r:R) (run:World->Result Next) (w:World):Prop :=
 ∃ nx w' I' ρ',run w = .ok nx w'/\((∃ u,nx = .value u/\gB T N I' ρ' r.v u)\/(nx = .skip/\o.dst=none))/\Ev I ρ w I' ρ' w'/\dY T N I' ρ' (iP m r.d) w'
theorem lI {x:Option Ob} (h:isNone x=true):x=none:=by cases x <;> first | rfl | cases h
theorem Gv (t:TypeId) (v:Value) (w:World):(newVar t v).run P w = .ok ⟨w.heap.size,0,none⟩ (w.alloc (.cells v.cells t)):=by
 simp only [newVar,newRow,Sem.run_bind,run_newObj,Result.andThen_ok,Sem.run_pure];rfl
theorem IL (hT:jf P T N) {I:fK} {ρ:Pl} {m:Id->Option Ob} {w:World} (hw:dY T N I ρ m w) {o:Oper} {t:Nat} {x:AV} {cs:List Value} {c:Option Prop} (ht:t<N) (hn:m (site o)=none) (d:Rep T N I ρ x cs) (hf:fit T t x=true) (hl:cs.length=(T t).size)
 {run:World->Result Next} (e:run w = .ok (.value (.pointer (some ⟨w.heap.size,0,none⟩))) (w.alloc (.cells cs.toArray t))) :
 Did P T N o I ρ m ⟨.ptr (site o) 1 0 [],[(site o,.cells ⟨t,1,λ_=>x,0⟩)],[site o],c⟩ run w:=by
 have f:=dY.fresh (w':=w.alloc (.cells cs.toArray t)) (B:=⟨t,1,λ_=>x,0⟩) (b:=w.heap.size) (cs:=cs.toArray) hw (hw.none_place hn) (aa3 _) (λr d=>fM w _ d) (iZ w _) ht (by simp [hl]) rfl
  (
   λi hi=>⟨cs,d.mono (iK.refl _) (by
   intro a q g;have h:a≠site o:=by rintro rfl;rw [hw.none_place hn]at g;cases g
   exact ⟨q,by rw [dS _ _ h,g],aa3 _,λ_=>rfl⟩),hf,hl,λk hk=>by
    have:i=0:=by simp only at hi;omega
    subst this;simp⟩)
 refine ⟨_,_,I,_,e,.inl ⟨_,rfl,.one ⟨[_],.ptr (ρ:=nJ ρ (site o) ⟨w.heap.size,t,1,cs.toArray.size⟩) _ (dW _ _ _) (aa3 1) rfl (λ_=>⟨Nat.one_pos,trivial,?_⟩),rfl⟩⟩,?_,?_⟩
 ·simp [fF,aG]
 ·exact Ev.fresh (hw.none_place hn) (aa3 _) (λr d=>fM w _ d) (by simp) rfl rfl ⟨rfl,by first | exact aa3 _ | exact aeG _⟩
 ·simpa [iP]using f.2
theorem aB {α:Type} {b:Bool} {x:Option α} {r:α} (h:(bif b then x else none)=some r):b=true/\x=some r:=by
 cases b with| true=>exact ⟨rfl,h⟩| false=>(cases h)
theorem Ko (hT:jf P T N) {I:fK} {ρ:Pl} {m:Id->Option Ob} {w:World} (hw:dY T N I ρ m w) {o:Oper} {id:Id} {B:zI} {i:Nat} {p:List Nat} {t:Nat} {y:AV} {q:Place} {e:List Value} {c:Option Prop} {f:List Id}
 (hm:m id=some (.cells B)) (hq:ρ id=some q) (hi:i<B.n) (z:aY T B.ty p=some t) (x:pathIn T B.ty p) (a3:B.fz<=i)
 (hy:Rep T N I ρ y e) (a2:fit T t y=true) (a5:e.length=(T t).size) (hd:o.dst=none)
 {run:World->Result Next} (a1:∀ (cs:Array Value),w.heap[q.b]? = some (.cells cs B.ty (0,0))->i*(T B.ty).size+aG T B.ty p+e.length<=cs.size ->
  run w = .ok .skip (w.setRow q.b (cs.toList.take (i*(T B.ty).size+aG T B.ty p)++e++cs.toList.drop (i*(T B.ty).size+aG T B.ty p+e.length)).toArray)) :
 Did P T N o I ρ m ⟨.bad,[(id,.cells { B with get:=λj=>bif Nat.beq j i then (B.get i).put p y else B.get j})],f,c⟩ run w:=by
 obtain ⟨q',cs,c1,c2,c3,c4,c5,c6,c7,c8,c9,b3⟩:=hw.cellsAt hm hq;rw [hq]at c1;cases c1;obtain ⟨sg,r1,r2,r3,r4⟩:=c8 i hi;obtain ⟨a6,s1,s2,s3,s4⟩:=Rep.put hy a2 a5 p r1 r2 r3 z x;have c0:=l7 r1 r2 r3 z x
 have s:(i+1)*(T B.ty).size<=B.n*(T B.ty).size:=ab7 _ hi;rw [adK]at s;have v:i*(T B.ty).size+aG T B.ty p+e.length<=cs.size:=by omega
 have g:∀ k:Nat,(cs.toList.take (i*(T B.ty).size+aG T B.ty p)++e++cs.toList.drop (i*(T B.ty).size+aG T B.ty p+e.length)).toArray[k]? =
  if i*(T B.ty).size+aG T B.ty p<=k/\k<i*(T B.ty).size+aG T B.ty p+e.length then e[k - (i*(T B.ty).size+aG T B.ty p)]? else cs[k]? := by
  intro k;simp only [aeC];have b9:cs.toList.length=cs.size:=by simp
  by_cases h1:k<i*(T B.ty).size+aG T B.ty p
  ·rw [Y0 (by omega),adu,ac6 (by rw [adg];omega),adO,aaU h1,adn]
  ·by_cases h2:k<i*(T B.ty).size+aG T B.ty p+e.length
   ·rw [aaU (by omega),adu,adi (by rw [adg];omega),adg,aep (by omega),ac6 (by omega)]
   ·rw [Y0 (by omega),adi (by rw [adl,adg];omega),adl,adg,aep (by omega),aeT,adn];congr 1;omega
 have d:({ q with n:=({ B with get:=λj=>bif Nat.beq j i then (B.get i).put p y else B.get j}:zI).n}:Place)=q:=by cases q;simp_all
 have r:nJ ρ id q=ρ:=by
  funext a;by_cases ha:a=id
  ·subst ha;rw [dW,hq]
  ·rw [dS _ _ ha]
 have u:=dY.change (B':={ B with get:=λj=>bif Nat.beq j i then (B.get i).put p y else B.get j})
  (w':=w.setRow q.b (cs.toList.take (i*(T B.ty).size+aG T B.ty p)++e++cs.toList.drop (i*(T B.ty).size+aG T B.ty p+e.length)).toArray) hw hm hq c5 rfl rfl (aa3 _)
  (by simp only [aeb,adl,adg,aeR,aen];omega)
  (by simp only [aeb,adl,adg,aeR,aen];omega)
  (setRow_heap w q.b cs _ B.ty (0,0) c5) (λb _ hb=>setRow_other w q.b b _ hb)
  (
   λj hj=>by
   have:B.fz*(T B.ty).size<=i*(T B.ty).size:=ab7 _ a3;rw [g,Y0 (by omega)])
  (
   λj hj=>by
   rw [d,r];simp only at hj;by_cases l:j=i
   ·subst l;refine ⟨a6,by simpa [aeY]using s1,by simpa [aeY]using s2,s3,λk hk=>?_⟩;rw [g,s4 k];by_cases hc:aG T B.ty p<=k/\k<aG T B.ty p+(T t).size
    ·rw [aaU (by omega),aaU hc];congr 1;omega
    ·rw [Y0 (by omega),Y0 hc,r4 k hk]
   ·obtain ⟨sj,e1,e2,e3,e4⟩:=c8 j hj;refine ⟨sj,by simpa [kJ l]using e1,by simpa [kJ l]using e2,e3,λk hk=>?_⟩;rw [g,Y0,e4 k hk];rintro ⟨h1,h2⟩;rcases Nat.lt_or_gt_of_ne l with h | h
    ·have:(j+1)*(T B.ty).size<=i*(T B.ty).size:=ab7 _ h;rw [adK]at this;omega
    ·have:(i+1)*(T B.ty).size<=j*(T B.ty).size:=ab7 _ h;rw [adK]at this;omega)
 rw [d,r]at u;refine ⟨_,_,I,ρ,a1 cs c5 v,.inr ⟨rfl,hd⟩,?_,by simpa [iP]using u.2⟩;exact Ev.change hw hq (iJ.refl _) (λa p hp=>⟨a,p,hp,rfl⟩) (λb _ hb=>setRow_other w q.b b _ hb) (by simp) rfl rfl ⟨rfl,by first | exact aa3 _ | exact aeG _⟩
theorem AB (hT:jf P T N) {w:World} {b off:Nat} {ty t:Nat} (ht:t<N) {cs:Array Value} (d:w.heap[b]? = some (.cells cs ty (0,0))) {v:Value} (e:v.cells.size=(T t).size) (c:∀ u∈v.cells.toList,u.oneCell'=true)
 (a:off+v.cells.size<=cs.size):(storeVar t ⟨b,off,none⟩ v).run P w = .ok () (w.setRow b (cs.toList.take off++v.cells.toList++cs.toList.drop (off+v.cells.toList.length)).toArray):=by
 have h:=run_storeCells_at P b off ty v.cells.toList 0 cs w d (by simpa using a) c;simp only [ad2]at h;simp [storeVar,hT.runSize ht,e,h]
theorem rC (hT:jf P T N) {I:fK} {ρ:Pl} {x:AV} {cs:List Value} {t:Nat} (ht:t<N) (h:Rep T N I ρ x cs) (hf:fit T t x=true):cs.length=(T t).size:=by
 cases hk:(T t).kind.isAgg with| true=>obtain ⟨n,g,rfl⟩:=uV hf hk;exact Rep.agg_len hT h| false=>obtain ⟨y,rfl,_⟩:=h.one (zU hf hk);rw [hT.one t ht hk];rfl
theorem kV {t:Nat} {x:AV} (h:fit T t x=true):∀ vs,x ≠ .tup vs:=by rintro vs rfl;cases h
end
end Go.Ab
