/- Part 10 of a proof of a statement about the given program: an abstract machine over the model, proved sound, and contracts of the functions that the statement reaches; the last part proves the statement, for every input, with no condition. -/
import Derived.Test.YtcfelhfcjdofoaaGreatDoorX8
set_option autoImplicit false
set_option linter.unusedSimpArgs false
set_option linter.unusedVariables false
namespace Go.Ab
section
variable {P:Program} {T:Nat→TI} {N:Nat}
theorem Ac:∀ {l:List AV},Eo l=true → ∀ {i:Nat} {c:AV},l[i]? = some c→dw c=true
 | [],_,i,c,h=>by simp at h
 | x::r,hl,i,c,h=>by
  simp only [Eo,Bool.and_eq_true]at hl;cases i with
  | zero=>simp at h;subst h;exact hl.1
  | succ i=>exact Ac hl.2 (by simpa using h)
theorem Rep.dw {I:Imm} {ρ:Pl} {x:AV} {cs:List Value} (h:Rep T N I ρ x cs):dw x=true → ∀ ρ',Rep T N I ρ' x cs:=by
 induction h with
 | v h=>intro _ _;exact .v h
 | struct fs segs hk hn ht h hf hl ih =>
  intro hi ρ';simp only [Ab.dw,List.all_eq_true,List.mem_range]at hi;exact .struct fs segs hk hn ht (fun i u hu=>ih i u hu (hi i (by rw [← hn];exact (List.getElem?_eq_some_iff.1 hu).1)) ρ') hf hl
 | array e segs hk ht h hf hl ih =>
  intro hi ρ';simp only [Ab.dw,List.all_eq_true,List.mem_range]at hi;exact .array e segs hk ht (fun i h'=>ih i h' (hi i h') ρ') hf hl
 | row b off cap segs he hc hm hfull h hf hl hI ih=>intro _ ρ';exact .row b off cap segs he hc hm hfull h hf hl hI
 | row0 he=>intro _ _;exact .row0 he
 | own0=>intro hi;cases hi
 | rp b off seg ht h hf hl hI ih=>intro _ ρ';exact .rp b off seg ht h hf hl hI
 | own=>intro hi;cases hi
 | arr=>intro hi;cases hi
 | ptr=>intro hi;cases hi
 | @clo _ f caps ys hl h ih =>
  intro hi ρ';simp only [Ab.dw]at hi;exact .clo ys hl (fun i c h=>ih i c h (Ac hi h) ρ')
 | mp=>intro hi;cases hi
def Did (P:Program) (T:Nat→TI) (N:Nat) (o:Oper) (I:Imm) (ρ:Pl) (m:Id→Option Ob) (r:R) (run:World→Result Next) (w:World):Prop :=
 ∃ nx w' I' ρ',run w = .ok nx w'∧((∃ u,nx = .value u∧gI T N I' ρ' r.v u)∨(nx = .skip∧o.dst=none))∧Ev I ρ w I' ρ' w'∧dR T N I' ρ' (je m r.d) w'
theorem iq {x:Option Ob} (h:isNone x=true):x=none:=by cases x <;> first | rfl | cases h
theorem wM (t:TypeId) (v:Value) (w:World):(newVar t v).run P w = .ok ⟨w.heap.size,0,none⟩ (w.alloc (.cells v.cells t)):=by
 simp only [newVar,newRow,Sem.run_bind,run_newObj,Result.andThen_ok,Sem.run_pure];rfl
theorem xC (hT:TOK P T N) {I:Imm} {ρ:Pl} {m:Id→Option Ob} {w:World} (hw:dR T N I ρ m w) {o:Oper} {t:Nat} {x:AV} {cs:List Value} {c:Option Prop} (ht:t<N) (hn:m (site o)=none) (hr:Rep T N I ρ x cs) (hf:fit T t x=true) (hl:cs.length=(T t).size)
 {run:World→Result Next} (hrun:run w = .ok (.value (.pointer (some ⟨w.heap.size,0,none⟩))) (w.alloc (.cells cs.toArray t))) :
 Did P T N o I ρ m ⟨.ptr (site o) 1 0 [],[(site o,.cells ⟨t,1,fun _=>x,0⟩)],[site o],c⟩ run w:=by
 have hfr:=dR.fresh (w':=w.alloc (.cells cs.toArray t)) (B:=⟨t,1,fun _=>x,0⟩) (b:=w.heap.size) (cs:=cs.toArray) hw (hw.none_place hn) (Nat.le_refl _) (fun r hr=>bF w _ hr) (dF w _) ht (by simp [hl]) rfl
  (
   fun i hi=>⟨cs,hr.mono (iQ.refl _) (by
   intro a q hq;have ha:a≠site o:=by rintro rfl;rw [hw.none_place hn]at hq;cases hq
   exact ⟨q,by rw [aZ _ _ ha,hq],Nat.le_refl _,fun _=>rfl⟩),hf,hl,fun k hk=>by
    have:i=0:=by simp only at hi;omega
    subst this;simp⟩)
 refine ⟨_,_,I,_,hrun,.inl ⟨_,rfl,.one ⟨[_],.ptr (ρ:=mZ ρ (site o) ⟨w.heap.size,t,1,cs.toArray.size⟩) _ (aU _ _ _) (Nat.le_refl 1) rfl (fun _=>⟨Nat.one_pos,trivial,?_⟩),rfl⟩⟩,?_,?_⟩
 ·simp [bZ,aF]
 ·exact Ev.fresh (hw.none_place hn) (Nat.le_refl _) (fun r hr=>bF w _ hr) (by simp) rfl rfl ⟨rfl,by first | exact Nat.le_refl _ | exact Nat.le_succ _⟩
 ·simpa [je]using hfr.2
theorem ak {α:Type} {b:Bool} {x:Option α} {r:α} (h:(bif b then x else none)=some r):b=true∧x=some r:=by
 cases b with
 | true=>exact ⟨rfl,h⟩
 | false=>cases h
theorem Bo (hT:TOK P T N) {I:Imm} {ρ:Pl} {m:Id→Option Ob} {w:World} (hw:dR T N I ρ m w) {o:Oper} {id:Id} {B:Blk} {i:Nat} {p:List Nat} {t:Nat} {y:AV} {q:Place} {sy:List Value} {c:Option Prop} {f:List Id}
 (hm:m id=some (.cells B)) (hq:ρ id=some q) (hi:i<B.n) (hpt:aJ T B.ty p=some t) (hpi:pathIn T B.ty p) (hfz:B.fz≤i)
 (hy:Rep T N I ρ y sy) (hfy:fit T t y=true) (hly:sy.length=(T t).size) (hd:o.dst=none)
 {run:World→Result Next} (hrun:∀ (cs:Array Value),w.heap[q.b]? = some (.cells cs B.ty (0,0))→i*(T B.ty).size+aF T B.ty p+sy.length≤cs.size →
  run w = .ok .skip (w.setRow q.b (cs.toList.take (i*(T B.ty).size+aF T B.ty p)++sy++cs.toList.drop (i*(T B.ty).size+aF T B.ty p+sy.length)).toArray)) :
 Did P T N o I ρ m ⟨.bad,[(id,.cells { B with get:=fun j=>bif Nat.beq j i then (B.get i).put p y else B.get j})],f,c⟩ run w:=by
 obtain ⟨q',cs,c1,c2,c3,c4,c5,c6,c7,c8,c9,c10⟩:=hw.cellsAt hm hq;rw [hq]at c1;cases c1;obtain ⟨sg,r1,r2,r3,r4⟩:=c8 i hi;obtain ⟨sg',s1,s2,s3,s4⟩:=Rep.put hy hfy hly p r1 r2 r3 hpt hpi;have hle:=iD r1 r2 r3 hpt hpi
 have hbase:(i+1)*(T B.ty).size≤B.n*(T B.ty).size:=Nat.mul_le_mul_right _ hi;rw [Nat.succ_mul]at hbase;have hfit:i*(T B.ty).size+aF T B.ty p+sy.length≤cs.size:=by omega
 have hcs':∀ k:Nat,(cs.toList.take (i*(T B.ty).size+aF T B.ty p)++sy++cs.toList.drop (i*(T B.ty).size+aF T B.ty p+sy.length)).toArray[k]? =
  if i*(T B.ty).size+aF T B.ty p≤k∧k<i*(T B.ty).size+aF T B.ty p+sy.length then sy[k - (i*(T B.ty).size+aF T B.ty p)]? else cs[k]? := by
  intro k;simp only [List.getElem?_toArray];have hcl:cs.toList.length=cs.size:=by simp
  by_cases h1:k<i*(T B.ty).size+aF T B.ty p
  ·rw [if_neg (by omega),List.append_assoc,List.getElem?_append_left (by rw [List.length_take];omega),List.getElem?_take,if_pos h1,Array.getElem?_toList]
  ·by_cases h2:k<i*(T B.ty).size+aF T B.ty p+sy.length
   ·rw [if_pos (by omega),List.append_assoc,List.getElem?_append_right (by rw [List.length_take];omega),List.length_take,Nat.min_eq_left (by omega),List.getElem?_append_left (by omega)]
   ·rw [if_neg (by omega),List.getElem?_append_right (by rw [List.length_append,List.length_take];omega),List.length_append,List.length_take,Nat.min_eq_left (by omega),List.getElem?_drop,Array.getElem?_toList];congr 1;omega
 have hplace:({ q with n:=({ B with get:=fun j=>bif Nat.beq j i then (B.get i).put p y else B.get j}:Blk).n}:Place)=q:=by cases q;simp_all
 have hset:mZ ρ id q=ρ:=by
  funext a;by_cases ha:a=id
  ·subst ha;rw [aU,hq]
  ·rw [aZ _ _ ha]
 have hch:=dR.change (B':={ B with get:=fun j=>bif Nat.beq j i then (B.get i).put p y else B.get j})
  (w':=w.setRow q.b (cs.toList.take (i*(T B.ty).size+aF T B.ty p)++sy++cs.toList.drop (i*(T B.ty).size+aF T B.ty p+sy.length)).toArray) hw hm hq c5 rfl rfl (Nat.le_refl _)
  (by simp only [List.size_toArray,List.length_append,List.length_take,List.length_drop,Array.length_toList];omega)
  (by simp only [List.size_toArray,List.length_append,List.length_take,List.length_drop,Array.length_toList];omega)
  (setRow_heap w q.b cs _ B.ty (0,0) c5) (fun b _ hb=>setRow_other w q.b b _ hb)
  (
   fun j hj=>by
   have:B.fz*(T B.ty).size≤i*(T B.ty).size:=Nat.mul_le_mul_right _ hfz;rw [hcs',if_neg (by omega)])
  (
   fun j hj=>by
   rw [hplace,hset];simp only at hj;by_cases hji:j=i
   ·subst hji;refine ⟨sg',by simpa [Nat.beq_refl]using s1,by simpa [Nat.beq_refl]using s2,s3,fun k hk=>?_⟩;rw [hcs',s4 k];by_cases hc:aF T B.ty p≤k∧k<aF T B.ty p+(T t).size
    ·rw [if_pos (by omega),if_pos hc];congr 1;omega
    ·rw [if_neg (by omega),if_neg hc,r4 k hk]
   ·obtain ⟨sj,e1,e2,e3,e4⟩:=c8 j hj;refine ⟨sj,by simpa [gQ hji]using e1,by simpa [gQ hji]using e2,e3,fun k hk=>?_⟩;rw [hcs',if_neg,e4 k hk];rintro ⟨h1,h2⟩;rcases Nat.lt_or_gt_of_ne hji with h | h
    ·have:(j+1)*(T B.ty).size≤i*(T B.ty).size:=Nat.mul_le_mul_right _ h;rw [Nat.succ_mul]at this;omega
    ·have:(i+1)*(T B.ty).size≤j*(T B.ty).size:=Nat.mul_le_mul_right _ h;rw [Nat.succ_mul]at this;omega)
 rw [hplace,hset]at hch;refine ⟨_,_,I,ρ,hrun cs c5 hfit,.inr ⟨rfl,hd⟩,?_,by simpa [je]using hch.2⟩;exact Ev.change hw hq (iP.refl _) (fun a p hp=>⟨a,p,hp,rfl⟩) (fun b _ hb=>setRow_other w q.b b _ hb) (by simp) rfl rfl ⟨rfl,by first | exact Nat.le_refl _ | exact Nat.le_succ _⟩
theorem qc (hT:TOK P T N) {w:World} {b off:Nat} {ty t:Nat} (ht:t<N) {cs:Array Value} (hh:w.heap[b]? = some (.cells cs ty (0,0))) {v:Value} (hv:v.cells.size=(T t).size) (h1:∀ u∈v.cells.toList,u.oneCell'=true)
 (hfit:off+v.cells.size≤cs.size):(storeVar t ⟨b,off,none⟩ v).run P w = .ok () (w.setRow b (cs.toList.take off++v.cells.toList++cs.toList.drop (off+v.cells.toList.length)).toArray):=by
 have h:=run_storeCells_at P b off ty v.cells.toList 0 cs w hh (by simpa using hfit) h1;simp only [Nat.add_zero]at h;simp [storeVar,hT.runSize ht,hv,h]
theorem kQ (hT:TOK P T N) {I:Imm} {ρ:Pl} {x:AV} {cs:List Value} {t:Nat} (ht:t<N) (h:Rep T N I ρ x cs) (hf:fit T t x=true):cs.length=(T t).size:=by
 cases hk:(T t).kind.isAgg with
 | true =>
  obtain ⟨n,g,rfl⟩:=nY hf hk;exact Rep.agg_len hT h
 | false =>
  obtain ⟨y,rfl,_⟩:=h.one (rD hf hk);rw [hT.one t ht hk];rfl
theorem gq {t:Nat} {x:AV} (h:fit T t x=true):∀ vs,x ≠ .tup vs:=by rintro vs rfl;cases h
end
end Go.Ab
