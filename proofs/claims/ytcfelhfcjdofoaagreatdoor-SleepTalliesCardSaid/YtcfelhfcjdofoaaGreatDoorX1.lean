/- Part 2 of a proof of a statement about the given program: an abstract machine over the model, proved sound, and contracts of the functions that the statement reaches; the last part proves the statement, for every input, with no condition. -/
import Derived.Test.YtcfelhfcjdofoaaGreatDoorX0
import Derived.Laws.World
import Derived.Tactics
set_option autoImplicit false
set_option linter.unusedSimpArgs false
set_option linter.unusedVariables false
namespace Go.Ab
section segs
variable {α:Type}
def jq (len:Nat→Nat):Nat→Nat
 | 0=>0
 | k+1=>jq len k+len k
theorem dh {f g:Nat→Nat} {k:Nat} (h:∀ i,i<k→f i=g i):jq f k=jq g k:=by
 induction k with
 | zero=>rfl
 | succ k ih=>simp only [jq];rw [ih fun i hi=>h i (by omega),h k (by omega)]
theorem jC (c k:Nat):jq (fun _=>c) k=k*c:=by
 induction k with
 | zero=>simp [jq]
 | succ k ih=>simp only [jq,ih,Nat.succ_mul]
theorem qp (f:Nat→Nat) {j k:Nat} (h:j≤k):jq f j≤jq f k:=by
 induction k with
 | zero =>
  have:j=0:=by omega
  subst this;exact Nat.le_refl _
 | succ k ih =>
  rcases Nat.lt_or_ge k j with h' | h'
  ·have:j=k+1:=by omega
   subst this;exact Nat.le_refl _
  ·exact Nat.le_trans (ih h') (by simp [jq])
theorem bV (segs:Nat→List α) (n:Nat):((List.range n).flatMap segs).length=jq (fun i=>(segs i).length) n:=by
 induction n with
 | zero=>rfl
 | succ n ih=>simp [List.range_succ,List.flatMap_append,ih,jq]
theorem FB (segs:Nat→List α) {n k:Nat} (h:k<n):∃ b,(List.range n).flatMap segs=(List.range k).flatMap segs++(segs k++b):=by
 induction n with
 | zero=>omega
 | succ n ih =>
  rcases Nat.lt_or_ge k n with h' | h'
  ·obtain ⟨b,hb⟩:=ih h';exact ⟨b++segs n,by simp [List.range_succ,List.flatMap_append,hb]⟩
  ·have:k=n:=by omega
   subst this;exact ⟨[],by simp [List.range_succ,List.flatMap_append]⟩
theorem ou (segs:Nat→List α) {n k o:Nat} (h:k<n) (ho:o<(segs k).length) :
 ((List.range n).flatMap segs)[jq (fun i=>(segs i).length) k+o]? = (segs k)[o]? := by
 obtain ⟨b,hb⟩:=FB segs h;rw [hb,List.getElem?_append_right (by rw [bV];omega),bV,Nat.add_sub_cancel_left,List.getElem?_append_left ho]
end segs
structure Place where
 b:Nat
 ty:Nat
 n:Nat
 lim:Nat
theorem wS {x:Value} (h:kK x=true):x.oneCell'=true:=by
 unfold kK at h;split at h <;> first | rfl | simp_all
theorem cells_one {x:Value} (h:x.oneCell'=true):x.cells = #[x]:=by
 cases x <;> first | rfl | simp [Value.oneCell']at h
section
variable (T:Nat→TI) (N:Nat)
def lK (fs:List Nat) (k:Nat):Nat:=jq (fun i=>((fs[i]?).map fun u=>(T u).size).getD 0) k
def aF:Nat→List Nat→Nat
 | _,[]=>0
 | t,k::p=>match (T t).kind with
  | .struct fs=>lK T fs k+match fs[k]? with | some u=>aF u p | none=>0
  | .array _ e=>k*(T e).size+aF e p
  | _=>0
def pathIn:Nat→List Nat→Prop
 | _,[]=>True
 | t,k::p=>match (T t).kind with
  | .struct fs=>match fs[k]? with | some u=>pathIn u p | none=>False
  | .array n e=>k<n∧pathIn e p
  | _=>False
abbrev Imm:=Nat→Nat→Option Value
abbrev Pl:=Id→Option Place
def iI:Pl:=fun _=>none
inductive Rep (I:Imm):Pl→AV→List Value→Prop
 | v {ρ:Pl} {x:Value} (h:kK x=true):Rep I ρ (.v x) [x]
 | struct {ρ:Pl} {t n:Nat} {get:Nat→AV} (fs:List Nat) (segs:Nat→List Value) (hk:(T t).kind = .struct fs) (hn:fs.length=n) (ht:t<N)
  (h:∀ i u,fs[i]? = some u→Rep I ρ (get i) (segs i)) (hf:∀ i u,fs[i]? = some u→fit T u (get i)=true)
  (hl:∀ i u,fs[i]? = some u→(segs i).length=(T u).size):Rep I ρ (.agg t n get) ((List.range n).flatMap segs)
 | array {ρ:Pl} {t n:Nat} {get:Nat→AV} (e:Nat) (segs:Nat→List Value) (hk:(T t).kind = .array n e) (ht:t<N)
  (h:∀ i,i<n→Rep I ρ (get i) (segs i)) (hf:∀ i,i<n→fit T e (get i)=true)
  (hl:∀ i,i<n→(segs i).length=(T e).size):Rep I ρ (.agg t n get) ((List.range n).flatMap segs)
 | row {ρ:Pl} {e:Nat} {full:Bool} {len:Nat} {get:Nat→AV} (b off cap:Nat) (segs:Nat→List Value) (he:e<N) (hc:len≤cap) (hm:cap<2 ^ 63) (hfull:full=true→cap=len)
  (h:∀ i,i<len→Rep I iI (get i) (segs i)) (hf:∀ i,i<len→fit T e (get i)=true)
  (hl:∀ i,i<len→(segs i).length=(T e).size)
  (hI:∀ i,i<len → ∀ o,o<(T e).size→I b (off+(i*(T e).size+o))=(segs i)[o]?) :
  Rep I ρ (.row e full len get) [.slice (some ⟨b,off,none⟩) len cap]
 | row0 {ρ:Pl} {e:Nat} {full:Bool} {get:Nat→AV} {a:Option Addr} (he:e<N):Rep I ρ (.row e full 0 get) [.slice a 0 0]
 | rp {ρ:Pl} {t:Nat} {x:AV} (b off:Nat) (seg:List Value) (ht:t<N) (h:Rep I iI x seg) (hf:fit T t x=true) (hl:seg.length=(T t).size)
  (hI:∀ o,o<(T t).size→I b (off+o)=seg[o]?):Rep I ρ (.rp t x) [.pointer (some ⟨b,off,none⟩)]
 | own {ρ:Pl} {id:Id} {n i len:Nat} {cap:Option Nat} {x:Value} (p:Place) (hp:ρ id=some p) (hn:n≤p.n) (hx1:x.oneCell'=true)
  (hx:p.n=n → ∃ c,x = .slice (some ⟨p.b,i*(T p.ty).size,none⟩) len c∧len≤c∧c<2 ^ 63∧i+len≤n∧(i+c)*(T p.ty).size≤p.lim∧(cap=none→(i+c)*(T p.ty).size=p.lim) ∧ ∀ k,cap=some k→c=k) :
  Rep I ρ (.own id n i len cap) [x]
 | own0 {ρ:Pl} {id:Id} {cap:Option Nat}:Rep I ρ (.own id 0 0 0 cap) [.slice none 0 0]
 | arr {ρ:Pl} {id:Id} {n i:Nat} {path:List Nat} {lo len hi:Nat} {x:Value} (p:Place) (hp:ρ id=some p) (hn:n≤p.n) (hx1:x.oneCell'=true)
  (
   hx:p.n=n→i<n ∧ ∃ t k e,aJ T p.ty path=some t∧pathIn T p.ty path∧(T t).kind = .array k e∧lo+len≤hi∧hi≤k∧hi<2 ^ 63 ∧
   x = .slice (some ⟨p.b,i*(T p.ty).size+aF T p.ty path+lo*(T e).size,none⟩) len (hi - lo)) :
  Rep I ρ (.arr id n i path lo len hi) [x]
 | ptr {ρ:Pl} {id:Id} {n i:Nat} {path:List Nat} {x:Value} (p:Place) (hp:ρ id=some p) (hn:n≤p.n) (hx1:x.oneCell'=true)
  (hx:p.n=n→i<n∧pathIn T p.ty path∧x = .pointer (some ⟨p.b,i*(T p.ty).size+aF T p.ty path,none⟩)) :
  Rep I ρ (.ptr id n i path) [x]
 | clo {ρ:Pl} {f:FuncId} {caps:List AV} (ys:Array Value) (hl:ys.size=caps.length)
  (h:∀ i c,caps[i]? = some c→Rep I ρ c [ys.getD i undef]):Rep I ρ (.clo f caps) [.func (.func f) #[] ys]
 | mp {ρ:Pl} {id:Id} {x:Value} (p:Place) (hp:ρ id=some p) (hx1:x.oneCell'=true) (hx:p.n=0→x = .map (some p.b)):Rep I ρ (.mp id) [x]
def iP (ρ ρ':Pl):Prop := ∀ id p,ρ id=some p → ∃ p',ρ' id=some p'∧p.n≤p'.n∧(p'.n=p.n→p'=p)
def iQ (I I':Imm):Prop := ∀ b o y,I b o=some y→I' b o=some y
theorem iP.refl (ρ:Pl):iP ρ ρ:=fun _ p h=>⟨p,h,Nat.le_refl _,fun _=>rfl⟩
theorem iP.trans {a b c:Pl} (h:iP a b) (k:iP b c):iP a c:=fun id p hp=>by
 obtain ⟨p1,h1,h2,h3⟩:=h id p hp;obtain ⟨p2,k1,k2,k3⟩:=k id p1 h1;exact ⟨p2,k1,Nat.le_trans h2 k2,fun e=>by
  have h4:p2.n=p1.n:=by omega
  rw [k3 h4];exact h3 (by rw [← h4];exact e)⟩
theorem iQ.refl (I:Imm):iQ I I:=fun _ _ _ h=>h
theorem iQ.trans {a b c:Imm} (h:iQ a b) (k:iQ b c):iQ a c:=fun _ _ _ e=>k _ _ _ (h _ _ _ e)
theorem yC (ρ:Pl):iP iI ρ:=fun _ _ h=>by simp [iI]at h
variable {T N}
theorem Rep.mono {I I':Imm} {ρ:Pl} {x:AV} {cs:List Value} (h:Rep T N I ρ x cs) (hI:iQ I I'):∀ {ρ':Pl},iP ρ ρ'→Rep T N I' ρ' x cs:=by
 induction h with
 | v h=>intro _ _;exact .v h
 | struct fs segs hk hn ht h hf hl ih=>intro _ hp;exact .struct fs segs hk hn ht (fun i u hi=>ih i u hi hp) hf hl
 | array e segs hk ht h hf hl ih=>intro _ hp;exact .array e segs hk ht (fun i hi=>ih i hi hp) hf hl
 | row b off cap segs he hc hm hfull h hf hl hi ih =>
  intro _ hp;refine .row b off cap segs he hc hm hfull (fun i hi=>ih i hi (iP.refl _)) hf hl (fun i hi' o ho=>?_);have h1:=hi i hi' o ho
  have h2:o<(segs i).length:=by rw [hl i hi'];exact ho
  rw [List.getElem?_eq_getElem h2]at h1 ⊢;exact hI _ _ _ h1
 | row0 he=>intro _ _;exact .row0 he
 | own0=>intro _ _;exact .own0
 | rp b off seg ht h hf hl hi ih =>
  intro _ hp;refine .rp b off seg ht (ih (iP.refl _)) hf hl (fun o ho=>?_);have h1:=hi o ho
  have h2:o<seg.length:=by rw [hl];exact ho
  rw [List.getElem?_eq_getElem h2]at h1 ⊢;exact hI _ _ _ h1
 | own p hp hn hx1 hx =>
  intro ρ' hle;obtain ⟨p',h1,h2,h3⟩:=hle _ _ hp;exact .own p' h1 (Nat.le_trans hn h2) hx1 (fun e=>by
   have:p'=p:=h3 (by omega);subst this;exact hx e)
 | arr p hp hn hx1 hx =>
  intro ρ' hle;obtain ⟨p',h1,h2,h3⟩:=hle _ _ hp;exact .arr p' h1 (Nat.le_trans hn h2) hx1 (fun e=>by
   have:p'=p:=h3 (by omega);subst this;exact hx e)
 | ptr p hp hn hx1 hx =>
  intro ρ' hle;obtain ⟨p',h1,h2,h3⟩:=hle _ _ hp;exact .ptr p' h1 (Nat.le_trans hn h2) hx1 (fun e=>by
   have:p'=p:=h3 (by omega);subst this;exact hx e)
 | clo ys hl h ih=>intro _ hp;exact .clo ys hl (fun i c hi=>ih i c hi hp)
 | mp p hp hx1 hx =>
  intro ρ' hle;obtain ⟨p',h1,h2,h3⟩:=hle _ _ hp;exact .mp p' h1 hx1 (fun e=>by
   have:p'=p:=h3 (by omega);subst this;exact hx e)
theorem Rep.one {I:Imm} {ρ:Pl} {x:AV} {cs:List Value} (h:Rep T N I ρ x cs) (hx:∀ t n g,x ≠ .agg t n g):∃ y,cs=[y]∧y.oneCell'=true:=by
 cases h with
 | v h=>exact ⟨_,rfl,wS h⟩
 | struct=>exact absurd rfl (hx _ _ _)
 | array=>exact absurd rfl (hx _ _ _)
 | row=>exact ⟨_,rfl,rfl⟩
 | row0=>exact ⟨_,rfl,rfl⟩
 | own0=>exact ⟨_,rfl,rfl⟩
 | rp=>exact ⟨_,rfl,rfl⟩
 | own _ _ _ hx1=>exact ⟨_,rfl,hx1⟩
 | arr _ _ _ hx1=>exact ⟨_,rfl,hx1⟩
 | ptr _ _ _ hx1=>exact ⟨_,rfl,hx1⟩
 | clo=>exact ⟨_,rfl,rfl⟩
 | mp _ _ hx1=>exact ⟨_,rfl,hx1⟩
theorem Rep.cells_one {I:Imm} {ρ:Pl} {x:AV} {cs:List Value} (h:Rep T N I ρ x cs):∀ y∈cs,y.oneCell'=true:=by
 induction h with
 | v h=>intro y hy;simp at hy;subst hy;exact wS h
 | @struct _ _ n _ fs segs hk hn ht h hf hl ih =>
  intro y hy;simp only [List.mem_flatMap,List.mem_range]at hy;obtain ⟨i,hi,hy⟩:=hy;subst hn;exact ih i _ (List.getElem?_eq_getElem hi) y hy
 | array e segs hk ht h hf hl ih =>
  intro y hy;simp only [List.mem_flatMap,List.mem_range]at hy;obtain ⟨i,hi,hy⟩:=hy;exact ih i hi y hy
 | row=>intro y hy;simp at hy;subst hy;rfl
 | row0=>intro y hy;simp at hy;subst hy;rfl
 | own0=>intro y hy;simp at hy;subst hy;rfl
 | rp=>intro y hy;simp at hy;subst hy;rfl
 | own _ _ _ hx1=>intro y hy;simp at hy;subst hy;exact hx1
 | arr _ _ _ hx1=>intro y hy;simp at hy;subst hy;exact hx1
 | ptr _ _ _ hx1=>intro y hy;simp at hy;subst hy;exact hx1
 | clo=>intro y hy;simp at hy;subst hy;rfl
 | mp _ _ hx1=>intro y hy;simp at hy;subst hy;exact hx1
theorem Rep.at {I:Imm} {ρ:Pl} (p:List Nat):∀ {x:AV} {cs:List Value} {t u:Nat},Rep T N I ρ x cs→fit T t x=true→cs.length=(T t).size→aJ T t p=some u→pathIn T t p →
 ∃ seg,Rep T N I ρ (x.at p) seg∧fit T u (x.at p)=true∧seg.length=(T u).size ∧ ∀ o,o<(T u).size→cs[aF T t p+o]? = seg[o]? := by
 induction p with
 | nil =>
  intro x cs t u h hf hl hu _;simp only [aJ,Option.some.injEq]at hu;subst hu;exact ⟨cs,by simpa [AV.at]using h,by simpa [AV.at]using hf,hl,fun o _=>by simp [aF]⟩
 | cons k p ih =>
  intro x cs t u h hf hl hu hin;cases h with
  | @struct _ t' n get fs segs hk hn ht h hf' hl' =>
   have htt:t'=t:=by simp [fit]at hf;exact hf.1
   subst htt;simp only [aJ,hk]at hu;simp only [pathIn,hk]at hin;cases hfk:fs[k]? with
   | none=>rw [hfk]at hin;exact hin.elim
   | some v =>
    rw [hfk]at hin hu;obtain ⟨seg,h1,h2,h3,h4⟩:=ih (h k v hfk) (hf' k v hfk) (hl' k v hfk) hu hin;refine ⟨seg,by simpa [AV.at]using h1,by simpa [AV.at]using h2,h3,fun o ho=>?_⟩;have hkn:k<n:=by rw [← hn];exact (List.getElem?_eq_some_iff.1 hfk).1
    have e1:lK T fs k=jq (fun i=>(segs i).length) k:=dh fun i hi=>by
     have hi':i<fs.length:=by omega
     simp only [List.getElem?_eq_getElem hi',Option.map_some,Option.getD_some];exact (hl' i _ (List.getElem?_eq_getElem hi')).symm
    rw [← h4 o ho];simp only [aF,hk,hfk,e1];rw [Nat.add_assoc];rcases Nat.lt_or_ge (aF T v p+o) (segs k).length with hlt | hge
    ·exact ou segs hkn hlt
    ·have:=h4 o ho;rw [List.getElem?_eq_none hge]at this;rw [List.getElem?_eq_getElem (by rw [h3];exact ho)]at this;cases this
  | @array _ t' n get e segs hk ht h hf' hl' =>
   have htt:t'=t:=by simp [fit]at hf;exact hf.1
   subst htt;simp only [aJ,hk]at hu;simp only [pathIn,hk]at hin;obtain ⟨hkn,hin⟩:=hin;obtain ⟨seg,h1,h2,h3,h4⟩:=ih (h k hkn) (hf' k hkn) (hl' k hkn) hu hin;refine ⟨seg,by simpa [AV.at]using h1,by simpa [AV.at]using h2,h3,fun o ho=>?_⟩;have e1:k*(T e).size=jq (fun i=>(segs i).length) k:=by
    rw [← jC];exact dh fun i hi=>(hl' i (by omega)).symm
   rw [← h4 o ho];simp only [aF,hk,e1];rw [Nat.add_assoc];rcases Nat.lt_or_ge (aF T e p+o) (segs k).length with hlt | hge
   ·exact ou segs hkn hlt
   ·have:=h4 o ho;rw [List.getElem?_eq_none hge]at this;rw [List.getElem?_eq_getElem (by rw [h3];exact ho)]at this;cases this
  | v _ =>
   have:aJ T t (k::p)=none:=by
    simp [fit]at hf;simp only [aJ];cases hk:(T t).kind <;> simp_all [TK.isAgg]
   rw [this]at hu;cases hu
  | _ =>
   have:aJ T t (k::p)=none:=by
    simp [fit]at hf;simp only [aJ];cases hk:(T t).kind <;> simp_all [TK.isAgg]
   rw [this]at hu;cases hu
end
end Go.Ab
