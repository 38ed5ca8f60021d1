/- Part 2 of a proof of a statement about the given program: an abstract machine over the model, proved sound, and contracts of the functions that the statement reaches; the last part proves the statement, for every input, with no condition. -/
import Derived.Test.YtcfelhfcjdofoaaGreatDoorX0
import Derived.Laws.World
import Derived.Tactics
set_option autoImplicit false
set_option linter.unusedSimpArgs false
set_option linter.unusedVariables false
namespace Go.Ab
section segs
variable {α:Type}
def iY (len:Nat->Nat):Nat->Nat
 | 0=>0
 | k+1=>iY len k+len k
theorem iw {f g:Nat->Nat} {k:Nat} (h:∀ i,i<k->f i=g i):iY f k=iY g k:=by
 induction k with| zero=>rfl| succ k a=>simp only [iY];rw [a λi hi=>h i (by omega),h k (by omega)]
theorem pG (c k:Nat):iY (λ_=>c) k=k*c:=by
 induction k with| zero=>simp [iY]| succ k a=>simp only [iY,a,adK]
theorem zO (f:Nat->Nat) {j k:Nat} (h:j<=k):iY f j<=iY f k:=by
 induction k with| zero=>(have:j=0:=by omega);subst this;exact aa3 _| succ k b=>rcases ado k j with a | a;{(have:j=k+1:=by omega);subst this;exact aa3 _};exact aej (b a) (by simp [iY])
theorem gQ (segs:Nat->List α) (n:Nat):((List.range n).flatMap segs).length=iY (λi=>(segs i).length) n:=by
 induction n with| zero=>rfl| succ n a=>simp [ad8,adY,a,iY]
theorem P8 (segs:Nat->List α) {n k:Nat} (h:k<n):∃ b,(List.range n).flatMap segs=(List.range k).flatMap segs++(segs k++b):=by
 induction n with| zero=>omega| succ n c=>rcases ado k n with a | a;{obtain ⟨b,hb⟩:=c a;exact ⟨b++segs n,by simp [ad8,adY,hb]⟩};(have:k=n:=by omega);subst this;exact ⟨[],by simp [ad8,adY]⟩
theorem vT (segs:Nat->List α) {n k o:Nat} (h:k<n) (a:o<(segs k).length) :
 ((List.range n).flatMap segs)[iY (λi=>(segs i).length) k+o]? = (segs k)[o]? := by
 obtain ⟨b,hb⟩:=P8 segs h;rw [hb,adi (by rw [gQ];omega),gQ,Nat.add_sub_cancel_left,ac6 a]
end segs
structure Place where
 b:Nat
 ty:Nat
 n:Nat
 lim:Nat
theorem GZ {x:Value} (h:qj x=true):x.oneCell'=true:=by
 unfold qj at h;split at h <;> first | rfl | simp_all
theorem cells_one {x:Value} (h:x.oneCell'=true):x.cells = #[x]:=by
 cases x <;> first | rfl | simp [Value.oneCell']at h
section
variable (T:Nat->TI) (N:Nat)
def lU (fs:List Nat) (k:Nat):Nat:=iY (λi=>((fs[i]?).map λu=>(T u).size).getD 0) k
def aG:Nat->List Nat->Nat
 | _,[]=>0
 | t,k::p=>match (T t).kind with
  | .struct fs=>lU T fs k+match fs[k]? with | some u=>aG u p | none=>0
  | .array _ e=>k*(T e).size+aG e p
  | _=>0
def pathIn:Nat->List Nat->Prop
 | _,[]=>True
 | t,k::p=>match (T t).kind with
  | .struct fs=>match fs[k]? with | some u=>pathIn u p | none=>False
  | .array n e=>k<n/\pathIn e p
  | _=>False
abbrev fK:=Nat->Nat->Option Value
abbrev Pl:=Id->Option Place
def iG:Pl:=λ_=>none
inductive Rep (I:fK):Pl->AV->List Value->Prop
 | v {ρ:Pl} {x:Value} (h:qj x=true):Rep I ρ (.v x) [x]
 | struct {ρ:Pl} {t n:Nat} {get:Nat->AV} (fs:List Nat) (segs:Nat->List Value) (hk:(T t).kind = .struct fs) (hn:fs.length=n) (ht:t<N)
  (h:∀ i u,fs[i]? = some u->Rep I ρ (get i) (segs i)) (hf:∀ i u,fs[i]? = some u->fit T u (get i)=true)
  (hl:∀ i u,fs[i]? = some u->(segs i).length=(T u).size):Rep I ρ (.agg t n get) ((List.range n).flatMap segs)
 | array {ρ:Pl} {t n:Nat} {get:Nat->AV} (e:Nat) (segs:Nat->List Value) (hk:(T t).kind = .array n e) (ht:t<N)
  (h:∀ i,i<n->Rep I ρ (get i) (segs i)) (hf:∀ i,i<n->fit T e (get i)=true)
  (hl:∀ i,i<n->(segs i).length=(T e).size):Rep I ρ (.agg t n get) ((List.range n).flatMap segs)
 | row {ρ:Pl} {e:Nat} {full:Bool} {len:Nat} {get:Nat->AV} (b off cap:Nat) (segs:Nat->List Value) (he:e<N) (hc:len<=cap) (hm:cap<2 ^ 63) (hfull:full=true->cap=len)
  (h:∀ i,i<len->Rep I iG (get i) (segs i)) (hf:∀ i,i<len->fit T e (get i)=true)
  (hl:∀ i,i<len->(segs i).length=(T e).size)
  (hI:∀ i,i<len -> ∀ o,o<(T e).size->I b (off+(i*(T e).size+o))=(segs i)[o]?) :
  Rep I ρ (.row e full len get) [.slice (some ⟨b,off,none⟩) len cap]
 | row0 {ρ:Pl} {e:Nat} {full:Bool} {get:Nat->AV} {a:Option Addr} (he:e<N):Rep I ρ (.row e full 0 get) [.slice a 0 0]
 | rp {ρ:Pl} {t:Nat} {x:AV} (b off:Nat) (seg:List Value) (ht:t<N) (h:Rep I iG x seg) (hf:fit T t x=true) (hl:seg.length=(T t).size)
  (hI:∀ o,o<(T t).size->I b (off+o)=seg[o]?):Rep I ρ (.rp t x) [.pointer (some ⟨b,off,none⟩)]
 | own {ρ:Pl} {id:Id} {n i len:Nat} {cap:Option Nat} {x:Value} (p:Place) (hp:ρ id=some p) (hn:n<=p.n) (hx1:x.oneCell'=true)
  (hx:p.n=n -> ∃ c,x = .slice (some ⟨p.b,i*(T p.ty).size,none⟩) len c/\len<=c/\c<2 ^ 63/\i+len<=n/\(i+c)*(T p.ty).size<=p.lim/\(cap=none->(i+c)*(T p.ty).size=p.lim) /\ ∀ k,cap=some k->c=k) :
  Rep I ρ (.own id n i len cap) [x]
 | own0 {ρ:Pl} {id:Id} {cap:Option Nat}:Rep I ρ (.own id 0 0 0 cap) [.slice none 0 0]
 | arr {ρ:Pl} {id:Id} {n i:Nat} {path:List Nat} {lo len hi:Nat} {x:Value} (p:Place) (hp:ρ id=some p) (hn:n<=p.n) (hx1:x.oneCell'=true)
  (
   hx:p.n=n->i<n /\ ∃ t k e,aY T p.ty path=some t/\pathIn T p.ty path/\(T t).kind = .array k e/\lo+len<=hi/\hi<=k/\hi<2 ^ 63 /\
   x = .slice (some ⟨p.b,i*(T p.ty).size+aG T p.ty path+lo*(T e).size,none⟩) len (hi - lo)) :
  Rep I ρ (.arr id n i path lo len hi) [x]
 | ptr {ρ:Pl} {id:Id} {n i:Nat} {path:List Nat} {x:Value} (p:Place) (hp:ρ id=some p) (hn:n<=p.n) (hx1:x.oneCell'=true)
  (hx:p.n=n->i<n/\pathIn T p.ty path/\x = .pointer (some ⟨p.b,i*(T p.ty).size+aG T p.ty path,none⟩)) :
  Rep I ρ (.ptr id n i path) [x]
 | clo {ρ:Pl} {f:FuncId} {caps:List AV} (ys:Array Value) (hl:ys.size=caps.length)
  (h:∀ i c,caps[i]? = some c->Rep I ρ c [ys.getD i undef]):Rep I ρ (.clo f caps) [.func (.func f) #[] ys]
 | mp {ρ:Pl} {id:Id} {x:Value} (p:Place) (hp:ρ id=some p) (hx1:x.oneCell'=true) (hx:p.n=0->x = .map (some p.b)):Rep I ρ (.mp id) [x]
def iJ (ρ ρ':Pl):Prop := ∀ id p,ρ id=some p -> ∃ p',ρ' id=some p'/\p.n<=p'.n/\(p'.n=p.n->p'=p)
def iK (I I':fK):Prop := ∀ b o y,I b o=some y->I' b o=some y
theorem iJ.refl (ρ:Pl):iJ ρ ρ:=λ_ p h=>⟨p,h,aa3 _,λ_=>rfl⟩
theorem iJ.trans {a b c:Pl} (h:iJ a b) (k:iJ b c):iJ a c:=λid p hp=>by
 obtain ⟨p1,f,g,i⟩:=h id p hp;obtain ⟨p2,j,l,m⟩:=k id p1 f;exact ⟨p2,j,aej g l,λe=>by
  have d:p2.n=p1.n:=by omega
  rw [m d];exact i (by rw [<- d];exact e)⟩
theorem iK.refl (I:fK):iK I I:=λ_ _ _ h=>h
theorem iK.trans {a b c:fK} (h:iK a b) (k:iK b c):iK a c:=λ_ _ _ e=>k _ _ _ (h _ _ _ e)
theorem FP (ρ:Pl):iJ iG ρ:=λ_ _ h=>by simp [iG]at h
variable {T N}
theorem Rep.mono {I I':fK} {ρ:Pl} {x:AV} {cs:List Value} (h:Rep T N I ρ x cs) (hI:iK I I'):∀ {ρ':Pl},iJ ρ ρ'->Rep T N I' ρ' x cs:=by
 induction h with
 | v h=>intro _ _;exact .v h
 | struct fs segs hk hn ht h hf hl g=>intro _ hp;exact .struct fs segs hk hn ht (λi u hi=>g i u hi hp) hf hl
 | array e segs hk ht h hf hl g=>intro _ hp;exact .array e segs hk ht (λi hi=>g i hi hp) hf hl
 | row b off cap segs he hc hm hfull h hf hl hi g=>intro _ hp;refine .row b off cap segs he hc hm hfull (λi hi=>g i hi (iJ.refl _)) hf hl (λi k o l=>?_);have d:=hi i k o l;(have f:o<(segs i).length:=by rw [hl i k];exact l);rw [aaR f]at d ⊢;exact hI _ _ _ d
 | row0 he=>intro _ _;exact .row0 he
 | own0=>intro _ _;exact .own0
 | rp b off seg ht h hf hl hi g=>intro _ hp;refine .rp b off seg ht (g (iJ.refl _)) hf hl (λo l=>?_);have d:=hi o l;(have f:o<seg.length:=by rw [hl];exact l);rw [aaR f]at d ⊢;exact hI _ _ _ d
 | own p hp hn hx1 hx =>
  intro ρ' a
  obtain ⟨p',d,f,j⟩:=a _ _ hp
  exact .own p' d (aej hn f) hx1 (λe=>by
   have:p'=p:=j (by omega)
   subst this
   exact hx e)
 | arr p hp hn hx1 hx =>
  intro ρ' a
  obtain ⟨p',d,f,j⟩:=a _ _ hp
  exact .arr p' d (aej hn f) hx1 (λe=>by
   have:p'=p:=j (by omega)
   subst this
   exact hx e)
 | ptr p hp hn hx1 hx =>
  intro ρ' a
  obtain ⟨p',d,f,j⟩:=a _ _ hp
  exact .ptr p' d (aej hn f) hx1 (λe=>by
   have:p'=p:=j (by omega)
   subst this
   exact hx e)
 | clo ys hl h g=>intro _ hp;exact .clo ys hl (λi c hi=>g i c hi hp)
 | mp p hp hx1 hx =>
  intro ρ' a
  obtain ⟨p',d,f,j⟩:=a _ _ hp
  exact .mp p' d hx1 (λe=>by
   have:p'=p:=j (by omega)
   subst this
   exact hx e)
theorem Rep.one {I:fK} {ρ:Pl} {x:AV} {cs:List Value} (h:Rep T N I ρ x cs) (hx:∀ t n g,x ≠ .agg t n g):∃ y,cs=[y]/\y.oneCell'=true:=by
 cases h with| v h=>exact ⟨_,rfl,GZ h⟩| struct=>exact absurd rfl (hx _ _ _)| array=>exact absurd rfl (hx _ _ _)| row=>exact ⟨_,rfl,rfl⟩| row0=>exact ⟨_,rfl,rfl⟩| own0=>exact ⟨_,rfl,rfl⟩| rp=>exact ⟨_,rfl,rfl⟩| own _ _ _ hx1=>exact ⟨_,rfl,hx1⟩| arr _ _ _ hx1=>exact ⟨_,rfl,hx1⟩| ptr _ _ _ hx1=>exact ⟨_,rfl,hx1⟩| clo=>exact ⟨_,rfl,rfl⟩| mp _ _ hx1=>exact ⟨_,rfl,hx1⟩
theorem Rep.cells_one {I:fK} {ρ:Pl} {x:AV} {cs:List Value} (h:Rep T N I ρ x cs):∀ y∈cs,y.oneCell'=true:=by
 induction h with| v h=>intro y a;simp at a;subst a;exact GZ h| @struct _ _ n _ fs segs hk hn ht h hf hl b=>intro y a;simp only [aeQ,adE]at a;obtain ⟨i,hi,a⟩:=a;subst hn;exact b i _ (aaR hi) y a| array e segs hk ht h hf hl b=>intro y a;simp only [aeQ,adE]at a;obtain ⟨i,hi,a⟩:=a;exact b i hi y a| row=>intro y a;simp at a;subst a;rfl| row0=>intro y a;simp at a;subst a;rfl| own0=>intro y a;simp at a;subst a;rfl| rp=>intro y a;simp at a;subst a;rfl| own _ _ _ hx1=>intro y a;simp at a;subst a;exact hx1| arr _ _ _ hx1=>intro y a;simp at a;subst a;exact hx1| ptr _ _ _ hx1=>intro y a;simp at a;subst a;exact hx1| clo=>intro y a;simp at a;subst a;rfl| mp _ _ hx1=>intro y a;simp at a;subst a;exact hx1
theorem Rep.at {I:fK} {ρ:Pl} (p:List Nat):∀ {x:AV} {cs:List Value} {t u:Nat},Rep T N I ρ x cs->fit T t x=true->cs.length=(T t).size->aY T t p=some u->pathIn T t p ->
 ∃ seg,Rep T N I ρ (x.at p) seg/\fit T u (x.at p)=true/\seg.length=(T u).size /\ ∀ o,o<(T u).size->cs[aG T t p+o]? = seg[o]? := by
 induction p with
 | nil =>
  intro x cs t u h hf hl d _;simp only [aY,abf]at d;subst d;exact ⟨cs,by simpa [AV.at]using h,by simpa [AV.at]using hf,hl,λo _=>by simp [aG]⟩
 | cons k p ih =>
  intro x cs t u h hf hl d a;cases h with
  | @struct _ t' n get fs segs hk hn ht h hf' hl' =>
   have l:t'=t:=by simp [fit]at hf;exact hf.1
   subst l;simp only [aY,hk]at d;simp only [pathIn,hk]at a;cases b:fs[k]? with
   | none=>rw [b]at a;exact a.elim
   | some v =>
    rw [b]at a d;obtain ⟨seg,w,y,m,q⟩:=ih (h k v b) (hf' k v b) (hl' k v b) d a;refine ⟨seg,by simpa [AV.at]using w,by simpa [AV.at]using y,m,λo j=>?_⟩;have c:k<n:=by rw [<- hn];exact (List.getElem?_eq_some_iff.1 b).1
    have s:lU T fs k=iY (λi=>(segs i).length) k:=iw λi hi=>by
     have r:i<fs.length:=by omega
     simp only [aaR r,adU,adx];exact (hl' i _ (aaR r)).symm
    rw [<- q o j];simp only [aG,hk,b,s];rw [adN];rcases ado (aG T v p+o) (segs k).length with g | f
    ·exact vT segs c g
    ·have:=q o j;rw [adq f]at this;rw [aaR (by rw [m];exact j)]at this;cases this
  | @array _ t' n get e segs hk ht h hf' hl' =>
   have l:t'=t:=by simp [fit]at hf;exact hf.1
   subst l;simp only [aY,hk]at d;simp only [pathIn,hk]at a;obtain ⟨c,a⟩:=a;obtain ⟨seg,w,y,m,q⟩:=ih (h k c) (hf' k c) (hl' k c) d a;refine ⟨seg,by simpa [AV.at]using w,by simpa [AV.at]using y,m,λo j=>?_⟩;have s:k*(T e).size=iY (λi=>(segs i).length) k:=by
    rw [<- pG];exact iw λi hi=>(hl' i (by omega)).symm
   rw [<- q o j];simp only [aG,hk,s];rw [adN];rcases ado (aG T e p+o) (segs k).length with g | f
   ·exact vT segs c g
   ·have:=q o j;rw [adq f]at this;rw [aaR (by rw [m];exact j)]at this;cases this
  | v _ =>
   have:aY T t (k::p)=none:=by
    simp [fit]at hf;simp only [aY];cases hk:(T t).kind <;> simp_all [TK.isAgg]
   rw [this]at d;cases d
  | _ =>
   have:aY T t (k::p)=none:=by
    simp [fit]at hf;simp only [aY];cases hk:(T t).kind <;> simp_all [TK.isAgg]
   rw [this]at d;cases d
end
end Go.Ab
