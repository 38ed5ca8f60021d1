/- Part 3 of a proof of a statement about the given program: an abstract machine over the model, proved sound, and contracts of the functions that the statement reaches; the last part proves the statement, for every input, with no condition. -/
import Derived.Test.YtcfelhfcjdofoaaGreatDoorX1
set_option autoImplicit false
set_option linter.unusedSimpArgs false
set_option linter.unusedVariables false
namespace Go.Ab
theorem kC {i k:Nat} (h:¬ i=k):Nat.beq i k=false:=by
 cases e:Nat.beq i k with| false=>rfl| true=>exact absurd (abe e) h
theorem MC {α:Type} (segs:Nat->List α) (k:Nat) (a:List α) (hlen:a.length=(segs k).length) (n q:Nat) :
 (
  (
  List.range n).flatMap (λj=>if j=k then a else segs j))[q]? =
  if k<n/\iU (λi=>(segs i).length) k<=q/\q<iU (λi=>(segs i).length) k+(segs k).length then a[q - iU (λi=>(segs i).length) k]? else ((List.range n).flatMap segs)[q]? := by
 have hl:∀ n,((List.range n).flatMap (λj=>if j=k then a else segs j)).length=iU (λi=>(segs i).length) n:=by
  intro n;rw [gJ];exact ig λi _=>by split <;> simp_all
 induction n with
 | zero=>simp
 | succ n ih =>
  rw [ac2,acT,acT];simp only [adC,List.flatMap_nil,acB];rcases acf q (iU (λi=>(segs i).length) n)with c | c
  ·rw [abY (by rw [hl];exact c),abY (by rw [gJ];exact c),ih];by_cases hc:iU (λi=>(segs i).length) k<=q/\q<iU (λi=>(segs i).length) k+(segs k).length
   ·have b:k<n:=by
     rcases acf k n with h | h
     ·exact h
     ·have:=zx (λi=>(segs i).length) h;omega
    rw [aaI ⟨b,hc⟩,aaI ⟨by omega,hc⟩]
   ·rw [Y0 (λh=>hc h.2),Y0 (λh=>hc h.2)]
  ·rw [ab8 (by rw [hl];exact c),ab8 (by rw [gJ];exact c),hl,gJ];by_cases b:n=k
   ·subst b;simp only [↓reduceIte];by_cases hc:q<iU (λi=>(segs i).length) n+(segs n).length
    ·rw [aaI ⟨by omega,c,hc⟩]
    ·rw [Y0 (λh=>hc h.2.2),ach (by omega),ach (by omega)]
   ·rw [Y0 b];have d:¬ (k<n+1/\iU (λi=>(segs i).length) k<=q/\q<iU (λi=>(segs i).length) k+(segs k).length):=by
     rintro ⟨f,g,l⟩;have e:k+1<=n:=by omega
     have:=zx (λi=>(segs i).length) e;simp only [iU]at this;omega
    rw [Y0 d]
section
variable {T:Nat->TI} {N:Nat}
theorem lX {p:List Nat}:∀ {I:fB} {ρ:Pl} {x:AV} {cs:List Value} {t u:Nat},Rep T N I ρ x cs->fit T t x=true->cs.length=(T t).size->aW T t p=some u->pathIn T t p ->
 aG T t p+(T u).size<=cs.length:=by
 intro I ρ x cs t u h hf hl d a;obtain ⟨seg,w,y,r,q⟩:=h.at p hf hl d a;clear w y;rcases adx (T u).size with o | o
 ·rw [o];rw [hl];clear q r
  induction p generalizing x cs t with
  | nil=>simp [aG]
  | cons k p ih =>
   cases h with
   | @struct _ t' n get fs segs hk hn ht h hf' hl' =>
    have f:t'=t:=by simp [fit]at hf;exact hf.1
    subst f;simp only [aW,hk]at d;simp only [pathIn,hk]at a;cases b:fs[k]? with
    | none=>rw [b]at a;exact a.elim
    | some v =>
     rw [b]at a d;have l:=ih (h k v b) (hf' k v b) (hl' k v b) d a
     have c:k<n:=by rw [<- hn];exact (List.getElem?_eq_some_iff.1 b).1
     have m:lN T fs k=iU (λi=>(segs i).length) k:=ig λi hi=>by
      have g:i<fs.length:=by omega
      simp only [aaF g,acP,acr];exact (hl' i _ (aaF g)).symm
     rw [<- hl,gJ];have s:iU (λi=>(segs i).length) k+(segs k).length<=iU (λi=>(segs i).length) n:=zx (k:=n) (j:=k+1) (λi=>(segs i).length) (by omega)
     simp only [aG,hk,b,m];have:=hl' k v b
     omega
   | @array _ t' n get e segs hk ht h hf' hl' =>
    have f:t'=t:=by simp [fit]at hf;exact hf.1
    subst f;simp only [aW,hk]at d;simp only [pathIn,hk]at a;obtain ⟨c,a⟩:=a;have l:=ih (h k c) (hf' k c) (hl' k c) d a
    have m:k*(T e).size=iU (λi=>(segs i).length) k:=by
     rw [<- oV];exact ig λi hi=>(hl' i (by omega)).symm
    rw [<- hl,gJ];have s:iU (λi=>(segs i).length) k+(segs k).length<=iU (λi=>(segs i).length) n:=zx (k:=n) (j:=k+1) (λi=>(segs i).length) (by omega)
    simp only [aG,hk,m];have:=hl' k c
    omega
   | v _ =>
    have:aW T t (k::p)=none:=by
     simp [fit]at hf;simp only [aW];cases hk:(T t).kind <;> simp_all [TK.isAgg]
    rw [this]at d;cases d
   | _ =>
    have:aW T t (k::p)=none:=by
     simp [fit]at hf;simp only [aW];cases hk:(T t).kind <;> simp_all [TK.isAgg]
    rw [this]at d;cases d
 ·have l:=q ((T u).size - 1) (by omega);rw [aaF (show (T u).size - 1<seg.length by omega)]at l;have:=(List.getElem?_eq_some_iff.1 l).1
  omega
theorem Rep.put {I:fB} {ρ:Pl} {y:AV} {r:List Value} {u:Nat} (hy:Rep T N I ρ y r) (a3:fit T u y=true) (a5:r.length=(T u).size) (p:List Nat) :
 ∀ {x:AV} {cs:List Value} {t:Nat},Rep T N I ρ x cs->fit T t x=true->cs.length=(T t).size->aW T t p=some u->pathIn T t p ->
 ∃ cs',Rep T N I ρ (x.put p y) cs'/\fit T t (x.put p y)=true/\cs'.length=(T t).size /\
  ∀ q,cs'[q]? = if aG T t p<=q/\q<aG T t p+(T u).size then r[q - aG T t p]? else cs[q]? := by
 induction p with
 | nil =>
  intro x cs t h hf hl f _;simp only [aW,abb]at f;subst f;refine ⟨r,by simpa [AV.put]using hy,by simpa [AV.put]using a3,a5,λq=>?_⟩;simp only [aG,abr,true_and,ab1,Nat.sub_zero];split
  ·rfl
  ·rw [ach (by omega),ach (by omega)]
 | cons k p ih =>
  intro x cs t h hf hl f d;cases h with
  | @struct _ t' n get fs segs hk hn ht h hf' hl' =>
   have l:t'=t:=by simp [fit]at hf;exact hf.1
   subst l;simp only [aW,hk]at f;simp only [pathIn,hk]at d;cases b:fs[k]? with
   | none=>rw [b]at d;exact d.elim
   | some v =>
    rw [b]at d f;obtain ⟨s',h1,h2,m,h4⟩:=ih (h k v b) (hf' k v b) (hl' k v b) f d;have c:k<n:=by rw [<- hn];exact (List.getElem?_eq_some_iff.1 b).1
    have s:lN T fs k=iU (λi=>(segs i).length) k:=ig λi hi=>by
     have o:i<fs.length:=by omega
     simp only [aaF o,acP,acr];exact (hl' i _ (aaF o)).symm
    have a4:=lX (h k v b) (hf' k v b) (hl' k v b) f d;have g:s'.length=(segs k).length:=by rw [m,hl' k v b]
    refine ⟨(List.range n).flatMap (λj=>if j=k then s' else segs j),?_,?_,?_,λq=>?_⟩
    ·simp only [AV.put];refine .struct fs _ hk hn ht (λi w hi=>?_) (λi w hi=>?_) (λi w hi=>?_)
     ·by_cases a:i=k
      ·subst a;simpa using h1
      ·simp only [kC a,a,acG,aci];exact h i w hi
     ·by_cases a:i=k
      ·subst a;rw [b]at hi;cases hi;simpa using h2
      ·simp only [kC a,aci];exact hf' i w hi
     ·by_cases a:i=k
      ·subst a;rw [b]at hi;cases hi;simpa using m
      ·simp only [a,acG];exact hl' i w hi
    ·simpa [AV.put,fit]using hf
    ·rw [gJ,<- hl,gJ];exact ig λi _=>by split <;> simp_all
    ·rw [MC segs k s' g n q];simp only [aG,hk,b,s];by_cases hc:iU (λi=>(segs i).length) k<=q/\q<iU (λi=>(segs i).length) k+(segs k).length
     ·rw [aaI ⟨c,hc⟩,h4];have z:q=iU (λi=>(segs i).length) k+(q - iU (λi=>(segs i).length) k):=by omega
      by_cases hd:aG T v p<=q - iU (λi=>(segs i).length) k/\q - iU (λi=>(segs i).length) k<aG T v p+(T u).size
      ·rw [aaI hd,aaI (by omega),Nat.sub_add_eq]
      ·rw [Y0 hd,Y0 (by omega)]
       conv=>rhs;rw [z]
       rw [vC segs c (by omega)]
     ·rw [Y0 (λh=>hc h.2),Y0 (by omega)]
  | @array _ t' n get e segs hk ht h hf' hl' =>
   have l:t'=t:=by simp [fit]at hf;exact hf.1
   subst l;simp only [aW,hk]at f;simp only [pathIn,hk]at d;obtain ⟨c,d⟩:=d;obtain ⟨s',h1,h2,m,h4⟩:=ih (h k c) (hf' k c) (hl' k c) f d;have s:k*(T e).size=iU (λi=>(segs i).length) k:=by
    rw [<- oV];exact ig λi hi=>(hl' i (by omega)).symm
   have a4:=lX (h k c) (hf' k c) (hl' k c) f d;have g:s'.length=(segs k).length:=by rw [m,hl' k c]
   refine ⟨(List.range n).flatMap (λj=>if j=k then s' else segs j),?_,?_,?_,λq=>?_⟩
   ·simp only [AV.put];refine .array e _ hk ht (λi hi=>?_) (λi hi=>?_) (λi hi=>?_)
    ·by_cases a:i=k
     ·subst a;simpa using h1
     ·simp only [kC a,a,acG,aci];exact h i hi
    ·by_cases a:i=k
     ·subst a;simpa using h2
     ·simp only [kC a,aci];exact hf' i hi
    ·by_cases a:i=k
     ·subst a;simpa using m
     ·simp only [a,acG];exact hl' i hi
   ·simpa [AV.put,fit]using hf
   ·rw [gJ,<- hl,gJ];exact ig λi _=>by split <;> simp_all
   ·rw [MC segs k s' g n q];simp only [aG,hk,s];by_cases hc:iU (λi=>(segs i).length) k<=q/\q<iU (λi=>(segs i).length) k+(segs k).length
    ·rw [aaI ⟨c,hc⟩,h4];have z:q=iU (λi=>(segs i).length) k+(q - iU (λi=>(segs i).length) k):=by omega
     by_cases hd:aG T e p<=q - iU (λi=>(segs i).length) k/\q - iU (λi=>(segs i).length) k<aG T e p+(T u).size
     ·rw [aaI hd,aaI (by omega),Nat.sub_add_eq]
     ·rw [Y0 hd,Y0 (by omega)]
      conv=>rhs;rw [z]
      rw [vC segs c (by omega)]
    ·rw [Y0 (λh=>hc h.2),Y0 (by omega)]
  | v _ =>
   have:aW T t (k::p)=none:=by
    simp [fit]at hf;simp only [aW];cases hk:(T t).kind <;> simp_all [TK.isAgg]
   rw [this]at f;cases f
  | _ =>
   have:aW T t (k::p)=none:=by
    simp [fit]at hf;simp only [aW];cases hk:(T t).kind <;> simp_all [TK.isAgg]
   rw [this]at f;cases f
end
end Go.Ab
