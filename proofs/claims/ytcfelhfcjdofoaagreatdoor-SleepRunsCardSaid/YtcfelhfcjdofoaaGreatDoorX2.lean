/- Part 3 of a proof of a statement about the given program: an abstract machine over the model, proved sound, and contracts of the functions that the statement reaches; the last part proves the statement, for every input, with no condition. -/
import Derived.Test.YtcfelhfcjdofoaaGreatDoorX1
set_option autoImplicit false
set_option linter.unusedSimpArgs false
set_option linter.unusedVariables false
namespace Go.Ab
theorem jW {i k:Nat} (h:¬ i=k):Nat.beq i k=false:=by
 cases e:Nat.beq i k with| false=>rfl| true=>exact absurd (abA e) h
theorem NP {α:Type} (segs:Nat->List α) (k:Nat) (a:List α) (hlen:a.length=(segs k).length) (n q:Nat) :
 (
  (
  List.range n).flatMap (λj=>if j=k then a else segs j))[q]? =
  if k<n/\iV (λi=>(segs i).length) k<=q/\q<iV (λi=>(segs i).length) k+(segs k).length then a[q - iV (λi=>(segs i).length) k]? else ((List.range n).flatMap segs)[q]? := by
 have hl:∀ n,((List.range n).flatMap (λj=>if j=k then a else segs j)).length=iV (λi=>(segs i).length) n:=by
  intro n;rw [gU];exact iy λi _=>by split <;> simp_all
 induction n with
 | zero=>simp
 | succ n ih =>
  rw [aeh,ad2,ad2];simp only [aeS,List.flatMap_nil,adY];rcases adv q (iV (λi=>(segs i).length) n)with c | c
  ·rw [acP (by rw [hl];exact c),acP (by rw [gU];exact c),ih];by_cases hc:iV (λi=>(segs i).length) k<=q/\q<iV (λi=>(segs i).length) k+(segs k).length
   ·have b:k<n:=by
     rcases adv k n with h | h
     ·exact h
     ·have:=zS (λi=>(segs i).length) h;omega
    rw [aa2 ⟨b,hc⟩,aa2 ⟨by omega,hc⟩]
   ·rw [xw (λh=>hc h.2),xw (λh=>hc h.2)]
  ·rw [adt (by rw [hl];exact c),adt (by rw [gU];exact c),hl,gU];by_cases b:n=k
   ·subst b;simp only [↓reduceIte];by_cases hc:q<iV (λi=>(segs i).length) n+(segs n).length
    ·rw [aa2 ⟨by omega,c,hc⟩]
    ·rw [xw (λh=>hc h.2.2),adA (by omega),adA (by omega)]
   ·rw [xw b];have d:¬ (k<n+1/\iV (λi=>(segs i).length) k<=q/\q<iV (λi=>(segs i).length) k+(segs k).length):=by
     rintro ⟨f,g,l⟩;have e:k+1<=n:=by omega
     have:=zS (λi=>(segs i).length) e;simp only [iV]at this;omega
    rw [xw d]
section
variable {T:Nat->TI} {N:Nat}
theorem l7 {p:List Nat}:∀ {I:fO} {ρ:Pl} {x:AV} {cs:List Value} {t u:Nat},Rep T N I ρ x cs->fit T t x=true->cs.length=(T t).size->aY T t p=some u->pathIn T t p ->
 aI T t p+(T u).size<=cs.length:=by
 intro I ρ x cs t u h hf hl d a;obtain ⟨seg,w,y,r,q⟩:=h.at p hf hl d a;clear w y;rcases aee (T u).size with o | o
 ·rw [o];rw [hl];clear q r
  induction p generalizing x cs t with
  | nil=>simp [aI]
  | cons k p ih =>
   cases h with
   | @struct _ t' n get fs segs hk hn ht h hf' hl' =>
    have f:t'=t:=by simp [fit]at hf;exact hf.1
    subst f;simp only [aY,hk]at d;simp only [pathIn,hk]at a;cases b:fs[k]? with
    | none=>rw [b]at a;exact a.elim
    | some v =>
     rw [b]at a d;have l:=ih (h k v b) (hf' k v b) (hl' k v b) d a
     have c:k<n:=by rw [<- hn];exact (List.getElem?_eq_some_iff.1 b).1
     have m:jG T fs k=iV (λi=>(segs i).length) k:=iy λi hi=>by
      have g:i<fs.length:=by omega
      simp only [Y0 g,aea,adF];exact (hl' i _ (Y0 g)).symm
     rw [<- hl,gU];have s:iV (λi=>(segs i).length) k+(segs k).length<=iV (λi=>(segs i).length) n:=zS (k:=n) (j:=k+1) (λi=>(segs i).length) (by omega)
     simp only [aI,hk,b,m];have:=hl' k v b
     omega
   | @array _ t' n get e segs hk ht h hf' hl' =>
    have f:t'=t:=by simp [fit]at hf;exact hf.1
    subst f;simp only [aY,hk]at d;simp only [pathIn,hk]at a;obtain ⟨c,a⟩:=a;have l:=ih (h k c) (hf' k c) (hl' k c) d a
    have m:k*(T e).size=iV (λi=>(segs i).length) k:=by
     rw [<- pJ];exact iy λi hi=>(hl' i (by omega)).symm
    rw [<- hl,gU];have s:iV (λi=>(segs i).length) k+(segs k).length<=iV (λi=>(segs i).length) n:=zS (k:=n) (j:=k+1) (λi=>(segs i).length) (by omega)
    simp only [aI,hk,m];have:=hl' k c
    omega
   | v _ =>
    have:aY T t (k::p)=none:=by
     simp [fit]at hf;simp only [aY];cases hk:(T t).kind <;> simp_all [TK.isAgg]
    rw [this]at d;cases d
   | _ =>
    have:aY T t (k::p)=none:=by
     simp [fit]at hf;simp only [aY];cases hk:(T t).kind <;> simp_all [TK.isAgg]
    rw [this]at d;cases d
 ·have l:=q ((T u).size - 1) (by omega);rw [Y0 (show (T u).size - 1<seg.length by omega)]at l;have:=(List.getElem?_eq_some_iff.1 l).1
  omega
theorem Rep.put {I:fO} {ρ:Pl} {y:AV} {r:List Value} {u:Nat} (hy:Rep T N I ρ y r) (a3:fit T u y=true) (a5:r.length=(T u).size) (p:List Nat) :
 ∀ {x:AV} {cs:List Value} {t:Nat},Rep T N I ρ x cs->fit T t x=true->cs.length=(T t).size->aY T t p=some u->pathIn T t p ->
 ∃ cs',Rep T N I ρ (x.put p y) cs'/\fit T t (x.put p y)=true/\cs'.length=(T t).size /\
  ∀ q,cs'[q]? = if aI T t p<=q/\q<aI T t p+(T u).size then r[q - aI T t p]? else cs[q]? := by
 induction p with
 | nil =>
  intro x cs t h hf hl f _;simp only [aY,abg]at f;subst f;refine ⟨r,by simpa [AV.put]using hy,by simpa [AV.put]using a3,a5,λq=>?_⟩;simp only [aI,abq,true_and,ada,aeQ];split
  ·rfl
  ·rw [adA (by omega),adA (by omega)]
 | cons k p ih =>
  intro x cs t h hf hl f d;cases h with
  | @struct _ t' n get fs segs hk hn ht h hf' hl' =>
   have l:t'=t:=by simp [fit]at hf;exact hf.1
   subst l;simp only [aY,hk]at f;simp only [pathIn,hk]at d;cases b:fs[k]? with
   | none=>rw [b]at d;exact d.elim
   | some v =>
    rw [b]at d f;obtain ⟨s',h1,h2,m,h4⟩:=ih (h k v b) (hf' k v b) (hl' k v b) f d;have c:k<n:=by rw [<- hn];exact (List.getElem?_eq_some_iff.1 b).1
    have s:jG T fs k=iV (λi=>(segs i).length) k:=iy λi hi=>by
     have o:i<fs.length:=by omega
     simp only [Y0 o,aea,adF];exact (hl' i _ (Y0 o)).symm
    have a4:=l7 (h k v b) (hf' k v b) (hl' k v b) f d;have g:s'.length=(segs k).length:=by rw [m,hl' k v b]
    refine ⟨(List.range n).flatMap (λj=>if j=k then s' else segs j),?_,?_,?_,λq=>?_⟩
    ·simp only [AV.put];refine .struct fs _ hk hn ht (λi w hi=>?_) (λi w hi=>?_) (λi w hi=>?_)
     ·by_cases a:i=k
      ·subst a;simpa using h1
      ·simp only [jW a,a,adM,adB];exact h i w hi
     ·by_cases a:i=k
      ·subst a;rw [b]at hi;cases hi;simpa using h2
      ·simp only [jW a,adB];exact hf' i w hi
     ·by_cases a:i=k
      ·subst a;rw [b]at hi;cases hi;simpa using m
      ·simp only [a,adM];exact hl' i w hi
    ·simpa [AV.put,fit]using hf
    ·rw [gU,<- hl,gU];exact iy λi _=>by split <;> simp_all
    ·rw [NP segs k s' g n q];simp only [aI,hk,b,s];by_cases hc:iV (λi=>(segs i).length) k<=q/\q<iV (λi=>(segs i).length) k+(segs k).length
     ·rw [aa2 ⟨c,hc⟩,h4];have z:q=iV (λi=>(segs i).length) k+(q - iV (λi=>(segs i).length) k):=by omega
      by_cases hd:aI T v p<=q - iV (λi=>(segs i).length) k/\q - iV (λi=>(segs i).length) k<aI T v p+(T u).size
      ·rw [aa2 hd,aa2 (by omega),Nat.sub_add_eq]
      ·rw [xw hd,xw (by omega)]
       conv=>rhs;rw [z]
       rw [vY segs c (by omega)]
     ·rw [xw (λh=>hc h.2),xw (by omega)]
  | @array _ t' n get e segs hk ht h hf' hl' =>
   have l:t'=t:=by simp [fit]at hf;exact hf.1
   subst l;simp only [aY,hk]at f;simp only [pathIn,hk]at d;obtain ⟨c,d⟩:=d;obtain ⟨s',h1,h2,m,h4⟩:=ih (h k c) (hf' k c) (hl' k c) f d;have s:k*(T e).size=iV (λi=>(segs i).length) k:=by
    rw [<- pJ];exact iy λi hi=>(hl' i (by omega)).symm
   have a4:=l7 (h k c) (hf' k c) (hl' k c) f d;have g:s'.length=(segs k).length:=by rw [m,hl' k c]
   refine ⟨(List.range n).flatMap (λj=>if j=k then s' else segs j),?_,?_,?_,λq=>?_⟩
   ·simp only [AV.put];refine .array e _ hk ht (λi hi=>?_) (λi hi=>?_) (λi hi=>?_)
    ·by_cases a:i=k
     ·subst a;simpa using h1
     ·simp only [jW a,a,adM,adB];exact h i hi
    ·by_cases a:i=k
     ·subst a;simpa using h2
     ·simp only [jW a,adB];exact hf' i hi
    ·by_cases a:i=k
     ·subst a;simpa using m
     ·simp only [a,adM];exact hl' i hi
   ·simpa [AV.put,fit]using hf
   ·rw [gU,<- hl,gU];exact iy λi _=>by split <;> simp_all
   ·rw [NP segs k s' g n q];simp only [aI,hk,s];by_cases hc:iV (λi=>(segs i).length) k<=q/\q<iV (λi=>(segs i).length) k+(segs k).length
    ·rw [aa2 ⟨c,hc⟩,h4];have z:q=iV (λi=>(segs i).length) k+(q - iV (λi=>(segs i).length) k):=by omega
     by_cases hd:aI T e p<=q - iV (λi=>(segs i).length) k/\q - iV (λi=>(segs i).length) k<aI T e p+(T u).size
     ·rw [aa2 hd,aa2 (by omega),Nat.sub_add_eq]
     ·rw [xw hd,xw (by omega)]
      conv=>rhs;rw [z]
      rw [vY segs c (by omega)]
    ·rw [xw (λh=>hc h.2),xw (by omega)]
  | v _ =>
   have:aY T t (k::p)=none:=by
    simp [fit]at hf;simp only [aY];cases hk:(T t).kind <;> simp_all [TK.isAgg]
   rw [this]at f;cases f
  | _ =>
   have:aY T t (k::p)=none:=by
    simp [fit]at hf;simp only [aY];cases hk:(T t).kind <;> simp_all [TK.isAgg]
   rw [this]at f;cases f
end
end Go.Ab
