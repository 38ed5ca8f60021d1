/- Part 3 of a proof of a statement about the given program: an abstract machine over the model, proved sound, and contracts of the functions that the statement reaches; the last part proves the statement, for every input, with no condition. -/
import Derived.Test.YtcfelhfcjdofoaaGreatDoorX1
set_option autoImplicit false
set_option linter.unusedSimpArgs false
set_option linter.unusedVariables false
namespace Go.Ab
theorem kJ {i k:Nat} (h:¬ i=k):Nat.beq i k=false:=by
 cases e:Nat.beq i k with| false=>rfl| true=>exact absurd (abJ e) h
theorem Ny {α:Type} (segs:Nat->List α) (k:Nat) (a:List α) (hlen:a.length=(segs k).length) (n q:Nat) :
 (
  (
  List.range n).flatMap (λj=>if j=k then a else segs j))[q]? =
  if k<n/\iY (λi=>(segs i).length) k<=q/\q<iY (λi=>(segs i).length) k+(segs k).length then a[q - iY (λi=>(segs i).length) k]? else ((List.range n).flatMap segs)[q]? := by
 have hl:∀ n,((List.range n).flatMap (λj=>if j=k then a else segs j)).length=iY (λi=>(segs i).length) n:=by
  intro n;rw [gQ];exact iw λi _=>by split <;> simp_all
 induction n with
 | zero=>simp
 | succ n ih =>
  rw [ad8,adY,adY];simp only [aey,List.flatMap_nil,adI];rcases ado q (iY (λi=>(segs i).length) n)with c | c
  ·rw [ac6 (by rw [hl];exact c),ac6 (by rw [gQ];exact c),ih];by_cases hc:iY (λi=>(segs i).length) k<=q/\q<iY (λi=>(segs i).length) k+(segs k).length
   ·have b:k<n:=by
     rcases ado k n with h | h
     ·exact h
     ·have:=zO (λi=>(segs i).length) h;omega
    rw [aaU ⟨b,hc⟩,aaU ⟨by omega,hc⟩]
   ·rw [Y0 (λh=>hc h.2),Y0 (λh=>hc h.2)]
  ·rw [adi (by rw [hl];exact c),adi (by rw [gQ];exact c),hl,gQ];by_cases b:n=k
   ·subst b;simp only [↓reduceIte];by_cases hc:q<iY (λi=>(segs i).length) n+(segs n).length
    ·rw [aaU ⟨by omega,c,hc⟩]
    ·rw [Y0 (λh=>hc h.2.2),adq (by omega),adq (by omega)]
   ·rw [Y0 b];have d:¬ (k<n+1/\iY (λi=>(segs i).length) k<=q/\q<iY (λi=>(segs i).length) k+(segs k).length):=by
     rintro ⟨f,g,l⟩;have e:k+1<=n:=by omega
     have:=zO (λi=>(segs i).length) e;simp only [iY]at this;omega
    rw [Y0 d]
section
variable {T:Nat->TI} {N:Nat}
theorem l7 {p:List Nat}:∀ {I:fK} {ρ:Pl} {x:AV} {cs:List Value} {t u:Nat},Rep T N I ρ x cs->fit T t x=true->cs.length=(T t).size->aY T t p=some u->pathIn T t p ->
 aG T t p+(T u).size<=cs.length:=by
 intro I ρ x cs t u h hf hl d a;obtain ⟨seg,w,y,r,q⟩:=h.at p hf hl d a;clear w y;rcases aeD (T u).size with o | o
 ·rw [o];rw [hl];clear q r
  induction p generalizing x cs t with
  | nil=>simp [aG]
  | cons k p ih =>
   cases h with
   | @struct _ t' n get fs segs hk hn ht h hf' hl' =>
    have f:t'=t:=by simp [fit]at hf;exact hf.1
    subst f;simp only [aY,hk]at d;simp only [pathIn,hk]at a;cases b:fs[k]? with
    | none=>rw [b]at a;exact a.elim
    | some v =>
     rw [b]at a d;have l:=ih (h k v b) (hf' k v b) (hl' k v b) d a
     have c:k<n:=by rw [<- hn];exact (List.getElem?_eq_some_iff.1 b).1
     have m:lU T fs k=iY (λi=>(segs i).length) k:=iw λi hi=>by
      have g:i<fs.length:=by omega
      simp only [aaR g,adU,adx];exact (hl' i _ (aaR g)).symm
     rw [<- hl,gQ];have s:iY (λi=>(segs i).length) k+(segs k).length<=iY (λi=>(segs i).length) n:=zO (k:=n) (j:=k+1) (λi=>(segs i).length) (by omega)
     simp only [aG,hk,b,m];have:=hl' k v b
     omega
   | @array _ t' n get e segs hk ht h hf' hl' =>
    have f:t'=t:=by simp [fit]at hf;exact hf.1
    subst f;simp only [aY,hk]at d;simp only [pathIn,hk]at a;obtain ⟨c,a⟩:=a;have l:=ih (h k c) (hf' k c) (hl' k c) d a
    have m:k*(T e).size=iY (λi=>(segs i).length) k:=by
     rw [<- pG];exact iw λi hi=>(hl' i (by omega)).symm
    rw [<- hl,gQ];have s:iY (λi=>(segs i).length) k+(segs k).length<=iY (λi=>(segs i).length) n:=zO (k:=n) (j:=k+1) (λi=>(segs i).length) (by omega)
    simp only [aG,hk,m];have:=hl' k c
    omega
   | v _ =>
    have:aY T t (k::p)=none:=by
     simp [fit]at hf;simp only [aY];cases hk:(T t).kind <;> simp_all [TK.isAgg]
    rw [this]at d;cases d
   | _ =>
    have:aY T t (k::p)=none:=by
     simp [fit]at hf;simp only [aY];cases hk:(T t).kind <;> simp_all [TK.isAgg]
    rw [this]at d;cases d
 ·have l:=q ((T u).size - 1) (by omega);rw [aaR (show (T u).size - 1<seg.length by omega)]at l;have:=(List.getElem?_eq_some_iff.1 l).1
  omega
theorem Rep.put {I:fK} {ρ:Pl} {y:AV} {r:List Value} {u:Nat} (hy:Rep T N I ρ y r) (a3:fit T u y=true) (a5:r.length=(T u).size) (p:List Nat) :
 ∀ {x:AV} {cs:List Value} {t:Nat},Rep T N I ρ x cs->fit T t x=true->cs.length=(T t).size->aY T t p=some u->pathIn T t p ->
 ∃ cs',Rep T N I ρ (x.put p y) cs'/\fit T t (x.put p y)=true/\cs'.length=(T t).size /\
  ∀ q,cs'[q]? = if aG T t p<=q/\q<aG T t p+(T u).size then r[q - aG T t p]? else cs[q]? := by
 induction p with
 | nil =>
  intro x cs t h hf hl f _;simp only [aY,abf]at f;subst f;refine ⟨r,by simpa [AV.put]using hy,by simpa [AV.put]using a3,a5,λq=>?_⟩;simp only [aG,abM,true_and,acY,aeP];split
  ·rfl
  ·rw [adq (by omega),adq (by omega)]
 | cons k p ih =>
  intro x cs t h hf hl f d;cases h with
  | @struct _ t' n get fs segs hk hn ht h hf' hl' =>
   have l:t'=t:=by simp [fit]at hf;exact hf.1
   subst l;simp only [aY,hk]at f;simp only [pathIn,hk]at d;cases b:fs[k]? with
   | none=>rw [b]at d;exact d.elim
   | some v =>
    rw [b]at d f;obtain ⟨s',h1,h2,m,h4⟩:=ih (h k v b) (hf' k v b) (hl' k v b) f d;have c:k<n:=by rw [<- hn];exact (List.getElem?_eq_some_iff.1 b).1
    have s:lU T fs k=iY (λi=>(segs i).length) k:=iw λi hi=>by
     have o:i<fs.length:=by omega
     simp only [aaR o,adU,adx];exact (hl' i _ (aaR o)).symm
    have a4:=l7 (h k v b) (hf' k v b) (hl' k v b) f d;have g:s'.length=(segs k).length:=by rw [m,hl' k v b]
    refine ⟨(List.range n).flatMap (λj=>if j=k then s' else segs j),?_,?_,?_,λq=>?_⟩
    ·simp only [AV.put];refine .struct fs _ hk hn ht (λi w hi=>?_) (λi w hi=>?_) (λi w hi=>?_)
     ·by_cases a:i=k
      ·subst a;simpa using h1
      ·simp only [kJ a,a,adH,ads];exact h i w hi
     ·by_cases a:i=k
      ·subst a;rw [b]at hi;cases hi;simpa using h2
      ·simp only [kJ a,ads];exact hf' i w hi
     ·by_cases a:i=k
      ·subst a;rw [b]at hi;cases hi;simpa using m
      ·simp only [a,adH];exact hl' i w hi
    ·simpa [AV.put,fit]using hf
    ·rw [gQ,<- hl,gQ];exact iw λi _=>by split <;> simp_all
    ·rw [Ny segs k s' g n q];simp only [aG,hk,b,s];by_cases hc:iY (λi=>(segs i).length) k<=q/\q<iY (λi=>(segs i).length) k+(segs k).length
     ·rw [aaU ⟨c,hc⟩,h4];have z:q=iY (λi=>(segs i).length) k+(q - iY (λi=>(segs i).length) k):=by omega
      by_cases hd:aG T v p<=q - iY (λi=>(segs i).length) k/\q - iY (λi=>(segs i).length) k<aG T v p+(T u).size
      ·rw [aaU hd,aaU (by omega),Nat.sub_add_eq]
      ·rw [Y0 hd,Y0 (by omega)]
       conv=>rhs;rw [z]
       rw [vT segs c (by omega)]
     ·rw [Y0 (λh=>hc h.2),Y0 (by omega)]
  | @array _ t' n get e segs hk ht h hf' hl' =>
   have l:t'=t:=by simp [fit]at hf;exact hf.1
   subst l;simp only [aY,hk]at f;simp only [pathIn,hk]at d;obtain ⟨c,d⟩:=d;obtain ⟨s',h1,h2,m,h4⟩:=ih (h k c) (hf' k c) (hl' k c) f d;have s:k*(T e).size=iY (λi=>(segs i).length) k:=by
    rw [<- pG];exact iw λi hi=>(hl' i (by omega)).symm
   have a4:=l7 (h k c) (hf' k c) (hl' k c) f d;have g:s'.length=(segs k).length:=by rw [m,hl' k c]
   refine ⟨(List.range n).flatMap (λj=>if j=k then s' else segs j),?_,?_,?_,λq=>?_⟩
   ·simp only [AV.put];refine .array e _ hk ht (λi hi=>?_) (λi hi=>?_) (λi hi=>?_)
    ·by_cases a:i=k
     ·subst a;simpa using h1
     ·simp only [kJ a,a,adH,ads];exact h i hi
    ·by_cases a:i=k
     ·subst a;simpa using h2
     ·simp only [kJ a,ads];exact hf' i hi
    ·by_cases a:i=k
     ·subst a;simpa using m
     ·simp only [a,adH];exact hl' i hi
   ·simpa [AV.put,fit]using hf
   ·rw [gQ,<- hl,gQ];exact iw λi _=>by split <;> simp_all
   ·rw [Ny segs k s' g n q];simp only [aG,hk,s];by_cases hc:iY (λi=>(segs i).length) k<=q/\q<iY (λi=>(segs i).length) k+(segs k).length
    ·rw [aaU ⟨c,hc⟩,h4];have z:q=iY (λi=>(segs i).length) k+(q - iY (λi=>(segs i).length) k):=by omega
     by_cases hd:aG T e p<=q - iY (λi=>(segs i).length) k/\q - iY (λi=>(segs i).length) k<aG T e p+(T u).size
     ·rw [aaU hd,aaU (by omega),Nat.sub_add_eq]
     ·rw [Y0 hd,Y0 (by omega)]
      conv=>rhs;rw [z]
      rw [vT segs c (by omega)]
    ·rw [Y0 (λh=>hc h.2),Y0 (by omega)]
  | v _ =>
   have:aY T t (k::p)=none:=by
    simp [fit]at hf;simp only [aY];cases hk:(T t).kind <;> simp_all [TK.isAgg]
   rw [this]at f;cases f
  | _ =>
   have:aY T t (k::p)=none:=by
    simp [fit]at hf;simp only [aY];cases hk:(T t).kind <;> simp_all [TK.isAgg]
   rw [this]at f;cases f
end
end Go.Ab
