/- Part 3 of a proof of a statement about the given program: an abstract machine over the model, proved sound, and contracts of the functions that the statement reaches; the last part proves the statement, for every input, with no condition. -/
import Derived.Test.YtcfelhfcjdofoaaGreatDoorX1
set_option autoImplicit false
set_option linter.unusedSimpArgs false
set_option linter.unusedVariables false
namespace Go.Ab
theorem jQ {i k:Nat} (h:¬ i=k):Nat.beq i k=false:=by
 cases e:Nat.beq i k with| false=>rfl| true=>exact absurd (abM e) h
theorem Nw {α:Type} (segs:Nat->List α) (k:Nat) (a:List α) (hlen:a.length=(segs k).length) (n q:Nat) :
 (
  (
  List.range n).flatMap (λj=>if j=k then a else segs j))[q]? =
  if k<n/\iW (λi=>(segs i).length) k<=q/\q<iW (λi=>(segs i).length) k+(segs k).length then a[q - iW (λi=>(segs i).length) k]? else ((List.range n).flatMap segs)[q]? := by
 have hl:∀ n,((List.range n).flatMap (λj=>if j=k then a else segs j)).length=iW (λi=>(segs i).length) n:=by
  intro n;rw [gI];exact gZ λi _=>by split <;> simp_all
 induction n with
 | zero=>simp
 | succ n ih =>
  rw [ad4,adS,adS];simp only [aeF,List.flatMap_nil,adC];rcases adf q (iW (λi=>(segs i).length) n)with c | c
  ·rw [acV (by rw [hl];exact c),acV (by rw [gI];exact c),ih];by_cases hc:iW (λi=>(segs i).length) k<=q/\q<iW (λi=>(segs i).length) k+(segs k).length
   ·have b:k<n:=by
     rcases adf k n with h | h
     ·exact h
     ·have:=zF (λi=>(segs i).length) h;omega
    rw [aaW ⟨b,hc⟩,aaW ⟨by omega,hc⟩]
   ·rw [MC (λh=>hc h.2),MC (λh=>hc h.2)]
  ·rw [adb (by rw [hl];exact c),adb (by rw [gI];exact c),hl,gI];by_cases b:n=k
   ·subst b;simp only [↓reduceIte];by_cases hc:q<iW (λi=>(segs i).length) n+(segs n).length
    ·rw [aaW ⟨by omega,c,hc⟩]
    ·rw [MC (λh=>hc h.2.2),adn (by omega),adn (by omega)]
   ·rw [MC b];have d:¬ (k<n+1/\iW (λi=>(segs i).length) k<=q/\q<iW (λi=>(segs i).length) k+(segs k).length):=by
     rintro ⟨f,g,l⟩;have e:k+1<=n:=by omega
     have:=zF (λi=>(segs i).length) e;simp only [iW]at this;omega
    rw [MC d]
section
variable {T:Nat->TI} {N:Nat}
theorem mg {p:List Nat}:∀ {I:fG} {ρ:Pl} {x:AV} {cs:List Value} {t u:Nat},Rep T N I ρ x cs->fit T t x=true->cs.length=(T t).size->aZ T t p=some u->pathIn T t p ->
 aH T t p+(T u).size<=cs.length:=by
 intro I ρ x cs t u h hf hl d a;obtain ⟨seg,w,y,r,q⟩:=h.at p hf hl d a;clear w y;rcases aeO (T u).size with o | o
 ·rw [o];rw [hl];clear q r
  induction p generalizing x cs t with
  | nil=>simp [aH]
  | cons k p ih =>
   cases h with
   | @struct _ t' n get fs segs hk hn ht h hf' hl' =>
    have f:t'=t:=by simp [fit]at hf;exact hf.1
    subst f;simp only [aZ,hk]at d;simp only [pathIn,hk]at a;cases b:fs[k]? with
    | none=>rw [b]at a;exact a.elim
    | some v =>
     rw [b]at a d;have l:=ih (h k v b) (hf' k v b) (hl' k v b) d a
     have c:k<n:=by rw [<- hn];exact (List.getElem?_eq_some_iff.1 b).1
     have m:lU T fs k=iW (λi=>(segs i).length) k:=gZ λi hi=>by
      have g:i<fs.length:=by omega
      simp only [aaT g,adU,adr];exact (hl' i _ (aaT g)).symm
     rw [<- hl,gI];have s:iW (λi=>(segs i).length) k+(segs k).length<=iW (λi=>(segs i).length) n:=zF (k:=n) (j:=k+1) (λi=>(segs i).length) (by omega)
     simp only [aH,hk,b,m];have:=hl' k v b
     omega
   | @array _ t' n get e segs hk ht h hf' hl' =>
    have f:t'=t:=by simp [fit]at hf;exact hf.1
    subst f;simp only [aZ,hk]at d;simp only [pathIn,hk]at a;obtain ⟨c,a⟩:=a;have l:=ih (h k c) (hf' k c) (hl' k c) d a
    have m:k*(T e).size=iW (λi=>(segs i).length) k:=by
     rw [<- pF];exact gZ λi hi=>(hl' i (by omega)).symm
    rw [<- hl,gI];have s:iW (λi=>(segs i).length) k+(segs k).length<=iW (λi=>(segs i).length) n:=zF (k:=n) (j:=k+1) (λi=>(segs i).length) (by omega)
    simp only [aH,hk,m];have:=hl' k c
    omega
   | v _ =>
    have:aZ T t (k::p)=none:=by
     simp [fit]at hf;simp only [aZ];cases hk:(T t).kind <;> simp_all [TK.isAgg]
    rw [this]at d;cases d
   | _ =>
    have:aZ T t (k::p)=none:=by
     simp [fit]at hf;simp only [aZ];cases hk:(T t).kind <;> simp_all [TK.isAgg]
    rw [this]at d;cases d
 ·have l:=q ((T u).size - 1) (by omega);rw [aaT (show (T u).size - 1<seg.length by omega)]at l;have:=(List.getElem?_eq_some_iff.1 l).1
  omega
theorem Rep.put {I:fG} {ρ:Pl} {y:AV} {r:List Value} {u:Nat} (hy:Rep T N I ρ y r) (a3:fit T u y=true) (a5:r.length=(T u).size) (p:List Nat) :
 ∀ {x:AV} {cs:List Value} {t:Nat},Rep T N I ρ x cs->fit T t x=true->cs.length=(T t).size->aZ T t p=some u->pathIn T t p ->
 ∃ cs',Rep T N I ρ (x.put p y) cs'/\fit T t (x.put p y)=true/\cs'.length=(T t).size /\
  ∀ q,cs'[q]? = if aH T t p<=q/\q<aH T t p+(T u).size then r[q - aH T t p]? else cs[q]? := by
 induction p with
 | nil =>
  intro x cs t h hf hl f _;simp only [aZ,abI]at f;subst f;refine ⟨r,by simpa [AV.put]using hy,by simpa [AV.put]using a3,a5,λq=>?_⟩;simp only [aH,abO,true_and,acW,Nat.sub_zero];split
  ·rfl
  ·rw [adn (by omega),adn (by omega)]
 | cons k p ih =>
  intro x cs t h hf hl f d;cases h with
  | @struct _ t' n get fs segs hk hn ht h hf' hl' =>
   have l:t'=t:=by simp [fit]at hf;exact hf.1
   subst l;simp only [aZ,hk]at f;simp only [pathIn,hk]at d;cases b:fs[k]? with
   | none=>rw [b]at d;exact d.elim
   | some v =>
    rw [b]at d f;obtain ⟨s',h1,h2,m,h4⟩:=ih (h k v b) (hf' k v b) (hl' k v b) f d;have c:k<n:=by rw [<- hn];exact (List.getElem?_eq_some_iff.1 b).1
    have s:lU T fs k=iW (λi=>(segs i).length) k:=gZ λi hi=>by
     have o:i<fs.length:=by omega
     simp only [aaT o,adU,adr];exact (hl' i _ (aaT o)).symm
    have a4:=mg (h k v b) (hf' k v b) (hl' k v b) f d;have g:s'.length=(segs k).length:=by rw [m,hl' k v b]
    refine ⟨(List.range n).flatMap (λj=>if j=k then s' else segs j),?_,?_,?_,λq=>?_⟩
    ·simp only [AV.put];refine .struct fs _ hk hn ht (λi w hi=>?_) (λi w hi=>?_) (λi w hi=>?_)
     ·by_cases a:i=k
      ·subst a;simpa using h1
      ·simp only [jQ a,a,adA,ado];exact h i w hi
     ·by_cases a:i=k
      ·subst a;rw [b]at hi;cases hi;simpa using h2
      ·simp only [jQ a,ado];exact hf' i w hi
     ·by_cases a:i=k
      ·subst a;rw [b]at hi;cases hi;simpa using m
      ·simp only [a,adA];exact hl' i w hi
    ·simpa [AV.put,fit]using hf
    ·rw [gI,<- hl,gI];exact gZ λi _=>by split <;> simp_all
    ·rw [Nw segs k s' g n q];simp only [aH,hk,b,s];by_cases hc:iW (λi=>(segs i).length) k<=q/\q<iW (λi=>(segs i).length) k+(segs k).length
     ·rw [aaW ⟨c,hc⟩,h4];have z:q=iW (λi=>(segs i).length) k+(q - iW (λi=>(segs i).length) k):=by omega
      by_cases hd:aH T v p<=q - iW (λi=>(segs i).length) k/\q - iW (λi=>(segs i).length) k<aH T v p+(T u).size
      ·rw [aaW hd,aaW (by omega),Nat.sub_add_eq]
      ·rw [MC hd,MC (by omega)]
       conv=>rhs;rw [z]
       rw [vW segs c (by omega)]
     ·rw [MC (λh=>hc h.2),MC (by omega)]
  | @array _ t' n get e segs hk ht h hf' hl' =>
   have l:t'=t:=by simp [fit]at hf;exact hf.1
   subst l;simp only [aZ,hk]at f;simp only [pathIn,hk]at d;obtain ⟨c,d⟩:=d;obtain ⟨s',h1,h2,m,h4⟩:=ih (h k c) (hf' k c) (hl' k c) f d;have s:k*(T e).size=iW (λi=>(segs i).length) k:=by
    rw [<- pF];exact gZ λi hi=>(hl' i (by omega)).symm
   have a4:=mg (h k c) (hf' k c) (hl' k c) f d;have g:s'.length=(segs k).length:=by rw [m,hl' k c]
   refine ⟨(List.range n).flatMap (λj=>if j=k then s' else segs j),?_,?_,?_,λq=>?_⟩
   ·simp only [AV.put];refine .array e _ hk ht (λi hi=>?_) (λi hi=>?_) (λi hi=>?_)
    ·by_cases a:i=k
     ·subst a;simpa using h1
     ·simp only [jQ a,a,adA,ado];exact h i hi
    ·by_cases a:i=k
     ·subst a;simpa using h2
     ·simp only [jQ a,ado];exact hf' i hi
    ·by_cases a:i=k
     ·subst a;simpa using m
     ·simp only [a,adA];exact hl' i hi
   ·simpa [AV.put,fit]using hf
   ·rw [gI,<- hl,gI];exact gZ λi _=>by split <;> simp_all
   ·rw [Nw segs k s' g n q];simp only [aH,hk,s];by_cases hc:iW (λi=>(segs i).length) k<=q/\q<iW (λi=>(segs i).length) k+(segs k).length
    ·rw [aaW ⟨c,hc⟩,h4];have z:q=iW (λi=>(segs i).length) k+(q - iW (λi=>(segs i).length) k):=by omega
     by_cases hd:aH T e p<=q - iW (λi=>(segs i).length) k/\q - iW (λi=>(segs i).length) k<aH T e p+(T u).size
     ·rw [aaW hd,aaW (by omega),Nat.sub_add_eq]
     ·rw [MC hd,MC (by omega)]
      conv=>rhs;rw [z]
      rw [vW segs c (by omega)]
    ·rw [MC (λh=>hc h.2),MC (by omega)]
  | v _ =>
   have:aZ T t (k::p)=none:=by
    simp [fit]at hf;simp only [aZ];cases hk:(T t).kind <;> simp_all [TK.isAgg]
   rw [this]at f;cases f
  | _ =>
   have:aZ T t (k::p)=none:=by
    simp [fit]at hf;simp only [aZ];cases hk:(T t).kind <;> simp_all [TK.isAgg]
   rw [this]at f;cases f
end
end Go.Ab
