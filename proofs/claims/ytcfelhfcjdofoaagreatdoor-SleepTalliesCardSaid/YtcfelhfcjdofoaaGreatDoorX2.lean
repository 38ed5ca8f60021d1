/- Part 3 of a proof of a statement about the given program: an abstract machine over the model, proved sound, and contracts of the functions that the statement reaches; the last part proves the statement, for every input, with no condition. -/
import Derived.Test.YtcfelhfcjdofoaaGreatDoorX1
set_option autoImplicit false
set_option linter.unusedSimpArgs false
set_option linter.unusedVariables false
namespace Go.Ab
theorem gQ {i k:Nat} (h:¬ i=k):Nat.beq i k=false:=by
 cases e:Nat.beq i k with
 | false=>rfl
 | true=>exact absurd (Nat.eq_of_beq_eq_true e) h
theorem DW {α:Type} (segs:Nat→List α) (k:Nat) (seg':List α) (hlen:seg'.length=(segs k).length) (n q:Nat) :
 (
  (
  List.range n).flatMap (fun j=>if j=k then seg' else segs j))[q]? =
  if k<n∧jq (fun i=>(segs i).length) k≤q∧q<jq (fun i=>(segs i).length) k+(segs k).length then seg'[q - jq (fun i=>(segs i).length) k]? else ((List.range n).flatMap segs)[q]? := by
 have hl:∀ n,((List.range n).flatMap (fun j=>if j=k then seg' else segs j)).length=jq (fun i=>(segs i).length) n:=by
  intro n;rw [bV];exact dh fun i _=>by split <;> simp_all
 induction n with
 | zero=>simp
 | succ n ih =>
  rw [List.range_succ,List.flatMap_append,List.flatMap_append];simp only [List.flatMap_cons,List.flatMap_nil,List.append_nil];rcases Nat.lt_or_ge q (jq (fun i=>(segs i).length) n)with hq | hq
  ·rw [List.getElem?_append_left (by rw [hl];exact hq),List.getElem?_append_left (by rw [bV];exact hq),ih];by_cases hc:jq (fun i=>(segs i).length) k≤q∧q<jq (fun i=>(segs i).length) k+(segs k).length
   ·have hkn:k<n:=by
     rcases Nat.lt_or_ge k n with h | h
     ·exact h
     ·have:=qp (fun i=>(segs i).length) h;omega
    rw [if_pos ⟨hkn,hc⟩,if_pos ⟨by omega,hc⟩]
   ·rw [if_neg (fun h=>hc h.2),if_neg (fun h=>hc h.2)]
  ·rw [List.getElem?_append_right (by rw [hl];exact hq),List.getElem?_append_right (by rw [bV];exact hq),hl,bV];by_cases hkn:n=k
   ·subst hkn;simp only [↓reduceIte];by_cases hc:q<jq (fun i=>(segs i).length) n+(segs n).length
    ·rw [if_pos ⟨by omega,hq,hc⟩]
    ·rw [if_neg (fun h=>hc h.2.2),List.getElem?_eq_none (by omega),List.getElem?_eq_none (by omega)]
   ·rw [if_neg hkn];have hnc:¬ (k<n+1∧jq (fun i=>(segs i).length) k≤q∧q<jq (fun i=>(segs i).length) k+(segs k).length):=by
     rintro ⟨h1,h2,h3⟩;have h4:k+1≤n:=by omega
     have:=qp (fun i=>(segs i).length) h4;simp only [jq]at this;omega
    rw [if_neg hnc]
section
variable {T:Nat→TI} {N:Nat}
theorem iD {p:List Nat}:∀ {I:Imm} {ρ:Pl} {x:AV} {cs:List Value} {t u:Nat},Rep T N I ρ x cs→fit T t x=true→cs.length=(T t).size→aJ T t p=some u→pathIn T t p →
 aF T t p+(T u).size≤cs.length:=by
 intro I ρ x cs t u h hf hl hu hin;obtain ⟨seg,q1,q2,h3,h4⟩:=h.at p hf hl hu hin;clear q1 q2;rcases Nat.eq_zero_or_pos (T u).size with h0 | h0
 ·rw [h0];rw [hl];clear h4 h3
  induction p generalizing x cs t with
  | nil=>simp [aF]
  | cons k p ih =>
   cases h with
   | @struct _ t' n get fs segs hk hn ht h hf' hl' =>
    have htt:t'=t:=by simp [fit]at hf;exact hf.1
    subst htt;simp only [aJ,hk]at hu;simp only [pathIn,hk]at hin;cases hfk:fs[k]? with
    | none=>rw [hfk]at hin;exact hin.elim
    | some v =>
     rw [hfk]at hin hu;have h5:=ih (h k v hfk) (hf' k v hfk) (hl' k v hfk) hu hin
     have hkn:k<n:=by rw [← hn];exact (List.getElem?_eq_some_iff.1 hfk).1
     have e1:lK T fs k=jq (fun i=>(segs i).length) k:=dh fun i hi=>by
      have hi':i<fs.length:=by omega
      simp only [List.getElem?_eq_getElem hi',Option.map_some,Option.getD_some];exact (hl' i _ (List.getElem?_eq_getElem hi')).symm
     rw [← hl,bV];have h6:jq (fun i=>(segs i).length) k+(segs k).length≤jq (fun i=>(segs i).length) n:=qp (k:=n) (j:=k+1) (fun i=>(segs i).length) (by omega)
     simp only [aF,hk,hfk,e1];have:=hl' k v hfk
     omega
   | @array _ t' n get e segs hk ht h hf' hl' =>
    have htt:t'=t:=by simp [fit]at hf;exact hf.1
    subst htt;simp only [aJ,hk]at hu;simp only [pathIn,hk]at hin;obtain ⟨hkn,hin⟩:=hin;have h5:=ih (h k hkn) (hf' k hkn) (hl' k hkn) hu hin
    have e1:k*(T e).size=jq (fun i=>(segs i).length) k:=by
     rw [← jC];exact dh fun i hi=>(hl' i (by omega)).symm
    rw [← hl,bV];have h6:jq (fun i=>(segs i).length) k+(segs k).length≤jq (fun i=>(segs i).length) n:=qp (k:=n) (j:=k+1) (fun i=>(segs i).length) (by omega)
    simp only [aF,hk,e1];have:=hl' k hkn
    omega
   | v _ =>
    have:aJ T t (k::p)=none:=by
     simp [fit]at hf;simp only [aJ];cases hk:(T t).kind <;> simp_all [TK.isAgg]
    rw [this]at hu;cases hu
   | _ =>
    have:aJ T t (k::p)=none:=by
     simp [fit]at hf;simp only [aJ];cases hk:(T t).kind <;> simp_all [TK.isAgg]
    rw [this]at hu;cases hu
 ·have h5:=h4 ((T u).size - 1) (by omega);rw [List.getElem?_eq_getElem (show (T u).size - 1<seg.length by omega)]at h5;have:=(List.getElem?_eq_some_iff.1 h5).1
  omega
theorem Rep.put {I:Imm} {ρ:Pl} {y:AV} {sy:List Value} {u:Nat} (hy:Rep T N I ρ y sy) (hfy:fit T u y=true) (hly:sy.length=(T u).size) (p:List Nat) :
 ∀ {x:AV} {cs:List Value} {t:Nat},Rep T N I ρ x cs→fit T t x=true→cs.length=(T t).size→aJ T t p=some u→pathIn T t p →
 ∃ cs',Rep T N I ρ (x.put p y) cs'∧fit T t (x.put p y)=true∧cs'.length=(T t).size ∧
  ∀ q,cs'[q]? = if aF T t p≤q∧q<aF T t p+(T u).size then sy[q - aF T t p]? else cs[q]? := by
 induction p with
 | nil =>
  intro x cs t h hf hl hu _;simp only [aJ,Option.some.injEq]at hu;subst hu;refine ⟨sy,by simpa [AV.put]using hy,by simpa [AV.put]using hfy,hly,fun q=>?_⟩;simp only [aF,Nat.zero_le,true_and,Nat.zero_add,Nat.sub_zero];split
  ·rfl
  ·rw [List.getElem?_eq_none (by omega),List.getElem?_eq_none (by omega)]
 | cons k p ih =>
  intro x cs t h hf hl hu hin;cases h with
  | @struct _ t' n get fs segs hk hn ht h hf' hl' =>
   have htt:t'=t:=by simp [fit]at hf;exact hf.1
   subst htt;simp only [aJ,hk]at hu;simp only [pathIn,hk]at hin;cases hfk:fs[k]? with
   | none=>rw [hfk]at hin;exact hin.elim
   | some v =>
    rw [hfk]at hin hu;obtain ⟨s',h1,h2,h3,h4⟩:=ih (h k v hfk) (hf' k v hfk) (hl' k v hfk) hu hin;have hkn:k<n:=by rw [← hn];exact (List.getElem?_eq_some_iff.1 hfk).1
    have e1:lK T fs k=jq (fun i=>(segs i).length) k:=dh fun i hi=>by
     have hi':i<fs.length:=by omega
     simp only [List.getElem?_eq_getElem hi',Option.map_some,Option.getD_some];exact (hl' i _ (List.getElem?_eq_getElem hi')).symm
    have hle:=iD (h k v hfk) (hf' k v hfk) (hl' k v hfk) hu hin;have hs':s'.length=(segs k).length:=by rw [h3,hl' k v hfk]
    refine ⟨(List.range n).flatMap (fun j=>if j=k then s' else segs j),?_,?_,?_,fun q=>?_⟩
    ·simp only [AV.put];refine .struct fs _ hk hn ht (fun i w hi=>?_) (fun i w hi=>?_) (fun i w hi=>?_)
     ·by_cases hik:i=k
      ·subst hik;simpa using h1
      ·simp only [gQ hik,hik,if_false,cond_false];exact h i w hi
     ·by_cases hik:i=k
      ·subst hik;rw [hfk]at hi;cases hi;simpa using h2
      ·simp only [gQ hik,cond_false];exact hf' i w hi
     ·by_cases hik:i=k
      ·subst hik;rw [hfk]at hi;cases hi;simpa using h3
      ·simp only [hik,if_false];exact hl' i w hi
    ·simpa [AV.put,fit]using hf
    ·rw [bV,← hl,bV];exact dh fun i _=>by split <;> simp_all
    ·rw [DW segs k s' hs' n q];simp only [aF,hk,hfk,e1];by_cases hc:jq (fun i=>(segs i).length) k≤q∧q<jq (fun i=>(segs i).length) k+(segs k).length
     ·rw [if_pos ⟨hkn,hc⟩,h4];have e2:q=jq (fun i=>(segs i).length) k+(q - jq (fun i=>(segs i).length) k):=by omega
      by_cases hd:aF T v p≤q - jq (fun i=>(segs i).length) k∧q - jq (fun i=>(segs i).length) k<aF T v p+(T u).size
      ·rw [if_pos hd,if_pos (by omega),Nat.sub_add_eq]
      ·rw [if_neg hd,if_neg (by omega)]
       conv=>rhs;rw [e2]
       rw [ou segs hkn (by omega)]
     ·rw [if_neg (fun h=>hc h.2),if_neg (by omega)]
  | @array _ t' n get e segs hk ht h hf' hl' =>
   have htt:t'=t:=by simp [fit]at hf;exact hf.1
   subst htt;simp only [aJ,hk]at hu;simp only [pathIn,hk]at hin;obtain ⟨hkn,hin⟩:=hin;obtain ⟨s',h1,h2,h3,h4⟩:=ih (h k hkn) (hf' k hkn) (hl' k hkn) hu hin;have e1:k*(T e).size=jq (fun i=>(segs i).length) k:=by
    rw [← jC];exact dh fun i hi=>(hl' i (by omega)).symm
   have hle:=iD (h k hkn) (hf' k hkn) (hl' k hkn) hu hin;have hs':s'.length=(segs k).length:=by rw [h3,hl' k hkn]
   refine ⟨(List.range n).flatMap (fun j=>if j=k then s' else segs j),?_,?_,?_,fun q=>?_⟩
   ·simp only [AV.put];refine .array e _ hk ht (fun i hi=>?_) (fun i hi=>?_) (fun i hi=>?_)
    ·by_cases hik:i=k
     ·subst hik;simpa using h1
     ·simp only [gQ hik,hik,if_false,cond_false];exact h i hi
    ·by_cases hik:i=k
     ·subst hik;simpa using h2
     ·simp only [gQ hik,cond_false];exact hf' i hi
    ·by_cases hik:i=k
     ·subst hik;simpa using h3
     ·simp only [hik,if_false];exact hl' i hi
   ·simpa [AV.put,fit]using hf
   ·rw [bV,← hl,bV];exact dh fun i _=>by split <;> simp_all
   ·rw [DW segs k s' hs' n q];simp only [aF,hk,e1];by_cases hc:jq (fun i=>(segs i).length) k≤q∧q<jq (fun i=>(segs i).length) k+(segs k).length
    ·rw [if_pos ⟨hkn,hc⟩,h4];have e2:q=jq (fun i=>(segs i).length) k+(q - jq (fun i=>(segs i).length) k):=by omega
     by_cases hd:aF T e p≤q - jq (fun i=>(segs i).length) k∧q - jq (fun i=>(segs i).length) k<aF T e p+(T u).size
     ·rw [if_pos hd,if_pos (by omega),Nat.sub_add_eq]
     ·rw [if_neg hd,if_neg (by omega)]
      conv=>rhs;rw [e2]
      rw [ou segs hkn (by omega)]
    ·rw [if_neg (fun h=>hc h.2),if_neg (by omega)]
  | v _ =>
   have:aJ T t (k::p)=none:=by
    simp [fit]at hf;simp only [aJ];cases hk:(T t).kind <;> simp_all [TK.isAgg]
   rw [this]at hu;cases hu
  | _ =>
   have:aJ T t (k::p)=none:=by
    simp [fit]at hf;simp only [aJ];cases hk:(T t).kind <;> simp_all [TK.isAgg]
   rw [this]at hu;cases hu
end
end Go.Ab
