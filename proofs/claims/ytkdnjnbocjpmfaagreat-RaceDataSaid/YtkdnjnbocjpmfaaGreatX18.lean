/- Part 19 of a proof of a statement about the given program: an abstract machine over the model, proved sound, and contracts of the functions that the statement reaches; the last part proves the statement, for every input, with no condition. -/
import Derived.Test.YtkdnjnbocjpmfaaGreatX17
import Derived.Test.YtkdnjnbocjpmfaaGreatX13
import Derived.Test.YtkdnjnbocjpmfaaGreatRows
set_option linter.unusedSimpArgs false
set_option linter.unusedVariables false
/- Data races: what is found is the reference's. -/
set_option autoImplicit false
set_option maxRecDepth 20000
set_option maxHeartbeats 4000000
set_option linter.unusedSimpArgs false
set_option linter.unusedVariables false
namespace Go.Ab
open Go.Proofs Go.Sort
theorem right_row {x : Evt} (h : rightE x = true) {i : Nat} (hi : (i : Int) + 1 < x.n) : cmpF (tAt x i) (tAt x (i + 1)) < 0 := by
  have hn := right_n h
  simp only [rightE, Bool.and_eq_true] at h
  have h1 := allTo_iff.1 h.2.1 (i + 1) (by omega)
  rw [rowE, if_neg (by omega)] at h1
  simp only [Bool.and_eq_true, Bool.or_eq_true, decide_eq_true_eq, Nat.add_sub_cancel, beq_iff_eq] at h1
  rcases h1.2 with h2 | h2
  · omega
  · exact h2
theorem right_lt {x : Evt} (h : rightE x = true) {i : Nat} : ∀ {d : Nat}, ((i + d + 1 : Nat) : Int) < x.n → (tAt x i).kind < (tAt x (i + d + 1)).kind ∨ (tAt x i).kind = (tAt x (i + d + 1)).kind ∧ (tAt x i).num < (tAt x (i + d + 1)).num
  | 0, hd => by
    have h1 := right_row h (i := i) (by omega)
    rw [Nat.add_zero]
    unfold cmpF at h1
    split at h1
    · rename_i h2; exact h2
    · split at h1 <;> omega
  | d + 1, hd => by
    have h1 := right_lt h (i := i) (d := d) (by omega)
    have h2 := right_row h (i := i + d + 1) (by omega)
    unfold cmpF at h2
    rw [show i + (d + 1) + 1 = i + d + 1 + 1 by omega]
    split at h2
    · rename_i h3; omega
    · split at h2 <;> omega
theorem hit_once {x : Evt} (h : rightE x = true) {k n : Int} {i j : Nat} (hij : i < j) (hj : (j : Int) < x.n) (h1 : hitB k n (tAt x i) = true) (h2 : hitB k n (tAt x j) = true) : False := by
  have h3 := right_lt h (i := i) (d := j - i - 1) (by omega)
  rw [show i + (j - i - 1) + 1 = j by omega] at h3
  simp only [hitB, Bool.and_eq_true, beq_iff_eq] at h1 h2
  omega
theorem touL_snoc {k n : Int} {b : Tch} : ∀ {l : List Tch}, touL k n (l ++ [b]) = if touL k n l ≠ 0 then touL k n l else if hitB k n b = true then (if b.wr = true then 2 else 1) else 0
  | [] => by simp [touL]
  | a :: r => by
    rw [List.cons_append, touL, touL]
    by_cases ha : hitB k n a = true
    · rw [if_pos ha, if_pos ha]
      split <;> split <;> simp_all
    · rw [if_neg ha, if_neg ha, touL_snoc]
theorem touL_no {k n : Int} {l : List Tch} (h : ∀ a ∈ l, hitB k n a = false) : touL k n l = 0 := touL_none fun j hj => h _ (by rw [List.getD_eq_getElem?_getD, List.getElem?_eq_getElem hj]; exact List.getElem_mem hj)
theorem right_clamp {x : Evt} (h : rightE x = true) : (clampN x.n : Int) = x.n := by
  have := right_n h
  unfold clampN; split <;> (try split) <;> omega
theorem plnTo_eq {p : PProg} {x : Evt} (h : rightE x = true) (v : Nat) (hv : v < 8) : ∀ k : Nat, (k : Int) ≤ x.n → (plnTo p x k).getD v 0 = if plainB p v = true then touL 1 v ((touchL x).take k) else 0
  | 0, _ => by
    have : (plnTo p x 0).getD v 0 = 0 := by
      show zero8.getD v 0 = 0
      match v, hv with
      | 0, _ | 1, _ | 2, _ | 3, _ | 4, _ | 5, _ | 6, _ | 7, _ => rfl
    rw [this]
    simp [touL]
  | k + 1, hk => by
    have ih := plnTo_eq (p := p) h v hv k (by omega)
    have hc := right_clamp h
    have hlen : k < (touchL x).length := by rw [touchL_len]; omega
    have hget : (touchL x)[k] = tAt x k := by simp [touchL]
    have hnum := right_num h (k := k) (by omega)
    have htake : (touchL x).take (k + 1) = (touchL x).take k ++ [tAt x k] := by
      rw [List.take_add_one, List.getElem?_eq_getElem hlen, hget]; rfl
    rw [htake, touL_snoc, plnTo]
    by_cases hit : hitB 1 v (tAt x k) = true
    · have h0 : touL 1 v ((touchL x).take k) = 0 := by
        refine touL_no fun a ha => ?_
        rw [List.mem_take_iff_getElem] at ha
        obtain ⟨j, hj, rfl⟩ := ha
        have hj2 : j < k := by omega
        cases hz : hitB 1 v (touchL x)[j] with
        | false => rfl
        | true =>
          have : (touchL x)[j] = tAt x j := by simp [touchL]
          rw [this] at hz
          exact (hit_once h hj2 (by omega) hz hit).elim
      have e1 : (if touL 1 (v : Int) ((touchL x).take k) ≠ 0 then touL 1 (v : Int) ((touchL x).take k) else if hitB 1 v (tAt x k) = true then (if (tAt x k).wr = true then 2 else 1) else 0) = (if (tAt x k).wr = true then 2 else 1) := by rw [if_neg (by simp [h0]), if_pos hit]
      rw [e1]
      simp only [hitB, Bool.and_eq_true, beq_iff_eq] at hit
      have hpl : plnB p (tAt x k) = plainB p v := by
        rw [plnB, plainB, hit.1, hit.2, Bool.eq_iff_iff]
        simp
      rw [hpl]
      by_cases hp : plainB p v = true
      · rw [if_pos hp, if_pos hp, hit.2]
        simp [List.getD_eq_getElem?_getD, plnTo_len, hv]
      · rw [if_neg hp, if_neg hp, ih, if_neg hp]
    · have e2 : (if touL 1 (v : Int) ((touchL x).take k) ≠ 0 then touL 1 (v : Int) ((touchL x).take k) else if hitB 1 v (tAt x k) = true then (if (tAt x k).wr = true then 2 else 1) else 0) = touL 1 v ((touchL x).take k) := by rw [if_neg hit]; split <;> simp_all
      rw [e2]
      by_cases hp : plnB p (tAt x k) = true
      · rw [if_pos hp]
        have hne : (tAt x k).num.toNat ≠ v := by
          intro e
          apply hit
          simp only [plnB, Bool.and_eq_true, beq_iff_eq] at hp
          simp only [hitB, Bool.and_eq_true, beq_iff_eq]
          exact ⟨hp.1, by omega⟩
        rw [← ih]
        simp only [List.getD_eq_getElem?_getD]
        rw [List.getElem?_set_ne hne]
      · rw [if_neg hp, ih]
theorem pln_eq {p : PProg} {x : Evt} (h : rightE x = true) {v : Nat} (hv : v < 8) : (plnF p x).getD v 0 = if plainB p v = true then touF x 1 v else 0 := by
  have hn := right_n h
  rw [plnF, plnTo_eq h v hv _ (by omega), List.take_of_length_le (by rw [touchL_len]; have := right_clamp h; omega)]
  rfl
theorem both_sh {p : PProg} {a b : Evt} (ha : rightE a = true) (hb : rightE b = true) {v : Nat} (hv : v < 8) : bothB (plnF p a) (plnF p b) v = shB p a b v := by
  rw [bothB, pln_eq ha hv, pln_eq hb hv, shB]
  by_cases hp : plainB p v = true
  · rw [if_pos hp, if_pos hp, hp, Bool.true_and, Bool.and_assoc]
  · rw [if_neg hp, if_neg hp]
    have : plainB p v = false := by simpa using hp
    rw [this]; simp
theorem bothTo_iff {x y : List Int} {u : Int} : ∀ {k : Nat}, u ∈ bothTo x y k ↔ ∃ v : Nat, v < k ∧ bothB x y v = true ∧ u = v
  | 0 => by simp [bothTo]
  | k + 1 => by
    rw [bothTo, List.mem_append, bothTo_iff]
    constructor
    · rintro (⟨v, h1, h2, h3⟩ | h)
      · exact ⟨v, by omega, h2, h3⟩
      · split at h
        · rename_i hb
          simp at h
          exact ⟨k, by omega, hb, h⟩
        · cases h
    · rintro ⟨v, h1, h2, h3⟩
      rcases Nat.lt_or_ge v k with h | h
      · exact .inl ⟨v, h, h2, h3⟩
      · obtain rfl : v = k := by omega
        rw [if_pos h2]
        exact .inr (by simp [h3])
theorem sh_lt {p : PProg} {a b : Evt} {v : Int} (h : shB p a b v = true) : v < p.vars.length := by
  simp only [shB, plainB, Bool.and_eq_true, decide_eq_true_eq] at h
  omega
theorem any1To_iff {p : PProg} {a b : Evt} : ∀ {n i : Nat}, 0 ≤ any1To p a b n i ↔ ∃ v : Nat, i ≤ v ∧ v < i + n ∧ shB p a b v = true
  | 0, i => by
    rw [any1To]
    exact ⟨fun h => by omega, fun ⟨v, h1, h2, _⟩ => by omega⟩
  | n + 1, i => by
    rw [any1To]
    split
    · rename_i h
      exact ⟨fun _ => ⟨i, by omega, by omega, h⟩, fun _ => by omega⟩
    · rename_i h
      rw [any1To_iff]
      constructor
      · rintro ⟨v, h1, h2, h3⟩
        exact ⟨v, by omega, by omega, h3⟩
      · rintro ⟨v, h1, h2, h3⟩
        rcases Nat.lt_or_ge i v with h4 | h4
        · exact ⟨v, by omega, by omega, h3⟩
        · obtain rfl : v = i := by omega
          exact absurd h3 h
theorem both_any {p : PProg} {a b : Evt} (hv : p.vars.length ≤ 8) (ha : rightE a = true) (hb : rightE b = true) : decide ((bothF p a b).length > 0) = decide (any1F p a b ≥ 0) := by
  apply decide_eq_decide.2
  have h1 : (bothF p a b).length > 0 ↔ ∃ u, u ∈ bothF p a b := by
    rw [gt_iff_lt, List.length_pos_iff_exists_mem]
  rw [h1, ge_iff_le, any1F, any1To_iff]
  constructor
  · rintro ⟨u, hu⟩
    rw [bothF, bothTo_iff] at hu
    obtain ⟨v, h2, h3, rfl⟩ := hu
    rw [both_sh ha hb h2] at h3
    have := sh_lt h3
    exact ⟨v, Nat.zero_le _, by omega, h3⟩
  · rintro ⟨v, _, h2, h3⟩
    exact ⟨v, by rw [bothF, bothTo_iff]; exact ⟨v, by omega, by rw [both_sh ha hb (by omega)]; exact h3, rfl⟩⟩
theorem data_eq {p : PProg} {t : List Evt} (h : fitF p t = 0) : dataL p t = refData p t := by
  have hv := fit_vars h
  rw [dataL, if_pos h, pairsF, if_pos hv.2, edges_eq hv.2, refData, refPairs, keepL, List.filter_filter]
  refine List.filter_congr (fun x hx => ?_)
  obtain ⟨a, b, rfl, h1, h2⟩ := edgesR_in (Nat.le_refl _) hx
  have e := both_any (p := p) hv.1 (chk_evt hv.2 (i := a) (by omega)) (chk_evt hv.2 h2)
  simp only [delP, goNe, anyB, dataW, Int.toNat_natCast]
  rw [e, Bool.not_or, Bool.not_not, Bool.and_comm]
end Go.Ab


/- What is found is the reference's, in its order. -/
set_option autoImplicit false
set_option maxRecDepth 20000
set_option maxHeartbeats 4000000
set_option linter.unusedSimpArgs false
set_option linter.unusedVariables false
namespace Go.Ab
open Go.Proofs Go.Sort
theorem less_tri (f g : Fnd) : lessB f g = true ∨ f = g ∨ lessB g f = true := by
  simp only [lessB, lt_cmpF, decide_eq_true_eq]
  by_cases e : f = g
  · exact .inr (.inl e)
  · have : f.v.val ≠ g.v.val ∨ f.fa ≠ g.fa ∨ f.fb ≠ g.fb ∨ f.ga ≠ g.ga ∨ f.gb ≠ g.gb := by
      by_cases h : f.v.val ≠ g.v.val ∨ f.fa ≠ g.fa ∨ f.fb ≠ g.fb ∨ f.ga ≠ g.ga ∨ f.gb ≠ g.gb
      · exact h
      · exfalso
        apply e
        obtain ⟨a, b, c, d, v⟩ := f
        obtain ⟨a', b', c', d', v'⟩ := g
        simp only [not_or, Decidable.not_not] at h
        simp only [Fnd.mk.injEq, _root_.Fin.ext_iff]
        exact ⟨h.2.1, h.2.2.1, h.2.2.2.1, h.2.2.2.2, h.1⟩
    omega
theorem less_irr (f : Fnd) : lessB f f = false := swoF.irrefl f
theorem less_trans {f g h : Fnd} (h1 : lessB f g = true) (h2 : lessB g h = true) : lessB f h = true := swoF.trans _ _ _ h1 h2
theorem less_asymm {f g : Fnd} (h1 : lessB f g = true) (h2 : lessB g f = true) : False := by
  have := less_trans h1 h2
  rw [less_irr] at this; cases this
def insF (f : Fnd) : List Fnd → List Fnd
  | [] => [f]
  | a :: r => if a = f then a :: r else if lessB f a = true then f :: a :: r else a :: insF f r
theorem insF_all {f b : Fnd} : ∀ {m : List Fnd}, (∀ a ∈ m, lessB a f = true) → insF f (m ++ [b]) = m ++ insF f [b]
  | [], _ => rfl
  | a :: r, h => by
    have ha := h a (List.mem_cons_self ..)
    rw [List.cons_append, insF, if_neg (fun e => by rw [e, less_irr] at ha; cases ha), if_neg (fun e => less_asymm ha e), insF_all (fun b hb => h b (List.mem_cons_of_mem _ hb))]
    rfl
theorem insF_end {f : Fnd} : ∀ {m : List Fnd}, (∀ a ∈ m, lessB a f = true) → insF f m = m ++ [f]
  | [], _ => rfl
  | a :: r, h => by
    have ha := h a (List.mem_cons_self ..)
    rw [insF, if_neg (fun e => by rw [e, less_irr] at ha; cases ha), if_neg (fun e => less_asymm ha e), insF_end (fun b hb => h b (List.mem_cons_of_mem _ hb))]
    rfl
theorem insF_in {f b : Fnd} : ∀ {m : List Fnd}, (∃ a ∈ m, lessB a f = false) → insF f (m ++ [b]) = insF f m ++ [b]
  | [], h => by obtain ⟨a, ha, _⟩ := h; cases ha
  | a :: r, h => by
    rw [List.cons_append, insF, insF]
    by_cases e1 : a = f
    · rw [if_pos e1, if_pos e1]; rfl
    · rw [if_neg e1, if_neg e1]
      by_cases e2 : lessB f a = true
      · rw [if_pos e2, if_pos e2]; rfl
      · rw [if_neg e2, if_neg e2, insF_in (m := r)]
        · rfl
        · obtain ⟨c, hc, hc2⟩ := h
          rcases List.mem_cons.1 hc with rfl | hc
          · rcases less_tri c f with h3 | h3 | h3
            · rw [h3] at hc2; cases hc2
            · exact absurd h3 e1
            · exact absurd h3 e2
          · exact ⟨c, hc, hc2⟩
theorem putTo_eq {l : List Fnd} {f : Fnd} : ∀ {i : Nat}, i ≤ l.length → ((∀ a ∈ l.take i, lessB a f = true) → putTo l f i = (false, l.take i)) ∧ ((∃ a ∈ l.take i, lessB a f = false) → putTo l f i = (true, insF f (l.take i)))
  | 0, _ => ⟨fun _ => by simp [putTo], fun ⟨a, ha, _⟩ => by simp at ha⟩
  | i + 1, hi => by
    obtain ⟨ih1, ih2⟩ := putTo_eq (l := l) (f := f) (i := i) (by omega)
    have hb : l.take (i + 1) = l.take i ++ [l.getD i fnd0] := by
      rw [List.take_add_one, List.getElem?_eq_getElem hi]
      simp [List.getD_eq_getElem?_getD, List.getElem?_eq_getElem (show i < l.length from hi)]
    generalize l.getD i fnd0 = b at hb
    have hstep : putTo l f (i + 1) = (((putTo l f i).1 || b == f) || lessB f b, (if (!((putTo l f i).1 || b == f) && lessB f b) = true then (putTo l f i).2 ++ [f] else (putTo l f i).2) ++ [b]) := by
      rw [putTo]
      have : l.getD i fnd0 = b := by
        have h1 : l.take (i + 1) = l.take i ++ [l.getD i fnd0] := by
          rw [List.take_add_one, List.getElem?_eq_getElem hi]
          simp [List.getD_eq_getElem?_getD, List.getElem?_eq_getElem (show i < l.length from hi)]
        have h2 := h1.symm.trans hb
        simpa using List.append_cancel_left h2
      rw [this]
    by_cases hall : ∀ a ∈ l.take i, lessB a f = true
    · rw [hstep, ih1 hall, hb]
      simp only [Bool.false_or]
      refine ⟨fun h => ?_, fun h => ?_⟩
      · have hbf := h b (by simp)
        have e1 : (b == f) = false := by
          rw [beq_eq_false_iff_ne]; rintro rfl; rw [less_irr] at hbf; cases hbf
        have e2 : lessB f b = false := by
          cases hz : lessB f b with
          | false => rfl
          | true => exact (less_asymm hbf hz).elim
        simp [e1, e2]
      · have hbf : lessB b f = false := by
          obtain ⟨a, ha, ha2⟩ := h
          rcases List.mem_append.1 ha with ha | ha
          · rw [hall a ha] at ha2; cases ha2
          · simp at ha; rw [← ha]; exact ha2
        rw [insF_all hall]
        by_cases e : b = f
        · subst e
          simp [insF]
        · rcases less_tri b f with h3 | h3 | h3
          · rw [h3] at hbf; cases hbf
          · exact absurd h3 e
          · have e1 : (b == f) = false := by rw [beq_eq_false_iff_ne]; exact e
            simp [insF, e1, h3, e]
    · have hex : ∃ a ∈ l.take i, lessB a f = false := by
        simp only [Classical.not_forall, Bool.not_eq_true] at hall
        obtain ⟨a, ha, h⟩ := hall
        exact ⟨a, ha, h⟩
      rw [hstep, ih2 hex, hb, insF_in hex]
      refine ⟨fun h => ?_, fun _ => by simp⟩
      obtain ⟨a, ha, h2⟩ := hex
      have := h a (List.mem_append_left _ ha)
      rw [h2] at this; cases this
theorem putF_eq (l : List Fnd) (f : Fnd) : putF l f = insF f l := by
  obtain ⟨h1, h2⟩ := putTo_eq (l := l) (f := f) (i := l.length) (Nat.le_refl _)
  rw [List.take_length] at h1 h2
  by_cases hall : ∀ a ∈ l, lessB a f = true
  · rw [putF, h1 hall, insF_end hall]; rfl
  · have hex : ∃ a ∈ l, lessB a f = false := by
      simp only [Classical.not_forall, Bool.not_eq_true] at hall
      obtain ⟨a, ha, h⟩ := hall
      exact ⟨a, ha, h⟩
    rw [putF, h2 hex]; rfl
theorem insF_mem {f g : Fnd} : ∀ {l : List Fnd}, g ∈ insF f l ↔ g = f ∨ g ∈ l
  | [] => by simp [insF]
  | a :: r => by
    rw [insF]
    split
    · rename_i e
      subst e
      simp
    · split
      · simp
      · rw [List.mem_cons, insF_mem, List.mem_cons]
        constructor
        · rintro (h | h | h)
          · exact .inr (.inl h)
          · exact .inl h
          · exact .inr (.inr h)
        · rintro (h | h | h)
          · exact .inr (.inl h)
          · exact .inl h
          · exact .inr (.inr h)
theorem insF_sorted {f : Fnd} : ∀ {l : List Fnd}, l.Pairwise (fun a b => lessB a b = true) → (insF f l).Pairwise (fun a b => lessB a b = true)
  | [], _ => by simp [insF]
  | a :: r, h => by
    rw [List.pairwise_cons] at h
    rw [insF]
    split
    · exact List.pairwise_cons.2 h
    · rename_i e1
      split
      · rename_i e2
        refine List.pairwise_cons.2 ⟨fun b hb => ?_, List.pairwise_cons.2 h⟩
        rcases List.mem_cons.1 hb with rfl | hb
        · exact e2
        · exact less_trans e2 (h.1 b hb)
      · rename_i e2
        refine List.pairwise_cons.2 ⟨fun b hb => ?_, insF_sorted h.2⟩
        rcases insF_mem.1 hb with rfl | hb
        · rcases less_tri a b with h3 | h3 | h3
          · exact h3
          · exact absurd h3 e1
          · exact absurd h3 e2
        · exact h.1 b hb
theorem innR_spec {p : PProg} {x y : Evt} {L : List Fnd} (hL : L.Pairwise (fun a b => lessB a b = true)) : ∀ v, (innR p x y L v).Pairwise (fun a b => lessB a b = true) ∧ ∀ g, g ∈ innR p x y L v ↔ g ∈ L ∨ ∃ u : Nat, u < v ∧ shB p x y u = true ∧ g = fndI x y u
  | 0 => ⟨hL, fun g => by simp [innR]⟩
  | v + 1 => by
    obtain ⟨h1, h2⟩ := innR_spec hL v
    rw [innR]
    split
    · rename_i hs
      rw [putF_eq]
      refine ⟨insF_sorted h1, fun g => ?_⟩
      rw [insF_mem, h2]
      constructor
      · rintro (h | h | ⟨u, h3, h4, h5⟩)
        · exact .inr ⟨v, by omega, hs, h⟩
        · exact .inl h
        · exact .inr ⟨u, by omega, h4, h5⟩
      · rintro (h | ⟨u, h3, h4, h5⟩)
        · exact .inr (.inl h)
        · rcases Nat.lt_or_ge u v with h6 | h6
          · exact .inr (.inr ⟨u, h6, h4, h5⟩)
          · obtain rfl : u = v := by omega
            exact .inl h5
    · rename_i hs
      refine ⟨h1, fun g => ?_⟩
      rw [h2]
      constructor
      · rintro (h | ⟨u, h3, h4, h5⟩)
        · exact .inl h
        · exact .inr ⟨u, by omega, h4, h5⟩
      · rintro (h | ⟨u, h3, h4, h5⟩)
        · exact .inl h
        · rcases Nat.lt_or_ge u v with h6 | h6
          · exact .inr ⟨u, h6, h4, h5⟩
          · obtain rfl : u = v := by omega
            exact absurd h4 hs
theorem outR_spec {p : PProg} {t : List Evt} {D : List Pr} : ∀ i, (outR p t D i).Pairwise (fun a b => lessB a b = true) ∧ ∀ g, g ∈ outR p t D i ↔ ∃ j, j < i ∧ ∃ u : Nat, u < p.vars.length ∧ shB p (eAt t (pAt D j).1.toNat) (eAt t (pAt D j).2.toNat) u = true ∧ g = fndI (eAt t (pAt D j).1.toNat) (eAt t (pAt D j).2.toNat) u
  | 0 => ⟨List.Pairwise.nil, fun g => by simp [outR]⟩
  | i + 1 => by
    obtain ⟨h1, h2⟩ := outR_spec (p := p) (t := t) (D := D) i
    rw [outR]
    obtain ⟨h3, h4⟩ := innR_spec (p := p) (x := eAt t (pAt D i).1.toNat) (y := eAt t (pAt D i).2.toNat) h1 p.vars.length
    refine ⟨h3, fun g => ?_⟩
    rw [h4, h2]
    constructor
    · rintro (⟨j, h5, h6⟩ | h)
      · exact ⟨j, by omega, h6⟩
      · exact ⟨i, by omega, h⟩
    · rintro ⟨j, h5, h6⟩
      rcases Nat.lt_or_ge j i with h7 | h7
      · exact .inl ⟨j, h7, h6⟩
      · obtain rfl : j = i := by omega
        exact .inr h6
theorem ddF_spec {l : List Fnd} (h : l.Pairwise fun x y => lessB y x = false) : ∀ {k : Nat}, k ≤ l.length → (dd fnd0 l k).Pairwise (fun a b => lessB a b = true) ∧ ∀ g, g ∈ dd fnd0 l k ↔ g ∈ l.take k
  | 0, _ => ⟨List.Pairwise.nil, fun g => by simp [dd]⟩
  | k + 1, hk => by
    obtain ⟨h1, h2⟩ := ddF_spec h (k := k) (by omega)
    have hkl : k < l.length := hk
    have ht : l.take (k + 1) = l.take k ++ [l.getD k fnd0] := by
      rw [List.take_add_one, List.getElem?_eq_getElem hkl]
      simp [List.getD_eq_getElem?_getD, List.getElem?_eq_getElem hkl]
    have hge : ∀ j, j < k → lessB (l.getD k fnd0) (l.getD j fnd0) = false := fun j hj => by
      have := (List.pairwise_iff_getElem.1 h) j k (by omega) hkl hj
      simpa [List.getD_eq_getElem?_getD, hkl, show j < l.length by omega] using this
    rw [dd]
    split
    · rename_i e
      refine ⟨h1, fun g => ?_⟩
      rw [h2, ht, List.mem_append]
      refine ⟨.inl, fun hh => ?_⟩
      rcases hh with hh | hh
      · exact hh
      · simp only [List.mem_singleton] at hh
        rw [hh, e.2, List.mem_take_iff_getElem]
        refine ⟨k - 1, by omega, ?_⟩
        simp [List.getD_eq_getElem?_getD, show k - 1 < l.length by omega]
    · rename_i e
      refine ⟨List.pairwise_append.2 ⟨h1, List.pairwise_singleton _ _, fun a ha b hb => ?_⟩, fun g => ?_⟩
      · simp only [List.mem_singleton] at hb
        subst hb
        rw [h2, List.mem_take_iff_getElem] at ha
        obtain ⟨j, hj, rfl⟩ := ha
        have hj2 : j < k := by omega
        have hne : l.getD k fnd0 ≠ l.getD (k - 1) fnd0 := fun e2 => e ⟨by omega, e2⟩
        have g1 := hge (k - 1) (by omega)
        have g2 : lessB (l.getD (k - 1) fnd0) (l.getD k fnd0) = true := by
          rcases less_tri (l.getD (k - 1) fnd0) (l.getD k fnd0) with h3 | h3 | h3
          · exact h3
          · exact absurd h3.symm hne
          · rw [h3] at g1; cases g1
        have e3 : l[j] = l.getD j fnd0 := by simp [List.getD_eq_getElem?_getD, show j < l.length by omega]
        rw [e3]
        rcases Nat.lt_or_ge j (k - 1) with h4 | h4
        · have g3 : lessB (l.getD (k - 1) fnd0) (l.getD j fnd0) = false := by
            have := (List.pairwise_iff_getElem.1 h) j (k - 1) (by omega) (by omega) h4
            simpa [List.getD_eq_getElem?_getD, show k - 1 < l.length by omega, show j < l.length by omega] using this
          rcases less_tri (l.getD j fnd0) (l.getD (k - 1) fnd0) with h5 | h5 | h5
          · exact less_trans h5 g2
          · rw [h5]; exact g2
          · rw [h5] at g3; cases g3
        · obtain rfl : j = k - 1 := by omega
          exact g2
      · rw [List.mem_append, h2, ht, List.mem_append]
theorem sorted_eq {l l' : List Fnd} (h : l.Pairwise (fun a b => lessB a b = true)) (h' : l'.Pairwise (fun a b => lessB a b = true)) (hm : ∀ x, x ∈ l ↔ x ∈ l') : l = l' := by
  have nd : ∀ {l : List Fnd}, l.Pairwise (fun a b => lessB a b = true) → l.Nodup := fun h => h.imp (fun {a b} hab e => by subst e; rw [less_irr] at hab; cases hab)
  exact List.Perm.eq_of_pairwise (le := fun a b => lessB a b = true) (fun a b _ _ h1 h2 => (less_asymm h1 h2).elim) h h' ((List.perm_ext_iff_of_nodup (nd h) (nd h')).2 hm)
theorem outTo_mem {p : PProg} {t : List Evt} {D : List Pr} {g : Fnd} : g ∈ outTo p t D D.length ↔ ∃ j, j < D.length ∧ ∃ u, u ∈ bothF p (eAt t (pAt D j).1.toNat) (eAt t (pAt D j).2.toNat) ∧ g = fndI (eAt t (pAt D j).1.toNat) (eAt t (pAt D j).2.toNat) u := by
  rw [outTo, List.take_length, List.mem_flatMap]
  constructor
  · rintro ⟨x, hx, hg⟩
    obtain ⟨j, hj, rfl⟩ := List.getElem_of_mem hx
    rw [rowFs, List.mem_map] at hg
    obtain ⟨u, h1, h2⟩ := hg
    have e : pAt D j = D[j] := by simp [pAt, hj]
    exact ⟨j, hj, u, by rw [e]; exact h1, by rw [e]; exact h2.symm⟩
  · rintro ⟨j, hj, u, h1, h2⟩
    have e : pAt D j = D[j] := by simp [pAt, hj]
    refine ⟨D[j], List.getElem_mem hj, ?_⟩
    rw [rowFs, List.mem_map]
    rw [e] at h1 h2
    exact ⟨u, h1, h2.symm⟩
theorem races_ref (p : PProg) (t : List Evt) : racesFs p t = refRaces p t := by
  by_cases h : fitF p t = 0
  · have hv := fit_vars h
    rw [racesFs, data_eq h, refRaces, if_pos h]
    have hs := sortBy_sorted swoF (outTo p t (refData p t) (refData p t).length)
    have hp := sortBy_perm swoF (outTo p t (refData p t) (refData p t).length)
    obtain ⟨d1, d2⟩ := ddF_spec (l := sortFs (outTo p t (refData p t) (refData p t).length)) hs (Nat.le_refl _)
    obtain ⟨o1, o2⟩ := outR_spec (p := p) (t := t) (D := refData p t) (refData p t).length
    refine sorted_eq d1 o1 (fun g => ?_)
    rw [d2, List.take_length, show g ∈ sortFs (outTo p t (refData p t) (refData p t).length) ↔ g ∈ outTo p t (refData p t) (refData p t).length from hp.mem_iff, o2, outTo_mem]
    have key : ∀ j, j < (refData p t).length → ∀ u : Int, (u ∈ bothF p (eAt t (pAt (refData p t) j).1.toNat) (eAt t (pAt (refData p t) j).2.toNat) ↔ ∃ v : Nat, v < p.vars.length ∧ shB p (eAt t (pAt (refData p t) j).1.toNat) (eAt t (pAt (refData p t) j).2.toNat) v = true ∧ u = v) := by
      intro j hj u
      have hm : pAt (refData p t) j ∈ refData p t := by simp [pAt, List.getD_eq_getElem?_getD, hj]
      obtain ⟨a, b, e, h1, h2⟩ := refPairs_in (List.mem_filter.1 hm).1
      rw [e]
      simp only [Int.toNat_natCast]
      rw [bothF, bothTo_iff]
      constructor
      · rintro ⟨v, h3, h4, h5⟩
        rw [both_sh (chk_evt hv.2 (by omega)) (chk_evt hv.2 h2) h3] at h4
        have := sh_lt h4
        exact ⟨v, by omega, h4, h5⟩
      · rintro ⟨v, h3, h4, h5⟩
        exact ⟨v, by omega, by rw [both_sh (chk_evt hv.2 (by omega)) (chk_evt hv.2 h2) (by omega)]; exact h4, h5⟩
    constructor
    · rintro ⟨j, hj, u, h1, h2⟩
      obtain ⟨v, h3, h4, rfl⟩ := (key j hj u).1 h1
      exact ⟨j, hj, v, h3, h4, h2⟩
    · rintro ⟨j, hj, v, h3, h4, h5⟩
      exact ⟨j, hj, v, (key j hj v).2 ⟨v, h3, h4, rfl⟩, h5⟩
  · have e : dataL p t = [] := by rw [dataL, if_neg h]
    rw [refRaces, if_neg h, racesFs, e, show outTo p t [] [].length = [] from rfl, show sortFs [] = [] from List.eq_nil_of_length_eq_zero (sortBy_len swoF [])]
    rfl
theorem raceDataLaw_ac (g : Bool) (p : PProg) (t : List Evt) : AC Tryz.prog T tysN 3 [encProg p, evts g t] [] (.bool true) [] := by
 refine AC_intro hT Tryz.func3 rfl rfl (Nat.le_of_ble_eq_true rfl) ?_
 refine sq (rg [] rfl ?_)
 refine sq (rgs [CG.pure (.tup [prs false (dataL p t), .int (fitF p t)])] rfl ?_ ?_)
 ·have h1 := data_ac g p t
  simp only [holdsC, under, CG.pure]
  repeat' with_reducible refine And.intro ?_ ?_
  all_goals (try with_reducible intros)
  all_goals (first | exact trivial | assumption | omega | exact h1 | (simp; done))
 refine sq (rgs [CG.pure (.tup [fnds false (racesFs p t), .int (fitF p t)])] rfl ?_ ?_)
 ·have h1 := racesF_ac g p t
  simp only [holdsC, under, CG.pure]
  repeat' with_reducible refine And.intro ?_ ?_
  all_goals (try with_reducible intros)
  all_goals (first | exact trivial | assumption | omega | exact h1 | (simp; done))
 refine sq (rgs [CG.pure (.tup [fnds false (racesFs p t), .int (fitF p t)])] rfl ?_ ?_)
 ·have h1 := rraces_ac g p t
  rw [← races_ref] at h1
  simp only [holdsC, under, CG.pure]
  repeat' with_reducible refine And.intro ?_ ?_
  all_goals (try with_reducible intros)
  all_goals (first | exact trivial | assumption | omega | exact h1 | (simp; done))
 refine sq (sq (rgs [CG.pure (.bool true), CG.pure (.bool true)] rfl ?_ ?_))
 ·have h1 := sameFs_ac false false (racesFs p t) (racesFs p t)
  rw [decide_eq_true rfl] at h1
  have h2 := speaks_ac ()
  simp only [holdsC, under, CG.pure]
  repeat' with_reducible refine And.intro ?_ ?_
  all_goals (try with_reducible intros)
  all_goals (first | exact trivial | assumption | omega | exact h1 | exact h2 | (simp; done))
 refine cd rfl (fun h4 => ?_) (fun h4 => ?_)
 ·exfalso
  have e := h4
  simp at e
 ·refine sk (sq (sq (rg [] rfl ?_)))
  refine cd rfl (fun h6 => ?_) (fun h6 => ?_)
  ·have hbad : fitF p t ≠ 0 := by simpa using h6
   refine sq (rg [] rfl ?_)
   refine WP.ret ?_
   change Fin ..
   refine fin1 hT (by rfl) ?_
   rw [dataL, if_neg hbad]; rfl
  ·have hz : fitF p t = 0 := by simpa using h6
   have hv := fit_vars hz
   refine sk (sq (rgs [CG.pure (prs false (dataL p t)), CG.pure (.bool true)] rfl ?_ ?_))
   ·have h1 := rdata_ac g p t (chk_right hv.2) hv.1
    rw [← data_eq hz] at h1
    have h2 := same_ac false false (dataL p t) (dataL p t)
    rw [decide_eq_true rfl] at h2
    simp only [holdsC, under, CG.pure]
    repeat' with_reducible refine And.intro ?_ ?_
    all_goals (try with_reducible intros)
    all_goals (first | exact trivial | assumption | omega | exact h1 | exact h2 | (simp; done))
   refine WP.ret ?_
   change Fin ..
   exact fin1 hT (by rfl) rfl
end Go.Ab


/- What arguments read as; the program's facts for rows. -/
set_option autoImplicit false
set_option maxRecDepth 20000
set_option linter.unusedVariables false
namespace Go.Ab
open Go.Proofs Go.ChangeShapes Go.WideShapes Go.ChangeAt Go.RowKit
theorem tryOwn : ownKnob Tryz.prog.godebug = none := by kernel_rfl
theorem tryLaid : laidOutB Tryz.prog = true := by kernel_rfl
theorem uI64 : Tryz.prog.underlying 2 = some (.int .i64) := by kernel_rfl
theorem uInt : Tryz.prog.underlying 3 = some (.int .i64) := by kernel_rfl
theorem uBool : Tryz.prog.underlying 4 = some .bool := by kernel_rfl
theorem uOp : Tryz.prog.underlying 68 = some (.int .i64) := by kernel_rfl
theorem uInts : Tryz.prog.underlying 23 = some (.slice 3) := by kernel_rfl
theorem uEvts : Tryz.prog.underlying 27 = some (.slice 73) := by kernel_rfl
theorem uVars : Tryz.prog.underlying 22 = some (.slice 101) := by kernel_rfl
theorem uFuns : Tryz.prog.underlying 24 = some (.slice 166) := by kernel_rfl
theorem uInss : Tryz.prog.underlying 163 = some (.slice 162) := by kernel_rfl
theorem uSels : Tryz.prog.underlying 164 = some (.slice 221) := by kernel_rfl
theorem uCases : Tryz.prog.underlying 219 = some (.slice 223) := by kernel_rfl
def Rng (n : Int) : Prop := IntKind.i64.min ≤ n ∧ n ≤ IntKind.i64.max
theorem decInt : Dec Tryz.prog T tysN 3 (fun n : Int => .int n) Rng := Dec.int uInt rfl
theorem decI64 : Dec Tryz.prog T tysN 2 (fun n : Int => .int n) Rng := Dec.int uI64 rfl
theorem decOp : Dec Tryz.prog T tysN 68 (fun n : Int => .int n) Rng := Dec.int uOp rfl
theorem decBool : Dec Tryz.prog T tysN 4 (fun b : Bool => .bool b) (fun _ => True) := Dec.bool uBool rfl
theorem decTch : Dec Tryz.prog T tysN 70 encTch (fun _ => True) :=
  (Dec.struct (t := 70) hT (show (T 70).kind = .struct [3, 3, 4] from rfl) (DecL.cons decInt (DecL.cons decInt (DecL.cons decBool DecL.nil)))).map (fun x => ⟨x.1, x.2.1, x.2.2.1⟩) (fun _ => rfl) (fun _ _ => trivial)
theorem decTs : Dec Tryz.prog T tysN 71 encTs (fun _ => True) :=
  (Dec.array hT tch0 (show (T 71).kind = .array 6 70 from rfl) decTch).map (fun l => l) (fun _ => rfl) (fun _ _ => trivial)
theorem decEvt : Dec Tryz.prog T tysN 73 encE (fun e => Rng e.tag) :=
  (Dec.struct (t := 73) hT (show (T 73).kind = .struct [3, 3, 3, 68, 3, 2, 2, 71, 3] from rfl) (DecL.cons decInt (DecL.cons decInt (DecL.cons decInt (DecL.cons decOp (DecL.cons decInt (DecL.cons decI64 (DecL.cons decI64 (DecL.cons decTs (DecL.cons decInt DecL.nil)))))))))).map (fun x => ⟨x.1, x.2.1, x.2.2.1, x.2.2.2.1, x.2.2.2.2.1, x.2.2.2.2.2.1, x.2.2.2.2.2.2.1, x.2.2.2.2.2.2.2.1, x.2.2.2.2.2.2.2.2.1⟩) (fun _ => rfl) (fun x hx => hx.2.2.2.2.2.2.1)
theorem decInts : Dec Tryz.prog T tysN 23 (fun l : List Int => ints false l) (fun l => ∀ n ∈ l, Rng n) := (Dec.slice hT 0 uInts rfl (Nat.le_of_ble_eq_true rfl) decInt).map (fun l => l) (fun _ => rfl) (fun _ h => h)
theorem decVar : Dec Tryz.prog T tysN 101 encVar (fun v => Rng v.init) :=
  (Dec.struct (t := 101) hT (show (T 101).kind = .struct [4, 2] from rfl) (DecL.cons decBool (DecL.cons decI64 DecL.nil))).map (fun x => ⟨x.1, x.2.1⟩) (fun _ => rfl) (fun x hx => hx.2.1)
def rngIns (x : PIns) : Prop := Rng x.op ∧ Rng x.a ∧ Rng x.b ∧ Rng x.c ∧ Rng x.n
theorem decIns : Dec Tryz.prog T tysN 162 encIns rngIns :=
  (Dec.struct (t := 162) hT (show (T 162).kind = .struct [68, 3, 3, 3, 2] from rfl) (DecL.cons decOp (DecL.cons decInt (DecL.cons decInt (DecL.cons decInt (DecL.cons decI64 DecL.nil)))))).map (fun x => ⟨x.1, x.2.1, x.2.2.1, x.2.2.2.1, x.2.2.2.2.1⟩) (fun _ => rfl) (fun x hx => ⟨hx.1, hx.2.1, hx.2.2.1, hx.2.2.2.1, hx.2.2.2.2.1⟩)
def rngCase (x : PCase) : Prop := Rng x.chan ∧ Rng x.reg ∧ Rng x.to
theorem decCase : Dec Tryz.prog T tysN 223 encCase rngCase :=
  (Dec.struct (t := 223) hT (show (T 223).kind = .struct [4, 3, 3, 3] from rfl) (DecL.cons decBool (DecL.cons decInt (DecL.cons decInt (DecL.cons decInt DecL.nil))))).map (fun x => ⟨x.1, x.2.1, x.2.2.1, x.2.2.2.1⟩) (fun _ => rfl) (fun x hx => ⟨hx.2.1, hx.2.2.1, hx.2.2.2.1⟩)
def rngSel (x : PSel) : Prop := (∀ c ∈ x.cases, rngCase c) ∧ Rng x.els
theorem decSel : Dec Tryz.prog T tysN 221 encSel rngSel :=
  (Dec.struct (t := 221) hT (show (T 221).kind = .struct [219, 3] from rfl) (DecL.cons (Dec.slice hT case0 uCases rfl (Nat.le_of_ble_eq_true rfl) decCase) (DecL.cons decInt DecL.nil))).map (fun x => ⟨x.1, x.2.1⟩) (fun _ => rfl) (fun x hx => ⟨hx.1, hx.2.1⟩)
def rngFun (x : PFun) : Prop := Rng x.params ∧ Rng x.regs ∧ (∀ c ∈ x.code, rngIns c) ∧ ∀ s ∈ x.sels, rngSel s
theorem decFun : Dec Tryz.prog T tysN 166 encFun rngFun :=
  (Dec.struct (t := 166) hT (show (T 166).kind = .struct [3, 3, 163, 164] from rfl) (DecL.cons decInt (DecL.cons decInt (DecL.cons (Dec.slice hT ins0 uInss rfl (Nat.le_of_ble_eq_true rfl) decIns) (DecL.cons (Dec.slice hT sel0 uSels rfl (Nat.le_of_ble_eq_true rfl) decSel) DecL.nil))))).map (fun x => ⟨x.1, x.2.1, x.2.2.1, x.2.2.2.1⟩) (fun _ => rfl) (fun x hx => ⟨hx.1, hx.2.1, hx.2.2.1, hx.2.2.2.1⟩)
def rngProg (x : PProg) : Prop := (∀ v ∈ x.vars, Rng v.init) ∧ Rng x.locks ∧ (∀ c ∈ x.chans, Rng c) ∧ ∀ f ∈ x.funcs, rngFun f
theorem decProg : Dec Tryz.prog T tysN 26 encProg rngProg :=
  (Dec.struct (t := 26) hT (show (T 26).kind = .struct [22, 3, 23, 24] from rfl) (DecL.cons (Dec.slice hT var0 uVars rfl (Nat.le_of_ble_eq_true rfl) decVar) (DecL.cons decInt (DecL.cons decInts (DecL.cons (Dec.slice hT fun0 uFuns rfl (Nat.le_of_ble_eq_true rfl) decFun) DecL.nil))))).map (fun x => ⟨x.1, x.2.1, x.2.2.1, x.2.2.2.1⟩) (fun _ => rfl) (fun x hx => ⟨hx.1, hx.2.1, hx.2.2.1, hx.2.2.2.1⟩)
theorem arg_int {H : Type} {eh : TypeId × Value → H} {W : World} {base : Nat} {v : Value} {d : DataW H} {p : List MemPlace} (h : DataW.Trod eh Tryz.prog W 0 (fun _ => true) true 3 v d p) (hok : Value.okWide Tryz.prog W .any base 3 v) : ∃ n : Int, Rng n ∧ RepV T tysN (memI W) noPl (.int n) v := by
  obtain ⟨n, rfl, rfl, rfl, wn⟩ := open_int uInt hok h
  simp only [Lit.wf, Bool.and_eq_true, decide_eq_true_eq] at wn
  exact ⟨n, wn, .one ⟨[_], .v rfl, rfl⟩⟩
theorem arg_evts {H : Type} {eh : TypeId × Value → H} {W : World} {base : Nat} {v : Value} {d : DataW H} {p : List MemPlace} (h : DataW.Trod eh Tryz.prog W 0 (fun _ => true) true 27 v d p) (hok : Value.okWide Tryz.prog W .any base 27 v) : ∃ l : List Evt, (∀ e ∈ l, Rng e.tag) ∧ RepV T tysN (memI W) noPl (evts false l) v := by
  obtain ⟨fuel, h⟩ := h
  obtain ⟨l, hq, hl⟩ := dec_slice hT evt0 uEvts (Nat.le_of_ble_eq_true rfl) decEvt h hok
  exact ⟨l, hq, hl⟩
theorem arg_ints {H : Type} {eh : TypeId × Value → H} {W : World} {base : Nat} {v : Value} {d : DataW H} {p : List MemPlace} (h : DataW.Trod eh Tryz.prog W 0 (fun _ => true) true 23 v d p) (hok : Value.okWide Tryz.prog W .any base 23 v) : ∃ l : List Int, (∀ e ∈ l, Rng e) ∧ RepV T tysN (memI W) noPl (ints false l) v := by
  obtain ⟨fuel, h⟩ := h
  obtain ⟨l, hq, hl⟩ := dec_slice hT 0 uInts (Nat.le_of_ble_eq_true rfl) decInt h hok
  exact ⟨l, hq, hl⟩
theorem arg_prog {H : Type} {eh : TypeId × Value → H} {W : World} {base : Nat} {v : Value} {d : DataW H} {p : List MemPlace} (h : DataW.Trod eh Tryz.prog W 0 (fun _ => true) true 26 v d p) (hok : Value.okWide Tryz.prog W .any base 26 v) : ∃ x : PProg, rngProg x ∧ RepV T tysN (memI W) noPl (encProg x) v := by
  obtain ⟨fuel, h⟩ := h
  obtain ⟨x, hq, hl, _⟩ := decProg H eh W fuel _ d p h
  obtain ⟨cs, rfl⟩ := okWide_agg hT (show (T 26).kind = .struct [22, 3, 23, 24] from rfl) hok
  exact ⟨x, hq, .one ⟨(Value.agg cs).cells.toList, hl, by simp [packV, encProg, stru, Value.cells]⟩⟩
theorem reps1 {W : World} {a : AV} {v0 : Value} (h0 : RepV T tysN (memI W) noPl a v0) :
    ∀ (i : Nat) (x : AV) (v : Value), [a][i]? = some x → (#[v0] : Array Value).toList[i]? = some v → RepV T tysN (memI W) noPl x v := by
  intro i x v hx hv
  match i with
  | 0 => simp at hx hv; subst hx hv; exact h0
  | 1 => first | (simp at hx; done) | (simp at hx hv; subst hx hv; exact h1)
  | 2 => first | (simp at hx; done) | (simp at hx hv; subst hx hv; exact h2)
  | i + 3 => simp at hx
theorem reps2 {W : World} {a b : AV} {v0 v1 : Value} (h0 : RepV T tysN (memI W) noPl a v0) (h1 : RepV T tysN (memI W) noPl b v1) :
    ∀ (i : Nat) (x : AV) (v : Value), [a, b][i]? = some x → (#[v0, v1] : Array Value).toList[i]? = some v → RepV T tysN (memI W) noPl x v := by
  intro i x v hx hv
  match i with
  | 0 => simp at hx hv; subst hx hv; exact h0
  | 1 => first | (simp at hx; done) | (simp at hx hv; subst hx hv; exact h1)
  | 2 => first | (simp at hx; done) | (simp at hx hv; subst hx hv; exact h2)
  | i + 3 => simp at hx
theorem reps3 {W : World} {a b c : AV} {v0 v1 v2 : Value} (h0 : RepV T tysN (memI W) noPl a v0) (h1 : RepV T tysN (memI W) noPl b v1) (h2 : RepV T tysN (memI W) noPl c v2) :
    ∀ (i : Nat) (x : AV) (v : Value), [a, b, c][i]? = some x → (#[v0, v1, v2] : Array Value).toList[i]? = some v → RepV T tysN (memI W) noPl x v := by
  intro i x v hx hv
  match i with
  | 0 => simp at hx hv; subst hx hv; exact h0
  | 1 => first | (simp at hx; done) | (simp at hx hv; subst hx hv; exact h1)
  | 2 => first | (simp at hx; done) | (simp at hx hv; subst hx hv; exact h2)
  | i + 3 => simp at hx
end Go.Ab


/- RaceData: the row. -/
set_option autoImplicit false
set_option maxRecDepth 20000
set_option linter.unusedVariables false
namespace Go.Proofs.YtkdnjnbocjpmfaaGreat
open Go.Ab Go.ChangeShapes Go.WideShapes Go.ChangeAt Go.RowKit
set_option maxRecDepth 100000 in
theorem raceData_lifted (os : Os) (started : os.Started) (H : Type) (enc : TypeId × Value → H) :
    ReturnsInHanded {} Tryz.checked os 3 .any (Rows.raceDataSpec.pre6 enc Tryz.prog Tryz.f3 Rows.raceDataRow.domain false) (Rows.raceDataSpec.post enc Tryz.prog Tryz.f3 false true false false) := by
  refine returnsInHanded_of_change_sized (C := Tryz.checked) tryOwn started (by kernel_rfl) Tryz.func3
    (ChangeSpec.witness6 (enc := enc) (C := Tryz.checked) false ⟨#[], #[.agg #[.slice none 0 0, .int .i64 0, .slice none 0 0, .slice none 0 0], .slice none 0 0], []⟩ 8 (by kernel_rfl) (by kernel_rfl) (by kernel_rfl) (by kernel_rfl)) ?_
  intro W base args ds gs before hval0 hW _ hz _
  have hval : ∀ (j : Nat) t v, Tryz.f3.params[j]? = some t → args[j]? = some v → Value.okWide Tryz.prog W .any base t v := hval0
  have hW' : DataW.Whole enc Tryz.prog Tryz.f3.params.toList Rows.raceDataSpec.vars false W args.toList ds gs before := hW
  obtain ⟨p, q, hA0, hV, _, _, _⟩ := hW
  have hA : DataW.TrodAll enc Tryz.prog W 0 (fun _ => true) true Tryz.f3.params.toList args.toList ds p := hA0
  rw [Tryz.params3] at hA hval
  obtain ⟨v0, v1, d0, d1, p0, p1, rfl, rfl, rfl, h0, h1⟩ := trodAll_two hA
  obtain ⟨a0, q0, r0⟩ := arg_prog h0 (hval 0 26 v0 rfl rfl)
  obtain ⟨a1, q1, r1⟩ := arg_evts h1 (hval 1 27 v1 rfl rfl)
  exact law_calls (tb := 4) tryLaid (by kernel_rfl) (by rfl) uBool rfl (fun ds hd => by match ds, hd with | [x0, x1], _ => rfl) hW' (raceDataLaw_ac false a0 a1) rfl (reps2 r0 r1)
theorem raceData_holds : Rows.RaceDataSaid :=
  OpenClaim.holds_of_wide 3 Tryz.f3 rfl rfl rfl rfl rfl rfl rfl ⟨rfl, rfl, rfl, rfl, rfl⟩ rfl rfl rfl rfl rfl (by kernel_rfl) Tryz.func3 (by kernel_rfl)
    (of_decide_eq_true (by kernel_rfl)) (by unfold Func.isWrapper; first | (rw [if_pos (by decide +kernel)]; kernel_rfl) | (rw [if_neg (by decide +kernel)]; exact ⟨rfl, rfl⟩))
    (fun os started H enc _ => raceData_lifted os started H enc)
end Go.Proofs.YtkdnjnbocjpmfaaGreat

