/- Part 19 of a proof of a statement about the given program: an abstract machine over the model, proved sound, and contracts of the functions that the statement reaches; the last part proves the statement, for every input, with no condition. -/
import Derived.Test.YtkdnjnbocjpmfaaGreatX17
import Derived.Test.YtkdnjnbocjpmfaaGreatX13
import Derived.Test.YtkdnjnbocjpmfaaGreatRows
set_option linter.unusedSimpArgs false
set_option linter.unusedVariables false
/- Data races: what is found is the reference's. -/
set_option autoImplicit false
set_option maxRecDepth 20000
set_option maxHeartbeats 4000000
set_option linter.unusedSimpArgs false
set_option linter.unusedVariables false
namespace Go.Ab
open Go.Proofs Go.Sort
theorem right_row {x : Evt} (h : rightE x = true) {i : Nat} (hi : (i : Int) + 1 < x.n) : cmpF (tAt x i) (tAt x (i + 1)) < 0 := by
  have hn := right_n h
  simp only [rightE, Bool.and_eq_true] at h
  have h1 := allTo_iff.1 h.2.1 (i + 1) (by omega)
  rw [rowE, if_neg (by omega)] at h1
  simp only [Bool.and_eq_true, Bool.or_eq_true, decide_eq_true_eq, Nat.add_sub_cancel, beq_iff_eq] at h1
  rcases h1.2 with h2 | h2
  · omega
  · exact h2
theorem right_lt {x : Evt} (h : rightE x = true) {i : Nat} : ∀ {d : Nat}, ((i + d + 1 : Nat) : Int) < x.n → (tAt x i).kind < (tAt x (i + d + 1)).kind ∨ (tAt x i).kind = (tAt x (i + d + 1)).kind ∧ (tAt x i).num < (tAt x (i + d + 1)).num
  | 0, hd => by
    have h1 := right_row h (i := i) (by omega)
    rw [Nat.add_zero]
    unfold cmpF at h1
    split at h1
    · rename_i h2; exact h2
    · split at h1 <;> omega
  | d + 1, hd => by
    have h1 := right_lt h (i := i) (d := d) (by omega)
    have h2 := right_row h (i := i + d + 1) (by omega)
    unfold cmpF at h2
    rw [show i + (d + 1) + 1 = i + d + 1 + 1 by omega]
    split at h2
    · rename_i h3; omega
    · split at h2 <;> omega
theorem hit_once {x : Evt} (h : rightE x = true) {k n : Int} {i j : Nat} (hij : i < j) (hj : (j : Int) < x.n) (h1 : hitB k n (tAt x i) = true) (h2 : hitB k n (tAt x j) = true) : False := by
  have h3 := right_lt h (i := i) (d := j - i - 1) (by omega)
  rw [show i + (j - i - 1) + 1 = j by omega] at h3
  simp only [hitB, Bool.and_eq_true, beq_iff_eq] at h1 h2
  omega
theorem touL_snoc {k n : Int} {b : Tch} : ∀ {l : List Tch}, touL k n (l ++ [b]) = if touL k n l ≠ 0 then touL k n l else if hitB k n b = true then (if b.wr = true then 2 else 1) else 0
  | [] => by simp [touL]
  | a :: r => by
    rw [List.cons_append, touL, touL]
    by_cases ha : hitB k n a = true
    · rw [if_pos ha, if_pos ha]
      split <;> split <;> simp_all
    · rw [if_neg ha, if_neg ha, touL_snoc]
theorem touL_no {k n : Int} {l : List Tch} (h : ∀ a ∈ l, hitB k n a = false) : touL k n l = 0 := touL_none fun j hj => h _ (by rw [List.getD_eq_getElem?_getD, List.getElem?_eq_getElem hj]; exact List.getElem_mem hj)
theorem right_clamp {x : Evt} (h : rightE x = true) : (clampN x.n : Int) = x.n := by
  have := right_n h
  unfold clampN; split <;> (try split) <;> omega
theorem plnTo_eq {p : PProg} {x : Evt} (h : rightE x = true) (v : Nat) (hv : v < 8) : ∀ k : Nat, (k : Int) ≤ x.n → (plnTo p x k).getD v 0 = if plainB p v = true then touL 1 v ((touchL x).take k) else 0
  | 0, _ => by
    have : (plnTo p x 0).getD v 0 = 0 := by
      show zero8.getD v 0 = 0
      match v, hv with
      | 0, _ | 1, _ | 2, _ | 3, _ | 4, _ | 5, _ | 6, _ | 7, _ => rfl
    rw [this]
    simp [touL]
  | k + 1, hk => by
    have ih := plnTo_eq (p := p) h v hv k (by omega)
    have hc := right_clamp h
    have hlen : k < (touchL x).length := by rw [touchL_len]; omega
    have hget : (touchL x)[k] = tAt x k := by simp [touchL]
    have hnum := right_num h (k := k) (by omega)
    have htake : (touchL x).take (k + 1) = (touchL x).take k ++ [tAt x k] := by
      rw [List.take_add_one, List.getElem?_eq_getElem hlen, hget]; rfl
    rw [htake, touL_snoc, plnTo]
    by_cases hit : hitB 1 v (tAt x k) = true
    · have h0 : touL 1 v ((touchL x).take k) = 0 := by
        refine touL_no fun a ha => ?_
        rw [List.mem_take_iff_getElem] at ha
        obtain ⟨j, hj, rfl⟩ := ha
        have hj2 : j < k := by omega
        cases hz : hitB 1 v (touchL x)[j] with
        | false => rfl
        | true =>
          have : (touchL x)[j] = tAt x j := by simp [touchL]
          rw [this] at hz
          exact (hit_once h hj2 (by omega) hz hit).elim
      have e1 : (if touL 1 (v : Int) ((touchL x).take k) ≠ 0 then touL 1 (v : Int) ((touchL x).take k) else if hitB 1 v (tAt x k) = true then (if (tAt x k).wr = true then 2 else 1) else 0) = (if (tAt x k).wr = true then 2 else 1) := by rw [if_neg (by simp [h0]), if_pos hit]
      rw [e1]
      simp only [hitB, Bool.and_eq_true, beq_iff_eq] at hit
      have hpl : plnB p (tAt x k) = plainB p v := by
        rw [plnB, plainB, hit.1, hit.2, Bool.eq_iff_iff]
        simp
      rw [hpl]
      by_cases hp : plainB p v = true
      · rw [if_pos hp, if_pos hp, hit.2]
        simp [List.getD_eq_getElem?_getD, plnTo_len, hv]
      · rw [if_neg hp, if_neg hp, ih, if_neg hp]
    · have e2 : (if touL 1 (v : Int) ((touchL x).take k) ≠ 0 then touL 1 (v : Int) ((touchL x).take k) else if hitB 1 v (tAt x k) = true then (if (tAt x k).wr = true then 2 else 1) else 0) = touL 1 v ((touchL x).take k) := by rw [if_neg hit]; split <;> simp_all
      rw [e2]
      by_cases hp : plnB p (tAt x k) = true
      · rw [if_pos hp]
        have hne : (tAt x k).num.toNat ≠ v := by
          intro e
          apply hit
          simp only [plnB, Bool.and_eq_true, beq_iff_eq] at hp
          simp only [hitB, Bool.and_eq_true, beq_iff_eq]
          exact ⟨hp.1, by omega⟩
        rw [← ih]
        simp only [List.getD_eq_getElem?_getD]
        rw [List.getElem?_set_ne hne]
      · rw [if_neg hp, ih]
theorem pln_eq {p : PProg} {x : Evt} (h : rightE x = true) {v : Nat} (hv : v < 8) : (plnF p x).getD v 0 = if plainB p v = true then touF x 1 v else 0 := by
  have hn := right_n h
  rw [plnF, plnTo_eq h v hv _ (by omega), List.take_of_length_le (by rw [touchL_len]; have := right_clamp h; omega)]
  rfl
theorem both_sh {p : PProg} {a b : Evt} (ha : rightE a = true) (hb : rightE b = true) {v : Nat} (hv : v < 8) : bothB (plnF p a) (plnF p b) v = shB p a b v := by
  rw [bothB, pln_eq ha hv, pln_eq hb hv, shB]
  by_cases hp : plainB p v = true
  · rw [if_pos hp, if_pos hp, hp, Bool.true_and, Bool.and_assoc]
  · rw [if_neg hp, if_neg hp]
    have : plainB p v = false := by simpa using hp
    rw [this]; simp
theorem bothTo_iff {x y : List Int} {u : Int} : ∀ {k : Nat}, u ∈ bothTo x y k ↔ ∃ v : Nat, v < k ∧ bothB x y v = true ∧ u = v
  | 0 => by simp [bothTo]
  | k + 1 => by
    rw [bothTo, List.mem_append, bothTo_iff]
    constructor
    · rintro (⟨v, h1, h2, h3⟩ | h)
      · exact ⟨v, by omega, h2, h3⟩
      · split at h
        · rename_i hb
          simp at h
          exact ⟨k, by omega, hb, h⟩
        · cases h
    · rintro ⟨v, h1, h2, h3⟩
      rcases Nat.lt_or_ge v k with h | h
      · exact .inl ⟨v, h, h2, h3⟩
      · obtain rfl : v = k := by omega
        rw [if_pos h2]
        exact .inr (by simp [h3])
theorem sh_lt {p : PProg} {a b : Evt} {v : Int} (h : shB p a b v = true) : v < p.vars.length := by
  simp only [shB, plainB, Bool.and_eq_true, decide_eq_true_eq] at h
  omega
theorem any1To_iff {p : PProg} {a b : Evt} : ∀ {n i : Nat}, 0 ≤ any1To p a b n i ↔ ∃ v : Nat, i ≤ v ∧ v < i + n ∧ shB p a b v = true
  | 0, i => by
    rw [any1To]
    exact ⟨fun h => by omega, fun ⟨v, h1, h2, _⟩ => by omega⟩
  | n + 1, i => by
    rw [any1To]
    split
    · rename_i h
      exact ⟨fun _ => ⟨i, by omega, by omega, h⟩, fun _ => by omega⟩
    · rename_i h
      rw [any1To_iff]
      constructor
      · rintro ⟨v, h1, h2, h3⟩
        exact ⟨v, by omega, by omega, h3⟩
      · rintro ⟨v, h1, h2, h3⟩
        rcases Nat.lt_or_ge i v with h4 | h4
        · exact ⟨v, by omega, by omega, h3⟩
        · obtain rfl : v = i := by omega
          exact absurd h3 h
theorem both_any {p : PProg} {a b : Evt} (hv : p.vars.length ≤ 8) (ha : rightE a = true) (hb : rightE b = true) : decide ((bothF p a b).length > 0) = decide (any1F p a b ≥ 0) := by
  apply decide_eq_decide.2
  have h1 : (bothF p a b).length > 0 ↔ ∃ u, u ∈ bothF p a b := by
    rw [gt_iff_lt, List.length_pos_iff_exists_mem]
  rw [h1, ge_iff_le, any1F, any1To_iff]
  constructor
  · rintro ⟨u, hu⟩
    rw [bothF, bothTo_iff] at hu
    obtain ⟨v, h2, h3, rfl⟩ := hu
    rw [both_sh ha hb h2] at h3
    have := sh_lt h3
    exact ⟨v, Nat.zero_le _, by omega, h3⟩
  · rintro ⟨v, _, h2, h3⟩
    exact ⟨v, by rw [bothF, bothTo_iff]; exact ⟨v, by omega, by rw [both_sh ha hb (by omega)]; exact h3, rfl⟩⟩
theorem data_eq {p : PProg} {t : List Evt} (h : fitF p t = 0) : dataL p t = refData p t := by
  have hv := fit_vars h
  rw [dataL, if_pos h, pairsF, if_pos hv.2, edges_eq hv.2, refData, refPairs, keepL, List.filter_filter]
  refine List.filter_congr (fun x hx => ?_)
  obtain ⟨a, b, rfl, h1, h2⟩ := edgesR_in (Nat.le_refl _) hx
  have e := both_any (p := p) hv.1 (chk_evt hv.2 (i := a) (by omega)) (chk_evt hv.2 h2)
  simp only [delP, goNe, anyB, dataW, Int.toNat_natCast]
  rw [e, Bool.not_or, Bool.not_not, Bool.and_comm]
end Go.Ab


/- What is found is the reference's, in its order. -/
set_option autoImplicit false
set_option maxRecDepth 20000
set_option maxHeartbeats 4000000
set_option linter.unusedSimpArgs false
set_option linter.unusedVariables false
namespace Go.Ab
open Go.Proofs Go.Sort
theorem less_tri (f g : Fnd) : lessB f g = true ∨ f = g ∨ lessB g f = true := by
  simp only [lessB, lt_cmpF, decide_eq_true_eq]
  by_cases e : f = g
  · exact .inr (.inl e)
  · have : f.v.val ≠ g.v.val ∨ f.fa ≠ g.fa ∨ f.fb ≠ g.fb ∨ f.ga ≠ g.ga ∨ f.gb ≠ g.gb := by
      by_cases h : f.v.val ≠ g.v.val ∨ f.fa ≠ g.fa ∨ f.fb ≠ g.fb ∨ f.ga ≠ g.ga ∨ f.gb ≠ g.gb
      · exact h
      · exfalso
        apply e
        obtain ⟨a, b, c, d, v⟩ := f
        obtain ⟨a', b', c', d', v'⟩ := g
        simp only [not_or, Decidable.not_not] at h
        simp only [Fnd.mk.injEq, _root_.Fin.ext_iff]
        exact ⟨h.2.1, h.2.2.1, h.2.2.2.1, h.2.2.2.2, h.1⟩
    omega
theorem less_irr (f : Fnd) : lessB f f = false := swoF.irrefl f
theorem less_trans {f g h : Fnd} (h1 : lessB f g = true) (h2 : lessB g h = true) : lessB f h = true := swoF.trans _ _ _ h1 h2
theorem less_asymm {f g : Fnd} (h1 : lessB f g = true) (h2 : lessB g f = true) : False := by
  have := less_trans h1 h2
  rw [less_irr] at this; cases this
def insF (f : Fnd) : List Fnd → List Fnd
  | [] => [f]
  | a :: r => if a = f then a :: r else if lessB f a = true then f :: a :: r else a :: insF f r
theorem insF_all {f b : Fnd} : ∀ {m : List Fnd}, (∀ a ∈ m, lessB a f = true) → insF f (m ++ [b]) = m ++ insF f [b]
  | [], _ => rfl
  | a :: r, h => by
    have ha := h a (List.mem_cons_self ..)
    rw [List.cons_append, insF, if_neg (fun e => by rw [e, less_irr] at ha; cases ha), if_neg (fun e => less_asymm ha e), insF_all (fun b hb => h b (List.mem_cons_of_mem _ hb))]
    rfl
theorem insF_end {f : Fnd} : ∀ {m : List Fnd}, (∀ a ∈ m, lessB a f = true) → insF f m = m ++ [f]
  | [], _ => rfl
  | a :: r, h => by
    have ha := h a (List.mem_cons_self ..)
    rw [insF, if_neg (fun e => by rw [e, less_irr] at ha; cases ha), if_neg (fun e => less_asymm ha e), insF_end (fun b hb => h b (List.mem_cons_of_mem _ hb))]
    rfl
theorem insF_in {f b : Fnd} : ∀ {m : List Fnd}, (∃ a ∈ m, lessB a f = false) → insF f (m ++ [b]) = insF f m ++ [b]
  | [], h => by obtain ⟨a, ha, _⟩ := h; cases ha
  | a :: r, h => by
    rw [List.cons_append, insF, insF]
    by_cases e1 : a = f
    · rw [if_pos e1, if_pos e1]; rfl
    · rw [if_neg e1, if_neg e1]
      by_cases e2 : lessB f a = true
      · rw [if_pos e2, if_pos e2]; rfl
      · rw [if_neg e2, if_neg e2, insF_in (m := r)]
        · rfl
        · obtain ⟨c, hc, hc2⟩ := h
          rcases List.mem_cons.1 hc with rfl | hc
          · rcases less_tri c f with h3 | h3 | h3
            · rw [h3] at hc2; cases hc2
            · exact absurd h3 e1
            · exact absurd h3 e2
          · exact ⟨c, hc, hc2⟩
theorem putTo_eq {l : List Fnd} {f : Fnd} : ∀ {i : Nat}, i ≤ l.length → ((∀ a ∈ l.take i, lessB a f = true) → putTo l f i = (false, l.take i)) ∧ ((∃ a ∈ l.take i, lessB a f = false) → putTo l f i = (true, insF f (l.take i)))
  | 0, _ => ⟨fun _ => by simp [putTo], fun ⟨a, ha, _⟩ => by simp at ha⟩
  | i + 1, hi => by
    obtain ⟨ih1, ih2⟩ := putTo_eq (l := l) (f := f) (i := i) (by omega)
    have hb : l.take (i + 1) = l.take i ++ [l.getD i fnd0] := by
      rw [List.take_add_one, List.getElem?_eq_getElem hi]
      simp [List.getD_eq_getElem?_getD, List.getElem?_eq_getElem (show i < l.length from hi)]
    generalize l.getD i fnd0 = b at hb
    have hstep : putTo l f (i + 1) = (((putTo l f i).1 || b == f) || lessB f b, (if (!((putTo l f i).1 || b == f) && lessB f b) = true then (putTo l f i).2 ++ [f] else (putTo l f i).2) ++ [b]) := by
      rw [putTo]
      have : l.getD i fnd0 = b := by
        have h1 : l.take (i + 1) = l.take i ++ [l.getD i fnd0] := by
          rw [List.take_add_one, List.getElem?_eq_getElem hi]
          simp [List.getD_eq_getElem?_getD, List.getElem?_eq_getElem (show i < l.length from hi)]
        have h2 := h1.symm.trans hb
        simpa using List.append_cancel_left h2
      rw [this]
    by_cases hall : ∀ a ∈ l.take i, lessB a f = true
    · rw [hstep, ih1 hall, hb]
      simp only [Bool.false_or]
      refine ⟨fun h => ?_, fun h => ?_⟩
      · have hbf := h b (by simp)
        have e1 : (b == f) = false := by
          rw [beq_eq_false_iff_ne]; rintro rfl; rw [less_irr] at hbf; cases hbf
        have e2 : lessB f b = false := by
          cases hz : lessB f b with
          | false => rfl
          | true => exact (less_asymm hbf hz).elim
        simp [e1, e2]
      · have hbf : lessB b f = false := by
          obtain ⟨a, ha, ha2⟩ := h
          rcases List.mem_append.1 ha with ha | ha
          · rw [hall a ha] at ha2; cases ha2
          · simp at ha; rw [← ha]; exact ha2
        rw [insF_all hall]
        by_cases e : b = f
        · subst e
          simp [insF]
        · rcases less_tri b f with h3 | h3 | h3
          · rw [h3] at hbf; cases hbf
          · exact absurd h3 e
          · have e1 : (b == f) = false := by rw [beq_eq_false_iff_ne]; exact e
            simp [insF, e1, h3, e]
    · have hex : ∃ a ∈ l.take i, lessB a f = false := by
        simp only [Classical.not_forall, Bool.not_eq_true] at hall
        obtain ⟨a, ha, h⟩ := hall
        exact ⟨a, ha, h⟩
      rw [hstep, ih2 hex, hb, insF_in hex]
      refine ⟨fun h => ?_, fun _ => by simp⟩
      obtain ⟨a, ha, h2⟩ := hex
      have := h a (List.mem_append_left _ ha)
      rw [h2] at this; cases this
theorem putF_eq (l : List Fnd) (f : Fnd) : putF l f = insF f l := by
  obtain ⟨h1, h2⟩ := putTo_eq (l := l) (f := f) (i := l.length) (Nat.le_refl _)
  rw [List.take_length] at h1 h2
  by_cases hall : ∀ a ∈ l, lessB a f = true
  · rw [putF, h1 hall, insF_end hall]; rfl
  · have hex : ∃ a ∈ l, lessB a f = false := by
      simp only [Classical.not_forall, Bool.not_eq_true] at hall
      obtain ⟨a, ha, h⟩ := hall
      exact ⟨a, ha, h⟩
    rw [putF, h2 hex]; rfl
theorem insF_mem {f g : Fnd} : ∀ {l : List Fnd}, g ∈ insF f l ↔ g = f ∨ g ∈ l
  | [] => by simp [insF]
  | a :: r => by
    rw [insF]
    split
    · rename_i e
      subst e
      simp
    · split
      · simp
      · rw [List.mem_cons, insF_mem, List.mem_cons]
        constructor
        · rintro (h | h | h)
          · exact .inr (.inl h)
          · exact .inl h
          · exact .inr (.inr h)
        · rintro (h | h | h)
          · exact .inr (.inl h)
          · exact .inl h
          · exact .inr (.inr h)
theorem insF_sorted {f : Fnd} : ∀ {l : List Fnd}, l.Pairwise (fun a b => lessB a b = true) → (insF f l).Pairwise (fun a b => lessB a b = true)
  | [], _ => by simp [insF]
  | a :: r, h => by
    rw [List.pairwise_cons] at h
    rw [insF]
    split
    · exact List.pairwise_cons.2 h
    · rename_i e1
      split
      · rename_i e2
        refine List.pairwise_cons.2 ⟨fun b hb => ?_, List.pairwise_cons.2 h⟩
        rcases List.mem_cons.1 hb with rfl | hb
        · exact e2
        · exact less_trans e2 (h.1 b hb)
      · rename_i e2
        refine List.pairwise_cons.2 ⟨fun b hb => ?_, insF_sorted h.2⟩
        rcases insF_mem.1 hb with rfl | hb
        · rcases less_tri a b with h3 | h3 | h3
          · exact h3
          · exact absurd h3 e1
          · exact absurd h3 e2
        · exact h.1 b hb
theorem innR_spec {p : PProg} {x y : Evt} {L : List Fnd} (hL : L.Pairwise (fun a b => lessB a b = true)) : ∀ v, (innR p x y L v).Pairwise (fun a b => lessB a b = true) ∧ ∀ g, g ∈ innR p x y L v ↔ g ∈ L ∨ ∃ u : Nat, u < v ∧ shB p x y u = true ∧ g = fndI x y u
  | 0 => ⟨hL, fun g => by simp [innR]⟩
  | v + 1 => by
    obtain ⟨h1, h2⟩ := innR_spec hL v
    rw [innR]
    split
    · rename_i hs
      rw [putF_eq]
      refine ⟨insF_sorted h1, fun g => ?_⟩
      rw [insF_mem, h2]
      constructor
      · rintro (h | h | ⟨u, h3, h4, h5⟩)
        · exact .inr ⟨v, by omega, hs, h⟩
        · exact .inl h
        · exact .inr ⟨u, by omega, h4, h5⟩
      · rintro (h | ⟨u, h3, h4, h5⟩)
        · exact .inr (.inl h)
        · rcases Nat.lt_or_ge u v with h6 | h6
          · exact .inr (.inr ⟨u, h6, h4, h5⟩)
          · obtain rfl : u = v := by omega
            exact .inl h5
    · rename_i hs
      refine ⟨h1, fun g => ?_⟩
      rw [h2]
      constructor
      · rintro (h | ⟨u, h3, h4, h5⟩)
        · exact .inl h
        · exact .inr ⟨u, by omega, h4, h5⟩
      · rintro (h | ⟨u, h3, h4, h5⟩)
        · exact .inl h
        · rcases Nat.lt_or_ge u v with h6 | h6
          · exact .inr ⟨u, h6, h4, h5⟩
          · obtain rfl : u = v := by omega
            exact absurd h4 hs
theorem outR_spec {p : PProg} {t : List Evt} {D : List Pr} : ∀ i, (outR p t D i).Pairwise (fun a b => lessB a b = true) ∧ ∀ g, g ∈ outR p t D i ↔ ∃ j, j < i ∧ ∃ u : Nat, u < p.vars.length ∧ shB p (eAt t (pAt D j).1.toNat) (eAt t (pAt D j).2.toNat) u = true ∧ g = fndI (eAt t (pAt D j).1.toNat) (eAt t (pAt D j).2.toNat) u
  | 0 => ⟨List.Pairwise.nil, fun g => by simp [outR]⟩
  | i + 1 => by
    obtain ⟨h1, h2⟩ := outR_spec (p := p) (t := t) (D := D) i
    rw [outR]
    obtain ⟨h3, h4⟩ := innR_spec (p := p) (x := eAt t (pAt D i).1.toNat) (y := eAt t (pAt D i).2.toNat) h1 p.vars.length
    refine ⟨h3, fun g => ?_⟩
    rw [h4, h2]
    constructor
    · rintro (⟨j, h5, h6⟩ | h)
      · exact ⟨j, by omega, h6⟩
      · exact ⟨i, by omega, h⟩
    · rintro ⟨j, h5, h6⟩
      rcases Nat.lt_or_ge j i with h7 | h7
      · exact .inl ⟨j, h7, h6⟩
      · obtain rfl : j = i := by omega
        exact .inr h6
theorem ddF_spec {l : List Fnd} (h : l.Pairwise fun x y => lessB y x = false) : ∀ {k : Nat}, k ≤ l.length → (dd fnd0 l k).Pairwise (fun a b => lessB a b = true) ∧ ∀ g, g ∈ dd fnd0 l k ↔ g ∈ l.take k
  | 0, _ => ⟨List.Pairwise.nil, fun g => by simp [dd]⟩
  | k + 1, hk => by
    obtain ⟨h1, h2⟩ := ddF_spec h (k := k) (by omega)
    have hkl : k < l.length := hk
    have ht : l.take (k + 1) = l.take k ++ [l.getD k fnd0] := by
      rw [List.take_add_one, List.getElem?_eq_getElem hkl]
      simp [List.getD_eq_getElem?_getD, List.getElem?_eq_getElem hkl]
    have hge : ∀ j, j < k → lessB (l.getD k fnd0) (l.getD j fnd0) = false := fun j hj => by
      have := (List.pairwise_iff_getElem.1 h) j k (by omega) hkl hj
      simpa [List.getD_eq_getElem?_getD, hkl, show j < l.length by omega] using this
    rw [dd]
    split
    · rename_i e
      refine ⟨h1, fun g => ?_⟩
      rw [h2, ht, List.mem_append]
      refine ⟨.inl, fun hh => ?_⟩
      rcases hh with hh | hh
      · exact hh
      · simp only [List.mem_singleton] at hh
        rw [hh, e.2, List.mem_take_iff_getElem]
        refine ⟨k - 1, by omega, ?_⟩
        simp [List.getD_eq_getElem?_getD, show k - 1 < l.length by omega]
    · rename_i e
      refine ⟨List.pairwise_append.2 ⟨h1, List.pairwise_singleton _ _, fun a ha b hb => ?_⟩, fun g => ?_⟩
      · simp only [List.mem_singleton] at hb
        subst hb
        rw [h2, List.mem_take_iff_getElem] at ha
        obtain ⟨j, hj, rfl⟩ := ha
        have hj2 : j < k := by omega
        have hne : l.getD k fnd0 ≠ l.getD (k - 1) fnd0 := fun e2 => e ⟨by omega, e2⟩
        have g1 := hge (k - 1) (by omega)
        have g2 : lessB (l.getD (k - 1) fnd0) (l.getD k fnd0) = true := by
          rcases less_tri (l.getD (k - 1) fnd0) (l.getD k fnd0) with h3 | h3 | h3
          · exact h3
          · exact absurd h3.symm hne
          · rw [h3] at g1; cases g1
        have e3 : l[j] = l.getD j fnd0 := by simp [List.getD_eq_getElem?_getD, show j < l.length by omega]
        rw [e3]
        rcases Nat.lt_or_ge j (k - 1) with h4 | h4
        · have g3 : lessB (l.getD (k - 1) fnd0) (l.getD j fnd0) = false := by
            have := (List.pairwise_iff_getElem.1 h) j (k - 1) (by omega) (by omega) h4
            simpa [List.getD_eq_getElem?_getD, show k - 1 < l.length by omega, show j < l.length by omega] using this
          rcases less_tri (l.getD j fnd0) (l.getD (k - 1) fnd0) with h5 | h5 | h5
          · exact less_trans h5 g2
          · rw [h5]; exact g2
          · rw [h5] at g3; cases g3
        · obtain rfl : j = k - 1 := by omega
          exact g2
      · rw [List.mem_append, h2, ht, List.mem_append]
theorem sorted_eq {l l' : List Fnd} (h : l.Pairwise (fun a b => lessB a b = true)) (h' : l'.Pairwise (fun a b => lessB a b = true)) (hm : ∀ x, x ∈ l ↔ x ∈ l') : l = l' := by
  have nd : ∀ {l : List Fnd}, l.Pairwise (fun a b => lessB a b = true) → l.Nodup := fun h => h.imp (fun {a b} hab e => by subst e; rw [less_irr] at hab; cases hab)
  exact List.Perm.eq_of_pairwise (le := fun a b => lessB a b = true) (fun a b _ _ h1 h2 => (less_asymm h1 h2).elim) h h' ((List.perm_ext_iff_of_nodup (nd h) (nd h')).2 hm)
theorem outTo_mem {p : PProg} {t : List Evt} {D : List Pr} {g : Fnd} : g ∈ outTo p t D D.length ↔ ∃ j, j < D.length ∧ ∃ u, u ∈ bothF p (eAt t (pAt D j).1.toNat) (eAt t (pAt D j).2.toNat) ∧ g = fndI (eAt t (pAt D j).1.toNat) (eAt t (pAt D j).2.toNat) u := by
  rw [outTo, List.take_length, List.mem_flatMap]
  constructor
  · rintro ⟨x, hx, hg⟩
    obtain ⟨j, hj, rfl⟩ := List.getElem_of_mem hx
    rw [rowFs, List.mem_map] at hg
    obtain ⟨u, h1, h2⟩ := hg
    have e : pAt D j = D[j] := by simp [pAt, hj]
    exact ⟨j, hj, u, by rw [e]; exact h1, by rw [e]; exact h2.symm⟩
  · rintro ⟨j, hj, u, h1, h2⟩
    have e : pAt D j = D[j] := by simp [pAt, hj]
    refine ⟨D[j], List.getElem_mem hj, ?_⟩
    rw [rowFs, List.mem_map]
    rw [e] at h1 h2
    exact ⟨u, h1, h2.symm⟩
theorem races_ref (p : PProg) (t : List Evt) : racesFs p t = refRaces p t := by
  by_cases h : fitF p t = 0
  · have hv := fit_vars h
    rw [racesFs, data_eq h, refRaces, if_pos h]
    have hs := sortBy_sorted swoF (outTo p t (refData p t) (refData p t).length)
    have hp := sortBy_perm swoF (outTo p t (refData p t) (refData p t).length)
    obtain ⟨d1, d2⟩ := ddF_spec (l := sortFs (outTo p t (refData p t) (refData p t).length)) hs (Nat.le_refl _)
    obtain ⟨o1, o2⟩ := outR_spec (p := p) (t := t) (D := refData p t) (refData p t).length
    refine sorted_eq d1 o1 (fun g => ?_)
    rw [d2, List.take_length, show g ∈ sortFs (outTo p t (refData p t) (refData p t).length) ↔ g ∈ outTo p t (refData p t) (refData p t).length from hp.mem_iff, o2, outTo_mem]
    have key : ∀ j, j < (refData p t).length → ∀ u : Int, (u ∈ bothF p (eAt t (pAt (refData p t) j).1.toNat) (eAt t (pAt (refData p t) j).2.toNat) ↔ ∃ v : Nat, v < p.vars.length ∧ shB p (eAt t (pAt (refData p t) j).1.toNat) (eAt t (pAt (refData p t) j).2.toNat) v = true ∧ u = v) := by
      intro j hj u
      have hm : pAt (refData p t) j ∈ refData p t := by simp [pAt, List.getD_eq_getElem?_getD, hj]
      obtain ⟨a, b, e, h1, h2⟩ := refPairs_in (List.mem_filter.1 hm).1
      rw [e]
      simp only [Int.toNat_natCast]
      rw [bothF, bothTo_iff]
      constructor
      · rintro ⟨v, h3, h4, h5⟩
        rw [both_sh (chk_evt hv.2 (by omega)) (chk_evt hv.2 h2) h3] at h4
        have := sh_lt h4
        exact ⟨v, by omega, h4, h5⟩
      · rintro ⟨v, h3, h4, h5⟩
        exact ⟨v, by omega, by rw [both_sh (chk_evt hv.2 (by omega)) (chk_evt hv.2 h2) (by omega)]; exact h4, h5⟩
    constructor
    · rintro ⟨j, hj, u, h1, h2⟩
      obtain ⟨v, h3, h4, rfl⟩ := (key j hj u).1 h1
      exact ⟨j, hj, v, h3, h4, h2⟩
    · rintro ⟨j, hj, v, h3, h4, h5⟩
      exact ⟨j, hj, v, (key j hj v).2 ⟨v, h3, h4, rfl⟩, h5⟩
  · have e : dataL p t = [] := by rw [dataL, if_neg h]
    rw [refRaces, if_neg h, racesFs, e, show outTo p t [] [].length = [] from rfl, show sortFs [] = [] from List.eq_nil_of_length_eq_zero (sortBy_len swoF [])]
    rfl
theorem raceDataLaw_ac (g : Bool) (p : PProg) (t : List Evt) : AC Tryz.prog T tysN 3 [encProg p, evts g t] [] (.bool true) [] := by
 refine AC_intro hT Tryz.func3 rfl rfl (Nat.le_of_ble_eq_true rfl) ?_
 refine sq (rg [] rfl ?_)
 refine sq (rgs [CG.pure (.tup [prs false (dataL p t), .int (fitF p t)])] rfl ?_ ?_)
 ·have h1 := data_ac g p t
  simp only [holdsC, under, CG.pure]
  repeat' with_reducible refine And.intro ?_ ?_
  all_goals (try with_reducible intros)
  all_goals (first | exact trivial | assumption | omega | exact h1 | (simp; done))
 refine sq (rgs [CG.pure (.tup [fnds false (racesFs p t), .int (fitF p t)])] rfl ?_ ?_)
 ·have h1 := racesF_ac g p t
  simp only [holdsC, under, CG.pure]
  repeat' with_reducible refine And.intro ?_ ?_
  all_goals (try with_reducible intros)
  all_goals (first | exact trivial | assumption | omega | exact h1 | (simp; done))
 refine sq (rgs [CG.pure (.tup [fnds false (racesFs p t), .int (fitF p t)])] rfl ?_ ?_)
 ·have h1 := rraces_ac g p t
  rw [← races_ref] at h1
  simp only [holdsC, under, CG.pure]
  repeat' with_reducible refine And.intro ?_ ?_
  all_goals (try with_reducible intros)
  all_goals (first | exact trivial | assumption | omega | exact h1 | (simp; done))
 refine sq (sq (rgs [CG.pure (.bool true), CG.pure (.bool true)] rfl ?_ ?_))
 ·have h1 := sameFs_ac false false (racesFs p t) (racesFs p t)
  rw [decide_eq_true rfl] at h1
  have h2 := speaks_ac ()
  simp only [holdsC, under, CG.pure]
  repeat' with_reducible refine And.intro ?_ ?_
  all_goals (try with_reducible intros)
  all_goals (first | exact trivial | assumption | omega | exact h1 | exact h2 | (simp; done))
 refine cd rfl (fun h4 => ?_) (fun h4 => ?_)
 ·exfalso
  have e := h4
  simp at e
 ·refine sk (sq (sq (rg [] rfl ?_)))
  refine cd rfl (fun h6 => ?_) (fun h6 => ?_)
  ·have hbad : fitF p t ≠ 0 := by simpa using h6
   refine sq (rg [] rfl ?_)
   refine WP.ret ?_
   change Fin ..
   refine fin1 hT (by rfl) ?_
   rw [dataL, if_neg hbad]; rfl
  ·have hz : fitF p t = 0 := by simpa using h6
   have hv := fit_vars hz
   refine sk (sq (rgs [CG.pure (prs false (dataL p t)), CG.pure (.bool true)] rfl ?_ ?_))
   ·have h1 := rdata_ac g p t (chk_right hv.2) hv.1
    rw [← data_eq hz] at h1
    have h2 := same_ac false false (dataL p t) (dataL p t)
    rw [decide_eq_true rfl] at h2
    simp only [holdsC, under, CG.pure]
    repeat' with_reducible refine And.intro ?_ ?_
    all_goals (try with_reducible intros)
    all_goals (first | exact trivial | assumption | omega | exact h1 | exact h2 | (simp; done))
   refine WP.ret ?_
   change Fin ..
   exact fin1 hT (by rfl) rfl
end Go.Ab


/- Locks of events; what is held. -/
set_option autoImplicit false
set_option maxRecDepth 20000
set_option maxHeartbeats 4000000
set_option linter.unusedSimpArgs false
set_option linter.unusedVariables false
namespace Go.Ab
open Go.Proofs Go.Sort
def lkL : List Tch → Int
  | [] => -1
  | a :: r => if a.kind = 2 then a.num else lkL r
def lkF (x : Evt) : Int := lkL (touchL x)
theorem lkL_at : ∀ {l : List Tch} {i : Nat}, i < l.length → (∀ j, j < i → (l.getD j tch0).kind ≠ 2) → (l.getD i tch0).kind = 2 → lkL l = (l.getD i tch0).num
  | a :: r, 0, _, _, h => by
    have h' : a.kind = 2 := h
    rw [lkL, if_pos h']; rfl
  | a :: r, i + 1, hi, hn, h => by
    have h0 : a.kind ≠ 2 := hn 0 (by omega)
    rw [lkL, if_neg h0, lkL_at (l := r) (i := i) (by simpa using hi) (fun j hj => hn (j + 1) (by omega)) h]
    rfl
theorem lkL_none : ∀ {l : List Tch}, (∀ j, j < l.length → (l.getD j tch0).kind ≠ 2) → lkL l = -1
  | [], _ => rfl
  | a :: r, hn => by
    have h0 : a.kind ≠ 2 := hn 0 (by simp)
    rw [lkL, if_neg h0, lkL_none (fun j hj => hn (j + 1) (by simpa using hj))]
theorem lkL_mem : ∀ {l : List Tch}, lkL l = -1 ∨ ∃ a ∈ l, a.kind = 2 ∧ lkL l = a.num
  | [] => .inl rfl
  | a :: r => by
    rw [lkL]
    split
    · rename_i h
      exact .inr ⟨a, List.mem_cons_self .., h, rfl⟩
    · rcases lkL_mem (l := r) with h | ⟨b, h1, h2⟩
      · exact .inl h
      · exact .inr ⟨b, List.mem_cons_of_mem _ h1, h2⟩
theorem lkF_lt {x : Evt} (h : rightE x = true) : -1 ≤ lkF x ∧ lkF x < 4 := by
  rcases lkL_mem (l := touchL x) with e | ⟨a, ha, h1, h2⟩
  · rw [lkF, e]; omega
  · rw [lkF, h2]
    simp only [touchL, List.mem_map, List.mem_range] at ha
    obtain ⟨k, hk, rfl⟩ := ha
    have hc := right_clamp h
    have hn := right_num h (k := k) (by omega)
    rw [h1] at hn
    have : mostF 2 = 4 := by decide
    omega
theorem lock_ac (x : Evt) (hr : rightE x = true) : AC Tryz.prog T tysN 157 [encE x] [] (.int (lkF x)) [] := by
 refine AC_intro hT Tryz.func157 rfl rfl (Nat.le_of_ble_eq_true rfl) ?_
 have hn6 := right_n hr
 have hcl := right_clamp hr
 have hlen := touchL_len x
 refine sq (rg [] rfl ?_)
 refine sq (sq ?_)
 refine WP.ent (st' := mkSt [(1, .rp 73 (encE x))] []) ?_ ?_
 ·refine em [(.s 1 0, 1)] ⟨⟨_, rfl, Nat.le_refl _⟩, trivial⟩ ⟨⟨rfl, _, rfl, conv_rpe rfl rfl (by decide) rfl rfl (noIds_E x)⟩, trivial⟩ trivial
 refine rgs [] rfl ?_ ?_
 ·simp [holdsC, under, slOk, slB, capEq]
  omega
 refine bk ?_
 refine WP.loop (α := Nat) (fun i => mkSt [(8, tchs false (touchL x)), (9, .int (touchL x).length), (10, .int i)] []) (fun i => i ≤ (touchL x).length ∧ ∀ j, j < i → ((touchL x).getD j tch0).kind ≠ 2) (fun i => (touchL x).length - i) ?_ ?_
 ·refine ⟨0, ?_, ?_⟩
  ·exact ⟨Nat.zero_le _, fun j hj => by omega⟩
  ·refine em [] trivial ⟨⟨rfl, _, rfl, conv_rowN (by simp [slB]; omega) (fun h => h) (fun j hj => by rw [touchL_get (by omega)]; show encTch (x.ts.getD ((0 : Int).toNat + j) tch0) = _; simp [tAt])⟩, ⟨rfl, _, rfl, conv_eq (by simp [slB]; omega)⟩, ⟨rfl, _, rfl, cvt⟩, trivial⟩ trivial
 ·rintro i ⟨hi, hn⟩
  refine sq (rg [] rfl ?_)
  refine sq ?_
  refine cd rfl (fun h2 => ?_) (fun h2 => ?_)
  ·have hil : i < (touchL x).length := by simpa using h2
   refine sk (sq (bk (sq (rg [] rfl ?_))))
   refine sq (rg [] rfl ?_)
   refine cd rfl (fun h4 => ?_) (fun h4 => ?_)
   ·have hk : ((touchL x).getD i tch0).kind = 2 := by simpa using h4
    refine sq (rg [] rfl ?_)
    refine WP.ret ?_
    change Fin ..
    exact finI hT (by rfl) (by rw [lkF, lkL_at hil hn hk]; rfl)
   ·have hk : ((touchL x).getD i tch0).kind ≠ 2 := by simpa using h4
    refine sk (rg [] rfl ?_)
    refine ⟨i + 1, ?_, ?_, ?_⟩
    ·exact ⟨hil, all_succ (Q := fun j => ((touchL x).getD j tch0).kind ≠ 2) hn hk⟩
    ·refine em [] trivial ⟨⟨rfl, _, rfl, cvt⟩, ⟨rfl, _, rfl, cvt⟩, ⟨rfl, _, rfl, cvt⟩, trivial⟩ trivial
    ·(try simp only []); first | omega | grind
  ·have hil : i = (touchL x).length := by simp at h2; omega
   subst hil
   refine xt (sq (rg [] rfl ?_))
   refine WP.ret ?_
   change Fin ..
   exact finI hT (by rfl) (by rw [lkF, lkL_none hn])
theorem rlock_ac (x : Evt) : AC Tryz.prog T tysN 110 [encE x] [] (.int (lkF x)) [] := by
 refine AC_intro hT Tryz.func110 rfl rfl (Nat.le_of_ble_eq_true rfl) ?_
 refine sq (rg [] rfl ?_)
 refine sq (rgs [CG.pure (tchs false (touchL x))] rfl ?_ ?_)
 ·have h := of_ac x
  simp only [holdsC, under, CG.pure]
  repeat' with_reducible refine And.intro ?_ ?_
  all_goals (try with_reducible intros)
  all_goals (first | exact trivial | assumption | omega | exact h | (simp; done) | grind)
 refine sq (sq (rg [] rfl ?_))
 refine bk ?_
 refine WP.loop (α := Nat) (fun i => mkSt [(3, tchs false (touchL x)), (4, .int i)] []) (fun i => i ≤ (touchL x).length ∧ ∀ j, j < i → ((touchL x).getD j tch0).kind ≠ 2) (fun i => (touchL x).length - i) ?_ ?_
 ·refine ⟨0, ?_, ?_⟩
  ·exact ⟨Nat.zero_le _, fun j hj => by omega⟩
  ·refine em [] trivial ⟨⟨rfl, _, rfl, cvt⟩, ⟨rfl, _, rfl, cvt⟩, trivial⟩ trivial
 ·rintro i ⟨hi, hn⟩
  refine sq (sq (rg [] rfl ?_))
  refine cd rfl (fun h3 => ?_) (fun h3 => ?_)
  ·have hil : i < (touchL x).length := by simpa using h3
   have h6 : (touchL x).length ≤ 6 := by rw [touchL_len]; exact clampN_le _
   refine sk (sq (bk (sq (rg [] rfl ?_))))
   refine cd rfl (fun h5 => ?_) (fun h5 => ?_)
   ·have hk : ((touchL x).getD i tch0).kind = 2 := by simpa using h5
    refine sq (rg [] rfl ?_)
    refine WP.ret ?_
    change Fin ..
    exact finI hT (by rfl) (by rw [lkF, lkL_at hil hn hk]; rfl)
   ·have hk : ((touchL x).getD i tch0).kind ≠ 2 := by simpa using h5
    refine sk (rg [] rfl ?_)
    refine ⟨i + 1, ?_, ?_, ?_⟩
    ·exact ⟨hil, all_succ (Q := fun j => ((touchL x).getD j tch0).kind ≠ 2) hn hk⟩
    ·refine em [] trivial ⟨⟨rfl, _, rfl, cvt⟩, ⟨rfl, _, rfl, cvt⟩, trivial⟩ trivial
    ·(try simp only []); first | omega | grind
  ·have hil : i = (touchL x).length := by simp at h3; omega
   subst hil
   refine xt (sq (rg [] rfl ?_))
   refine WP.ret ?_
   change Fin ..
   exact finI hT (by rfl) (by rw [lkF, lkL_none hn])
/-- Locks that are held. -/
def encLk (l : List Bool) : AV := .agg 116 4 (fun j => .bool (l.getD j false))
def encLkR (l : List Bool) : AV := .agg 115 4 (fun j => .bool (l.getD j false))
def lk0 : List Bool := [false, false, false, false]
def takesB (x : Evt) : Bool := x.op == 55 || (x.op == 57 && x.val == 1)
def lkStep (x : Evt) (h : List Bool) : List Bool := if lkF x < 0 then h else if takesB x = true then h.set (lkF x).toNat true else if x.op = 56 then h.set (lkF x).toNat false else h
/-- What goroutine g holds behind the first i events. -/
def heldTo (t : List Evt) (g : Int) : Nat → List Bool
  | 0 => lk0
  | i + 1 => if (eAt t i).go = g then lkStep (eAt t i) (heldTo t g i) else heldTo t g i
theorem lkStep_len {x : Evt} {h : List Bool} (hl : h.length = 4) : (lkStep x h).length = 4 := by
  unfold lkStep
  split
  · exact hl
  · split
    · rw [List.length_set]; exact hl
    · split
      · rw [List.length_set]; exact hl
      · exact hl
theorem heldTo_len (t : List Evt) (g : Int) : ∀ i, (heldTo t g i).length = 4
  | 0 => rfl
  | i + 1 => by
    rw [heldTo]
    split
    · exact lkStep_len (heldTo_len t g i)
    · exact heldTo_len t g i
theorem arrB_put {t n i : Nat} {l : List Bool} {x : Bool} (h : i < l.length) : (AV.agg t n (fun j => .bool (l.getD j false))).put [i] (.bool x) = .agg t n (fun j => .bool ((l.set i x).getD j false)) := by
  simp only [AV.put, AV.agg.injEq, true_and, heq_eq_eq]
  funext j
  by_cases e : j = i
  · subst e
    simp [List.getD_eq_getElem?_getD, h]
  · rw [nbeq_ne e, cond_false]
    simp only [List.getD_eq_getElem?_getD]
    rw [List.getElem?_set_ne (Ne.symm e)]
theorem held_ac (g : Bool) (t : List Evt) (hz : chkE t = 0) (n : Nat) (hn : n < t.length) : AC Tryz.prog T tysN 69 [evts g t, .int n] [] (encLkR (heldTo t (eAt t n).go n)) [] := by
 refine AC_intro hT Tryz.func69 rfl rfl (Nat.le_of_ble_eq_true rfl) ?_
 have h256 := (chk_right hz).1
 refine sq (rg [] rfl ?_)
 refine sq (rg [] rfl ?_)
 refine sq (sq (rg [] rfl ?_))
 refine bk ?_
 refine WP.loop (α := Nat) (fun i => mkSt [(0, evts g t), (1, .int n), (4, .ptr (.s 4 0) 1 0 []), (5, .ptr (.s 5 0) 1 0 []), (6, .int i)] [(.s 4 0, .cells ⟨115, 1, fun _ => encLkR lk0, 0⟩), (.s 5 0, .cells ⟨115, 1, fun _ => encLkR (heldTo t (eAt t n).go i), 0⟩)]) (fun i => i ≤ n) (fun i => n - i) ?_ ?_
 ·refine ⟨0, ?_, ?_⟩
  ·exact Nat.zero_le _
  ·refine em [] trivial ⟨⟨rfl, _, rfl, cvt⟩, ⟨rfl, _, rfl, cvt⟩, ⟨rfl, _, rfl, cvt⟩, ⟨rfl, _, rfl, cvt⟩, ⟨rfl, _, rfl, cvt⟩, trivial⟩ ⟨obs rfl (hg := fun q hq => conv_eq (agg_ext (fun i => by match i with | 0 | 1 | 2 | 3 | i + 4 => rfl))), obs rfl (hg := fun q hq => conv_eq (agg_ext (fun i => by match i with | 0 | 1 | 2 | 3 | i + 4 => rfl))), trivial⟩
 ·rintro i hi
  refine sq (sq (rg [] rfl ?_))
  refine cd rfl (fun h3 => ?_) (fun h3 => ?_)
  ·have hin : i < n := by simpa using h3
   have hil : i < t.length := by omega
   have hl4 := heldTo_len t (eAt t n).go i
   have hlk := lkF_lt (chk_evt hz hil)
   refine sk (sq (bk (sq (rgs [CG.pure (.int (lkF (eAt t i)))] rfl ?_ ?_))))
   ·have h1 := rlock_ac (eAt t i)
    simp only [holdsC, under, CG.pure]
    repeat' with_reducible refine And.intro ?_ ?_
    all_goals (try with_reducible intros)
    all_goals (first | exact trivial | assumption | omega | exact h1 | (simp; done) | grind)
   refine sq (sq (dr [] rfl ?_))
   refine cd rfl (fun h6 => ?_) (fun h6 => ?_)
   ·have hsk : heldTo t (eAt t n).go (i + 1) = heldTo t (eAt t n).go i := by
      have e := h6
      rw [bor] at e
      simp only [Int.toNat_natCast, Bool.or_eq_true, bne_iff_ne, decide_eq_true_eq] at e
      rw [heldTo]
      split
      · rename_i hg
        rcases e with e | e
        · exact absurd hg e
        · rw [lkStep, if_pos e]
      · rfl
    refine xt (rg [] rfl ?_)
    refine ⟨i + 1, ?_, ?_, ?_⟩
    ·omega
    ·refine em [] trivial ⟨⟨rfl, _, rfl, cvt⟩, ⟨rfl, _, rfl, cvt⟩, ⟨rfl, _, rfl, cvt⟩, ⟨rfl, _, rfl, cvt⟩, ⟨rfl, _, rfl, cvt⟩, trivial⟩ ⟨obs rfl, obs rfl (hg := fun q hq => conv_eq (by rw [hsk])), trivial⟩
    ·(try simp only []); first | omega | grind
   ·have hgo : (eAt t i).go = (eAt t n).go ∧ 0 ≤ lkF (eAt t i) := by
      have e := h6
      rw [bor] at e
      simp only [Int.toNat_natCast, Bool.or_eq_false_iff, bne_eq_false_iff_eq, decide_eq_false_iff_not] at e
      exact ⟨e.1, by omega⟩
    have hst : heldTo t (eAt t n).go (i + 1) = lkStep (eAt t i) (heldTo t (eAt t n).go i) := by rw [heldTo, if_pos hgo.1]
    have hlt : (lkF (eAt t i)).toNat < (heldTo t (eAt t n).go i).length := by omega
    refine sk (sq (sq (rg [] rfl ?_)))
    refine cd rfl (fun h7 => ?_) (fun h7 => ?_)
    ·have htk : takesB (eAt t i) = true := by
       have e := h7
       rw [bor, band] at e
       exact e
     refine rgs [] rfl ?_ ?_
     ·simp [holdsC, under]; omega
     refine sq (rg [] rfl ?_)
     refine cd rfl (fun h9 => ?_) (fun h9 => ?_)
     ·exfalso
      have e9 : (eAt t i).op = 56 := by
        have e := h9
        simp at e
        exact e
      simp [takesB, e9] at htk
     ·refine sk (rg [] rfl ?_)
      refine ⟨i + 1, ?_, ?_, ?_⟩
      ·omega
      ·refine em [] trivial ⟨⟨rfl, _, rfl, cvt⟩, ⟨rfl, _, rfl, cvt⟩, ⟨rfl, _, rfl, cvt⟩, ⟨rfl, _, rfl, cvt⟩, ⟨rfl, _, rfl, cvt⟩, trivial⟩ ⟨obs rfl, obs rfl (hg := fun q hq => by (obtain rfl : q = 0 := (by simp at hq; exact hq)); exact conv_eq ((arrB_put hlt).trans (by rw [hst, lkStep, if_neg (by omega), if_pos htk]; rfl))), trivial⟩
      ·(try simp only []); first | omega | grind
    ·have htk : takesB (eAt t i) = false := by
       have e := h7
       rw [bor, band] at e
       exact e
     refine sk (sq (rg [] rfl ?_))
     refine cd rfl (fun h9 => ?_) (fun h9 => ?_)
     ·have e9 : (eAt t i).op = 56 := by
        have e := h9
        simp at e
        exact e
      refine rgs [] rfl ?_ ?_
      ·simp [holdsC, under]; omega
      refine rg [] rfl ?_
      refine ⟨i + 1, ?_, ?_, ?_⟩
      ·omega
      ·refine em [] trivial ⟨⟨rfl, _, rfl, cvt⟩, ⟨rfl, _, rfl, cvt⟩, ⟨rfl, _, rfl, cvt⟩, ⟨rfl, _, rfl, cvt⟩, ⟨rfl, _, rfl, cvt⟩, trivial⟩ ⟨obs rfl, obs rfl (hg := fun q hq => by (obtain rfl : q = 0 := (by simp at hq; exact hq)); exact conv_eq ((arrB_put hlt).trans (by rw [hst, lkStep, if_neg (by omega), if_neg (by rw [htk]; decide), if_pos e9]; rfl))), trivial⟩
      ·(try simp only []); first | omega | grind
     ·have e9 : ¬ (eAt t i).op = 56 := by
        have e := h9
        simp at e
        exact e
      refine sk (rg [] rfl ?_)
      refine ⟨i + 1, ?_, ?_, ?_⟩
      ·omega
      ·refine em [] trivial ⟨⟨rfl, _, rfl, cvt⟩, ⟨rfl, _, rfl, cvt⟩, ⟨rfl, _, rfl, cvt⟩, ⟨rfl, _, rfl, cvt⟩, ⟨rfl, _, rfl, cvt⟩, trivial⟩ ⟨obs rfl, obs rfl (hg := fun q hq => conv_eq (by rw [hst, lkStep, if_neg (by omega), if_neg (by rw [htk]; decide), if_neg e9])), trivial⟩
      ·(try simp only []); first | omega | grind
  ·have hin : i = n := by simp at h3; omega
   subst hin
   refine xt (sq (rg [] rfl ?_))
   refine WP.ret ?_
   change Fin ..
   exact fin_cell hT rfl rfl rfl rfl rfl (conv_eq rfl) rfl rfl rfl
end Go.Ab


/- What is known of plain variables: guards, who, written. -/
set_option autoImplicit false
set_option maxRecDepth 20000
set_option maxHeartbeats 4000000
set_option linter.unusedSimpArgs false
set_option linter.unusedVariables false
namespace Go.Ab
open Go.Proofs Go.Sort
def lkTo (l : List Bool) : Nat → List Int
  | 0 => []
  | i + 1 => lkTo l i ++ (if l.getD i false = true then [(i : Int)] else [])
theorem lkTo_len (l : List Bool) : ∀ i, (lkTo l i).length ≤ i
  | 0 => Nat.le_refl _
  | i + 1 => by
    have := lkTo_len l i
    rw [lkTo, List.length_append]
    split <;> simp <;> omega
theorem list_ac (l : List Bool) : AC Tryz.prog T tysN 65 [encLk l] [] (ints false (lkTo l 4)) [] := by
 refine AC_intro hT Tryz.func65 rfl rfl (Nat.le_of_ble_eq_true rfl) ?_
 refine sq (rg [] rfl ?_)
 refine sq (rg [] rfl ?_)
 refine sq (sq (rg [] rfl ?_))
 refine bk ?_
 refine WP.loop (α := Nat) (fun i => mkSt [(3, .own (.s 15 0) (lkTo l i).length 0 (lkTo l i).length none), (6, encLk l), (7, .int i)] [(.s 15 0, cellsI 3 .i64 (lkTo l i))]) (fun i => i ≤ 4) (fun i => 4 - i) ?_ ?_
 ·refine ⟨0, ?_, ?_⟩
  ·exact Nat.zero_le _
  ·refine em [] trivial ⟨⟨rfl, _, rfl, conv_nil_own⟩, ⟨rfl, _, rfl, cvt⟩, ⟨rfl, _, rfl, cvt⟩, trivial⟩ ⟨⟨fun _ _ => rfl, .inr ⟨rfl, 3, _, rfl, by decide⟩⟩, trivial⟩
 ·rintro i hi
  refine sq (rg [] rfl ?_)
  refine sq ?_
  refine cd rfl (fun h3 => ?_) (fun h3 => ?_)
  ·have hil : i < 4 := by have e : decide ((i : Int) < 4) = true := h3; simp at e; omega
   have hlen := lkTo_len l i
   refine sk (sq (bk (sq (rg [] rfl ?_))))
   refine sq (rg [] rfl ?_)
   refine cd rfl (fun h5 => ?_) (fun h5 => ?_)
   ·refine rgs [] rfl ?_ ?_
    ·have hbt : (T 3).bytes = 8 := rfl
     simp [holdsC, under, hbt]; omega
    refine rg [] rfl ?_
    have hx : l.getD i false = true := h5
    refine ⟨i + 1, ?_, ?_, ?_⟩
    ·omega
    ·refine em [] trivial ⟨⟨rfl, _, rfl, conv_eq (by rw [lkTo, if_pos hx, len_snoc])⟩, ⟨rfl, _, rfl, cvt⟩, ⟨rfl, _, rfl, cvt⟩, trivial⟩ ⟨ob_ints rfl rfl (by rw [lkTo, if_pos hx, len_snoc]) rfl rfl (by rw [lkTo, if_pos hx]; exact app1 (z := (T 3).zero) rfl (fun q hq => rfl)), trivial⟩
    ·(try simp only []); first | omega | grind
   ·refine sk (rg [] rfl ?_)
    have hx : l.getD i false = false := h5
    refine ⟨i + 1, ?_, ?_, ?_⟩
    ·omega
    ·refine em [] trivial ⟨⟨rfl, _, rfl, conv_eq (by rw [lkTo, if_neg (by rw [hx]; decide), List.append_nil])⟩, ⟨rfl, _, rfl, cvt⟩, ⟨rfl, _, rfl, cvt⟩, trivial⟩ ⟨ob_ints rfl rfl (by rw [lkTo, if_neg (by rw [hx]; decide), List.append_nil]) rfl rfl (fun q hq => by rw [lkTo, if_neg (by rw [hx]; decide), List.append_nil]), trivial⟩
    ·(try simp only []); first | omega | grind
  ·have hil : i = 4 := by have e : decide ((i : Int) < 4) = false := h3; simp at e; omega
   subst hil
   refine xt (sq (rg [] rfl ?_))
   refine WP.ret ?_
   change Fin ..
   refine fin_mk hT [(.s 15 0, (lkTo l 4).length)] (ts := [(2, ints false (lkTo l 4))]) (l := [ints false (lkTo l 4)]) ⟨⟨_, rfl, Nat.le_refl _⟩, trivial⟩ ⟨⟨rfl, _, rfl, ?_⟩, trivial⟩ trivial rfl rfl rfl
   exact conv_row rfl rfl rfl (fun h => by cases h) (by simp [lookF, idbeq_self]) (fun q hq => by rw [Nat.zero_add]; exact ⟨rfl, AEq.refl _⟩)
/-- What is known of a variable. -/
structure Use where
  gd : List Bool
  who : List Int
  wr : Bool
def encUse (u : Use) : AV := stru 118 [encLk u.gd, arrI 105 6 .i64 u.who, .bool u.wr]
def okU (u : Use) : Prop := u.gd.length = 4 ∧ u.who.length = 6
def use0 : Use := ⟨lk0, [0, 0, 0, 0, 0, 0], false⟩
def use1 : Use := ⟨[true, true, true, true], [0, 0, 0, 0, 0, 0], false⟩
def updU (U : Nat → Use) (v : Nat) (u : Use) : Nat → Use := fun q => if q = v then u else U q
/-- Guards that are left, up to lock l. -/
def gdTo (g h : List Bool) (l : Nat) : List Bool := (List.range 4).map fun j => if j < l then g.getD j false && h.getD j false else g.getD j false
def useAt (u : Use) (how : Int) (go : Nat) (h : List Bool) : Use := if how = 0 then u else ⟨gdTo u.gd h 4, u.who.set go 1, u.wr || how == 2⟩
def useF (p : PProg) (x : Evt) (h : List Bool) (U : Nat → Use) (k : Nat) : Nat → Use := fun q => if q < k then useAt (U q) ((plnF p x).getD q 0) x.go.toNat h else U q
def cellsU (n : Nat) (U : Nat → Use) : Ob := .cells ⟨118, n, fun q => encUse (U q), 0⟩
def boxU (n : Nat) : Ob := .cells ⟨113, 1, fun _ => .own (.b 1) n 0 n none, 0⟩
theorem okIds_use (ids : List Id) (u : Use) : okIds ids (encUse u) = true := okIds_agg (fun i hi => by
  match i, hi with
  | 0, _ | 1, _ | 2, _ => rfl)
theorem noIds_use (u : Use) : noIds (encUse u) = true := noIds_agg (fun i hi => by
  match i, hi with
  | 0, _ | 1, _ | 2, _ => rfl)
theorem ren_use (σ : Id → Id) (u : Use) : ren σ (encUse u) = encUse u := agg_ext (fun q => by match q with | 0 | 1 | 2 | q + 3 => rfl)
theorem gdTo_len (g h : List Bool) (l : Nat) : (gdTo g h l).length = 4 := by simp [gdTo]
theorem gdTo_0 {g h : List Bool} (hg : g.length = 4) : gdTo g h 0 = g := by
  refine List.ext_getElem (by rw [gdTo_len, hg]) (fun j h1 h2 => ?_)
  simp [gdTo, List.getD_eq_getElem?_getD, h2]
theorem gdTo_get {g h : List Bool} {l j : Nat} (hj : j < 4) : (gdTo g h l).getD j false = if j < l then g.getD j false && h.getD j false else g.getD j false := by simp [gdTo, List.getD_eq_getElem?_getD, hj]
theorem gdTo_set {g h : List Bool} {l : Nat} (hl : l < 4) : (gdTo g h l).set l ((gdTo g h l).getD l false && h.getD l false) = gdTo g h (l + 1) := by
  refine List.ext_getElem (by simp [gdTo]) (fun j h1 h2 => ?_)
  have hj : j < 4 := by simpa [gdTo] using h2
  rw [List.getElem_set]
  by_cases e : l = j
  · subst e
    rw [if_pos rfl, gdTo_get hl, if_neg (Nat.lt_irrefl _)]
    simp [gdTo]
  · rw [if_neg e]
    simp only [gdTo, List.getElem_map, List.getElem_range]
    by_cases h3 : j < l
    · rw [if_pos h3, if_pos (by omega)]
    · rw [if_neg h3, if_neg (by omega)]
theorem put_who {u : Use} {g : Nat} {x : Int} (h : g < u.who.length) : (encUse u).put [1, g] (.int x) = encUse ⟨u.gd, u.who.set g x, u.wr⟩ := by
  rw [encUse, stru_put (Nat.le_of_ble_eq_true rfl)]
  show stru _ [encLk u.gd, (arrI 105 6 .i64 u.who).put [g] (.int x), .bool u.wr] = _
  rw [arrI_put h]
  rfl
theorem put_wr {u : Use} {x : Bool} : (encUse u).put [2] (.bool x) = encUse ⟨u.gd, u.who, x⟩ := by
  rw [encUse, stru_put (Nat.le_of_ble_eq_true rfl)]
  rfl
theorem put_gd {u : Use} {l : Nat} {x : Bool} (h : l < u.gd.length) : (encUse u).put [0, l] (.bool x) = encUse ⟨u.gd.set l x, u.who, u.wr⟩ := by
  rw [encUse, stru_put (Nat.le_of_ble_eq_true rfl)]
  show stru _ [(encLk u.gd).put [l] (.bool x), arrI 105 6 .i64 u.who, .bool u.wr] = _
  rw [encLk, arrB_put h]
  rfl
theorem fn_upd {U : Nat → Use} {v : Nat} {u : Use} {y : AV} (hy : y = encUse u) (q : Nat) : (bif Nat.beq q v then y else encUse (U q)) = encUse (updU U v u q) := by
  unfold updU
  by_cases e : q = v
  · subst e; rw [Nat.beq_refl, cond_true, if_pos rfl, hy]
  · rw [nbeq_ne e, cond_false, if_neg e]
theorem put_who_at {V : Nat → Use} {v : Nat} {u : Use} (hat : V v = u) {g : Nat} {x : Int} (h : g < u.who.length) : (encUse (V v)).put [1, g] (.int x) = encUse ⟨u.gd, u.who.set g x, u.wr⟩ := by rw [hat]; exact put_who h
theorem updU_at {U : Nat → Use} {v : Nat} {u : Use} : updU U v u v = u := if_pos rfl
theorem updU_upd {U : Nat → Use} {v : Nat} {u u' : Use} (q : Nat) : updU (updU U v u) v u' q = updU U v u' q := by
  unfold updU; split <;> rfl
theorem uses1_ac (p : PProg) (x : Evt) (h : List Bool) (n : Nat) (U : Nat → Use) (hr : rightE x = true) (hv : p.vars.length ≤ 8) (hn : n = p.vars.length) (hh : h.length = 4) (hU : ∀ q, q < n → okU (U q)) : AC Tryz.prog T tysN 109 [encE x, encLk h, .rp 26 (encProg p), .ptr (.b 0) 1 0 []] [boxU n, cellsU n U] (.tup []) [boxU n, cellsU n (useF p x h U 8)] := by
 refine AC_intro hT Tryz.func109 rfl rfl (Nat.le_of_ble_eq_true rfl) ?_
 have hgo : 0 ≤ x.go ∧ x.go < 6 := by
   simp only [rightE, Bool.and_eq_true, decide_eq_true_eq] at hr
   exact ⟨hr.1.1, hr.1.2.1⟩
 refine sq (rg [] rfl ?_)
 refine sq (rgs [CG.pure (plnA (plnF p x))] rfl ?_ ?_)
 ·have h1 := plainOf_ac p x hr hv
  simp only [holdsC, under, CG.pure]
  repeat' with_reducible refine And.intro ?_ ?_
  all_goals (try with_reducible intros)
  all_goals (first | exact trivial | assumption | omega | exact h1 | (simp; done) | grind)
 refine bk ?_
 refine WP.loop (α := Nat) (fun v => mkSt [(3, .ptr (.b 0) 1 0 []), (4, .rp 73 (encE x)), (5, .rp 116 (encLk h)), (12, plnA (plnF p x)), (13, .int v)] [(.b 0, boxU n), (.b 1, cellsU n (useF p x h U v))]) (fun v => v ≤ 8) (fun v => 8 - v) ?_ ?_
 ·refine ⟨0, ?_, ?_⟩
  ·exact Nat.zero_le _
  ·refine em [(.s 4 0, 1), (.s 5 0, 1)] ⟨⟨_, rfl, Nat.le_refl _⟩, ⟨_, rfl, Nat.le_refl _⟩, trivial⟩ ⟨⟨rfl, _, rfl, cvt⟩, ⟨rfl, _, rfl, conv_rpe rfl rfl (by decide) rfl rfl (noIds_E _)⟩, ⟨rfl, _, rfl, conv_rpe rfl rfl (by decide) rfl rfl rfl⟩, ⟨rfl, _, rfl, cvt⟩, ⟨rfl, _, rfl, cvt⟩, trivial⟩ ⟨obs rfl, obs rfl (hok := fun _ _ => okIds_use _ _) (hg := fun q hq => conv_eq (by rw [show useF p x h U 0 q = U q from if_neg (Nat.not_lt_zero q)])), trivial⟩
 ·rintro v hv8
  refine sq (rg [] rfl ?_)
  refine sq ?_
  refine cd rfl (fun h2 => ?_) (fun h2 => ?_)
  ·have hvl : v < 8 := by have e : decide ((v : Int) < 8) = true := h2; simp at e; omega
   refine sk (sq (bk (sq (rg [] rfl ?_))))
   refine sq (sq (rg [] rfl ?_))
   refine cd rfl (fun h4 => ?_) (fun h4 => ?_)
   ·have h0 : (plnF p x).getD v 0 = 0 := by simpa using h4
    refine xt (rg [] rfl ?_)
    have hsame : ∀ q, useF p x h U v q = useF p x h U (v + 1) q := fun q => by
      unfold useF
      rcases Nat.lt_trichotomy q v with e | e | e
      · rw [if_pos e, if_pos (by omega)]
      · subst e; rw [if_neg (Nat.lt_irrefl _), if_pos (by omega), h0]; rfl
      · rw [if_neg (by omega), if_neg (by omega)]
    refine ⟨v + 1, ?_, ?_, ?_⟩
    ·omega
    ·refine em [] trivial ⟨⟨rfl, _, rfl, cvt⟩, ⟨rfl, _, rfl, cvt⟩, ⟨rfl, _, rfl, cvt⟩, ⟨rfl, _, rfl, cvt⟩, ⟨rfl, _, rfl, cvt⟩, trivial⟩ ⟨obs rfl, obs rfl (hok := fun _ _ => okIds_use _ _) (hg := fun q hq => conv_eq (by rw [← hsame q])), trivial⟩
    ·(try simp only []); first | omega | grind
   ·have h0 : (plnF p x).getD v 0 ≠ 0 := by simpa using h4
    have hvn : v < n := by
      rw [pln_eq hr hvl] at h0
      split at h0
      · rename_i hp
        simp only [plainB, Bool.and_eq_true, decide_eq_true_eq] at hp
        omega
      · exact absurd rfl h0
    have hok := hU v hvn
    have hlt : x.go.toNat < (U v).who.length := by rw [hok.2]; omega
    have hat : useF p x h U v v = U v := if_neg (Nat.lt_irrefl _)
    refine sk (sq (drs [] rfl ?_ ?_))
    ·simp [holdsC, under]
     omega
    refine sq ?_
    refine WP.ent (st' := mkSt [(3, .ptr (.b 0) 1 0 []), (4, .rp 73 (encE x)), (5, .rp 116 (encLk h)), (6, .int v), (7, .int ((plnF p x).getD v 0)), (12, plnA (plnF p x)), (13, .int v)] [(.b 0, boxU n), (.b 1, cellsU n (updU (useF p x h U v) v ⟨(U v).gd, (U v).who.set x.go.toNat 1, (U v).wr⟩))]) ?_ ?_
    ·refine em [] trivial ⟨⟨rfl, _, rfl, cvt⟩, ⟨rfl, _, rfl, cvt⟩, ⟨rfl, _, rfl, cvt⟩, ⟨rfl, _, rfl, cvt⟩, ⟨rfl, _, rfl, cvt⟩, ⟨rfl, _, rfl, cvt⟩, ⟨rfl, _, rfl, cvt⟩, trivial⟩ ⟨obs rfl, obs rfl (hok := fun _ _ => okIds_use _ _) (hg := fun q hq => conv_eq (Eq.trans rfl (fn_upd (U := useF p x h U v) (v := v) (put_who_at hat hlt) q))), trivial⟩
    refine drs [] rfl ?_ ?_
    ·simp [holdsC, under]
     omega
    refine sq (rg [] rfl ?_)
    refine bk ?_
    refine WP.loop (α := Nat) (fun l => mkSt [(3, .ptr (.b 0) 1 0 []), (4, .rp 73 (encE x)), (5, .rp 116 (encLk h)), (6, .int v), (12, plnA (plnF p x)), (13, .int v), (39, encLk h), (40, .int l)] [(.b 0, boxU n), (.b 1, cellsU n (updU (useF p x h U v) v ⟨gdTo (U v).gd h l, (U v).who.set x.go.toNat 1, (U v).wr || (plnF p x).getD v 0 == 2⟩))]) (fun l => l ≤ 4) (fun l => 4 - l) ?_ ?_
    ·refine ⟨0, ?_, ?_⟩
     ·exact Nat.zero_le _
     ·refine em [] trivial ⟨⟨rfl, _, rfl, cvt⟩, ⟨rfl, _, rfl, cvt⟩, ⟨rfl, _, rfl, cvt⟩, ⟨rfl, _, rfl, cvt⟩, ⟨rfl, _, rfl, cvt⟩, ⟨rfl, _, rfl, cvt⟩, ⟨rfl, _, rfl, cvt⟩, ⟨rfl, _, rfl, cvt⟩, trivial⟩ ⟨obs rfl, obs rfl (hok := fun _ _ => okIds_use _ _) (hg := fun q hq => conv_eq ((Eq.trans rfl (fn_upd (U := updU (useF p x h U v) v ⟨(U v).gd, (U v).who.set x.go.toNat 1, (U v).wr⟩) (v := v) (u := ⟨gdTo (U v).gd h 0, (U v).who.set x.go.toNat 1, (U v).wr || (plnF p x).getD v 0 == 2⟩) (put_wr.trans (by simp only [Int.toNat_natCast, Nat.add_zero, updU_at, bor, gdTo_0 hok.1])) q)).trans (by rw [updU_upd]))), trivial⟩
    ·rintro l hl4
     refine sq (rg [] rfl ?_)
     refine sq ?_
     refine cd rfl (fun h8 => ?_) (fun h8 => ?_)
     ·have hll : l < 4 := by have e : decide ((l : Int) < 4) = true := h8; simp at e; omega
      refine sk (sq (bk (sq (rg [] rfl ?_))))
      refine drs [] rfl ?_ ?_
      ·simp [holdsC, under]
       omega
      refine rg [] rfl ?_
      refine ⟨l + 1, ?_, ?_, ?_⟩
      ·omega
      ·refine em [] trivial ⟨⟨rfl, _, rfl, cvt⟩, ⟨rfl, _, rfl, cvt⟩, ⟨rfl, _, rfl, cvt⟩, ⟨rfl, _, rfl, cvt⟩, ⟨rfl, _, rfl, cvt⟩, ⟨rfl, _, rfl, cvt⟩, ⟨rfl, _, rfl, cvt⟩, ⟨rfl, _, rfl, cvt⟩, trivial⟩ ⟨obs rfl, obs rfl (hok := fun _ _ => okIds_use _ _) (hg := fun q hq => conv_eq ((Eq.trans rfl (fn_upd (U := updU (useF p x h U v) v ⟨gdTo (U v).gd h l, (U v).who.set x.go.toNat 1, (U v).wr || (plnF p x).getD v 0 == 2⟩) (v := v) (u := ⟨gdTo (U v).gd h (l + 1), (U v).who.set x.go.toNat 1, (U v).wr || (plnF p x).getD v 0 == 2⟩) ((put_gd (by simp only [Int.toNat_natCast, Nat.add_zero, updU_at, gdTo_len]; omega)).trans (by simp only [Int.toNat_natCast, Nat.add_zero, updU_at, band, gdTo_set hll])) q)).trans (by rw [updU_upd]))), trivial⟩
      ·(try simp only []); first | omega | grind
     ·have hll : l = 4 := by have e : decide ((l : Int) < 4) = false := h8; simp at e; omega
      subst hll
      refine xt (rg [] rfl ?_)
      have hnext : ∀ q, updU (useF p x h U v) v ⟨gdTo (U v).gd h 4, (U v).who.set x.go.toNat 1, (U v).wr || (plnF p x).getD v 0 == 2⟩ q = useF p x h U (v + 1) q := fun q => by
        unfold updU useF
        rcases Nat.lt_trichotomy q v with e | e | e
        · rw [if_neg (by omega), if_pos e, if_pos (by omega)]
        · subst e; rw [if_pos rfl, if_pos (by omega), useAt, if_neg h0]
        · rw [if_neg (by omega), if_neg (by omega), if_neg (by omega)]
      refine ⟨v + 1, ?_, ?_, ?_⟩
      ·omega
      ·refine em [] trivial ⟨⟨rfl, _, rfl, cvt⟩, ⟨rfl, _, rfl, cvt⟩, ⟨rfl, _, rfl, cvt⟩, ⟨rfl, _, rfl, cvt⟩, ⟨rfl, _, rfl, cvt⟩, trivial⟩ ⟨obs rfl, obs rfl (hok := fun _ _ => okIds_use _ _) (hg := fun q hq => conv_eq (congrArg encUse (hnext q))), trivial⟩
      ·(try simp only []); first | omega | grind
  ·have hvl : v = 8 := by have e : decide ((v : Int) < 8) = false := h2; simp at e; omega
   subst hvl
   refine xt ?_
   change Fin ..
   refine fin_mk hT [] (ts := []) (l := []) trivial trivial ⟨obs rfl, obs rfl (hok := fun _ _ => okIds_use _ _) (hg := fun q hq => conv_eq rfl), trivial⟩ rfl rfl rfl
end Go.Ab


/- race.walk, race.uses. -/
set_option autoImplicit false
set_option maxRecDepth 20000
set_option maxHeartbeats 4000000
set_option linter.unusedSimpArgs false
set_option linter.unusedVariables false
namespace Go.Ab
open Go.Proofs Go.Sort
def usesTo (p : PProg) (t : List Evt) (U : Nat → Use) : Nat → Nat → Use
  | 0 => U
  | i + 1 => useF p (eAt t i) (heldTo t (eAt t i).go i) (usesTo p t U i) 8
theorem useAt_ok {u : Use} {how : Int} {go : Nat} {h : List Bool} (hu : okU u) : okU (useAt u how go h) := by
  unfold useAt
  split
  · exact hu
  · exact ⟨gdTo_len _ _ _, by rw [List.length_set]; exact hu.2⟩
theorem usesTo_ok {p : PProg} {t : List Evt} {U : Nat → Use} {n : Nat} (hU : ∀ q, q < n → okU (U q)) : ∀ i q, q < n → okU (usesTo p t U i q)
  | 0, q, hq => hU q hq
  | i + 1, q, hq => by
    have h := usesTo_ok (p := p) (t := t) hU i q hq
    show okU (useF p (eAt t i) (heldTo t (eAt t i).go i) (usesTo p t U i) 8 q)
    unfold useF
    split
    · exact useAt_ok h
    · exact h
def encHs (H : Nat → List Bool) : AV := .agg 218 6 (fun g => encLk (H g))
def heldAll (t : List Evt) (i : Nat) : Nat → List Bool := fun g => heldTo t (g : Int) i
theorem okIds_hs (ids : List Id) (H : Nat → List Bool) : okIds ids (encHs H) = true := okIds_agg (fun _ _ => rfl)
theorem hs_put {H : Nat → List Bool} {a l : Nat} {b : Bool} (h : l < (H a).length) : (encHs H).put [a, l] (.bool b) = encHs (fun g => if g = a then (H a).set l b else H g) := by
  show AV.agg _ _ (fun j => bif Nat.beq j a then (encLk (H a)).put [l] (.bool b) else encLk (H j)) = _
  refine agg_ext (fun j => ?_)
  by_cases e : j = a
  · subst e
    show (bif Nat.beq j j then _ else _) = encLk (if j = j then (H j).set l b else H j)
    rw [Nat.beq_refl, cond_true, if_pos rfl, encLk, arrB_put h]
    rfl
  · show (bif Nat.beq j a then _ else _) = encLk (if j = a then (H a).set l b else H j)
    rw [nbeq_ne e, cond_false, if_neg e]
theorem heldAll_succ {t : List Evt} {i : Nat} (hg : 0 ≤ (eAt t i).go) {H : Nat → List Bool} (h : lkStep (eAt t i) (heldAll t i (eAt t i).go.toNat) = H (eAt t i).go.toNat) (h2 : ∀ g, g ≠ (eAt t i).go.toNat → H g = heldAll t i g) : encHs H = encHs (heldAll t (i + 1)) := by
  refine agg_ext (fun g => ?_)
  congr 1
  show H g = heldTo t g (i + 1)
  rw [heldTo]
  by_cases e : g = (eAt t i).go.toNat
  · have e2 : (eAt t i).go = (g : Int) := by omega
    rw [if_pos e2, e, ← h]
    show lkStep _ (heldTo t _ i) = _
    congr 1
  · rw [if_neg (by omega), h2 g e]; rfl
theorem ren_lk (σ : Id → Id) (l : List Bool) : ren σ (encLk l) = encLk l := rfl
theorem ren_E (σ : Id → Id) (x : Evt) : ren σ (encE x) = encE x := agg_ext (fun q => by
  match q with
  | 0 | 1 | 2 | 3 | 4 | 5 | 6 | 8 | q + 9 => rfl
  | 7 => exact agg_ext (fun j => ren_tch σ _))
theorem ren_cellsU (σ : Id → Id) (n : Nat) (U : Nat → Use) : renO σ (cellsU n U) = cellsU n U := by
  simp only [cellsU, renO, Ob.cells.injEq, Blk.mk.injEq, true_and, and_true]
  exact funext fun i => ren_use σ _
theorem walk_ac (g : Bool) (p : PProg) (t : List Evt) (n : Nat) (U : Nat → Use) (hz : chkE t = 0) (hv : p.vars.length ≤ 8) (hn : n = p.vars.length) (hU : ∀ q, q < n → okU (U q)) : AC Tryz.prog T tysN 108 [evts g t, .clo 109 [.rp 26 (encProg p), .ptr (.b 0) 1 0 []]] [boxU n, cellsU n U] (.tup []) [boxU n, cellsU n (usesTo p t U t.length)] := by
 refine AC_intro hT Tryz.func108 rfl rfl (Nat.le_of_ble_eq_true rfl) ?_
 have h256 := (chk_right hz).1
 refine sq (rg [] rfl ?_)
 refine sq (rg [] rfl ?_)
 refine bk ?_
 refine WP.loop (α := Nat) (fun i => mkSt [(1, .clo 109 [.rp 26 (encProg p), .ptr (.b 0) 1 0 []]), (4, .ptr (.s 4 0) 1 0 []), (8, evts g t), (9, .int t.length), (10, .int i)] [(.b 0, boxU n), (.b 1, cellsU n (usesTo p t U i)), (.s 4 0, .cells ⟨218, 1, fun _ => encHs (heldAll t i), 0⟩)]) (fun i => i ≤ t.length) (fun i => t.length - i) ?_ ?_
 ·refine ⟨0, ?_, ?_⟩
  ·exact Nat.zero_le _
  ·refine em [] trivial ⟨⟨rfl, _, rfl, cvt⟩, ⟨rfl, _, rfl, cvt⟩, ⟨rfl, _, rfl, cvt⟩, ⟨rfl, _, rfl, cvt⟩, ⟨rfl, _, rfl, cvt⟩, trivial⟩ ⟨obs rfl, obs rfl (hok := fun _ _ => okIds_use _ _) (hg := fun q hq => conv_eq rfl), obs rfl (hok := fun _ _ => okIds_hs _ _) (hg := fun q hq => conv_eq (agg_ext (fun i => agg_ext (fun j => by match j with | 0 | 1 | 2 | 3 | j + 4 => rfl)))), trivial⟩
 ·rintro i hi
  refine sq (rg [] rfl ?_)
  refine sq ?_
  refine cd rfl (fun h2 => ?_) (fun h2 => ?_)
  ·have hil : i < t.length := by simpa using h2
   have hr := chk_evt hz hil
   have hgo := (chk_right hz).2 i hil
   have hlk := lkF_lt hr
   have hUi := usesTo_ok (p := p) (t := t) hU i
   refine sk (sq (bk (sq (rg [] rfl ?_))))
   refine sq ?_
   refine WP.ent (st' := mkSt [(1, .clo 109 [.rp 26 (encProg p), .ptr (.b 0) 1 0 []]), (4, .ptr (.s 4 0) 1 0 []), (6, .rp 73 (encE (eAt t i))), (8, evts g t), (9, .int t.length), (10, .int i)] [(.b 0, boxU n), (.b 1, cellsU n (usesTo p t U i)), (.s 4 0, .cells ⟨218, 1, fun _ => encHs (heldAll t i), 0⟩)]) ?_ ?_
   ·refine em [(.s 6 0, 1)] ⟨⟨_, rfl, Nat.le_refl _⟩, trivial⟩ ⟨⟨rfl, _, rfl, cvt⟩, ⟨rfl, _, rfl, cvt⟩, ⟨rfl, _, rfl, conv_rpe rfl rfl (by decide) rfl rfl (noIds_E _)⟩, ⟨rfl, _, rfl, cvt⟩, ⟨rfl, _, rfl, cvt⟩, ⟨rfl, _, rfl, cvt⟩, trivial⟩ ⟨obs rfl, obs rfl (hok := fun _ _ => okIds_use _ _) (hg := fun q hq => conv_eq rfl), obs rfl (hok := fun _ _ => okIds_hs _ _) (hg := fun q hq => conv_eq rfl), trivial⟩
   refine drs [⟨true, [.b 0, .b 1], .tup [], [boxU n, cellsU n (usesTo p t U (i + 1))]⟩] rfl ?_ ?_
   ·have h1 := uses1_ac p (eAt t i) (heldTo t (eAt t i).go i) n (usesTo p t U i) hr hv hn (heldTo_len _ _ _) hUi
    have eg : (((eAt t i).go.toNat : Nat) : Int) = (eAt t i).go := by omega
    have hs : AC Tryz.prog T tysN 109 [ren (sig [.b 0, .b 1] 0) (encE (eAt t i)), ren (sig [.b 0, .b 1] 0) (encLk (heldAll t i (eAt t i).go.toNat)), .rp 26 (encProg p), .ptr (.b 0) 1 0 []] [renO (sig [.b 0, .b 1] 0) (boxU n), renO (sig [.b 0, .b 1] 0) (cellsU n (usesTo p t U i))] (.tup []) [boxU n, cellsU n (usesTo p t U (i + 1))] := by
      rw [ren_E, ren_lk, ren_cellsU, show renO (sig [.b 0, .b 1] 0) (boxU n) = boxU n from rfl, heldAll, eg]
      exact h1
    have hok1 : okOs [.b 0, .b 1] [boxU n, cellsU n (usesTo p t U i)] := ⟨fun _ _ => rfl, fun _ _ => okIds_use _ _, trivial⟩
    have hok2 : okOs (bs 2) [boxU n, cellsU n (usesTo p t U (i + 1))] := ⟨fun _ _ => rfl, fun _ _ => okIds_use _ _, trivial⟩
    simp only [holdsC, under, CG.pure]
    repeat' with_reducible refine And.intro ?_ ?_
    all_goals (try with_reducible intros)
    all_goals (first | exact trivial | assumption | omega | exact hok1 | exact hok2 | exact hs | (simp; done) | grind)
   refine sq (rgs [CG.pure (.int (lkF (eAt t i)))] rfl ?_ ?_)
   ·have h1 := lock_ac (eAt t i) hr
    simp only [holdsC, under, CG.pure]
    repeat' with_reducible refine And.intro ?_ ?_
    all_goals (try with_reducible intros)
    all_goals (first | exact trivial | assumption | omega | exact h1 | (simp; done) | grind)
   refine bk (sq (rg [] rfl ?_))
   refine cd rfl (fun h6 => ?_) (fun h6 => ?_)
   ·have hneg : lkF (eAt t i) < 0 := by simpa using h6
    have hst : ∀ h, lkStep (eAt t i) h = h := fun h => by rw [lkStep, if_pos hneg]
    refine sk (rg [] rfl ?_)
    refine ⟨i + 1, ?_, ?_, ?_⟩
    ·omega
    ·refine em [] trivial ⟨⟨rfl, _, rfl, cvt⟩, ⟨rfl, _, rfl, cvt⟩, ⟨rfl, _, rfl, cvt⟩, ⟨rfl, _, rfl, cvt⟩, ⟨rfl, _, rfl, cvt⟩, trivial⟩ ⟨obs rfl, obs rfl (hok := fun _ _ => okIds_use _ _) (hg := fun q hq => conv_eq (ren_use _ _)), obs rfl (hok := fun _ _ => okIds_hs _ _) (hg := fun q hq => conv_eq (heldAll_succ hgo.1 (hst _) (fun _ _ => rfl))), trivial⟩
    ·(try simp only []); first | omega | grind
   ·have hneg : ¬ lkF (eAt t i) < 0 := by simpa using h6
    have hlt : (lkF (eAt t i)).toNat < (heldAll t i (eAt t i).go.toNat).length := by rw [heldAll, heldTo_len]; omega
    refine sq (rg [] rfl ?_)
    refine cd rfl (fun h7 => ?_) (fun h7 => ?_)
    ·have htk : takesB (eAt t i) = true := by
       have e := h7
       rw [bor, band] at e
       exact e
     refine rgs [] rfl ?_ ?_
     ·simp [holdsC, under]; omega
     refine rg [] rfl ?_
     refine ⟨i + 1, ?_, ?_, ?_⟩
     ·omega
     ·refine em [] trivial ⟨⟨rfl, _, rfl, cvt⟩, ⟨rfl, _, rfl, cvt⟩, ⟨rfl, _, rfl, cvt⟩, ⟨rfl, _, rfl, cvt⟩, ⟨rfl, _, rfl, cvt⟩, trivial⟩ ⟨obs rfl, obs rfl (hok := fun _ _ => okIds_use _ _) (hg := fun q hq => conv_eq (ren_use _ _)), obs rfl (hok := fun _ _ => okIds_hs _ _) (hg := fun q hq => by (obtain rfl : q = 0 := (by simp at hq; exact hq)); exact conv_eq ((hs_put hlt).trans (heldAll_succ hgo.1 (by rw [if_pos rfl, lkStep, if_neg hneg, if_pos htk]) (fun g hg => if_neg hg)))), trivial⟩
     ·(try simp only []); first | omega | grind
    ·have htk : takesB (eAt t i) = false := by
       have e := h7
       rw [bor, band] at e
       exact e
     refine sq (rg [] rfl ?_)
     refine cd rfl (fun h9 => ?_) (fun h9 => ?_)
     ·have e9 : (eAt t i).op = 56 := by
        have e := h9
        simp at e
        exact e
      refine rgs [] rfl ?_ ?_
      ·simp [holdsC, under]; omega
      refine rg [] rfl ?_
      refine ⟨i + 1, ?_, ?_, ?_⟩
      ·omega
      ·refine em [] trivial ⟨⟨rfl, _, rfl, cvt⟩, ⟨rfl, _, rfl, cvt⟩, ⟨rfl, _, rfl, cvt⟩, ⟨rfl, _, rfl, cvt⟩, ⟨rfl, _, rfl, cvt⟩, trivial⟩ ⟨obs rfl, obs rfl (hok := fun _ _ => okIds_use _ _) (hg := fun q hq => conv_eq (ren_use _ _)), obs rfl (hok := fun _ _ => okIds_hs _ _) (hg := fun q hq => by (obtain rfl : q = 0 := (by simp at hq; exact hq)); exact conv_eq ((hs_put hlt).trans (heldAll_succ hgo.1 (by rw [if_pos rfl, lkStep, if_neg hneg, if_neg (by rw [htk]; decide), if_pos e9]) (fun g hg => if_neg hg)))), trivial⟩
      ·(try simp only []); first | omega | grind
     ·have e9 : ¬ (eAt t i).op = 56 := by
        have e := h9
        simp at e
        exact e
      refine sk (rg [] rfl ?_)
      refine ⟨i + 1, ?_, ?_, ?_⟩
      ·omega
      ·refine em [] trivial ⟨⟨rfl, _, rfl, cvt⟩, ⟨rfl, _, rfl, cvt⟩, ⟨rfl, _, rfl, cvt⟩, ⟨rfl, _, rfl, cvt⟩, ⟨rfl, _, rfl, cvt⟩, trivial⟩ ⟨obs rfl, obs rfl (hok := fun _ _ => okIds_use _ _) (hg := fun q hq => conv_eq (ren_use _ _)), obs rfl (hok := fun _ _ => okIds_hs _ _) (hg := fun q hq => conv_eq (heldAll_succ hgo.1 (by rw [lkStep, if_neg hneg, if_neg (by rw [htk]; decide), if_neg e9]) (fun _ _ => rfl))), trivial⟩
      ·(try simp only []); first | omega | grind
  ·have hil : i = t.length := by simp at h2; omega
   subst hil
   refine xt ?_
   change Fin ..
   refine fin_mk hT [] (ts := []) (l := []) trivial trivial ⟨obs rfl, obs rfl (hok := fun _ _ => okIds_use _ _) (hg := fun q hq => conv_eq rfl), trivial⟩ rfl rfl rfl
end Go.Ab


/- race.uses, race.Guards, race.Suspects. -/
set_option autoImplicit false
set_option maxRecDepth 20000
set_option maxHeartbeats 4000000
set_option linter.unusedSimpArgs false
set_option linter.unusedVariables false
namespace Go.Ab
open Go.Proofs Go.Sort
def gdI (l : Nat) : List Bool := (List.range 4).map fun j => decide (j < l)
def iniU (i l q : Nat) : Use := if q < i then use1 else if q = i then ⟨gdI l, [0, 0, 0, 0, 0, 0], false⟩ else use0
theorem gdI_set {l : Nat} (hl : l < 4) : (gdI l).set l true = gdI (l + 1) := by
  match l, hl with
  | 0, _ | 1, _ | 2, _ | 3, _ => rfl
theorem iniU_put {i l : Nat} (hl : l < 4) (q : Nat) : (bif Nat.beq q i then (encUse (iniU i l i)).put [0, l] (.bool true) else encUse (iniU i l q)) = encUse (iniU i (l + 1) q) := by
  by_cases e : q = i
  · subst e
    rw [Nat.beq_refl, cond_true, put_gd (by simp [iniU, gdI]; exact hl)]
    simp [iniU, gdI_set hl]
  · rw [nbeq_ne e, cond_false]
    simp [iniU, e]
theorem iniU_next {i : Nat} (q : Nat) : iniU i 4 q = iniU (i + 1) 0 q := by
  unfold iniU
  rcases Nat.lt_trichotomy q i with e | e | e
  · rw [if_pos e, if_pos (by omega)]
  · subst e
    rw [if_neg (Nat.lt_irrefl _), if_pos rfl, if_pos (by omega)]; rfl
  · rw [if_neg (by omega), if_neg (by omega), if_neg (by omega)]
    split <;> rfl
theorem zeroU : (T 118).zero = encUse use0 := agg_ext (fun q => by
  match q with
  | 2 | q + 3 => rfl
  | 0 => exact agg_ext (fun j => by match j with | 0 | 1 | 2 | 3 | j + 4 => rfl)
  | 1 => exact agg_ext (fun j => by match j with | 0 | 1 | 2 | 3 | 4 | 5 | j + 6 => rfl))
abbrev usesU (p : PProg) (t : List Evt) : Nat → Use := usesTo p t (fun _ => use1) t.length
def usesA (p : PProg) (t : List Evt) : AV := .row 118 false p.vars.length (fun q => encUse (usesU p t q))
theorem uses_ac (g : Bool) (p : PProg) (t : List Evt) (hz : chkE t = 0) (hv : p.vars.length ≤ 8) : AC Tryz.prog T tysN 64 [encProg p, evts g t] [] (usesA p t) [] := by
 refine AC_intro hT Tryz.func64 rfl rfl (Nat.le_of_ble_eq_true rfl) ?_
 refine sq (rg [] rfl ?_)
 refine sq (rgs [] rfl ?_ ?_)
 ·have hbt : (T 118).bytes = 64 := rfl
  simp [holdsC, under, hbt]
  omega
 refine sq (sq (rg [] rfl ?_))
 refine bk ?_
 refine WP.loop (α := Nat) (fun i => mkSt [(1, evts g t), (2, .rp 26 (encProg p)), (5, .ptr (.s 5 0) 1 0 []), (13, .int p.vars.length), (14, .int i)] [(.s 5 0, .cells ⟨113, 1, fun _ => .own (.s 11 0) p.vars.length 0 p.vars.length none, 0⟩), (.s 11 0, cellsU p.vars.length (iniU i 0))]) (fun i => i ≤ p.vars.length) (fun i => p.vars.length - i) ?_ ?_
 ·refine ⟨0, ?_, ?_⟩
  ·exact Nat.zero_le _
  ·refine em [(.s 2 0, 1)] ⟨⟨_, rfl, Nat.le_refl _⟩, trivial⟩ ⟨⟨rfl, _, rfl, cvt⟩, ⟨rfl, _, rfl, conv_rpe rfl rfl (by decide) rfl rfl rfl⟩, ⟨rfl, _, rfl, cvt⟩, ⟨rfl, _, rfl, cvt⟩, ⟨rfl, _, rfl, cvt⟩, trivial⟩ ⟨obs rfl, obs rfl (hok := fun _ _ => okIds_use _ _) (hg := fun q hq => conv_eq (by show (T 118).zero = encUse (iniU 0 0 q); rw [zeroU, iniU, if_neg (Nat.not_lt_zero q)]; split <;> rfl)), trivial⟩
 ·rintro i hi
  refine sq (rg [] rfl ?_)
  refine sq ?_
  refine cd rfl (fun h3 => ?_) (fun h3 => ?_)
  ·have hil : i < p.vars.length := by simpa using h3
   refine sk (sq (bk (sq (rg [] rfl ?_))))
   refine sq (rg [] rfl ?_)
   refine bk ?_
   refine WP.loop (α := Nat) (fun l => mkSt [(1, evts g t), (2, .rp 26 (encProg p)), (5, .ptr (.s 5 0) 1 0 []), (6, .int i), (13, .int p.vars.length), (14, .int i), (17, .int l)] [(.s 5 0, .cells ⟨113, 1, fun _ => .own (.s 11 0) p.vars.length 0 p.vars.length none, 0⟩), (.s 11 0, cellsU p.vars.length (iniU i l))]) (fun l => l ≤ 4) (fun l => 4 - l) ?_ ?_
   ·refine ⟨0, ?_, ?_⟩
    ·exact Nat.zero_le _
    ·refine em [] trivial ⟨⟨rfl, _, rfl, cvt⟩, ⟨rfl, _, rfl, cvt⟩, ⟨rfl, _, rfl, cvt⟩, ⟨rfl, _, rfl, cvt⟩, ⟨rfl, _, rfl, cvt⟩, ⟨rfl, _, rfl, cvt⟩, ⟨rfl, _, rfl, cvt⟩, trivial⟩ ⟨obs rfl, obs rfl (hok := fun _ _ => okIds_use _ _) (hg := fun q hq => conv_eq rfl), trivial⟩
   ·rintro l hl4
    refine sq (rg [] rfl ?_)
    refine sq ?_
    refine cd rfl (fun h6 => ?_) (fun h6 => ?_)
    ·have hll : l < 4 := by have e : decide ((l : Int) < 4) = true := h6; simp at e; omega
     refine sk (sq (bk (sq (rg [] rfl ?_))))
     refine rgs [] rfl ?_ ?_
     ·simp [holdsC, under]
      omega
     refine rg [] rfl ?_
     refine ⟨l + 1, ?_, ?_, ?_⟩
     ·omega
     ·refine em [] trivial ⟨⟨rfl, _, rfl, cvt⟩, ⟨rfl, _, rfl, cvt⟩, ⟨rfl, _, rfl, cvt⟩, ⟨rfl, _, rfl, cvt⟩, ⟨rfl, _, rfl, cvt⟩, ⟨rfl, _, rfl, cvt⟩, ⟨rfl, _, rfl, cvt⟩, trivial⟩ ⟨obs rfl, obs rfl (hok := fun _ _ => okIds_use _ _) (hg := fun q hq => conv_eq (Eq.trans rfl (iniU_put hll q))), trivial⟩
     ·(try simp only []); first | omega | grind
    ·have hll : l = 4 := by have e : decide ((l : Int) < 4) = false := h6; simp at e; omega
     subst hll
     refine xt (rg [] rfl ?_)
     refine ⟨i + 1, ?_, ?_, ?_⟩
     ·omega
     ·refine em [] trivial ⟨⟨rfl, _, rfl, cvt⟩, ⟨rfl, _, rfl, cvt⟩, ⟨rfl, _, rfl, cvt⟩, ⟨rfl, _, rfl, cvt⟩, ⟨rfl, _, rfl, cvt⟩, trivial⟩ ⟨obs rfl, obs rfl (hok := fun _ _ => okIds_use _ _) (hg := fun q hq => conv_eq (congrArg encUse (iniU_next q))), trivial⟩
     ·(try simp only []); first | omega | grind
  ·have hil : i = p.vars.length := by simp at h3; omega
   subst hil
   refine xt (sq ?_)
   refine WP.ent (st' := mkSt [(1, evts g t), (2, .rp 26 (encProg p)), (5, .ptr (.s 5 0) 1 0 [])] [(.s 5 0, .cells ⟨113, 1, fun _ => .own (.s 11 0) p.vars.length 0 p.vars.length none, 0⟩), (.s 11 0, cellsU p.vars.length (fun _ => use1))]) ?_ ?_
   ·refine em [] trivial ⟨⟨rfl, _, rfl, cvt⟩, ⟨rfl, _, rfl, cvt⟩, ⟨rfl, _, rfl, cvt⟩, trivial⟩ ⟨obs rfl, obs rfl (hok := fun _ _ => okIds_use _ _) (hg := fun q hq => conv_eq (congrArg encUse (if_pos hq))), trivial⟩
   refine rgs [⟨true, [.s 5 0, .s 11 0], .tup [], [boxU p.vars.length, cellsU p.vars.length (usesU p t)]⟩] rfl ?_ ?_
   ·have h1 := walk_ac g p t p.vars.length (fun _ => use1) hz hv rfl (fun _ _ => ⟨rfl, rfl⟩)
    have hs : AC Tryz.prog T tysN 108 [evts g t, .clo 109 [.rp 26 (encProg p), .ptr (.b 0) 1 0 []]] [boxU p.vars.length, renO (sig [.s 5 0, .s 11 0] 0) (cellsU p.vars.length (fun _ => use1))] (.tup []) [boxU p.vars.length, cellsU p.vars.length (usesU p t)] := by
      rw [ren_cellsU]
      exact h1
    have hok1 : okOs [.s 5 0, .s 11 0] [.cells ⟨113, 1, fun _ => .own (.s 11 0) p.vars.length 0 p.vars.length none, 0⟩, cellsU p.vars.length (fun _ => use1)] := ⟨fun _ _ => rfl, fun _ _ => okIds_use _ _, trivial⟩
    have hok2 : okOs (bs 2) [boxU p.vars.length, cellsU p.vars.length (usesU p t)] := ⟨fun _ _ => rfl, fun _ _ => okIds_use _ _, trivial⟩
    simp only [holdsC, under, CG.pure]
    repeat' with_reducible refine And.intro ?_ ?_
    all_goals (try with_reducible intros)
    all_goals (first | exact trivial | assumption | omega | exact hok1 | exact hok2 | exact hs | (simp; done) | grind)
   refine sq (rg [] rfl ?_)
   refine WP.ret ?_
   change Fin ..
   refine fin_mk hT [(.s 11 0, p.vars.length)] (ts := [(4, usesA p t)]) (l := [usesA p t]) ⟨⟨_, rfl, Nat.le_refl _⟩, trivial⟩ ⟨⟨rfl, _, rfl, ?_⟩, trivial⟩ trivial rfl rfl rfl
   exact conv_row rfl rfl rfl (fun h => by cases h) (by simp [lookF, idbeq_self]) (fun q hq => by rw [Nat.zero_add]; exact ⟨(congrArg noIds (ren_use _ _)).trans (noIds_use _), AEq.of_eq (ren_use _ _)⟩)
end Go.Ab


/- race.Guards, race.Suspects. -/
set_option autoImplicit false
set_option maxRecDepth 20000
set_option maxHeartbeats 4000000
set_option linter.unusedSimpArgs false
set_option linter.unusedVariables false
namespace Go.Ab
open Go.Proofs Go.Sort
/-- The guards of variable v. -/
def grdF (p : PProg) (t : List Evt) (v : Nat) : List Int := if (p.vars.getD v var0).atomic = true then [] else lkTo (usesU p t v).gd 4
def grdQ (p : PProg) (t : List Evt) (i q : Nat) : List Int := if q < i then grdF p t q else []
def guardsL (p : PProg) (t : List Evt) : List (List Int) := if fitF p t = 0 then (List.range p.vars.length).map (grdF p t) else []
def intss (f : Bool) (l : List (List Int)) : AV := .row 23 f l.length (fun i => ints false (l.getD i []))
theorem guards_ac (g : Bool) (p : PProg) (t : List Evt) : AC Tryz.prog T tysN 20 [encProg p, evts g t] [] (.tup [intss false (guardsL p t), .int (fitF p t)]) [] := by
 refine AC_intro hT Tryz.func20 rfl rfl (Nat.le_of_ble_eq_true rfl) ?_
 refine sq (rg [] rfl ?_)
 refine sq (sq (rgs [CG.pure (.int (fitF p t))] rfl ?_ ?_))
 ·have ha := rasked_ac g p t
  simp only [holdsC, under, CG.pure]
  repeat' with_reducible refine And.intro ?_ ?_
  all_goals (try with_reducible intros)
  all_goals (first | exact trivial | assumption | omega | exact ha | (simp; done) | grind)
 refine sq (rg [] rfl ?_)
 refine cd rfl (fun h2 => ?_) (fun h2 => ?_)
 ·have hbad : fitF p t ≠ 0 := by simpa using h2
  refine sq (rg [] rfl ?_)
  refine WP.ret ?_
  change Fin ..
  rw [guardsL, if_neg hbad]
  refine fin_mk hT [] (ts := [(4, intss false []), (5, .int (fitF p t))]) (l := [intss false [], .int (fitF p t)]) trivial ⟨⟨rfl, _, rfl, conv_nil_row (by decide)⟩, ⟨rfl, _, rfl, conv_eq rfl⟩, trivial⟩ trivial rfl rfl rfl
 ·have hz : fitF p t = 0 := by simpa using h2
  have hv := fit_vars hz
  refine sk (sq (rgs [] rfl ?_ ?_))
  ·have hbt : (T 23).bytes = 24 := rfl
   simp [holdsC, under, hbt]
   omega
  refine sq (sq (rgs [CG.pure (usesA p t)] rfl ?_ ?_))
  ·have h1 := uses_ac g p t hv.2 hv.1
   simp only [holdsC, under, CG.pure]
   repeat' with_reducible refine And.intro ?_ ?_
   all_goals (try with_reducible intros)
   all_goals (first | exact trivial | assumption | omega | exact h1 | (simp; done) | grind)
  refine bk ?_
  refine WP.loop (α := Nat) (fun i => mkSt [(2, .rp 26 (encProg p)), (7, .own (.s 19 0) p.vars.length 0 p.vars.length none), (22, usesA p t), (23, .int p.vars.length), (24, .int i)] [(.s 19 0, .cells ⟨23, p.vars.length, fun q => ints false (grdQ p t i q), 0⟩)]) (fun i => i ≤ p.vars.length) (fun i => p.vars.length - i) ?_ ?_
  ·refine ⟨0, ?_, ?_⟩
   ·exact Nat.zero_le _
   ·refine em [(.s 2 0, 1)] ⟨⟨_, rfl, Nat.le_refl _⟩, trivial⟩ ⟨⟨rfl, _, rfl, conv_rpe rfl rfl (by decide) rfl rfl rfl⟩, ⟨rfl, _, rfl, cvt⟩, ⟨rfl, _, rfl, cvt⟩, ⟨rfl, _, rfl, cvt⟩, ⟨rfl, _, rfl, cvt⟩, trivial⟩ ⟨obs rfl (hg := fun q hq => conv_nil_row (by decide)), trivial⟩
  ·rintro i hi
   refine sq (rg [] rfl ?_)
   refine sq ?_
   refine cd rfl (fun h6 => ?_) (fun h6 => ?_)
   ·have hil : i < p.vars.length := by simpa using h6
    have hq : ∀ q, q ≠ i → grdQ p t (i + 1) q = grdQ p t i q := fun q e => by
      unfold grdQ
      congr 1
      rw [eq_iff_iff]; omega
    refine sk (sq (bk (sq (rg [] rfl ?_))))
    refine sq (rg [] rfl ?_)
    refine cd rfl (fun h8 => ?_) (fun h8 => ?_)
    ·have hat : ¬ (p.vars.getD i var0).atomic = true := by
       have e := h8
       simpa using e
     have hput : ∀ q, (bif Nat.beq q i then ints false (lkTo (usesU p t i).gd 4) else ints false (grdQ p t i q)) = ints false (grdQ p t (i + 1) q) := fun q => by
       by_cases e : q = i
       · subst e; rw [Nat.beq_refl, cond_true, grdQ, if_pos (Nat.lt_succ_self _), grdF, if_neg hat]
       · rw [nbeq_ne e, cond_false, hq q e]
     refine rgs [CG.pure (ints false (lkTo (usesU p t i).gd 4))] rfl ?_ ?_
     ·have h1 := list_ac (usesU p t i).gd
      simp only [holdsC, under, CG.pure]
      repeat' with_reducible refine And.intro ?_ ?_
      all_goals (try with_reducible intros)
      all_goals (first | exact trivial | assumption | omega | exact h1 | (simp; done) | grind)
     refine rg [] rfl ?_
     refine ⟨i + 1, ?_, ?_, ?_⟩
     ·exact hil
     ·refine em [] trivial ⟨⟨rfl, _, rfl, cvt⟩, ⟨rfl, _, rfl, cvt⟩, ⟨rfl, _, rfl, cvt⟩, ⟨rfl, _, rfl, cvt⟩, ⟨rfl, _, rfl, cvt⟩, trivial⟩ ⟨obs rfl (hg := fun q _ => conv_eq (Eq.trans rfl (hput q))), trivial⟩
     ·(try simp only []); first | omega | grind
    ·have hat : (p.vars.getD i var0).atomic = true := by
       have e := h8
       simpa using e
     have hput : ∀ q, grdQ p t i q = grdQ p t (i + 1) q := fun q => by
       by_cases e : q = i
       · subst e; rw [grdQ, grdQ, if_neg (Nat.lt_irrefl _), if_pos (Nat.lt_succ_self _), grdF, if_pos hat]
       · rw [hq q e]
     refine sk (rg [] rfl ?_)
     refine ⟨i + 1, ?_, ?_, ?_⟩
     ·exact hil
     ·refine em [] trivial ⟨⟨rfl, _, rfl, cvt⟩, ⟨rfl, _, rfl, cvt⟩, ⟨rfl, _, rfl, cvt⟩, ⟨rfl, _, rfl, cvt⟩, ⟨rfl, _, rfl, cvt⟩, trivial⟩ ⟨obs rfl (hg := fun q _ => conv_eq (congrArg (ints false) (hput q))), trivial⟩
     ·(try simp only []); first | omega | grind
   ·have hil : i = p.vars.length := by simp at h6; omega
    subst hil
    refine xt (sq (rg [] rfl ?_))
    refine WP.ret ?_
    change Fin ..
    have hl : (guardsL p t).length = p.vars.length := by rw [guardsL, if_pos hz, List.length_map, List.length_range]
    rw [hz]
    refine fin_mk hT [(.s 19 0, p.vars.length)] (ts := [(4, intss false (guardsL p t)), (5, .int 0)]) (l := [intss false (guardsL p t), .int 0]) ⟨⟨_, rfl, Nat.le_refl _⟩, trivial⟩ ⟨⟨rfl, _, rfl, ?_⟩, ⟨rfl, _, rfl, conv_eq rfl⟩, trivial⟩ trivial rfl rfl rfl
    rw [intss, hl]
    refine conv_row rfl rfl rfl (fun h => by cases h) (by simp [lookF, idbeq_self]) (fun q hq => ?_)
    rw [Nat.zero_add]
    refine ⟨rfl, AEq.of_eq ?_⟩
    show ints false (grdQ p t p.vars.length q) = _
    rw [grdQ, if_pos hq, guardsL, if_pos hz]
    simp [List.getD_eq_getElem?_getD, hq]
def sumW (w : List Int) : Nat → Int
  | 0 => 0
  | k + 1 => sumW w k + w.getD k 0
def okW (w : List Int) : Prop := ∀ j, w.getD j 0 = 0 ∨ w.getD j 0 = 1
theorem sumW_le {w : List Int} (h : okW w) : ∀ k : Nat, 0 ≤ sumW w k ∧ sumW w k ≤ k
  | 0 => ⟨Int.le_refl _, Int.le_refl _⟩
  | k + 1 => by
    have h1 := sumW_le h k
    have h2 := h k
    rw [sumW]; omega
theorem okW_set {w : List Int} (h : okW w) (g : Nat) : okW (w.set g 1) := fun j => by
  have := h j
  simp only [List.getD_eq_getElem?_getD, List.getElem?_set] at this ⊢
  split
  · split
    · exact .inr rfl
    · exact .inl rfl
  · exact this
theorem usesTo_w {p : PProg} {t : List Evt} {U : Nat → Use} (hU : ∀ q, okW (U q).who) : ∀ i q, okW (usesTo p t U i q).who
  | 0, q => hU q
  | i + 1, q => by
    have h := usesTo_w (p := p) (t := t) hU i q
    show okW (useF p (eAt t i) (heldTo t (eAt t i).go i) (usesTo p t U i) 8 q).who
    unfold useF
    split
    · unfold useAt
      split
      · exact h
      · exact okW_set h _
    · exact h
theorem usesU_w (p : PProg) (t : List Evt) (q : Nat) : okW (usesU p t q).who := usesTo_w (fun _ j => by
  show (use1.who).getD j 0 = 0 ∨ _
  match j with
  | 0 | 1 | 2 | 3 | 4 | 5 => exact .inl rfl
  | j + 6 => exact .inl rfl) _ _
def susB (p : PProg) (t : List Evt) (v : Nat) : Bool := decide (sumW (usesU p t v).who 6 > 1) && (usesU p t v).wr && decide (((lkTo (usesU p t v).gd 4).length : Int) = 0)
def susTo (p : PProg) (t : List Evt) : Nat → List Int
  | 0 => []
  | i + 1 => susTo p t i ++ (if susB p t i = true then [(i : Int)] else [])
def susL (p : PProg) (t : List Evt) : List Int := if fitF p t = 0 then susTo p t p.vars.length else []
theorem susTo_len (p : PProg) (t : List Evt) : ∀ i, (susTo p t i).length ≤ i
  | 0 => Nat.le_refl _
  | i + 1 => by
    have := susTo_len p t i
    rw [susTo, List.length_append]
    split <;> simp <;> omega
theorem suspects_ac (g : Bool) (p : PProg) (t : List Evt) : AC Tryz.prog T tysN 21 [encProg p, evts g t] [] (.tup [ints false (susL p t), .int (fitF p t)]) [] := by
 refine AC_intro hT Tryz.func21 rfl rfl (Nat.le_of_ble_eq_true rfl) ?_
 refine sq (rg [] rfl ?_)
 refine sq (sq (rgs [CG.pure (.int (fitF p t))] rfl ?_ ?_))
 ·have ha := rasked_ac g p t
  simp only [holdsC, under, CG.pure]
  repeat' with_reducible refine And.intro ?_ ?_
  all_goals (try with_reducible intros)
  all_goals (first | exact trivial | assumption | omega | exact ha | (simp; done) | grind)
 refine sq (rg [] rfl ?_)
 refine cd rfl (fun h2 => ?_) (fun h2 => ?_)
 ·have hbad : fitF p t ≠ 0 := by simpa using h2
  refine sq (rg [] rfl ?_)
  refine WP.ret ?_
  change Fin ..
  rw [susL, if_neg hbad]
  refine fin_mk hT [] (ts := [(4, ints false []), (5, .int (fitF p t))]) (l := [ints false [], .int (fitF p t)]) trivial ⟨⟨rfl, _, rfl, conv_nil_row (by decide)⟩, ⟨rfl, _, rfl, conv_eq rfl⟩, trivial⟩ trivial rfl rfl rfl
 ·have hz : fitF p t = 0 := by simpa using h2
  have hv := fit_vars hz
  refine sk (sq (rg [] rfl ?_))
  refine sq (sq (rgs [CG.pure (usesA p t)] rfl ?_ ?_))
  ·have h1 := uses_ac g p t hv.2 hv.1
   simp only [holdsC, under, CG.pure]
   repeat' with_reducible refine And.intro ?_ ?_
   all_goals (try with_reducible intros)
   all_goals (first | exact trivial | assumption | omega | exact h1 | (simp; done) | grind)
  refine bk ?_
  refine WP.loop (α := Nat) (fun i => mkSt [(7, .own (.s 53 0) (susTo p t i).length 0 (susTo p t i).length none), (21, usesA p t), (22, .int p.vars.length), (23, .int i)] [(.s 53 0, cellsI 3 .i64 (susTo p t i))]) (fun i => i ≤ p.vars.length) (fun i => p.vars.length - i) ?_ ?_
  ·refine ⟨0, ?_, ?_⟩
   ·exact Nat.zero_le _
   ·refine em [] trivial ⟨⟨rfl, _, rfl, conv_nil_own⟩, ⟨rfl, _, rfl, cvt⟩, ⟨rfl, _, rfl, cvt⟩, ⟨rfl, _, rfl, cvt⟩, trivial⟩ ⟨⟨fun _ _ => rfl, .inr ⟨rfl, 3, _, rfl, by decide⟩⟩, trivial⟩
  ·rintro i hi
   refine sq (rg [] rfl ?_)
   refine sq ?_
   refine cd rfl (fun h6 => ?_) (fun h6 => ?_)
   ·have hil : i < p.vars.length := by simpa using h6
    have hsl := susTo_len p t i
    have hw := usesU_w p t i
    refine sk (sq (bk (sq (rg [] rfl ?_))))
    refine sq (rg [] rfl ?_)
    refine sq (sq (rg [] rfl ?_))
    refine bk ?_
    refine WP.loop (α := Nat) (fun k => mkSt [(7, .own (.s 53 0) (susTo p t i).length 0 (susTo p t i).length none), (8, .int i), (9, .rp 118 (encUse (usesU p t i))), (10, .int (sumW (usesU p t i).who k)), (21, usesA p t), (22, .int p.vars.length), (23, .int i), (29, arrI 105 6 .i64 (usesU p t i).who), (30, .int k)] [(.s 53 0, cellsI 3 .i64 (susTo p t i))]) (fun k => k ≤ 6) (fun k => 6 - k) ?_ ?_
    ·refine ⟨0, ?_, ?_⟩
     ·exact Nat.zero_le _
     ·refine em [(.s 9 0, 1)] ⟨⟨_, rfl, Nat.le_refl _⟩, trivial⟩ ⟨⟨rfl, _, rfl, cvt⟩, ⟨rfl, _, rfl, cvt⟩, ⟨rfl, _, rfl, conv_rpe rfl rfl (by decide) rfl rfl (noIds_use _)⟩, ⟨rfl, _, rfl, cvt⟩, ⟨rfl, _, rfl, cvt⟩, ⟨rfl, _, rfl, cvt⟩, ⟨rfl, _, rfl, cvt⟩, ⟨rfl, _, rfl, cvt⟩, ⟨rfl, _, rfl, cvt⟩, trivial⟩ ⟨obs rfl, trivial⟩
    ·rintro k hk6
     refine sq (rg [] rfl ?_)
     refine sq ?_
     refine cd rfl (fun h10 => ?_) (fun h10 => ?_)
     ·have hkl : k < 6 := by have e : decide ((k : Int) < 6) = true := h10; simp at e; omega
      have hsw := sumW_le hw k
      have hwk := hw k
      refine sk (sq (bk (sq (rg [] rfl ?_))))
      refine rg [] rfl ?_
      refine rg [] rfl ?_
      refine ⟨k + 1, ?_, ?_, ?_⟩
      ·omega
      ·refine em [] trivial ⟨⟨rfl, _, rfl, cvt⟩, ⟨rfl, _, rfl, cvt⟩, ⟨rfl, _, rfl, cvt⟩, ⟨rfl, _, rfl, conv_eq (by rw [wrap_id (by simp only [Int.toNat_natCast]; omega) (by simp only [Int.toNat_natCast]; omega)]; rfl)⟩, ⟨rfl, _, rfl, cvt⟩, ⟨rfl, _, rfl, cvt⟩, ⟨rfl, _, rfl, cvt⟩, ⟨rfl, _, rfl, cvt⟩, ⟨rfl, _, rfl, cvt⟩, trivial⟩ ⟨obs rfl, trivial⟩
      ·(try simp only []); first | omega | grind
     ·have hkl : k = 6 := by have e : decide ((k : Int) < 6) = false := h10; simp at e; omega
      subst hkl
      refine xt (sq (rgs [CG.pure (ints false (lkTo (usesU p t i).gd 4))] rfl ?_ ?_))
      ·have h1 := list_ac (usesU p t i).gd
       simp only [holdsC, under, CG.pure]
       repeat' with_reducible refine And.intro ?_ ?_
       all_goals (try with_reducible intros)
       all_goals (first | exact trivial | assumption | omega | exact h1 | (simp; done) | grind)
      refine cd rfl (fun h14 => ?_) (fun h14 => ?_)
      ·have hs : susB p t i = true := by
         have e := h14
         rw [band, band] at e
         rw [susB, ← e]
         congr 1
       refine rgs [] rfl ?_ ?_
       ·have hbt : (T 3).bytes = 8 := rfl
        simp [holdsC, under, hbt]
        omega
       refine rg [] rfl ?_
       refine ⟨i + 1, ?_, ?_, ?_⟩
       ·omega
       ·refine em [] trivial ⟨⟨rfl, _, rfl, conv_eq (by rw [susTo, if_pos hs, len_snoc])⟩, ⟨rfl, _, rfl, cvt⟩, ⟨rfl, _, rfl, cvt⟩, ⟨rfl, _, rfl, cvt⟩, trivial⟩ ⟨ob_ints rfl rfl (by rw [susTo, if_pos hs, len_snoc]) rfl rfl (by rw [susTo, if_pos hs]; exact app1 (z := (T 3).zero) rfl (fun q hq => rfl)), trivial⟩
       ·(try simp only []); first | omega | grind
      ·have hs : susB p t i = false := by
         have e := h14
         rw [band, band] at e
         rw [susB, ← e]
         congr 1
       refine sk (rg [] rfl ?_)
       refine ⟨i + 1, ?_, ?_, ?_⟩
       ·omega
       ·refine em [] trivial ⟨⟨rfl, _, rfl, conv_eq (by rw [susTo, if_neg (by rw [hs]; decide), List.append_nil])⟩, ⟨rfl, _, rfl, cvt⟩, ⟨rfl, _, rfl, cvt⟩, ⟨rfl, _, rfl, cvt⟩, trivial⟩ ⟨ob_ints rfl rfl (by rw [susTo, if_neg (by rw [hs]; decide), List.append_nil]) rfl rfl (fun q hq => by rw [susTo, if_neg (by rw [hs]; decide), List.append_nil]), trivial⟩
       ·(try simp only []); first | omega | grind
   ·have hil : i = p.vars.length := by simp at h6; omega
    subst hil
    refine xt (sq (rg [] rfl ?_))
    refine WP.ret ?_
    change Fin ..
    rw [susL, if_pos hz, hz]
    refine fin_mk hT [(.s 53 0, (susTo p t p.vars.length).length)] (ts := [(4, ints false (susTo p t p.vars.length)), (5, .int 0)]) (l := [ints false (susTo p t p.vars.length), .int 0]) ⟨⟨_, rfl, Nat.le_refl _⟩, trivial⟩ ⟨⟨rfl, _, rfl, ?_⟩, ⟨rfl, _, rfl, conv_eq rfl⟩, trivial⟩ trivial rfl rfl rfl
    exact conv_row rfl rfl rfl (fun h => by cases h) (by simp [lookF, idbeq_self]) (fun q hq => by rw [Nat.zero_add]; exact ⟨rfl, AEq.refl _⟩)
end Go.Ab


/- The reference: events without plain accesses; Conflicts. -/
set_option autoImplicit false
set_option maxRecDepth 20000
set_option maxHeartbeats 4000000
set_option linter.unusedSimpArgs false
set_option linter.unusedVariables false
namespace Go.Ab
open Go.Proofs Go.Sort
def rowG (B : BT) (i : Nat) : Nat → List Pr
  | 0 => []
  | m + 1 => rowG B i m ++ (if i < m ∧ B i m = true then [((i : Int), (m : Int))] else [])
def gridG (B : BT) (n : Nat) : Nat → List Pr
  | 0 => []
  | i + 1 => gridG B n i ++ rowG B i n
theorem rowG_low {B : BT} {i : Nat} : ∀ {m : Nat}, m ≤ i + 1 → rowG B i m = []
  | 0, _ => rfl
  | m + 1, h => by
    rw [rowG, rowG_low (by omega), if_neg (by omega)]; rfl
theorem rowG_len {B : BT} {i : Nat} : ∀ m : Nat, (rowG B i m).length ≤ m
  | 0 => Nat.le_refl _
  | m + 1 => by
    have := rowG_len (B := B) (i := i) m
    rw [rowG, List.length_append]
    split <;> simp <;> omega
theorem gridG_len {B : BT} {n : Nat} (hn : n ≤ 256) : ∀ i : Nat, (gridG B n i).length ≤ i * 256
  | 0 => Nat.le_refl _
  | i + 1 => by
    have := gridG_len (B := B) hn i
    have := rowG_len (B := B) (i := i) n
    rw [gridG, List.length_append]
    omega
theorem rowG_yes {B : BT} {i m : Nat} (h : i < m) (he : B i m = true) : rowG B i (m + 1) = rowG B i m ++ [((i : Int), (m : Int))] := by
  rw [rowG, if_pos ⟨h, he⟩]
theorem rowG_no {B : BT} {i m : Nat} (he : B i m = false) : rowG B i (m + 1) = rowG B i m := by
  rw [rowG, if_neg (by simp [he]), List.append_nil]
theorem rowG_mem {B : BT} {i : Nat} {x : Pr} : ∀ {m : Nat}, x ∈ rowG B i m ↔ ∃ b, b < m ∧ i < b ∧ B i b = true ∧ x = ((i : Int), (b : Int))
  | 0 => by
    constructor
    · intro h; cases h
    · rintro ⟨b, h, _⟩; omega
  | m + 1 => by
    rw [rowG, List.mem_append, rowG_mem]
    constructor
    · rintro (⟨b, h1, h2⟩ | h)
      · exact ⟨b, by omega, h2⟩
      · split at h
        · rename_i hc
          simp at h
          exact ⟨m, by omega, hc.1, hc.2, h⟩
        · cases h
    · rintro ⟨b, h1, h2, h3, h4⟩
      by_cases e : b = m
      · subst e; right; rw [if_pos ⟨h2, h3⟩, h4]; simp
      · exact .inl ⟨b, by omega, h2, h3, h4⟩
theorem gridG_mem {B : BT} {n : Nat} {x : Pr} : ∀ {m : Nat}, x ∈ gridG B n m ↔ ∃ a, a < m ∧ ∃ b, b < n ∧ a < b ∧ B a b = true ∧ x = ((a : Int), (b : Int))
  | 0 => by
    constructor
    · intro h; cases h
    · rintro ⟨b, h, _⟩; omega
  | m + 1 => by
    rw [gridG, List.mem_append, gridG_mem, rowG_mem]
    constructor
    · rintro (⟨a, h1, h2⟩ | h)
      · exact ⟨a, by omega, h2⟩
      · exact ⟨m, by omega, h⟩
    · rintro ⟨a, h1, h2⟩
      by_cases e : a = m
      · subst e; exact .inr h2
      · exact .inl ⟨a, by omega, h2⟩
theorem rowG_sorted {B : BT} {i : Nat} : ∀ m, (rowG B i m).Pairwise ltP
  | 0 => List.Pairwise.nil
  | m + 1 => by
    rw [rowG, List.pairwise_append]
    refine ⟨rowG_sorted m, by split <;> simp, fun x hx y hy => ?_⟩
    obtain ⟨b, h1, _, _, rfl⟩ := rowG_mem.1 hx
    split at hy
    · simp at hy; subst hy
      right; simp; omega
    · cases hy
theorem gridG_sorted {B : BT} {n : Nat} : ∀ m, (gridG B n m).Pairwise ltP
  | 0 => List.Pairwise.nil
  | m + 1 => by
    rw [gridG, List.pairwise_append]
    refine ⟨gridG_sorted m, rowG_sorted n, fun x hx y hy => ?_⟩
    obtain ⟨a, h1, b, _, _, _, rfl⟩ := gridG_mem.1 hx
    obtain ⟨c, _, _, _, rfl⟩ := rowG_mem.1 hy
    left; simp; omega
theorem rowG_end {B : BT} {i n j : Nat} (h1 : n ≤ j) (h2 : j ≤ n ∨ j = i + 1) (hi : i < n) : rowG B i j = rowG B i n := by
  rcases h2 with h | h
  · rw [Nat.le_antisymm h h1]
  · rw [rowG_low (by omega), rowG_low (by omega)]
/-- Kept so far. -/
def kpTo (p : PProg) (x : Evt) (i : Nat) : List Tch := keepG (plnB p) ((touchL x).take i)
def bareTo (p : PProg) (x : Evt) (i : Nat) : Evt := { x with ts := kpTo p x i, n := (kpTo p x i).length }
theorem ts_put {l : List Tch} {a : Tch} : (encTs l).put [l.length] (encTch a) = encTs (l ++ [a]) := by
  show AV.agg _ _ (fun j => bif Nat.beq j l.length then encTch a else encTch (l.getD j tch0)) = _
  refine agg_ext (fun j => ?_)
  by_cases e : j = l.length
  · subst e
    rw [Nat.beq_refl, cond_true]
    simp [List.getD_eq_getElem?_getD]
  · rw [nbeq_ne e, cond_false]
    rcases Nat.lt_or_ge j l.length with h | h
    · simp [List.getD_eq_getElem?_getD, List.getElem?_append_left h]
    · simp [List.getD_eq_getElem?_getD, List.getElem?_eq_none h, List.getElem?_eq_none (show (l ++ [a]).length ≤ j by simp; omega)]
theorem E_put {x : Evt} {a : Tch} : ((encE x).put [7, x.ts.length] (encTch a)).put [8] (.int (x.ts.length + 1 : Nat)) = encE { x with ts := x.ts ++ [a], n := (x.ts ++ [a]).length } := by
  have h1 : (encE x).put [7, x.ts.length] (encTch a) = stru 73 [.int x.go, .int x.a, .int x.b, .int x.op, .int x.c, .int x.val, .int x.tag, encTs (x.ts ++ [a]), .int x.n] := by
    rw [encE, stru_put (Nat.le_of_ble_eq_true rfl)]
    show stru _ [.int x.go, .int x.a, .int x.b, .int x.op, .int x.c, .int x.val, .int x.tag, (encTs x.ts).put [x.ts.length] (encTch a), .int x.n] = _
    rw [ts_put]
  rw [h1, stru_put (Nat.le_of_ble_eq_true rfl)]
  show stru _ [.int x.go, .int x.a, .int x.b, .int x.op, .int x.c, .int x.val, .int x.tag, encTs (x.ts ++ [a]), .int (x.ts.length + 1 : Nat)] = _
  rw [encE, List.length_append, List.length_singleton]
theorem okIds_E (ids : List Id) (x : Evt) : okIds ids (encE x) = true := okIds_agg (fun i hi => by
  match i, hi with
  | 0, _ | 1, _ | 2, _ | 3, _ | 4, _ | 5, _ | 6, _ | 8, _ => rfl
  | 7, _ => exact okIds_agg (fun j _ => okIds_tch _ _))
theorem pln_plain {p : PProg} {a : Tch} (h : 0 ≤ a.num) : plnB p a = (a.kind == 1 && plainB p a.num) := by
  rw [plnB, plainB, Bool.eq_iff_iff]
  simp
  omega
theorem kp_yes {p : PProg} {x : Evt} {i : Nat} (hi : i < (touchL x).length) (h : plnB p ((touchL x).getD i tch0) = false) : kpTo p x (i + 1) = kpTo p x i ++ [(touchL x).getD i tch0] := keepG_snoc_yes hi h
theorem kp_no {p : PProg} {x : Evt} {i : Nat} (hi : i < (touchL x).length) (h : plnB p ((touchL x).getD i tch0) = true) : kpTo p x (i + 1) = kpTo p x i := keepG_snoc_no hi h
theorem kp_len (p : PProg) (x : Evt) (i : Nat) : (kpTo p x i).length ≤ i := keepG_take_le _ _ _
theorem bare_ac (p : PProg) (x : Evt) (hr : rightE x = true) : AC Tryz.prog T tysN 66 [encProg p, encE x] [] (encE (bareE p x)) [] := by
 refine AC_intro hT Tryz.func66 rfl rfl (Nat.le_of_ble_eq_true rfl) ?_
 have hnum := right_nums hr
 have h6 : (touchL x).length ≤ 6 := by rw [touchL_len]; exact clampN_le _
 refine sq (rg [] rfl ?_)
 refine sq (rgs [CG.pure (tchs false (touchL x))] rfl ?_ ?_)
 ·have h1 := of_ac x
  simp only [holdsC, under, CG.pure]
  repeat' with_reducible refine And.intro ?_ ?_
  all_goals (try with_reducible intros)
  all_goals (first | exact trivial | assumption | omega | exact h1 | (simp; done) | grind)
 refine sq (rg [] rfl ?_)
 refine sq (rg [] rfl ?_)
 refine sq (rg [] rfl ?_)
 refine sq (sq (rg [] rfl ?_))
 refine bk ?_
 refine WP.loop (α := Nat) (fun i => mkSt [(2, .rp 26 (encProg p)), (4, .ptr (.s 4 0) 1 0 []), (5, tchs false (touchL x)), (6, .ptr (.s 6 0) 1 0 []), (7, .int i)] [(.s 4 0, .cells ⟨73, 1, fun _ => (T 73).zero, 0⟩), (.s 6 0, .cells ⟨73, 1, fun _ => encE (bareTo p x i), 0⟩)]) (fun i => i ≤ (touchL x).length) (fun i => (touchL x).length - i) ?_ ?_
 ·refine ⟨0, ?_, ?_⟩
  ·exact Nat.zero_le _
  ·refine em [(.s 2 0, 1)] ⟨⟨_, rfl, Nat.le_refl _⟩, trivial⟩ ⟨⟨rfl, _, rfl, conv_rpe rfl rfl (by decide) rfl rfl rfl⟩, ⟨rfl, _, rfl, cvt⟩, ⟨rfl, _, rfl, cvt⟩, ⟨rfl, _, rfl, cvt⟩, ⟨rfl, _, rfl, cvt⟩, trivial⟩ ⟨obs rfl, obs rfl (hok := fun _ _ => okIds_E _ _) (hg := fun q hq => by (obtain rfl : q = 0 := (by simp at hq; exact hq)); exact conv_eq (agg_ext (fun q => by match q with | 0 | 1 | 2 | 3 | 4 | 5 | 6 | 8 | q + 9 => rfl | 7 => exact agg_ext (fun j => rfl)))), trivial⟩
 ·rintro i hi
  refine sq (sq (rg [] rfl ?_))
  refine cd rfl (fun h6 => ?_) (fun h6 => ?_)
  ·have hil : i < (touchL x).length := by
     have e := h6
     simpa using e
   have hmem : (touchL x).getD i tch0 ∈ touchL x := by simp [List.getD_eq_getElem?_getD, hil]
   have hpp := pln_plain (p := p) (hnum _ hmem)
   have hkl := kp_len p x i
   have hwr : IntKind.i64.wrap (((kpTo p x i).length : Int) + 1) = (((kpTo p x i).length + 1 : Nat) : Int) := by rw [wrap_id (by omega) (by omega)]; rfl
   refine sk (sq (bk (sq (drs [CG.pure (.bool (plainB p ((touchL x).getD i tch0).num))] rfl ?_ ?_))))
   ·have h1 := plain_ac p ((touchL x).getD i tch0).num
    simp only [holdsC, under, CG.pure]
    repeat' with_reducible refine And.intro ?_ ?_
    all_goals (try with_reducible intros)
    all_goals (first | exact trivial | assumption | omega | exact h1 | (simp; done) | grind)
   refine cd rfl (fun h8 => ?_) (fun h8 => ?_)
   ·have hk : plnB p ((touchL x).getD i tch0) = false := by
      have e := h8
      rw [bor] at e
      rw [hpp]
      simp only [Int.toNat_natCast, Bool.or_eq_true, bne_iff_ne, Bool.not_eq_true'] at e
      simp only [Bool.and_eq_false_iff, beq_eq_false_iff_ne]
      exact e
    refine sq (drs [] rfl ?_ ?_)
    ·simp [holdsC, under, bareTo]
     omega
    refine rg [] rfl ?_
    refine rg [] rfl ?_
    refine ⟨i + 1, ?_, ?_, ?_⟩
    ·omega
    ·refine em [] trivial ⟨⟨rfl, _, rfl, cvt⟩, ⟨rfl, _, rfl, cvt⟩, ⟨rfl, _, rfl, cvt⟩, ⟨rfl, _, rfl, cvt⟩, ⟨rfl, _, rfl, cvt⟩, trivial⟩ ⟨obs rfl (hok := fun _ _ => rfl), obs rfl (hok := fun _ _ => okIds_E _ _) (hg := fun q hq => by (obtain rfl : q = 0 := (by simp at hq; exact hq)); exact conv_eq (Eq.trans (b := ((encE (bareTo p x i)).put [7, (kpTo p x i).length] (encTch ((touchL x).getD i tch0))).put [8] (.int (((kpTo p x i).length + 1 : Nat) : Int))) (by rw [← hwr]; rfl) (E_put.trans (by rw [show bareTo p x (i + 1) = { x with ts := kpTo p x (i + 1), n := (kpTo p x (i + 1)).length } from rfl, kp_yes hil hk]; rfl)))), trivial⟩
    ·(try simp only []); first | omega | grind
   ·have hk : plnB p ((touchL x).getD i tch0) = true := by
      have e := h8
      rw [bor] at e
      rw [hpp]
      simp only [Int.toNat_natCast, Bool.or_eq_false_iff, bne_eq_false_iff_eq, Bool.not_eq_false'] at e
      simp only [Bool.and_eq_true, beq_iff_eq]
      exact e
    refine sk (rg [] rfl ?_)
    refine ⟨i + 1, ?_, ?_, ?_⟩
    ·omega
    ·refine em [] trivial ⟨⟨rfl, _, rfl, cvt⟩, ⟨rfl, _, rfl, cvt⟩, ⟨rfl, _, rfl, cvt⟩, ⟨rfl, _, rfl, cvt⟩, ⟨rfl, _, rfl, cvt⟩, trivial⟩ ⟨obs rfl (hok := fun _ _ => rfl), obs rfl (hok := fun _ _ => okIds_E _ _) (hg := fun q hq => conv_eq (by rw [bareTo, bareTo, kp_no hil hk])), trivial⟩
    ·(try simp only []); first | omega | grind
  ·have hil : i = (touchL x).length := by simp at h6; omega
   subst hil
   refine xt (sq (rg [] rfl ?_))
   refine WP.ret ?_
   change Fin ..
   have e : bareTo p x (touchL x).length = bareE p x := by rw [bareTo, kpTo, List.take_length]; rfl
   rw [← e]
   exact fin_cell hT rfl rfl rfl rfl rfl (conv_eq rfl) (noIds_E _) (okIds_E _ _) rfl
def cfB (p : PProg) (t : List Evt) (i j : Nat) : Bool := ((eAt t i).go != (eAt t j).go && !refT (bareT p t) i j) && decide (any1F p (eAt t i) (eAt t j) ≥ 0)
def refConf (p : PProg) (t : List Evt) : List Pr := gridG (cfB p t) t.length t.length
theorem bare_snoc {p : PProg} {t : List Evt} {i : Nat} (h : i < t.length) : bareT p (t.take (i + 1)) = bareT p (t.take i) ++ [bareE p (eAt t i)] := by
  have e : t.take (i + 1) = t.take i ++ [eAt t i] := by
    rw [List.take_add_one, List.getElem?_eq_getElem h]
    simp [eAt, h]
  rw [e, bareT, List.map_append]
  rfl
theorem bare_take_len (p : PProg) (t : List Evt) {i : Nat} (h : i ≤ t.length) : (bareT p (t.take i)).length = i := by
  rw [bareT_len, List.length_take]; omega
theorem rconf_ac (g : Bool) (p : PProg) (t : List Evt) (hz : chkE t = 0) (hv : p.vars.length ≤ 8) : AC Tryz.prog T tysN 23 [encProg p, evts g t] [] (prs false (refConf p t)) [] := by
 refine AC_intro hT Tryz.func23 rfl rfl (Nat.le_of_ble_eq_true rfl) ?_
 have hok := chk_right hz
 have hbok := bare_ok (p := p) hok
 have h256 := hok.1
 refine sq (rg [] rfl ?_)
 refine sq (rg [] rfl ?_)
 refine sq (sq (rg [] rfl ?_))
 refine bk ?_
 refine WP.loop (α := Nat) (fun i => mkSt [(1, evts g t), (2, .rp 26 (encProg p)), (5, .own (.s 25 0) (bareT p (t.take i)).length 0 (bareT p (t.take i)).length none), (6, .int i)] [(.s 25 0, cellsL 73 encE evt0 (bareT p (t.take i)))]) (fun i => i ≤ t.length) (fun i => t.length - i) ?_ ?_
 ·refine ⟨0, ?_, ?_⟩
  ·exact Nat.zero_le _
  ·refine em [(.s 2 0, 1)] ⟨⟨_, rfl, Nat.le_refl _⟩, trivial⟩ ⟨⟨rfl, _, rfl, cvt⟩, ⟨rfl, _, rfl, conv_rpe rfl rfl (by decide) rfl rfl rfl⟩, ⟨rfl, _, rfl, conv_nil_own⟩, ⟨rfl, _, rfl, cvt⟩, trivial⟩ ⟨⟨fun _ _ => okIds_E _ _, .inr ⟨rfl, 73, _, rfl, by decide⟩⟩, trivial⟩
 ·rintro i hi
  refine sq (sq (rg [] rfl ?_))
  refine cd rfl (fun h3 => ?_) (fun h3 => ?_)
  ·have hil : i < t.length := by
     have e := h3
     simpa using e
   have hbl := bare_take_len p t (Nat.le_of_lt hil)
   refine sk (sq (bk (drs [CG.pure (encE (bareE p (eAt t i)))] rfl ?_ ?_)))
   ·have h1 := bare_ac p (eAt t i) (chk_evt hz hil)
    have hbt : (T 73).bytes = 208 := rfl
    simp only [holdsC, under, CG.pure]
    repeat' with_reducible refine And.intro ?_ ?_
    all_goals (try with_reducible intros)
    all_goals (first | exact trivial | assumption | omega | exact h1 | (simp; done) | grind)
    all_goals rw [hbt, hbl]; omega
   refine rg [] rfl ?_
   refine ⟨i + 1, ?_, ?_, ?_⟩
   ·exact hil
   ·refine em [] trivial ⟨⟨rfl, _, rfl, cvt⟩, ⟨rfl, _, rfl, cvt⟩, ⟨rfl, _, rfl, conv_eq (by rw [bare_snoc hil, len_snoc])⟩, ⟨rfl, _, rfl, cvt⟩, trivial⟩ ⟨ob_list (fun _ => okIds_E _ _) rfl rfl (by rw [bare_snoc hil, len_snoc]) rfl rfl (by rw [bare_snoc hil]; exact appL (z := (T 73).zero) rfl rfl (fun q hq => rfl)), trivial⟩
   ·(try simp only []); first | omega | grind
  ·have hil : i = t.length := by simp at h3; omega
   subst hil
   refine xt (sq ?_)
   refine WP.ent (st' := mkSt [(1, evts g t), (2, .rp 26 (encProg p)), (5, evts false (bareT p t))] []) ?_ ?_
   ·refine em [(.s 25 0, (bareT p t).length)] ⟨⟨_, rfl, by rw [List.take_length]; exact Nat.le_refl _⟩, trivial⟩ ⟨⟨rfl, _, rfl, cvt⟩, ⟨rfl, _, rfl, cvt⟩, ⟨rfl, _, rfl, ?_⟩, trivial⟩ trivial
    ·rw [List.take_length]
     exact conv_row rfl rfl rfl (fun h => by cases h) (by simp [lookF, idbeq_self]) (fun q hq => by rw [Nat.zero_add]; exact ⟨noIds_E _, AEq.refl _⟩)
   refine rgs [CG.pure (tabB t.length (refT (bareT p t)))] rfl ?_ ?_
   ·have h1 := rbef_ac false (bareT p t) hbok
    rw [bareT_len] at h1
    simp only [holdsC, under, CG.pure]
    repeat' with_reducible refine And.intro ?_ ?_
    all_goals (try with_reducible intros)
    all_goals (first | exact trivial | assumption | omega | exact h1 | (simp; done) | grind)
   refine sq (rg [] rfl ?_)
   refine sq (sq (rg [] rfl ?_))
   refine bk ?_
   refine WP.loop (α := Nat) (fun i => mkSt [(1, evts g t), (2, .rp 26 (encProg p)), (7, tabB t.length (refT (bareT p t))), (8, .own (.s 81 0) (gridG (cfB p t) t.length i).length 0 (gridG (cfB p t) t.length i).length none), (9, .int i)] [(.s 81 0, cells2 (gridG (cfB p t) t.length i))]) (fun i => i ≤ t.length) (fun i => t.length - i) ?_ ?_
   ·refine ⟨0, ?_, ?_⟩
    ·exact Nat.zero_le _
    ·refine em [] trivial ⟨⟨rfl, _, rfl, cvt⟩, ⟨rfl, _, rfl, cvt⟩, ⟨rfl, _, rfl, cvt⟩, ⟨rfl, _, rfl, conv_nil_own⟩, ⟨rfl, _, rfl, cvt⟩, trivial⟩ ⟨⟨fun _ _ => okIds_2 _ _, .inr ⟨rfl, 75, _, rfl, by decide⟩⟩, trivial⟩
   ·rintro i hi
    refine sq (sq (rg [] rfl ?_))
    refine cd rfl (fun h9 => ?_) (fun h9 => ?_)
    ·have hil : i < t.length := by simpa using h9
     have hel := gridG_len (B := cfB p t) h256 i
     refine sk (sq (bk (sq (rg [] rfl ?_))))
     refine bk ?_
     refine WP.loop (α := Nat) (fun j => mkSt [(1, evts g t), (2, .rp 26 (encProg p)), (7, tabB t.length (refT (bareT p t))), (8, .own (.s 81 0) (gridG (cfB p t) t.length i ++ rowG (cfB p t) i j).length 0 (gridG (cfB p t) t.length i ++ rowG (cfB p t) i j).length none), (9, .int i), (10, .int j)] [(.s 81 0, cells2 (gridG (cfB p t) t.length i ++ rowG (cfB p t) i j))]) (fun j => i < j ∧ (j ≤ t.length ∨ j = i + 1)) (fun j => t.length - j) ?_ ?_
     ·refine ⟨i + 1, ?_, ?_⟩
      ·exact ⟨Nat.lt_succ_self _, .inr rfl⟩
      ·refine em [] trivial ⟨⟨rfl, _, rfl, cvt⟩, ⟨rfl, _, rfl, cvt⟩, ⟨rfl, _, rfl, cvt⟩, ⟨rfl, _, rfl, conv_eq (by rw [rowG_low (Nat.le_refl _), List.append_nil])⟩, ⟨rfl, _, rfl, cvt⟩, ⟨rfl, _, rfl, cvt⟩, trivial⟩ ⟨ob_list (fun _ => okIds_2 _ _) rfl rfl (by rw [rowG_low (Nat.le_refl _), List.append_nil]) rfl rfl (fun q hq => by rw [rowG_low (Nat.le_refl _), List.append_nil]), trivial⟩
     ·rintro j ⟨hij, hj⟩
      refine sq (sq (rg [] rfl ?_))
      refine cd rfl (fun h12 => ?_) (fun h12 => ?_)
      ·have hjl : j < t.length := by simpa using h12
       have hrl := rowG_len (B := cfB p t) (i := i) j
       refine sk (sq (bk (sq (drs [CG.pure (.int (any1F p (eAt t i) (eAt t j)))] rfl ?_ ?_))))
       ·have h1 := any1_ac p (eAt t i) (eAt t j) hv
        simp only [holdsC, under, CG.pure]
        repeat' with_reducible refine And.intro ?_ ?_
        all_goals (try with_reducible intros)
        all_goals (first | exact trivial | assumption | omega | exact h1 | (simp; done) | grind)
       refine cd rfl (fun h14 => ?_) (fun h14 => ?_)
       ·have he : cfB p t i j = true := by
          have e := h14
          rw [band, band] at e
          exact e
        refine rgs [] rfl ?_ ?_
        ·have hbt : (T 75).bytes = 16 := rfl
         simp [holdsC, under, hbt]
         omega
        refine rg [] rfl ?_
        refine ⟨j + 1, ?_, ?_, ?_⟩
        ·exact ⟨by omega, .inl hjl⟩
        ·refine em [] trivial ⟨⟨rfl, _, rfl, cvt⟩, ⟨rfl, _, rfl, cvt⟩, ⟨rfl, _, rfl, cvt⟩, ⟨rfl, _, rfl, conv_eq (by rw [rowG_yes hij he, ← List.append_assoc, len_snoc])⟩, ⟨rfl, _, rfl, cvt⟩, ⟨rfl, _, rfl, cvt⟩, trivial⟩ ⟨ob_list (fun _ => okIds_2 _ _) rfl rfl (by rw [rowG_yes hij he, ← List.append_assoc, len_snoc]) rfl rfl (by rw [rowG_yes hij he, ← List.append_assoc]; exact appL (z := (T 75).zero) rfl (enc2_of i j) (fun q hq => rfl)), trivial⟩
        ·(try simp only []); first | omega | grind
       ·have he : cfB p t i j = false := by
          have e := h14
          rw [band, band] at e
          exact e
        refine sk (rg [] rfl ?_)
        refine ⟨j + 1, ?_, ?_, ?_⟩
        ·exact ⟨by omega, .inl hjl⟩
        ·refine em [] trivial ⟨⟨rfl, _, rfl, cvt⟩, ⟨rfl, _, rfl, cvt⟩, ⟨rfl, _, rfl, cvt⟩, ⟨rfl, _, rfl, conv_eq (by rw [rowG_no he])⟩, ⟨rfl, _, rfl, cvt⟩, ⟨rfl, _, rfl, cvt⟩, trivial⟩ ⟨ob_list (fun _ => okIds_2 _ _) rfl rfl (by rw [rowG_no he]) rfl rfl (fun q hq => by rw [rowG_no he]), trivial⟩
        ·(try simp only []); first | omega | grind
      ·have hjl : t.length ≤ j := by simp at h12; omega
       refine xt (rg [] rfl ?_)
       refine ⟨i + 1, ?_, ?_, ?_⟩
       ·exact hil
       ·refine em [] trivial ⟨⟨rfl, _, rfl, cvt⟩, ⟨rfl, _, rfl, cvt⟩, ⟨rfl, _, rfl, cvt⟩, ⟨rfl, _, rfl, conv_eq (by rw [gridG, rowG_end hjl hj hil])⟩, ⟨rfl, _, rfl, cvt⟩, trivial⟩ ⟨ob_list (fun _ => okIds_2 _ _) rfl rfl (by rw [gridG, rowG_end hjl hj hil]) rfl rfl (fun q hq => by rw [gridG, rowG_end hjl hj hil]), trivial⟩
       ·(try simp only []); first | omega | grind
    ·have hil : i = t.length := by simp at h9; omega
     subst hil
     refine xt (sq (rg [] rfl ?_))
     refine WP.ret ?_
     change Fin ..
     refine fin_mk hT [(.s 81 0, (refConf p t).length)] (ts := [(4, prs false (refConf p t))]) (l := [prs false (refConf p t)]) ⟨⟨_, rfl, Nat.le_refl _⟩, trivial⟩ ⟨⟨rfl, _, rfl, ?_⟩, trivial⟩ trivial rfl rfl rfl
     exact conv_row rfl rfl rfl (fun h => by cases h) (by simp [lookF, idbeq_self, refConf]) (fun q hq => by rw [Nat.zero_add]; exact ⟨noIds_2 _, AEq.refl _⟩)
end Go.Ab


/- The reference: Guards, Suspects; rows compared. -/
set_option autoImplicit false
set_option maxRecDepth 20000
set_option maxHeartbeats 4000000
set_option linter.unusedSimpArgs false
set_option linter.unusedVariables false
namespace Go.Ab
open Go.Proofs Go.Sort
/-- Is lock n held wherever variable v is touched, among the first i? -/
def alG (t : List Evt) (v : Int) (n : Nat) : Nat → Bool
  | 0 => true
  | i + 1 => alG t v n i && (touF (eAt t i) 1 v == 0 || (heldTo t (eAt t i).go i).getD n false)
def gdR (t : List Evt) (v : Int) : Nat → List Int
  | 0 => []
  | n + 1 => gdR t v n ++ (if alG t v n t.length = true then [(n : Int)] else [])
def refGrd (p : PProg) (t : List Evt) (v : Nat) : List Int := if plainB p v = true then gdR t v 4 else []
def grdsTo (p : PProg) (t : List Evt) : Nat → List (List Int)
  | 0 => []
  | v + 1 => grdsTo p t v ++ [refGrd p t v]
theorem gdR_len (t : List Evt) (v : Int) : ∀ n, (gdR t v n).length ≤ n
  | 0 => Nat.le_refl _
  | n + 1 => by
    have := gdR_len t v n
    rw [gdR, List.length_append]
    split <;> simp <;> omega
theorem grdsTo_len (p : PProg) (t : List Evt) : ∀ v, (grdsTo p t v).length = v
  | 0 => rfl
  | v + 1 => by rw [grdsTo, List.length_append, grdsTo_len p t v]; rfl
def cellsII (l : List (List Int)) : Ob := cellsL 23 (ints false) [] l
theorem rguards_ac (g : Bool) (p : PProg) (t : List Evt) (hz : chkE t = 0) (hv : p.vars.length ≤ 8) : AC Tryz.prog T tysN 25 [encProg p, evts g t] [] (intss false (grdsTo p t p.vars.length)) [] := by
 refine AC_intro hT Tryz.func25 rfl rfl (Nat.le_of_ble_eq_true rfl) ?_
 have h256 := (chk_right hz).1
 refine sq (rg [] rfl ?_)
 refine sq (rg [] rfl ?_)
 refine sq (sq (rg [] rfl ?_))
 refine bk ?_
 refine WP.loop (α := Nat) (fun v => mkSt [(1, evts g t), (2, .rp 26 (encProg p)), (5, .own (.s 60 0) (grdsTo p t v).length 0 (grdsTo p t v).length none), (6, .int v)] [(.s 60 0, cellsII (grdsTo p t v))]) (fun v => v ≤ p.vars.length) (fun v => p.vars.length - v) ?_ ?_
 ·refine ⟨0, ?_, ?_⟩
  ·exact Nat.zero_le _
  ·refine em [(.s 2 0, 1)] ⟨⟨_, rfl, Nat.le_refl _⟩, trivial⟩ ⟨⟨rfl, _, rfl, cvt⟩, ⟨rfl, _, rfl, conv_rpe rfl rfl (by decide) rfl rfl rfl⟩, ⟨rfl, _, rfl, conv_nil_own⟩, ⟨rfl, _, rfl, cvt⟩, trivial⟩ ⟨⟨fun _ _ => rfl, .inr ⟨rfl, 23, _, rfl, by decide⟩⟩, trivial⟩
 ·rintro v hvl
  refine sq (sq (rg [] rfl ?_))
  refine cd rfl (fun h3 => ?_) (fun h3 => ?_)
  ·have hvn : v < p.vars.length := by simpa using h3
   have hgl := grdsTo_len p t v
   refine sk (sq (bk (sq (rg [] rfl ?_))))
   refine sq (sq (rg [] rfl ?_))
   refine bk ?_
   refine WP.loop (α := Nat) (fun n => mkSt [(1, evts g t), (2, .rp 26 (encProg p)), (5, .own (.s 60 0) (grdsTo p t v).length 0 (grdsTo p t v).length none), (6, .int v), (7, .own (.s 56 0) (gdR t v n).length 0 (gdR t v n).length none), (8, .int n)] [(.s 60 0, cellsII (grdsTo p t v)), (.s 56 0, cellsI 3 .i64 (gdR t v n))]) (fun n => n ≤ 4 ∧ (plainB p v = false → n = 0)) (fun n => 4 - n) ?_ ?_
   ·refine ⟨0, ?_, ?_⟩
    ·exact ⟨Nat.zero_le _, fun _ => rfl⟩
    ·refine em [] trivial ⟨⟨rfl, _, rfl, cvt⟩, ⟨rfl, _, rfl, cvt⟩, ⟨rfl, _, rfl, cvt⟩, ⟨rfl, _, rfl, cvt⟩, ⟨rfl, _, rfl, conv_nil_own⟩, ⟨rfl, _, rfl, cvt⟩, trivial⟩ ⟨obs rfl, ⟨fun _ _ => rfl, .inr ⟨rfl, 3, _, rfl, by decide⟩⟩, trivial⟩
   ·rintro n ⟨hn4, hpn⟩
    refine sq (sq (rgs [CG.pure (.bool (plainB p v))] rfl ?_ ?_))
    ·have h1 := plain_ac p v
     simp only [holdsC, under, CG.pure]
     repeat' with_reducible refine And.intro ?_ ?_
     all_goals (try with_reducible intros)
     all_goals (first | exact trivial | assumption | omega | exact h1 | (simp; done) | grind)
    refine cd rfl (fun h7 => ?_) (fun h7 => ?_)
    ·have hc : n < 4 ∧ plainB p v = true := by
       have e := h7
       rw [band] at e
       simp only [Bool.and_eq_true, decide_eq_true_eq] at e
       exact ⟨by omega, e.2⟩
     have hgdl := gdR_len t v n
     refine sk (sq (bk (sq (rg [] rfl ?_))))
     refine sq (sq (rg [] rfl ?_))
     refine bk ?_
     refine WP.loop (α := Nat) (fun i => mkSt [(1, evts g t), (2, .rp 26 (encProg p)), (5, .own (.s 60 0) (grdsTo p t v).length 0 (grdsTo p t v).length none), (6, .int v), (7, .own (.s 56 0) (gdR t v n).length 0 (gdR t v n).length none), (8, .int n), (9, .bool (alG t v n i)), (10, .int i)] [(.s 60 0, cellsII (grdsTo p t v)), (.s 56 0, cellsI 3 .i64 (gdR t v n))]) (fun i => i ≤ t.length) (fun i => t.length - i) ?_ ?_
     ·refine ⟨0, ?_, ?_⟩
      ·exact Nat.zero_le _
      ·refine em [] trivial ⟨⟨rfl, _, rfl, cvt⟩, ⟨rfl, _, rfl, cvt⟩, ⟨rfl, _, rfl, cvt⟩, ⟨rfl, _, rfl, cvt⟩, ⟨rfl, _, rfl, cvt⟩, ⟨rfl, _, rfl, cvt⟩, ⟨rfl, _, rfl, cvt⟩, ⟨rfl, _, rfl, cvt⟩, trivial⟩ ⟨obs rfl, obs rfl, trivial⟩
     ·rintro i hi
      refine sq (sq (rg [] rfl ?_))
      refine cd rfl (fun h11 => ?_) (fun h11 => ?_)
      ·have hil : i < t.length := by simpa using h11
       refine sk (sq (bk (sq (rgs [CG.pure (encLkR (heldTo t (eAt t i).go i))] rfl ?_ ?_))))
       ·have h1 := held_ac g t hz i hil
        simp only [holdsC, under, CG.pure]
        repeat' with_reducible refine And.intro ?_ ?_
        all_goals (try with_reducible intros)
        all_goals (first | exact trivial | assumption | omega | exact h1 | (simp; done) | grind)
       refine rgs [CG.pure (.int (touF (eAt t i) 1 v))] rfl ?_ ?_
       ·have h1 := touches_ac (eAt t i) 1 v
        simp only [holdsC, under, CG.pure]
        repeat' with_reducible refine And.intro ?_ ?_
        all_goals (try with_reducible intros)
        all_goals (first | exact trivial | assumption | omega | exact h1 | (simp; done) | grind)
       refine rg [] rfl ?_
       refine ⟨i + 1, ?_, ?_, ?_⟩
       ·exact hil
       ·refine em [] trivial ⟨⟨rfl, _, rfl, cvt⟩, ⟨rfl, _, rfl, cvt⟩, ⟨rfl, _, rfl, cvt⟩, ⟨rfl, _, rfl, cvt⟩, ⟨rfl, _, rfl, cvt⟩, ⟨rfl, _, rfl, cvt⟩, ⟨rfl, _, rfl, conv_eq (by rw [band, bor]; rfl)⟩, ⟨rfl, _, rfl, cvt⟩, trivial⟩ ⟨obs rfl, obs rfl, trivial⟩
       ·(try simp only []); first | omega | grind
      ·have hil : i = t.length := by simp at h11; omega
       subst hil
       refine xt (sq (rg [] rfl ?_))
       refine cd rfl (fun h15 => ?_) (fun h15 => ?_)
       ·have ha : alG t v n t.length = true := h15
        refine rgs [] rfl ?_ ?_
        ·have hbt : (T 3).bytes = 8 := rfl
         simp [holdsC, under, hbt]; omega
        refine rg [] rfl ?_
        refine ⟨n + 1, ?_, ?_, ?_⟩
        ·exact ⟨hc.1, fun e => by rw [hc.2] at e; cases e⟩
        ·refine em [] trivial ⟨⟨rfl, _, rfl, cvt⟩, ⟨rfl, _, rfl, cvt⟩, ⟨rfl, _, rfl, cvt⟩, ⟨rfl, _, rfl, cvt⟩, ⟨rfl, _, rfl, conv_eq (by rw [gdR, if_pos ha, len_snoc])⟩, ⟨rfl, _, rfl, cvt⟩, trivial⟩ ⟨obs rfl, ob_ints rfl rfl (by rw [gdR, if_pos ha, len_snoc]) rfl rfl (by rw [gdR, if_pos ha]; exact app1 (z := (T 3).zero) rfl (fun q hq => rfl)), trivial⟩
        ·(try simp only []); first | omega | grind
       ·have ha : alG t v n t.length = false := h15
        refine sk (rg [] rfl ?_)
        refine ⟨n + 1, ?_, ?_, ?_⟩
        ·exact ⟨hc.1, fun e => by rw [hc.2] at e; cases e⟩
        ·refine em [] trivial ⟨⟨rfl, _, rfl, cvt⟩, ⟨rfl, _, rfl, cvt⟩, ⟨rfl, _, rfl, cvt⟩, ⟨rfl, _, rfl, cvt⟩, ⟨rfl, _, rfl, conv_eq (by rw [gdR, if_neg (by rw [ha]; decide), List.append_nil])⟩, ⟨rfl, _, rfl, cvt⟩, trivial⟩ ⟨obs rfl, ob_ints rfl rfl (by rw [gdR, if_neg (by rw [ha]; decide), List.append_nil]) rfl rfl (fun q hq => by rw [gdR, if_neg (by rw [ha]; decide), List.append_nil]), trivial⟩
        ·(try simp only []); first | omega | grind
    ·have hg : gdR t v n = refGrd p t v := by
       have e := h7
       rw [band] at e
       simp only [Bool.and_eq_false_iff, decide_eq_false_iff_not] at e
       rw [refGrd]
       cases hp : plainB p v with
       | true =>
         rw [if_pos rfl]
         rcases e with e | e
         · rw [show n = 4 by omega]
         · rw [hp] at e; cases e
       | false =>
         rw [if_neg (by decide), hpn hp]; rfl
     refine xt ?_
     refine WP.ent (st' := mkSt [(1, evts g t), (2, .rp 26 (encProg p)), (5, .own (.s 60 0) (grdsTo p t v).length 0 (grdsTo p t v).length none), (6, .int v), (7, ints false (refGrd p t v))] [(.s 60 0, cellsII (grdsTo p t v))]) ?_ ?_
     ·refine em [(.s 56 0, (gdR t v n).length)] ⟨⟨_, rfl, Nat.le_refl _⟩, trivial⟩ ⟨⟨rfl, _, rfl, cvt⟩, ⟨rfl, _, rfl, cvt⟩, ⟨rfl, _, rfl, cvt⟩, ⟨rfl, _, rfl, cvt⟩, ⟨rfl, _, rfl, ?_⟩, trivial⟩ ⟨obs rfl, trivial⟩
      ·rw [← hg]
       exact conv_row rfl rfl rfl (fun h => by cases h) (by simp [lookF, idbeq_self]) (fun q hq => by rw [Nat.zero_add]; exact ⟨rfl, AEq.refl _⟩)
     refine rgs [] rfl ?_ ?_
     ·have hbt : (T 23).bytes = 24 := rfl
      simp [holdsC, under, hbt]; omega
     refine rg [] rfl ?_
     refine ⟨v + 1, ?_, ?_, ?_⟩
     ·exact hvn
     ·refine em [] trivial ⟨⟨rfl, _, rfl, cvt⟩, ⟨rfl, _, rfl, cvt⟩, ⟨rfl, _, rfl, conv_eq (by rw [grdsTo, len_snoc])⟩, ⟨rfl, _, rfl, cvt⟩, trivial⟩ ⟨ob_list (fun _ => rfl) rfl rfl (by rw [grdsTo, len_snoc]) rfl rfl (by rw [grdsTo]; exact appL (z := (T 23).zero) rfl rfl (fun q hq => rfl)), trivial⟩
     ·(try simp only []); first | omega | grind
  ·have hvn : v = p.vars.length := by simp at h3; omega
   subst hvn
   refine xt (sq (rg [] rfl ?_))
   refine WP.ret ?_
   change Fin ..
   refine fin_mk hT [(.s 60 0, (grdsTo p t p.vars.length).length)] (ts := [(4, intss false (grdsTo p t p.vars.length))]) (l := [intss false (grdsTo p t p.vars.length)]) ⟨⟨_, rfl, Nat.le_refl _⟩, trivial⟩ ⟨⟨rfl, _, rfl, ?_⟩, trivial⟩ trivial rfl rfl rfl
   exact conv_row rfl rfl rfl (fun h => by cases h) (by simp [lookF, idbeq_self]) (fun q hq => by rw [Nat.zero_add]; exact ⟨rfl, AEq.refl _⟩)
theorem sameRows_ac (f g : Bool) (a b : List (List Int)) : AC Tryz.prog T tysN 24 [intss f a, intss g b] [] (.bool (decide (a = b))) [] := by
 refine AC_intro hT Tryz.func24 rfl rfl (Nat.le_of_ble_eq_true rfl) ?_
 refine WP.rowlen 0 rfl (fun hla => ?_)
 refine sq (rg [] rfl ?_)
 refine sq (sq (rg [] rfl ?_))
 refine cd rfl (fun h1 => ?_) (fun h1 => ?_)
 ·have hne : a.length ≠ b.length := by simp at h1; omega
  refine sq (rg [] rfl ?_)
  refine WP.ret ?_
  change Fin ..
  exact fin1 hT (by rfl) (by simp; rintro rfl; exact hne rfl)
 ·have hlen : a.length = b.length := by simp at h1; omega
  refine sk (sq (sq (rg [] rfl ?_)))
  refine bk ?_
  refine WP.loop (α := Nat) (fun i => mkSt [(0, intss f a), (1, intss g b), (12, .int a.length), (13, .int i)] []) (fun i => i ≤ a.length ∧ ∀ j, j < i → a.getD j [] = b.getD j []) (fun i => a.length - i) ?_ ?_
  ·refine ⟨0, ?_, ?_⟩
   ·exact ⟨Nat.zero_le _, fun j hj => by omega⟩
   ·refine em [] trivial ⟨⟨rfl, _, rfl, cvt⟩, ⟨rfl, _, rfl, cvt⟩, ⟨rfl, _, rfl, cvt⟩, ⟨rfl, _, rfl, cvt⟩, trivial⟩ trivial
  ·rintro i ⟨hi, heq⟩
   refine sq (rg [] rfl ?_)
   refine sq ?_
   refine cd rfl (fun h4 => ?_) (fun h4 => ?_)
   ·have hil : i < a.length := by simpa using h4
    refine sk (sq (bk (sq (rg [] rfl ?_))))
    refine sq (drs [CG.pure (.bool (decide (a.getD i [] = b.getD i [])))] rfl ?_ ?_)
    ·have h1 := sameInts_ac false false (a.getD i []) (b.getD i [])
     simp only [holdsC, under, CG.pure]
     repeat' with_reducible refine And.intro ?_ ?_
     all_goals (try with_reducible intros)
     all_goals (first | exact trivial | assumption | omega | exact h1 | (simp; done) | grind)
    refine cd rfl (fun h6 => ?_) (fun h6 => ?_)
    ·have hne : a.getD i [] ≠ b.getD i [] := by
       have e : (!decide (a.getD i [] = b.getD i [])) = true := h6
       simpa using e
     refine sq (rg [] rfl ?_)
     refine WP.ret ?_
     change Fin ..
     exact fin1 hT (by rfl) (by simp; rintro rfl; exact hne rfl)
    ·have he : a.getD i [] = b.getD i [] := by
       have e : (!decide (a.getD i [] = b.getD i [])) = false := h6
       simpa using e
     refine sk (rg [] rfl ?_)
     refine ⟨i + 1, ?_, ?_, ?_⟩
     ·exact ⟨hil, all_succ (Q := fun j => a.getD j [] = b.getD j []) heq he⟩
     ·refine em [] trivial ⟨⟨rfl, _, rfl, cvt⟩, ⟨rfl, _, rfl, cvt⟩, ⟨rfl, _, rfl, cvt⟩, ⟨rfl, _, rfl, cvt⟩, trivial⟩ trivial
     ·(try simp only []); first | omega | grind
   ·have hil : i = a.length := by simp at h4; omega
    subst hil
    refine xt (sq (rg [] rfl ?_))
    refine WP.ret ?_
    change Fin ..
    refine fin1 hT (by rfl) ?_
    symm
    simp only [decide_eq_true_eq]
    refine List.ext_getElem hlen (fun j h1 h2 => ?_)
    have := heq j h1
    simpa [h1, h2] using this
/-- Who touches variable v first (-1: nobody), do several, is it written, among the first i. -/
def fsTo (t : List Evt) (v : Int) : Nat → Int × Bool × Bool
  | 0 => (-1, false, false)
  | i + 1 => if touF (eAt t i) 1 v = 0 then fsTo t v i else
    (if (fsTo t v i).1 < 0 then (eAt t i).go else (fsTo t v i).1, (fsTo t v i).2.1 || (eAt t i).go != (if (fsTo t v i).1 < 0 then (eAt t i).go else (fsTo t v i).1), (fsTo t v i).2.2 || touF (eAt t i) 1 v == 2)
def rsB (p : PProg) (t : List Evt) (v : Nat) : Bool := ((plainB p v && (fsTo t v t.length).2.1) && (fsTo t v t.length).2.2) && ((refGrd p t v).length : Int) == 0
def rsTo (p : PProg) (t : List Evt) : Nat → List Int
  | 0 => []
  | v + 1 => rsTo p t v ++ (if rsB p t v = true then [(v : Int)] else [])
theorem rsTo_len (p : PProg) (t : List Evt) : ∀ v, (rsTo p t v).length ≤ v
  | 0 => Nat.le_refl _
  | v + 1 => by
    have := rsTo_len p t v
    rw [rsTo, List.length_append]
    split <;> simp <;> omega
theorem grds_get {p : PProg} {t : List Evt} {v : Nat} : ∀ {n : Nat}, v < n → (grdsTo p t n).getD v [] = refGrd p t v
  | n + 1, h => by
    rw [grdsTo]
    rcases Nat.lt_or_ge v n with h1 | h1
    · rw [← grds_get h1]
      simp [List.getD_eq_getElem?_getD, List.getElem?_append_left (show v < (grdsTo p t n).length by rw [grdsTo_len]; exact h1)]
    · obtain rfl : v = n := by omega
      simp [List.getD_eq_getElem?_getD, grdsTo_len]
theorem rsus_ac (g : Bool) (p : PProg) (t : List Evt) (hz : chkE t = 0) (hv : p.vars.length ≤ 8) : AC Tryz.prog T tysN 27 [encProg p, evts g t] [] (ints false (rsTo p t p.vars.length)) [] := by
 refine AC_intro hT Tryz.func27 rfl rfl (Nat.le_of_ble_eq_true rfl) ?_
 have h256 := (chk_right hz).1
 refine sq (rg [] rfl ?_)
 refine sq (rgs [CG.pure (intss false (grdsTo p t p.vars.length))] rfl ?_ ?_)
 ·have h1 := rguards_ac g p t hz hv
  simp only [holdsC, under, CG.pure]
  repeat' with_reducible refine And.intro ?_ ?_
  all_goals (try with_reducible intros)
  all_goals (first | exact trivial | assumption | omega | exact h1 | (simp; done) | grind)
 refine sq (rg [] rfl ?_)
 refine sq (sq (rg [] rfl ?_))
 refine bk ?_
 refine WP.loop (α := Nat) (fun v => mkSt [(1, evts g t), (2, .rp 26 (encProg p)), (5, intss false (grdsTo p t p.vars.length)), (6, .own (.s 79 0) (rsTo p t v).length 0 (rsTo p t v).length none), (7, .int v)] [(.s 79 0, cellsI 3 .i64 (rsTo p t v))]) (fun v => v ≤ p.vars.length) (fun v => p.vars.length - v) ?_ ?_
 ·refine ⟨0, ?_, ?_⟩
  ·exact Nat.zero_le _
  ·refine em [(.s 2 0, 1)] ⟨⟨_, rfl, Nat.le_refl _⟩, trivial⟩ ⟨⟨rfl, _, rfl, cvt⟩, ⟨rfl, _, rfl, conv_rpe rfl rfl (by decide) rfl rfl rfl⟩, ⟨rfl, _, rfl, cvt⟩, ⟨rfl, _, rfl, conv_nil_own⟩, ⟨rfl, _, rfl, cvt⟩, trivial⟩ ⟨⟨fun _ _ => rfl, .inr ⟨rfl, 3, _, rfl, by decide⟩⟩, trivial⟩
 ·rintro v hvl
  refine sq (sq (rg [] rfl ?_))
  refine cd rfl (fun h4 => ?_) (fun h4 => ?_)
  ·have hvn : v < p.vars.length := by simpa using h4
   have hrl := rsTo_len p t v
   have hgl := grdsTo_len p t p.vars.length
   refine sk (sq (bk (sq (rg [] rfl ?_))))
   refine sq (rg [] rfl ?_)
   refine sq (rg [] rfl ?_)
   refine sq (sq (rg [] rfl ?_))
   refine bk ?_
   refine WP.loop (α := Nat) (fun i => mkSt [(1, evts g t), (2, .rp 26 (encProg p)), (5, intss false (grdsTo p t p.vars.length)), (6, .own (.s 79 0) (rsTo p t v).length 0 (rsTo p t v).length none), (7, .int v), (8, .int (fsTo t v i).1), (9, .bool (fsTo t v i).2.1), (10, .bool (fsTo t v i).2.2), (11, .int i)] [(.s 79 0, cellsI 3 .i64 (rsTo p t v))]) (fun i => i ≤ t.length) (fun i => t.length - i) ?_ ?_
   ·refine ⟨0, ?_, ?_⟩
    ·exact Nat.zero_le _
    ·refine em [] trivial ⟨⟨rfl, _, rfl, cvt⟩, ⟨rfl, _, rfl, cvt⟩, ⟨rfl, _, rfl, cvt⟩, ⟨rfl, _, rfl, cvt⟩, ⟨rfl, _, rfl, cvt⟩, ⟨rfl, _, rfl, cvt⟩, ⟨rfl, _, rfl, cvt⟩, ⟨rfl, _, rfl, cvt⟩, ⟨rfl, _, rfl, cvt⟩, trivial⟩ ⟨obs rfl, trivial⟩
   ·rintro i hi
    refine sq (sq (rg [] rfl ?_))
    refine cd rfl (fun h10 => ?_) (fun h10 => ?_)
    ·have hil : i < t.length := by simpa using h10
     refine sk (sq (bk (sq (rgs [CG.pure (.int (touF (eAt t i) 1 v))] rfl ?_ ?_))))
     ·have h1 := touches_ac (eAt t i) 1 v
      simp only [holdsC, under, CG.pure]
      repeat' with_reducible refine And.intro ?_ ?_
      all_goals (try with_reducible intros)
      all_goals (first | exact trivial | assumption | omega | exact h1 | (simp; done) | grind)
     refine sq (sq (rg [] rfl ?_))
     refine cd rfl (fun h13 => ?_) (fun h13 => ?_)
     ·have h0 : touF (eAt t i) 1 v = 0 := by simpa using h13
      refine xt (rg [] rfl ?_)
      refine ⟨i + 1, ?_, ?_, ?_⟩
      ·exact hil
      ·refine em [] trivial ⟨⟨rfl, _, rfl, cvt⟩, ⟨rfl, _, rfl, cvt⟩, ⟨rfl, _, rfl, cvt⟩, ⟨rfl, _, rfl, cvt⟩, ⟨rfl, _, rfl, cvt⟩, ⟨rfl, _, rfl, conv_eq (by rw [fsTo, if_pos h0])⟩, ⟨rfl, _, rfl, conv_eq (by rw [fsTo, if_pos h0])⟩, ⟨rfl, _, rfl, conv_eq (by rw [fsTo, if_pos h0])⟩, ⟨rfl, _, rfl, cvt⟩, trivial⟩ ⟨obs rfl, trivial⟩
      ·(try simp only []); first | omega | grind
     ·have h0 : ¬ touF (eAt t i) 1 v = 0 := by simpa using h13
      refine sk (sq (sq (rg [] rfl ?_)))
      refine cd rfl (fun h14 => ?_) (fun h14 => ?_)
      ·have hf : (fsTo t v i).1 < 0 := by simpa using h14
       refine rg [] rfl ?_
       refine sq (rg [] rfl ?_)
       refine rg [] rfl ?_
       refine rg [] rfl ?_
       refine ⟨i + 1, ?_, ?_, ?_⟩
       ·exact hil
       ·refine em [] trivial ⟨⟨rfl, _, rfl, cvt⟩, ⟨rfl, _, rfl, cvt⟩, ⟨rfl, _, rfl, cvt⟩, ⟨rfl, _, rfl, cvt⟩, ⟨rfl, _, rfl, cvt⟩, ⟨rfl, _, rfl, conv_eq (by rw [fsTo, if_neg h0, if_pos hf]; rfl)⟩, ⟨rfl, _, rfl, conv_eq (by rw [fsTo, if_neg h0, if_pos hf, bor]; rfl)⟩, ⟨rfl, _, rfl, conv_eq (by rw [fsTo, if_neg h0, bor])⟩, ⟨rfl, _, rfl, cvt⟩, trivial⟩ ⟨obs rfl, trivial⟩
       ·(try simp only []); first | omega | grind
      ·have hf : ¬ (fsTo t v i).1 < 0 := by simpa using h14
       refine sk (sq (rg [] rfl ?_))
       refine rg [] rfl ?_
       refine rg [] rfl ?_
       refine ⟨i + 1, ?_, ?_, ?_⟩
       ·exact hil
       ·refine em [] trivial ⟨⟨rfl, _, rfl, cvt⟩, ⟨rfl, _, rfl, cvt⟩, ⟨rfl, _, rfl, cvt⟩, ⟨rfl, _, rfl, cvt⟩, ⟨rfl, _, rfl, cvt⟩, ⟨rfl, _, rfl, conv_eq (by rw [fsTo, if_neg h0, if_neg hf])⟩, ⟨rfl, _, rfl, conv_eq (by rw [fsTo, if_neg h0, if_neg hf, bor]; rfl)⟩, ⟨rfl, _, rfl, conv_eq (by rw [fsTo, if_neg h0, bor])⟩, ⟨rfl, _, rfl, cvt⟩, trivial⟩ ⟨obs rfl, trivial⟩
       ·(try simp only []); first | omega | grind
    ·have hil : i = t.length := by simp at h10; omega
     subst hil
     refine xt (sq (rgs [CG.pure (.bool (plainB p v))] rfl ?_ ?_))
     ·have h1 := plain_ac p v
      simp only [holdsC, under, CG.pure]
      repeat' with_reducible refine And.intro ?_ ?_
      all_goals (try with_reducible intros)
      all_goals (first | exact trivial | assumption | omega | exact h1 | (simp; done) | grind)
     refine cd rfl (fun h18 => ?_) (fun h18 => ?_)
     ·have hs : rsB p t v = true := by
        have e := h18
        rw [band, band, band, show (grdsTo p t p.vars.length).getD (v : Int).toNat [] = refGrd p t v from grds_get hvn] at e
        exact e
      refine rgs [] rfl ?_ ?_
      ·have hbt : (T 3).bytes = 8 := rfl
       simp [holdsC, under, hbt]; omega
      refine rg [] rfl ?_
      refine ⟨v + 1, ?_, ?_, ?_⟩
      ·exact hvn
      ·refine em [] trivial ⟨⟨rfl, _, rfl, cvt⟩, ⟨rfl, _, rfl, cvt⟩, ⟨rfl, _, rfl, cvt⟩, ⟨rfl, _, rfl, conv_eq (by rw [rsTo, if_pos hs, len_snoc])⟩, ⟨rfl, _, rfl, cvt⟩, trivial⟩ ⟨ob_ints rfl rfl (by rw [rsTo, if_pos hs, len_snoc]) rfl rfl (by rw [rsTo, if_pos hs]; exact app1 (z := (T 3).zero) rfl (fun q hq => rfl)), trivial⟩
      ·(try simp only []); first | omega | grind
     ·have hs : rsB p t v = false := by
        have e := h18
        rw [band, band, band, show (grdsTo p t p.vars.length).getD (v : Int).toNat [] = refGrd p t v from grds_get hvn] at e
        exact e
      refine sk (rg [] rfl ?_)
      refine ⟨v + 1, ?_, ?_, ?_⟩
      ·exact hvn
      ·refine em [] trivial ⟨⟨rfl, _, rfl, cvt⟩, ⟨rfl, _, rfl, cvt⟩, ⟨rfl, _, rfl, cvt⟩, ⟨rfl, _, rfl, conv_eq (by rw [rsTo, if_neg (by rw [hs]; decide), List.append_nil])⟩, ⟨rfl, _, rfl, cvt⟩, trivial⟩ ⟨ob_ints rfl rfl (by rw [rsTo, if_neg (by rw [hs]; decide), List.append_nil]) rfl rfl (fun q hq => by rw [rsTo, if_neg (by rw [hs]; decide), List.append_nil]), trivial⟩
      ·(try simp only []); first | omega | grind
  ·have hvn : v = p.vars.length := by simp at h4; omega
   subst hvn
   refine xt (sq (rg [] rfl ?_))
   refine WP.ret ?_
   change Fin ..
   refine fin_mk hT [(.s 79 0, (rsTo p t p.vars.length).length)] (ts := [(4, ints false (rsTo p t p.vars.length))]) (l := [ints false (rsTo p t p.vars.length)]) ⟨⟨_, rfl, Nat.le_refl _⟩, trivial⟩ ⟨⟨rfl, _, rfl, ?_⟩, trivial⟩ trivial rfl rfl rfl
   exact conv_row rfl rfl rfl (fun h => by cases h) (by simp [lookF, idbeq_self]) (fun q hq => by rw [Nat.zero_add]; exact ⟨rfl, AEq.refl _⟩)
end Go.Ab


/- Conflicts, guards, suspects: the reference's. -/
set_option autoImplicit false
set_option maxRecDepth 20000
set_option maxHeartbeats 4000000
set_option linter.unusedSimpArgs false
set_option linter.unusedVariables false
namespace Go.Ab
open Go.Proofs Go.Sort
theorem touch_sorted {x : Evt} (h : rightE x = true) : (touchL x).Pairwise fun a b => a.kind < b.kind ∨ a.kind = b.kind ∧ a.num < b.num := by
  rw [List.pairwise_iff_getElem]
  intro i j hi hj hij
  rw [touchL_len] at hi hj
  have hc := right_clamp h
  have h1 := right_lt h (i := i) (d := j - i - 1) (by omega)
  rw [show i + (j - i - 1) + 1 = j by omega] at h1
  simpa [touchL] using h1
theorem bare_right {p : PProg} {x : Evt} (h : rightE x = true) : rightE (bareE p x) = true := by
  have hown := right_own h
  have hmem : (⟨5, x.go, true⟩ : Tch) ∈ bareL p x := by
    rw [bareL, keepG, List.mem_filter]
    exact ⟨hown, by simp [plnB]⟩
  have hlen : 0 < (bareL p x).length := List.length_pos_of_mem hmem
  have h6 := bareL_len p x
  have hgo : 0 ≤ x.go ∧ x.go < 6 := by
    simp only [rightE, Bool.and_eq_true, decide_eq_true_eq] at h
    exact ⟨h.1.1, h.1.2.1⟩
  have hs : (bareL p x).Pairwise fun a b => a.kind < b.kind ∨ a.kind = b.kind ∧ a.num < b.num := (touch_sorted h).filter _
  have hat : ∀ i, tAt (bareE p x) i = (bareL p x).getD i tch0 := fun i => rfl
  simp only [rightE, Bool.and_eq_true, decide_eq_true_eq]
  refine ⟨⟨hgo.1, hgo.2, by show (1 : Int) ≤ ((bareL p x).length : Int); omega, by show ((bareL p x).length : Int) ≤ 6; omega⟩, ?_, ?_⟩
  · rw [allTo_iff]
    intro i hi
    rw [rowE]
    have hn : (bareE p x).n = ((bareL p x).length : Int) := rfl
    split
    · rename_i hge
      rw [hat]
      simp [List.getD_eq_getElem?_getD, List.getElem?_eq_none (show (bareL p x).length ≤ i by omega)]
    · rename_i hlt
      have hil : i < (bareL p x).length := by omega
      have hm : (bareL p x)[i] ∈ touchL x := (List.mem_filter.1 (List.getElem_mem hil)).1
      have hnum : 0 ≤ ((bareL p x)[i]).num ∧ ((bareL p x)[i]).num < mostF ((bareL p x)[i]).kind := by
        simp only [touchL, List.mem_map, List.mem_range] at hm
        obtain ⟨k, hk, e⟩ := hm
        rw [← e]
        exact right_num h (by have := right_clamp h; omega)
      have e : tAt (bareE p x) i = (bareL p x)[i] := by rw [hat]; simp [hil]
      rw [e]
      simp only [Bool.and_eq_true, decide_eq_true_eq, Bool.or_eq_true, beq_iff_eq]
      refine ⟨hnum, ?_⟩
      rcases Nat.eq_zero_or_pos i with h0 | h0
      · exact .inl h0
      · right
        have e2 : tAt (bareE p x) (i - 1) = (bareL p x)[i - 1] := by rw [hat]; simp [show i - 1 < (bareL p x).length by omega]
        rw [e2]
        have := (List.pairwise_iff_getElem.1 hs) (i - 1) i (by omega) hil (by omega)
        unfold cmpF
        rw [if_pos this]
        decide
  · obtain ⟨i, hi, e⟩ := List.getElem_of_mem hmem
    have : ∀ k, i < k → ownE (bareE p x) k = true := by
      intro k
      induction k with
      | zero => intro h; omega
      | succ k ih =>
        intro hk
        rw [ownE]
        rcases Nat.lt_or_ge i k with h2 | h2
        · rw [ih h2, Bool.true_or]
        · obtain rfl : i = k := by omega
          rw [Bool.or_eq_true]
          right
          simp only [Bool.and_eq_true, decide_eq_true_eq]
          refine ⟨by show (i : Int) < ((bareL p x).length : Int); omega, ?_⟩
          rw [hat]
          simp [hi, e, bareE]
    exact this 6 (by omega)
theorem bare_chk {p : PProg} {t : List Evt} (h : chkE t = 0) : chkE (bareT p t) = 0 := by
  have hok := chk_right h
  unfold chkE
  rw [if_neg (by rw [bareT_len]; have := hok.1; omega), if_neg]
  intro hb
  rw [List.any_eq_true] at hb
  obtain ⟨x, hx, hb⟩ := hb
  rw [bareT, List.mem_map] at hx
  obtain ⟨y, hy, rfl⟩ := hx
  obtain ⟨i, hi, rfl⟩ := List.getElem_of_mem hy
  have hr := chk_evt h hi
  rw [show eAt t i = t[i] by simp [eAt, hi]] at hr
  rw [badE, bare_right hr] at hb
  cases hb
theorem conf_cf {p : PProg} {t : List Evt} (h : fitF p t = 0) {i j : Nat} (hij : i < j) (hj : j < t.length) : confB p t i j = cfB p t i j := by
  have hv := fit_vars h
  have hb := bare_chk (p := p) hv.2
  have hbl := bareT_len p t
  have e1 := both_any (p := p) hv.1 (chk_evt hv.2 (i := i) (by omega)) (chk_evt hv.2 hj)
  have e2 : refT (bareT p t) i j = befB (bareT p t) i j := by
    rw [Bool.eq_iff_iff, refT_iff (by omega), befB_iff hb (by omega) (by omega)]
  have e3 : befB (bareT p t) i j = !decide ((clkOf (bareT p t) i).getD (eAt t i).go.toNat 0 > (clkOf (bareT p t) j).getD (eAt t i).go.toNat 0) := by
    rw [befB, show goN (bareT p t) i = (eAt t i).go.toNat by rw [goN, bareT_go (by omega)], decide_eq_true hij, Bool.true_and, ← decide_not]
    apply decide_eq_decide.2
    omega
  have e4 : decide (((bothF p (eAt t i) (eAt t j)).length : Int) > 0) = decide ((bothF p (eAt t i) (eAt t j)).length > 0) := by
    apply decide_eq_decide.2; omega
  rw [confB, cfB, e4, e1, e2, e3, Bool.not_not, Bool.and_assoc, Bool.and_assoc]
  congr 1
  exact Bool.and_comm _ _
theorem confAt_mem {p : PProg} {t : List Evt} {j : Nat} {x : Pr} : ∀ {i : Nat}, x ∈ confAt p t j i ↔ ∃ a, a < i ∧ confB p t a j = true ∧ x = ((a : Int), (j : Int))
  | 0 => ⟨fun h => (by cases h), fun ⟨a, h, _⟩ => (by omega)⟩
  | i + 1 => by
    rw [confAt, List.mem_append, confAt_mem]
    constructor
    · rintro (⟨a, h1, h2⟩ | h)
      · exact ⟨a, by omega, h2⟩
      · split at h
        · rename_i hc
          simp at h
          exact ⟨i, by omega, hc, h⟩
        · cases h
    · rintro ⟨a, h1, h2, h3⟩
      rcases Nat.lt_or_ge a i with h4 | h4
      · exact .inl ⟨a, h4, h2, h3⟩
      · obtain rfl : a = i := by omega
        right; rw [if_pos h2, h3]; simp
theorem confTo_mem {p : PProg} {t : List Evt} {x : Pr} : ∀ {n : Nat}, x ∈ confTo p t n ↔ ∃ b, b < n ∧ ∃ a, a < b ∧ confB p t a b = true ∧ x = ((a : Int), (b : Int))
  | 0 => ⟨fun h => (by cases h), fun ⟨a, h, _⟩ => (by omega)⟩
  | n + 1 => by
    rw [confTo, List.mem_append, confTo_mem, confAt_mem]
    constructor
    · rintro (⟨b, h1, h2⟩ | h)
      · exact ⟨b, by omega, h2⟩
      · exact ⟨n, by omega, h⟩
    · rintro ⟨b, h1, h2⟩
      rcases Nat.lt_or_ge b n with h4 | h4
      · exact .inl ⟨b, h4, h2⟩
      · obtain rfl : b = n := by omega
        exact .inr h2
theorem confAt_nodup {p : PProg} {t : List Evt} {j : Nat} : ∀ i, (confAt p t j i).Nodup
  | 0 => List.nodup_nil
  | i + 1 => by
    rw [confAt, List.nodup_append]
    refine ⟨confAt_nodup i, by split <;> simp, fun x hx y hy => ?_⟩
    obtain ⟨a, h1, _, rfl⟩ := confAt_mem.1 hx
    split at hy
    · simp at hy; subst hy
      intro e; simp at e; omega
    · cases hy
theorem confTo_nodup {p : PProg} {t : List Evt} : ∀ n, (confTo p t n).Nodup
  | 0 => List.nodup_nil
  | n + 1 => by
    rw [confTo, List.nodup_append]
    refine ⟨confTo_nodup n, confAt_nodup n, fun x hx y hy => ?_⟩
    obtain ⟨b, h1, a, _, _, rfl⟩ := confTo_mem.1 hx
    obtain ⟨c, _, _, rfl⟩ := confAt_mem.1 hy
    intro e; simp at e; omega
theorem conf_eq {p : PProg} {t : List Evt} (h : fitF p t = 0) : confL p t = refConf p t := by
  rw [confL, if_pos h]
  refine sortP_eq (confTo_nodup _) (gridG_sorted _) (fun x => ?_)
  rw [confTo_mem, refConf, gridG_mem]
  constructor
  · rintro ⟨b, h1, a, h2, h3, h4⟩
    exact ⟨a, by omega, b, h1, h2, by rw [← conf_cf h h2 h1]; exact h3, h4⟩
  · rintro ⟨a, h1, b, h2, h3, h4, h5⟩
    exact ⟨b, h2, a, h3, by rw [conf_cf h h3 h2]; exact h4, h5⟩
/-- What uses say of a plain variable. -/
theorem use_gd {p : PProg} {t : List Evt} (hz : chkE t = 0) {v : Nat} (hv : v < 8) (hp : plainB p v = true) {l : Nat} (hl : l < 4) : ∀ i, i ≤ t.length → (usesTo p t (fun _ => use1) i v).gd.getD l false = alG t v l i
  | 0, _ => by
    show use1.gd.getD l false = true
    match l, hl with
    | 0, _ | 1, _ | 2, _ | 3, _ => rfl
  | i + 1, hi => by
    have ih := use_gd hz hv hp hl i (by omega)
    have hr := chk_evt hz (i := i) (by omega)
    show (useF p (eAt t i) (heldTo t (eAt t i).go i) (usesTo p t (fun _ => use1) i) 8 v).gd.getD l false = _
    rw [useF, if_pos hv, pln_eq hr hv, if_pos hp, alG, ← ih]
    unfold useAt
    by_cases h0 : touF (eAt t i) 1 v = 0
    · rw [if_pos h0, h0]; simp
    · rw [if_neg h0]
      show (gdTo _ _ 4).getD l false = _
      rw [gdTo_get hl, if_pos hl]
      have : (touF (eAt t i) 1 (v : Int) == 0) = false := by simpa using h0
      rw [this, Bool.false_or]
theorem lkTo_gdR {t : List Evt} {v : Nat} {g : List Bool} (h : ∀ l, l < 4 → g.getD l false = alG t v l t.length) : ∀ n, n ≤ 4 → lkTo g n = gdR t v n
  | 0, _ => rfl
  | n + 1, hn => by rw [lkTo, gdR, lkTo_gdR h n (by omega), h n (by omega)]
theorem grd_eq {p : PProg} {t : List Evt} (h : fitF p t = 0) {v : Nat} (hv : v < p.vars.length) : grdF p t v = refGrd p t v := by
  have hf := fit_vars h
  have hpl : plainB p v = !(p.vars.getD v var0).atomic := by
    rw [plainB, Bool.eq_iff_iff]
    simp
    omega
  rw [grdF, refGrd, hpl]
  cases hat : (p.vars.getD v var0).atomic with
  | true => rfl
  | false =>
    rw [if_neg (by decide), if_pos (by decide)]
    exact lkTo_gdR (fun l hl => use_gd hf.2 (by omega) (by rw [hpl, hat]; rfl) hl _ (Nat.le_refl _)) 4 (Nat.le_refl _)
theorem grds_map {p : PProg} {t : List Evt} : ∀ n, grdsTo p t n = (List.range n).map (refGrd p t)
  | 0 => rfl
  | n + 1 => by rw [grdsTo, grds_map n, List.range_succ, List.map_append]; rfl
theorem guards_eq {p : PProg} {t : List Evt} (h : fitF p t = 0) : guardsL p t = grdsTo p t p.vars.length := by
  rw [guardsL, if_pos h, grds_map]
  refine List.map_congr_left (fun v hv => ?_)
  exact grd_eq h (by simpa using hv)
/-- How who and first go together. -/
def whoI (f : Int) (s : Bool) (w : List Int) : Prop := w.length = 6 ∧ ((f = -1 ∧ s = false ∧ ∀ g, g < 6 → w.getD g 0 = 0) ∨ (0 ≤ f ∧ f < 6 ∧ w.getD f.toNat 0 = 1 ∧ (s = true ↔ ∃ g : Nat, g < 6 ∧ (g : Int) ≠ f ∧ w.getD g 0 = 1)))
theorem who_step {f : Int} {s : Bool} {w : List Int} (h : whoI f s w) {go : Int} (hg : 0 ≤ go ∧ go < 6) : whoI (if f < 0 then go else f) (s || go != (if f < 0 then go else f)) (w.set go.toNat 1) := by
  obtain ⟨hl, h⟩ := h
  refine ⟨by rw [List.length_set]; exact hl, .inr ?_⟩
  have hset : ∀ j, j < 6 → (w.set go.toNat 1).getD j 0 = if go.toNat = j then 1 else w.getD j 0 := fun j hj => by
    simp only [List.getD_eq_getElem?_getD, List.getElem?_set, hl]
    split
    · rename_i e; subst e; rw [if_pos hj]; rfl
    · rfl
  rcases h with ⟨h1, h2, h3⟩ | ⟨h1, h2, h3, h4⟩
  · rw [if_pos (by omega), h2]
    refine ⟨hg.1, hg.2, by rw [hset _ (by omega), if_pos rfl], ?_⟩
    simp only [Bool.false_or, bne_self_eq_false, Bool.false_eq_true, false_iff]
    rintro ⟨g, h5, h6, h7⟩
    rw [hset g h5, if_neg (by omega), h3 g h5] at h7
    cases h7
  · rw [if_neg (by omega)]
    refine ⟨h1, h2, ?_, ?_⟩
    · rw [hset _ (by omega)]
      split
      · rfl
      · exact h3
    · rw [Bool.or_eq_true, h4, bne_iff_ne]
      constructor
      · rintro (⟨g, h5, h6, h7⟩ | h5)
        · refine ⟨g, h5, h6, ?_⟩
          rw [hset g h5]
          split
          · rfl
          · exact h7
        · exact ⟨go.toNat, by omega, by omega, by rw [hset _ (by omega), if_pos rfl]⟩
      · rintro ⟨g, h5, h6, h7⟩
        rw [hset g h5] at h7
        split at h7
        · right; omega
        · exact .inl ⟨g, h5, h6, h7⟩
theorem use_who {p : PProg} {t : List Evt} (hz : chkE t = 0) {v : Nat} (hv : v < 8) (hp : plainB p v = true) : ∀ i, i ≤ t.length → whoI (fsTo t v i).1 (fsTo t v i).2.1 (usesTo p t (fun _ => use1) i v).who ∧ (usesTo p t (fun _ => use1) i v).wr = (fsTo t v i).2.2
  | 0, _ => ⟨⟨rfl, .inl ⟨rfl, rfl, fun g hg => by
      show use1.who.getD g 0 = 0
      match g, hg with
      | 0, _ | 1, _ | 2, _ | 3, _ | 4, _ | 5, _ => rfl⟩⟩, rfl⟩
  | i + 1, hi => by
    obtain ⟨ih1, ih2⟩ := use_who (p := p) hz hv hp i (by omega)
    have hr := chk_evt hz (i := i) (by omega)
    have hgo := (chk_right hz).2 i (by omega)
    have e : usesTo p t (fun _ => use1) (i + 1) v = useAt (usesTo p t (fun _ => use1) i v) (touF (eAt t i) 1 v) (eAt t i).go.toNat (heldTo t (eAt t i).go i) := by
      show useF p (eAt t i) (heldTo t (eAt t i).go i) (usesTo p t (fun _ => use1) i) 8 v = _
      rw [useF, if_pos hv, pln_eq hr hv, if_pos hp]
    rw [e, fsTo]
    unfold useAt
    by_cases h0 : touF (eAt t i) 1 v = 0
    · rw [if_pos h0, if_pos h0]
      exact ⟨ih1, ih2⟩
    · rw [if_neg h0, if_neg h0]
      exact ⟨who_step ih1 hgo, by rw [ih2]⟩
theorem who_none {p : PProg} {t : List Evt} (hz : chkE t = 0) {v : Nat} (hv : v < 8) (hp : plainB p v = false) : ∀ i, i ≤ t.length → usesTo p t (fun _ => use1) i v = use1
  | 0, _ => rfl
  | i + 1, hi => by
    have ih := who_none (p := p) hz hv hp i (by omega)
    have hr := chk_evt hz (i := i) (by omega)
    show useF p (eAt t i) (heldTo t (eAt t i).go i) (usesTo p t (fun _ => use1) i) 8 v = _
    rw [useF, if_pos hv, pln_eq hr hv, hp, if_neg (by decide), useAt, if_pos rfl, ih]
theorem who_sum {f : Int} {s : Bool} {w : List Int} (h : whoI f s w) (hw : okW w) : decide (sumW w 6 > 1) = s := by
  obtain ⟨_, h⟩ := h
  have w0 := hw 0; have w1 := hw 1; have w2 := hw 2; have w3 := hw 3; have w4 := hw 4; have w5 := hw 5
  have hsum : sumW w 6 = w.getD 0 0 + w.getD 1 0 + w.getD 2 0 + w.getD 3 0 + w.getD 4 0 + w.getD 5 0 := by simp [sumW]
  rcases h with ⟨_, h2, h3⟩ | ⟨h1, h2, h3, h4⟩
  · have := h3 0 (by omega); have := h3 1 (by omega); have := h3 2 (by omega); have := h3 3 (by omega); have := h3 4 (by omega); have := h3 5 (by omega)
    rw [h2, hsum, decide_eq_false_iff_not]; omega
  · have hf : f = 0 ∨ f = 1 ∨ f = 2 ∨ f = 3 ∨ f = 4 ∨ f = 5 := by omega
    cases hs : s with
    | true =>
      obtain ⟨g, g1, g2, g3⟩ := h4.1 hs
      have hg : g = 0 ∨ g = 1 ∨ g = 2 ∨ g = 3 ∨ g = 4 ∨ g = 5 := by omega
      rw [hsum, decide_eq_true_eq]
      rcases hf with rfl | rfl | rfl | rfl | rfl | rfl <;> rcases hg with rfl | rfl | rfl | rfl | rfl | rfl <;> first | exact absurd rfl g2 | (simp only [Int.toNat_zero, Int.toNat_one, Int.reduceToNat] at h3; omega)
    | false =>
      have hno : ∀ g : Nat, g < 6 → (g : Int) ≠ f → w.getD g 0 = 0 := fun g g1 g2 => by
        rcases hw g with h5 | h5
        · exact h5
        · exact absurd (h4.2 ⟨g, g1, g2, h5⟩) (by rw [hs]; decide)
      have n0 := hno 0 (by omega); have n1 := hno 1 (by omega); have n2 := hno 2 (by omega); have n3 := hno 3 (by omega); have n4 := hno 4 (by omega); have n5 := hno 5 (by omega)
      clear h4 hno
      rw [hsum, decide_eq_false_iff_not]
      rcases hf with rfl | rfl | rfl | rfl | rfl | rfl <;> simp only [Int.toNat_zero, Int.toNat_one, Int.reduceToNat] at h3 <;> omega
theorem sus_eq {p : PProg} {t : List Evt} (h : fitF p t = 0) {v : Nat} (hv : v < p.vars.length) : susB p t v = rsB p t v := by
  have hf := fit_vars h
  rw [susB, rsB, ← grd_eq h hv]
  cases hp : plainB p v with
  | true =>
    obtain ⟨h1, h2⟩ := use_who hf.2 (by omega : v < 8) hp t.length (Nat.le_refl _)
    have hat : (p.vars.getD v var0).atomic = false := by
      simp only [plainB, Bool.and_eq_true, Bool.not_eq_true', Int.toNat_natCast] at hp
      exact hp.2
    rw [who_sum h1 (usesU_w p t v), h2, grdF, hat, if_neg (by decide), Bool.true_and]
    congr 1
  | false =>
    have e := who_none hf.2 (by omega : v < 8) hp t.length (Nat.le_refl _)
    have : sumW (usesU p t v).who 6 = 0 := by rw [show usesU p t v = use1 from e]; rfl
    rw [this]; rfl
theorem susTo_eq {p : PProg} {t : List Evt} (h : fitF p t = 0) : ∀ n, n ≤ p.vars.length → susTo p t n = rsTo p t n
  | 0, _ => rfl
  | n + 1, hn => by rw [susTo, rsTo, susTo_eq h n (by omega), sus_eq h (by omega)]
theorem raceGuardsLaw_ac (g : Bool) (p : PProg) (t : List Evt) : AC Tryz.prog T tysN 5 [encProg p, evts g t] [] (.bool true) [] := by
 refine AC_intro hT Tryz.func5 rfl rfl (Nat.le_of_ble_eq_true rfl) ?_
 refine sq (rg [] rfl ?_)
 refine sq (rgs [CG.pure (.tup [prs false (confL p t), .int (fitF p t)])] rfl ?_ ?_)
 ·have h1 := conf_ac g p t
  simp only [holdsC, under, CG.pure]
  repeat' with_reducible refine And.intro ?_ ?_
  all_goals (try with_reducible intros)
  all_goals (first | exact trivial | assumption | omega | exact h1 | (simp; done) | grind)
 refine sq (rgs [CG.pure (.tup [intss false (guardsL p t), .int (fitF p t)])] rfl ?_ ?_)
 ·have h1 := guards_ac g p t
  simp only [holdsC, under, CG.pure]
  repeat' with_reducible refine And.intro ?_ ?_
  all_goals (try with_reducible intros)
  all_goals (first | exact trivial | assumption | omega | exact h1 | (simp; done) | grind)
 refine sq (rgs [CG.pure (.tup [ints false (susL p t), .int (fitF p t)])] rfl ?_ ?_)
 ·have h1 := suspects_ac g p t
  simp only [holdsC, under, CG.pure]
  repeat' with_reducible refine And.intro ?_ ?_
  all_goals (try with_reducible intros)
  all_goals (first | exact trivial | assumption | omega | exact h1 | (simp; done) | grind)
 refine sq (rgs [CG.pure (.int (fitF p t))] rfl ?_ ?_)
 ·have h1 := fit_ac g p t
  simp only [holdsC, under, CG.pure]
  repeat' with_reducible refine And.intro ?_ ?_
  all_goals (try with_reducible intros)
  all_goals (first | exact trivial | assumption | omega | exact h1 | (simp; done) | grind)
 refine sq (sq (rgs [CG.pure (.bool true)] rfl ?_ ?_))
 ·have h1 := speaks_ac ()
  simp only [holdsC, under, CG.pure]
  repeat' with_reducible refine And.intro ?_ ?_
  all_goals (try with_reducible intros)
  all_goals (first | exact trivial | assumption | omega | exact h1 | (simp; done) | grind)
 refine cd rfl (fun h5 => ?_) (fun h5 => ?_)
 ·exfalso
  have e := h5
  simp at e
 ·refine sk (sq (sq (rg [] rfl ?_)))
  refine cd rfl (fun h7 => ?_) (fun h7 => ?_)
  ·have hbad : fitF p t ≠ 0 := by simpa using h7
   refine sq (rg [] rfl ?_)
   refine WP.ret ?_
   change Fin ..
   refine fin1 hT (by rfl) ?_
   rw [confL, guardsL, susL, if_neg hbad, if_neg hbad, if_neg hbad]; rfl
  ·have hz : fitF p t = 0 := by simpa using h7
   have hv := fit_vars hz
   refine sk (sq (rgs [CG.pure (prs false (confL p t)), CG.pure (.bool true), CG.pure (intss false (guardsL p t)), CG.pure (.bool true), CG.pure (ints false (susL p t)), CG.pure (.bool true)] rfl ?_ ?_))
   ·have h1 := rconf_ac g p t hv.2 hv.1
    rw [← conf_eq hz] at h1
    have h2 := same_ac false false (confL p t) (confL p t)
    rw [decide_eq_true rfl] at h2
    have h3 := rguards_ac g p t hv.2 hv.1
    rw [← guards_eq hz] at h3
    have h4 := sameRows_ac false false (guardsL p t) (guardsL p t)
    rw [decide_eq_true rfl] at h4
    have h5 := rsus_ac g p t hv.2 hv.1
    rw [← susTo_eq hz _ (Nat.le_refl _), show susTo p t p.vars.length = susL p t by rw [susL, if_pos hz]] at h5
    have h6 := sameInts_ac false false (susL p t) (susL p t)
    rw [decide_eq_true rfl] at h6
    simp only [holdsC, under, CG.pure]
    repeat' with_reducible refine And.intro ?_ ?_
    all_goals (try with_reducible intros)
    all_goals (first | exact trivial | assumption | omega | exact h1 | exact h2 | exact h3 | exact h4 | exact h5 | exact h6 | (simp; done) | grind)
   refine WP.ret ?_
   change Fin ..
   exact fin1 hT (by rfl) rfl
end Go.Ab


/- What arguments read as; the program's facts for rows. -/
set_option autoImplicit false
set_option maxRecDepth 20000
set_option linter.unusedVariables false
namespace Go.Ab
open Go.Proofs Go.ChangeShapes Go.WideShapes Go.ChangeAt Go.RowKit
theorem tryOwn : ownKnob Tryz.prog.godebug = none := by kernel_rfl
theorem tryLaid : laidOutB Tryz.prog = true := by kernel_rfl
theorem uI64 : Tryz.prog.underlying 2 = some (.int .i64) := by kernel_rfl
theorem uInt : Tryz.prog.underlying 3 = some (.int .i64) := by kernel_rfl
theorem uBool : Tryz.prog.underlying 4 = some .bool := by kernel_rfl
theorem uOp : Tryz.prog.underlying 68 = some (.int .i64) := by kernel_rfl
theorem uInts : Tryz.prog.underlying 23 = some (.slice 3) := by kernel_rfl
theorem uEvts : Tryz.prog.underlying 27 = some (.slice 73) := by kernel_rfl
theorem uVars : Tryz.prog.underlying 22 = some (.slice 101) := by kernel_rfl
theorem uFuns : Tryz.prog.underlying 24 = some (.slice 166) := by kernel_rfl
theorem uInss : Tryz.prog.underlying 163 = some (.slice 162) := by kernel_rfl
theorem uSels : Tryz.prog.underlying 164 = some (.slice 221) := by kernel_rfl
theorem uCases : Tryz.prog.underlying 219 = some (.slice 223) := by kernel_rfl
def Rng (n : Int) : Prop := IntKind.i64.min ≤ n ∧ n ≤ IntKind.i64.max
theorem decInt : Dec Tryz.prog T tysN 3 (fun n : Int => .int n) Rng := Dec.int uInt rfl
theorem decI64 : Dec Tryz.prog T tysN 2 (fun n : Int => .int n) Rng := Dec.int uI64 rfl
theorem decOp : Dec Tryz.prog T tysN 68 (fun n : Int => .int n) Rng := Dec.int uOp rfl
theorem decBool : Dec Tryz.prog T tysN 4 (fun b : Bool => .bool b) (fun _ => True) := Dec.bool uBool rfl
theorem decTch : Dec Tryz.prog T tysN 70 encTch (fun _ => True) :=
  (Dec.struct (t := 70) hT (show (T 70).kind = .struct [3, 3, 4] from rfl) (DecL.cons decInt (DecL.cons decInt (DecL.cons decBool DecL.nil)))).map (fun x => ⟨x.1, x.2.1, x.2.2.1⟩) (fun _ => rfl) (fun _ _ => trivial)
theorem decTs : Dec Tryz.prog T tysN 71 encTs (fun _ => True) :=
  (Dec.array hT tch0 (show (T 71).kind = .array 6 70 from rfl) decTch).map (fun l => l) (fun _ => rfl) (fun _ _ => trivial)
theorem decEvt : Dec Tryz.prog T tysN 73 encE (fun e => Rng e.tag) :=
  (Dec.struct (t := 73) hT (show (T 73).kind = .struct [3, 3, 3, 68, 3, 2, 2, 71, 3] from rfl) (DecL.cons decInt (DecL.cons decInt (DecL.cons decInt (DecL.cons decOp (DecL.cons decInt (DecL.cons decI64 (DecL.cons decI64 (DecL.cons decTs (DecL.cons decInt DecL.nil)))))))))).map (fun x => ⟨x.1, x.2.1, x.2.2.1, x.2.2.2.1, x.2.2.2.2.1, x.2.2.2.2.2.1, x.2.2.2.2.2.2.1, x.2.2.2.2.2.2.2.1, x.2.2.2.2.2.2.2.2.1⟩) (fun _ => rfl) (fun x hx => hx.2.2.2.2.2.2.1)
theorem decInts : Dec Tryz.prog T tysN 23 (fun l : List Int => ints false l) (fun l => ∀ n ∈ l, Rng n) := (Dec.slice hT 0 uInts rfl (Nat.le_of_ble_eq_true rfl) decInt).map (fun l => l) (fun _ => rfl) (fun _ h => h)
theorem decVar : Dec Tryz.prog T tysN 101 encVar (fun v => Rng v.init) :=
  (Dec.struct (t := 101) hT (show (T 101).kind = .struct [4, 2] from rfl) (DecL.cons decBool (DecL.cons decI64 DecL.nil))).map (fun x => ⟨x.1, x.2.1⟩) (fun _ => rfl) (fun x hx => hx.2.1)
def rngIns (x : PIns) : Prop := Rng x.op ∧ Rng x.a ∧ Rng x.b ∧ Rng x.c ∧ Rng x.n
theorem decIns : Dec Tryz.prog T tysN 162 encIns rngIns :=
  (Dec.struct (t := 162) hT (show (T 162).kind = .struct [68, 3, 3, 3, 2] from rfl) (DecL.cons decOp (DecL.cons decInt (DecL.cons decInt (DecL.cons decInt (DecL.cons decI64 DecL.nil)))))).map (fun x => ⟨x.1, x.2.1, x.2.2.1, x.2.2.2.1, x.2.2.2.2.1⟩) (fun _ => rfl) (fun x hx => ⟨hx.1, hx.2.1, hx.2.2.1, hx.2.2.2.1, hx.2.2.2.2.1⟩)
def rngCase (x : PCase) : Prop := Rng x.chan ∧ Rng x.reg ∧ Rng x.to
theorem decCase : Dec Tryz.prog T tysN 223 encCase rngCase :=
  (Dec.struct (t := 223) hT (show (T 223).kind = .struct [4, 3, 3, 3] from rfl) (DecL.cons decBool (DecL.cons decInt (DecL.cons decInt (DecL.cons decInt DecL.nil))))).map (fun x => ⟨x.1, x.2.1, x.2.2.1, x.2.2.2.1⟩) (fun _ => rfl) (fun x hx => ⟨hx.2.1, hx.2.2.1, hx.2.2.2.1⟩)
def rngSel (x : PSel) : Prop := (∀ c ∈ x.cases, rngCase c) ∧ Rng x.els
theorem decSel : Dec Tryz.prog T tysN 221 encSel rngSel :=
  (Dec.struct (t := 221) hT (show (T 221).kind = .struct [219, 3] from rfl) (DecL.cons (Dec.slice hT case0 uCases rfl (Nat.le_of_ble_eq_true rfl) decCase) (DecL.cons decInt DecL.nil))).map (fun x => ⟨x.1, x.2.1⟩) (fun _ => rfl) (fun x hx => ⟨hx.1, hx.2.1⟩)
def rngFun (x : PFun) : Prop := Rng x.params ∧ Rng x.regs ∧ (∀ c ∈ x.code, rngIns c) ∧ ∀ s ∈ x.sels, rngSel s
theorem decFun : Dec Tryz.prog T tysN 166 encFun rngFun :=
  (Dec.struct (t := 166) hT (show (T 166).kind = .struct [3, 3, 163, 164] from rfl) (DecL.cons decInt (DecL.cons decInt (DecL.cons (Dec.slice hT ins0 uInss rfl (Nat.le_of_ble_eq_true rfl) decIns) (DecL.cons (Dec.slice hT sel0 uSels rfl (Nat.le_of_ble_eq_true rfl) decSel) DecL.nil))))).map (fun x => ⟨x.1, x.2.1, x.2.2.1, x.2.2.2.1⟩) (fun _ => rfl) (fun x hx => ⟨hx.1, hx.2.1, hx.2.2.1, hx.2.2.2.1⟩)
def rngProg (x : PProg) : Prop := (∀ v ∈ x.vars, Rng v.init) ∧ Rng x.locks ∧ (∀ c ∈ x.chans, Rng c) ∧ ∀ f ∈ x.funcs, rngFun f
theorem decProg : Dec Tryz.prog T tysN 26 encProg rngProg :=
  (Dec.struct (t := 26) hT (show (T 26).kind = .struct [22, 3, 23, 24] from rfl) (DecL.cons (Dec.slice hT var0 uVars rfl (Nat.le_of_ble_eq_true rfl) decVar) (DecL.cons decInt (DecL.cons decInts (DecL.cons (Dec.slice hT fun0 uFuns rfl (Nat.le_of_ble_eq_true rfl) decFun) DecL.nil))))).map (fun x => ⟨x.1, x.2.1, x.2.2.1, x.2.2.2.1⟩) (fun _ => rfl) (fun x hx => ⟨hx.1, hx.2.1, hx.2.2.1, hx.2.2.2.1⟩)
theorem arg_int {H : Type} {eh : TypeId × Value → H} {W : World} {base : Nat} {v : Value} {d : DataW H} {p : List MemPlace} (h : DataW.Trod eh Tryz.prog W 0 (fun _ => true) true 3 v d p) (hok : Value.okWide Tryz.prog W .any base 3 v) : ∃ n : Int, Rng n ∧ RepV T tysN (memI W) noPl (.int n) v := by
  obtain ⟨n, rfl, rfl, rfl, wn⟩ := open_int uInt hok h
  simp only [Lit.wf, Bool.and_eq_true, decide_eq_true_eq] at wn
  exact ⟨n, wn, .one ⟨[_], .v rfl, rfl⟩⟩
theorem arg_evts {H : Type} {eh : TypeId × Value → H} {W : World} {base : Nat} {v : Value} {d : DataW H} {p : List MemPlace} (h : DataW.Trod eh Tryz.prog W 0 (fun _ => true) true 27 v d p) (hok : Value.okWide Tryz.prog W .any base 27 v) : ∃ l : List Evt, (∀ e ∈ l, Rng e.tag) ∧ RepV T tysN (memI W) noPl (evts false l) v := by
  obtain ⟨fuel, h⟩ := h
  obtain ⟨l, hq, hl⟩ := dec_slice hT evt0 uEvts (Nat.le_of_ble_eq_true rfl) decEvt h hok
  exact ⟨l, hq, hl⟩
theorem arg_ints {H : Type} {eh : TypeId × Value → H} {W : World} {base : Nat} {v : Value} {d : DataW H} {p : List MemPlace} (h : DataW.Trod eh Tryz.prog W 0 (fun _ => true) true 23 v d p) (hok : Value.okWide Tryz.prog W .any base 23 v) : ∃ l : List Int, (∀ e ∈ l, Rng e) ∧ RepV T tysN (memI W) noPl (ints false l) v := by
  obtain ⟨fuel, h⟩ := h
  obtain ⟨l, hq, hl⟩ := dec_slice hT 0 uInts (Nat.le_of_ble_eq_true rfl) decInt h hok
  exact ⟨l, hq, hl⟩
theorem arg_prog {H : Type} {eh : TypeId × Value → H} {W : World} {base : Nat} {v : Value} {d : DataW H} {p : List MemPlace} (h : DataW.Trod eh Tryz.prog W 0 (fun _ => true) true 26 v d p) (hok : Value.okWide Tryz.prog W .any base 26 v) : ∃ x : PProg, rngProg x ∧ RepV T tysN (memI W) noPl (encProg x) v := by
  obtain ⟨fuel, h⟩ := h
  obtain ⟨x, hq, hl, _⟩ := decProg H eh W fuel _ d p h
  obtain ⟨cs, rfl⟩ := okWide_agg hT (show (T 26).kind = .struct [22, 3, 23, 24] from rfl) hok
  exact ⟨x, hq, .one ⟨(Value.agg cs).cells.toList, hl, by simp [packV, encProg, stru, Value.cells]⟩⟩
theorem reps1 {W : World} {a : AV} {v0 : Value} (h0 : RepV T tysN (memI W) noPl a v0) :
    ∀ (i : Nat) (x : AV) (v : Value), [a][i]? = some x → (#[v0] : Array Value).toList[i]? = some v → RepV T tysN (memI W) noPl x v := by
  intro i x v hx hv
  match i with
  | 0 => simp at hx hv; subst hx hv; exact h0
  | 1 => first | (simp at hx; done) | (simp at hx hv; subst hx hv; exact h1)
  | 2 => first | (simp at hx; done) | (simp at hx hv; subst hx hv; exact h2)
  | i + 3 => simp at hx
theorem reps2 {W : World} {a b : AV} {v0 v1 : Value} (h0 : RepV T tysN (memI W) noPl a v0) (h1 : RepV T tysN (memI W) noPl b v1) :
    ∀ (i : Nat) (x : AV) (v : Value), [a, b][i]? = some x → (#[v0, v1] : Array Value).toList[i]? = some v → RepV T tysN (memI W) noPl x v := by
  intro i x v hx hv
  match i with
  | 0 => simp at hx hv; subst hx hv; exact h0
  | 1 => first | (simp at hx; done) | (simp at hx hv; subst hx hv; exact h1)
  | 2 => first | (simp at hx; done) | (simp at hx hv; subst hx hv; exact h2)
  | i + 3 => simp at hx
theorem reps3 {W : World} {a b c : AV} {v0 v1 v2 : Value} (h0 : RepV T tysN (memI W) noPl a v0) (h1 : RepV T tysN (memI W) noPl b v1) (h2 : RepV T tysN (memI W) noPl c v2) :
    ∀ (i : Nat) (x : AV) (v : Value), [a, b, c][i]? = some x → (#[v0, v1, v2] : Array Value).toList[i]? = some v → RepV T tysN (memI W) noPl x v := by
  intro i x v hx hv
  match i with
  | 0 => simp at hx hv; subst hx hv; exact h0
  | 1 => first | (simp at hx; done) | (simp at hx hv; subst hx hv; exact h1)
  | 2 => first | (simp at hx; done) | (simp at hx hv; subst hx hv; exact h2)
  | i + 3 => simp at hx
end Go.Ab


/- RaceGuards: the row. -/
set_option autoImplicit false
set_option maxRecDepth 20000
set_option linter.unusedVariables false
namespace Go.Proofs.YtkdnjnbocjpmfaaGreat
open Go.Ab Go.ChangeShapes Go.WideShapes Go.ChangeAt Go.RowKit
set_option maxRecDepth 100000 in
theorem raceGuards_lifted (os : Os) (started : os.Started) (H : Type) (enc : TypeId × Value → H) :
    ReturnsInHanded {} Tryz.checked os 5 .any (Rows.raceGuardsSpec.pre6 enc Tryz.prog Tryz.f5 Rows.raceGuardsRow.domain false) (Rows.raceGuardsSpec.post enc Tryz.prog Tryz.f5 false true false false) := by
  refine returnsInHanded_of_change_sized (C := Tryz.checked) tryOwn started (by kernel_rfl) Tryz.func5
    (ChangeSpec.witness6 (enc := enc) (C := Tryz.checked) false ⟨#[], #[.agg #[.slice none 0 0, .int .i64 0, .slice none 0 0, .slice none 0 0], .slice none 0 0], []⟩ 8 (by kernel_rfl) (by kernel_rfl) (by kernel_rfl) (by kernel_rfl)) ?_
  intro W base args ds gs before hval0 hW _ hz _
  have hval : ∀ (j : Nat) t v, Tryz.f5.params[j]? = some t → args[j]? = some v → Value.okWide Tryz.prog W .any base t v := hval0
  have hW' : DataW.Whole enc Tryz.prog Tryz.f5.params.toList Rows.raceGuardsSpec.vars false W args.toList ds gs before := hW
  obtain ⟨p, q, hA0, hV, _, _, _⟩ := hW
  have hA : DataW.TrodAll enc Tryz.prog W 0 (fun _ => true) true Tryz.f5.params.toList args.toList ds p := hA0
  rw [Tryz.params5] at hA hval
  obtain ⟨v0, v1, d0, d1, p0, p1, rfl, rfl, rfl, h0, h1⟩ := trodAll_two hA
  obtain ⟨a0, q0, r0⟩ := arg_prog h0 (hval 0 26 v0 rfl rfl)
  obtain ⟨a1, q1, r1⟩ := arg_evts h1 (hval 1 27 v1 rfl rfl)
  exact law_calls (tb := 4) tryLaid (by kernel_rfl) (by rfl) uBool rfl (fun ds hd => by match ds, hd with | [x0, x1], _ => rfl) hW' (raceGuardsLaw_ac false a0 a1) rfl (reps2 r0 r1)
theorem raceGuards_holds : Rows.RaceGuardsSaid :=
  OpenClaim.holds_of_wide 5 Tryz.f5 rfl rfl rfl rfl rfl rfl rfl ⟨rfl, rfl, rfl, rfl, rfl⟩ rfl rfl rfl rfl rfl (by kernel_rfl) Tryz.func5 (by kernel_rfl)
    (of_decide_eq_true (by kernel_rfl)) (by unfold Func.isWrapper; first | (rw [if_pos (by decide +kernel)]; kernel_rfl) | (rw [if_neg (by decide +kernel)]; exact ⟨rfl, rfl⟩))
    (fun os started H enc _ => raceGuards_lifted os started H enc)
end Go.Proofs.YtkdnjnbocjpmfaaGreat

