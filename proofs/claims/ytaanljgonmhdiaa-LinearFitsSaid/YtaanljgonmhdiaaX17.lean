/- Part 18 of a proof of a statement about the given program: an abstract machine over the model, proved sound, and contracts of the functions that the statement reaches; the last part proves the statement, for every input, with no condition. -/
import Derived.Test.YtaanljgonmhdiaaX16
import Derived.Test.YtaanljgonmhdiaaX15
import Derived.ProofKit
import Derived.SizedLaws
import Derived.Lib.RowBridge
import Derived.Test.YtaanljgonmhdiaaRows
set_option linter.unusedSimpArgs false
set_option linter.unusedVariables false
/- The reference's search, walked. -/
set_option autoImplicit false
set_option maxRecDepth 20000
set_option linter.unusedSimpArgs false
set_option linter.unusedVariables false
namespace Go.Ab
open Go.Proofs
abbrev TD := List (Nat × Th)
abbrev RR := (List Int × Bool) × TD
def encS (p : Nat × Th) : AV := stru 113 [.int p.1, encT p.2]
def s0 : Nat × Th := (0, ⟨0, []⟩)
abbrev triedO (d : TD) : Ob := cellsL 113 encS s0 d
def seaV (k : Int) (g : Bool) (h : List Cal) (tm : Bool) (L : Nat) : AV := stru 71 [.int k, cals g h, .bool tm, .own (.b 1) L 0 L none]
def seaOb (k : Int) (g : Bool) (h : List Cal) (tm : Bool) (L : Nat) : Ob := .cells ⟨71, 1, fun _ => seaV k g h tm L, 0⟩
def tryR (k : Int) (tm : Bool) (h : List Cal) (rec : TD → Nat → Th → RR) (m : Nat) (x : Th) : List Nat → TD → Option (List Int) × TD
  | [], d => (none, d)
  | i :: r, d => if mayR tm h m i then (if (doR k x (calAt h i)).2 then (if (rec d (m ||| 1 <<< i) (doR k x (calAt h i)).1).1.2 then (some ((i : Int) :: (rec d (m ||| 1 <<< i) (doR k x (calAt h i)).1).1.1), (rec d (m ||| 1 <<< i) (doR k x (calAt h i)).1).2) else tryR k tm h rec m x r (rec d (m ||| 1 <<< i) (doR k x (calAt h i)).1).2) else tryR k tm h rec m x r d) else tryR k tm h rec m x r d
def inT (d : TD) (m : Nat) (x : Th) : Bool := d.any fun p => p.1 == m && decide (p.2 = x)
def onR (k : Int) (tm : Bool) (h : List Cal) : Nat → TD → Nat → Th → RR
  | 0, d, _, _ => (([], false), d)
  | n + 1, d, m, x => if wholeB h m then (([], true), d) else if inT d m x then (([], false), d) else
    match tryR k tm h (onR k tm h n) m x (List.range' 0 h.length) d with
    | (some l, d') => ((l, true), d')
    | (none, d') => (([], false), d' ++ [(m, x)])
def capR : Nat → Nat
  | 0 => 0
  | n + 1 => 8 * capR n + 1
def RecOK (h : List Cal) (C : Nat) (rec : TD → Nat → Th → RR) : Prop := ∀ d m x, (rec d m x).2.length ≤ d.length + C ∧ (rec d m x).1.1.length ≤ 8
theorem try_len {k : Int} {tm : Bool} {h : List Cal} {C : Nat} {rec : TD → Nat → Th → RR} (hr : ∀ d m x, (rec d m x).2.length ≤ d.length + C) {m : Nat} {x : Th} : ∀ (l : List Nat) (d : TD), (tryR k tm h rec m x l d).2.length ≤ d.length + l.length * C
  | [], d => by simp [tryR]
  | i :: r, d => by
    have e : (i :: r).length * C = r.length * C + C := by simp [Nat.succ_mul]
    rw [e]
    have h1 := try_len (k := k) (tm := tm) (h := h) hr (m := m) (x := x) r d
    simp only [tryR]
    split
    · split
      · have h3 := hr d (m ||| 1 <<< i) (doR k x (calAt h i)).1
        split
        · simp only; omega
        · have h2 := try_len (k := k) (tm := tm) (h := h) hr (m := m) (x := x) r (rec d (m ||| 1 <<< i) (doR k x (calAt h i)).1).2
          omega
      · omega
    · omega
theorem onR_len {k : Int} {tm : Bool} {h : List Cal} (hl : h.length ≤ 8) : ∀ (n : Nat) (d : TD) (m : Nat) (x : Th), (onR k tm h n d m x).2.length ≤ d.length + capR n
  | 0, d, m, x => by simp [onR, capR]
  | n + 1, d, m, x => by
    have h1 := try_len (k := k) (tm := tm) (h := h) (onR_len (k := k) (tm := tm) hl n) (m := m) (x := x) (List.range' 0 h.length) d
    have h2 : h.length * capR n ≤ 8 * capR n := Nat.mul_le_mul_right _ hl
    simp only [List.length_range'] at h1
    simp only [onR, capR]
    split
    · simp only; omega
    · split
      · simp only; omega
      · split
        · rename_i e; rw [e] at h1; simp only at h1 ⊢; omega
        · rename_i e; rw [e] at h1; simp only [List.length_append, List.length_singleton] at h1 ⊢; omega
theorem try_path {k : Int} {tm : Bool} {h : List Cal} {m : Nat} {x : Th} {rec : TD → Nat → Th → RR} {c : Nat} (hr : ∀ i d x, i < h.length → m.testBit i = false → (rec d (m ||| 1 <<< i) x).1.1.length + 1 ≤ c) : ∀ (l : List Nat) (d : TD), (∀ i ∈ l, i < h.length) → ∀ o, (tryR k tm h rec m x l d).1 = some o → o.length ≤ c
  | [], d, _, o, e => by simp [tryR] at e
  | i :: r, d, hl, o, e => by
    have ih := fun d => try_path (k := k) (tm := tm) (x := x) hr r d (fun j hj => hl j (List.mem_cons_of_mem _ hj)) o
    simp only [tryR] at e
    split at e
    · rename_i hm
      have hb : m.testBit i = false := by simp only [mayR, Bool.and_eq_true, Bool.not_eq_true'] at hm; exact hm.1
      split at e
      · split at e
        · simp only [Option.some.injEq] at e
          subst e
          simpa using hr i d (doR k x (calAt h i)).1 (hl i (by simp)) hb
        · exact ih _ e
      · exact ih _ e
    · exact ih _ e
theorem onR_path {k : Int} {tm : Bool} {h : List Cal} : ∀ (n : Nat) (d : TD) (m : Nat) (x : Th), (onR k tm h n d m x).1.1.length ≤ opens h m
  | 0, d, m, x => by simp [onR]
  | n + 1, d, m, x => by
    simp only [onR]
    split
    · simp
    · split
      · simp
      · split
        · rename_i e
          exact try_path (k := k) (tm := tm) (h := h) (m := m) (x := x) (rec := onR k tm h n) (c := opens h m) (fun i d x hi hb => by have h1 := onR_path (k := k) (tm := tm) (h := h) n d (m ||| 1 <<< i) x; have h2 := opens_set hi hb; omega) (List.range' 0 h.length) d (fun i hi => by simp at hi; omega) _ (by rw [e])
        · simp
theorem doR_lenl (k : Int) (x : Th) (c : Cal) : (doR k x c).1.l.length ≤ x.l.length + 1 := by
  simp only [doR]
  repeat' split
  all_goals first | simp; done | (simp only [List.length_eraseIdx]; split <;> omega)
def OnRK (h : List Cal) (n : Nat) (d : TD) (m : Nat) (x : Th) : Prop := d.length + capR n ≤ 19173961 ∧ opens h m < n ∧ m < 256 ∧ x.l.length + opens h m ≤ 8
theorem noIds_S (p : Nat × Th) : noIds (encS p) = true := noIds_agg (fun i hi => by match i, hi with | 0, _ => rfl | 1, _ => exact noIds_T _)
theorem okIds_T (ids : List Id) (x : Th) : okIds ids (encT x) = true := okIds_agg (fun i hi => by match i, hi with | 0, _ | 1, _ => rfl)
theorem okIds_S (ids : List Id) (p : Nat × Th) : okIds ids (encS p) = true := okIds_agg (fun i hi => by match i, hi with | 0, _ => rfl | 1, _ => exact okIds_T _ _)
theorem ren_T (σ : Id → Id) (x : Th) : ren σ (encT x) = encT x := by simp only [encT, i64s, ren_stru, List.map, ren]
theorem ren_S (σ : Id → Id) (p : Nat × Th) : ren σ (encS p) = encS p := by simp only [encS, ren_stru, List.map, ren, ren_T]
theorem okO_S (ids : List Id) (d : TD) : okO ids (triedO d) := fun _ _ => okIds_S ids _
theorem renO_S (σ : Id → Id) (d : TD) : renO σ (triedO d) = triedO d := renO_list (ren_S σ)
theorem ren_sea {σ : Id → Id} {k : Int} {g : Bool} {h : List Cal} {tm : Bool} {L : Nat} (hs : σ (.b 1) = .b 1) : ren σ (seaV k g h tm L) = seaV k g h tm L := by
  simp only [seaV, ren_stru, List.map, ren, hs]
  rfl
theorem renO_sea {σ : Id → Id} {k : Int} {g : Bool} {h : List Cal} {tm : Bool} {L : Nat} (hs : σ (.b 1) = .b 1) : renO σ (seaOb k g h tm L) = seaOb k g h tm L := by
  simp only [seaOb, renO_cells1, ren_sea hs]
theorem fin_onR {k : Int} {g : Bool} {h : List Cal} {tm : Bool} {d : TD} {nt : Nat} {st : St} {r : List Int × Bool} {y : AV} (F : List (Id × Nat)) (hF : entF st F) (hF0 : lookF (.b 0) F = 0) (hF1 : lookF (.b 1) F = 0) (h6 : st.t 6 = some (.always, y)) (hy : Conv st.m (fun id => lookF id F) T y (ints false r.1)) (h7 : st.t 7 = some (.always, .bool r.2))
    (h0 : ∃ B, st.m (.b 0) = some (.cells B) ∧ B.ty = 71 ∧ B.n = 1 ∧ B.fz = 0 ∧ B.get 0 = seaV k g h tm d.length) (h1 : ∃ B, st.m (.b 1) = some (.cells B) ∧ B.ty = 113 ∧ B.n = d.length ∧ B.fz = 0 ∧ ∀ q, q < d.length → B.get q = encS (d.getD q s0)) : Fin T tysN nt 2 [.tmp 6, .tmp 7] (encRes r) [seaOb k g h tm d.length, triedO d] st := by
  obtain ⟨B, hB, e1, e2, e3, e4⟩ := h0
  obtain ⟨B1, hB1, f1, f2, f3, f4⟩ := h1
  obtain ⟨ty, n, get, fz⟩ := B
  simp only at e1 e2 e3 e4
  subst e1 e2 e3
  refine fin_mk hT F (ts := [(6, ints false r.1), (7, .bool r.2)]) (B' := [seaOb k g h tm d.length, triedO d]) hF ⟨⟨rfl, _, h6, hy⟩, ⟨rfl, _, h7, conv_eq rfl⟩, trivial⟩ ⟨⟨fun _ _ => rfl, .inl ⟨_, hB, _, _, rfl, Nat.le_refl _, by rw [hF0]; exact Nat.zero_le _, Nat.zero_le _, fun q hq => ?_⟩⟩, ob_list (okIds_S _) hB1 f1 f2 f3 hF1 f4, trivial⟩ rfl (by rfl) (by rfl)
  obtain rfl : q = 0 := by simp at hq; exact hq
  exact conv_eq e4
theorem sea_row {m : Id → Option Ob} {k : Int} {g : Bool} {h : List Cal} {tm : Bool} {L : Nat} {B : Blk} (hm : m (.b 1) = some (.cells B)) : dview m (seaV k g h tm L) = stru 71 [.int k, cals g h, .bool tm, .row B.ty false L (fun j => B.get (j + 0))] := by
  refine agg_ext (fun i => ?_)
  match i with
  | 0 | 1 | 2 => rfl
  | 3 => simp [dview, hm]; rfl
  | i + 4 => rfl
theorem dok_sea {m : Id → Option Ob} {k : Int} {g : Bool} {h : List Cal} {tm : Bool} {d : TD} (hm : m (.b 1) = some (.cells ⟨113, d.length, fun i => encS (d.getD i s0), 0⟩)) : dok m (seaV k g h tm d.length) := by
  intro i hi
  match i, hi with
  | 0, _ => rfl
  | 1, _ => rfl
  | 2, _ => rfl
  | 3, _ =>
    show dok m (.own (.b 1) d.length 0 d.length none)
    simp only [dok, hm]
    exact ⟨trivial, fun j hj => noIds_S _⟩
theorem inT_no {d : TD} {m : Nat} {x : Th} (h : ∀ q, q < d.length → ((d.getD q s0).1 == m && decide ((d.getD q s0).2 = x)) = false) : inT d m x = false := by
  rw [inT, List.any_eq_false]
  intro p hp
  obtain ⟨q, hq, rfl⟩ := List.getElem_of_mem hp
  have := h q hq
  simpa [List.getD_eq_getElem?_getD, hq] using this
theorem inT_yes {d : TD} {m : Nat} {x : Th} {q : Nat} (hq : q < d.length) (h : ((d.getD q s0).1 == m && decide ((d.getD q s0).2 = x)) = true) : inT d m x = true := by
  rw [inT, List.any_eq_true]
  refine ⟨d[q], List.getElem_mem hq, ?_⟩
  simpa [List.getD_eq_getElem?_getD, hq] using h
theorem cons_row {x : Int} {l : List Int} {z : AV} {j : Nat} (hj : j < 1 + l.length) : joinG 1 l.length (partG [(0, .int x)] z) (fun i => .int (l.getD i 0)) j = .int ((x :: l).getD j 0) := by
  cases j with
  | zero => rw [joinG_lt (by omega)]; rfl
  | succ j => rw [joinG_ge (by omega) (by omega)]; rfl
theorem onR_step (k : Int) (g : Bool) (h : List Cal) (hl : h.length ≤ 8) (tm : Bool) (n : Nat) (ih : ∀ (d : TD) (m : Nat) (x : Th), OnRK h n d m x → AC Try.prog T tysN 37 [.ptr (.b 0) 1 0 [], .int m, encT x] [seaOb k g h tm d.length, triedO d] (encRes (onR k tm h n d m x).1) [seaOb k g h tm (onR k tm h n d m x).2.length, triedO (onR k tm h n d m x).2]) (d : TD) (m : Nat) (x : Th) (hok : OnRK h (n + 1) d m x) : AC Try.prog T tysN 37 [.ptr (.b 0) 1 0 [], .int m, encT x] [seaOb k g h tm d.length, triedO d] (encRes (onR k tm h (n + 1) d m x).1) [seaOb k g h tm (onR k tm h (n + 1) d m x).2.length, triedO (onR k tm h (n + 1) d m x).2] := by
  refine AC_intro hT Try.func37 rfl rfl (Nat.le_of_ble_eq_true rfl) ?_
  obtain ⟨hd, hop, hm, hxl⟩ := hok
  have hwa := fun X => whole_ac k g h hl tm X m hm
  refine WP.seq ?_
  refine WP.reg hT hE [] rfl ?_ ?_
  · first | trivial | (simp [holdsC, under, slOk, slB, capEq] <;> grind)
  refine WP.seq ?_
  refine WP.seq ?_
  refine WP.reg hT hE [CG.pure (.bool (wholeB h m))] rfl ?_ ?_
  · refine ⟨⟨rfl, dok_sea rfl⟩, ?_⟩
    show AC Try.prog T tysN 53 [.rp 71 (dview _ (seaV k g h tm d.length)), .int m] [] _ []
    rw [sea_row rfl]
    exact hwa _
  refine WP.cond rfl (fun h1 => ?_) (fun h1 => ?_)
  · have hwh : wholeB h m = true := h1
    refine WP.seq ?_
    refine WP.reg hT hE [] rfl ?_ ?_
    · first | trivial | (simp [holdsC, under, slOk, slB, capEq] <;> grind)
    refine WP.ret ?_
    change Fin _ _ _ _ _ _ _ _
    have e : onR k tm h (n + 1) d m x = (([], true), d) := by simp [onR, hwh]
    rw [e]
    exact fin_onR [] trivial rfl rfl (by rfl) (by exact conv_nil_row (by decide)) (by rfl) (by exact ⟨_, rfl, rfl, rfl, rfl, rfl⟩) (by exact ⟨_, rfl, rfl, rfl, rfl, fun q hq => rfl⟩)
  · have hwh : wholeB h m = false := h1
    refine WP.skip ?_
    refine WP.seq ?_
    refine WP.seq ?_
    refine WP.reg hT hE [] rfl ?_ ?_
    · first | trivial | (simp [holdsC, under, slOk, slB, capEq] <;> grind)
    refine WP.block ?_
    refine WP.loop (α := Nat) (fun i => mkSt [(0, .ptr (.b 0) 1 0 []), (1, .int m), (5, .rp 74 (encT x)), (8, .int i)] [(.b 0, seaOb k g h tm d.length), (.b 1, triedO d)]) (fun i => i ≤ d.length ∧ ∀ q, q < i → ((d.getD q s0).1 == m && decide ((d.getD q s0).2 = x)) = false) (fun i => d.length - i) ?_ ?_
    · refine ⟨0, ?_, ?_⟩
      · exact ⟨Nat.zero_le _, fun q hq => by omega⟩
      · refine Ent.mk hT [(.s 5 0, 1)] ⟨⟨_, rfl, Nat.le_refl _⟩, trivial⟩ ⟨⟨rfl, _, rfl, by first | exact conv_eq rfl | (refine conv_eq ?_; rw [wrap_id (by omega) (by omega)]; simp; done) | (refine conv_eq ?_; simp; done)⟩, ⟨rfl, _, rfl, by first | exact conv_eq rfl | (refine conv_eq ?_; rw [wrap_id (by omega) (by omega)]; simp; done) | (refine conv_eq ?_; simp; done)⟩, ⟨rfl, _, rfl, conv_rpe rfl rfl (Nat.lt_succ_self 0) rfl rfl (noIds_T _)⟩, ⟨rfl, _, rfl, by first | exact conv_eq rfl | (refine conv_eq ?_; rw [wrap_id (by omega) (by omega)]; simp; done) | (refine conv_eq ?_; simp; done)⟩, trivial⟩ ⟨⟨fun _ _ => rfl, .inl ⟨_, rfl, _, _, rfl, Nat.le_refl _, Nat.zero_le _, Nat.zero_le _, fun q hq => conv_eq rfl⟩⟩, ob_list (okIds_S _) rfl rfl rfl rfl rfl (fun q hq => rfl), trivial⟩ rfl
    · rintro i ⟨hi, hno⟩
      refine WP.seq ?_
      refine WP.seq ?_
      refine WP.reg hT hE [] rfl ?_ ?_
      · first | trivial | (simp [holdsC, under, slOk, slB, capEq] <;> grind)
      refine WP.cond rfl (fun h4 => ?_) (fun h4 => ?_)
      · have hil : i < d.length := by simpa using h4
        have ene : (((d.getD i s0).1 : Int) == (m : Int)) = ((d.getD i s0).1 == m) := by rw [Bool.eq_iff_iff]; simp; omega
        have hsm := same_ac (d.getD i s0).2 x (by omega)
        refine WP.skip ?_
        refine WP.seq ?_
        refine WP.block ?_
        refine WP.seq ?_
        refine WP.drw hT hE hM [CG.pure (.bool (decide ((d.getD i s0).2 = x)))] rfl ?_ ?_
        · simp [holdsC, under, CG.pure]
          exact ⟨⟨hil, fun _ => hil⟩, fun _ => hsm⟩
        refine WP.cond rfl (fun h6 => ?_) (fun h6 => ?_)
        · change (bif (((d.getD i s0).1 : Int) == (m : Int)) then _ else false) = true at h6
          rw [band, ene] at h6
          refine WP.seq ?_
          refine WP.reg hT hE [] rfl ?_ ?_
          · first | trivial | (simp [holdsC, under, slOk, slB, capEq] <;> grind)
          refine WP.ret ?_
          change Fin _ _ _ _ _ _ _ _
          have e : onR k tm h (n + 1) d m x = (([], false), d) := by
            have : inT d m x = true := inT_yes hil h6
            simp [onR, hwh, this]
          rw [e]
          exact fin_onR [] trivial rfl rfl (by rfl) (by exact conv_nil_row (by decide)) (by rfl) (by exact ⟨_, rfl, rfl, rfl, rfl, rfl⟩) (by exact ⟨_, rfl, rfl, rfl, rfl, fun q hq => rfl⟩)
        · change (bif (((d.getD i s0).1 : Int) == (m : Int)) then _ else false) = false at h6
          rw [band, ene] at h6
          refine WP.skip ?_
          refine WP.reg hT hE [] rfl ?_ ?_
          · first | trivial | (simp [holdsC, under, slOk, slB, capEq] <;> grind)
          refine ⟨i + 1, ?_, ?_, ?_⟩
          · refine ⟨hil, fun q hq' => ?_⟩
            rcases Nat.lt_or_ge q i with h3 | h3
            · exact hno q h3
            · obtain rfl : q = i := by omega
              exact h6
          · refine Ent.mk hT [] trivial ⟨⟨rfl, _, rfl, by first | exact conv_eq rfl | (refine conv_eq ?_; rw [wrap_id (by omega) (by omega)]; simp; done) | (refine conv_eq ?_; simp; done)⟩, ⟨rfl, _, rfl, by first | exact conv_eq rfl | (refine conv_eq ?_; rw [wrap_id (by omega) (by omega)]; simp; done) | (refine conv_eq ?_; simp; done)⟩, ⟨rfl, _, rfl, by first | exact conv_eq rfl | (refine conv_eq ?_; rw [wrap_id (by omega) (by omega)]; simp; done) | (refine conv_eq ?_; simp; done)⟩, ⟨rfl, _, rfl, by first | exact conv_eq rfl | (refine conv_eq ?_; rw [wrap_id (by omega) (by omega)]; simp; done) | (refine conv_eq ?_; simp; done)⟩, trivial⟩ ⟨⟨fun _ _ => rfl, .inl ⟨_, rfl, _, _, rfl, Nat.le_refl _, Nat.zero_le _, Nat.zero_le _, fun q hq => conv_eq rfl⟩⟩, ob_list (okIds_S _) rfl rfl rfl rfl rfl (fun q hq => rfl), trivial⟩ rfl
          · (try simp only []); first | omega | grind
      · have hil : i = d.length := by simp at h4; omega
        have hin : inT d m x = false := inT_no (fun q hq => hno q (by omega))
        refine WP.exit ?_
        refine WP.seq ?_
        refine WP.seq ?_
        refine WP.reg hT hE [] rfl ?_ ?_
        · first | trivial | (simp [holdsC, under, slOk, slB, capEq] <;> grind)
        refine WP.block ?_
        refine WP.loop (α := Nat × TD) (fun (⟨i, d'⟩ : Nat × TD) => mkSt [(0, .ptr (.b 0) 1 0 []), (1, .int m), (5, .rp 74 (encT x)), (9, .int i)] [(.b 0, seaOb k g h tm d'.length), (.b 1, triedO d')]) (fun (⟨i, d'⟩ : Nat × TD) => i ≤ h.length ∧ d'.length ≤ d.length + i * capR n ∧ tryR k tm h (onR k tm h n) m x (List.range' 0 h.length) d = tryR k tm h (onR k tm h n) m x (List.range' i (h.length - i)) d') (fun (⟨i, d'⟩ : Nat × TD) => h.length - i) ?_ ?_
        · refine ⟨(0, d), ?_, ?_⟩
          · exact ⟨Nat.zero_le _, by omega, rfl⟩
          · refine Ent.mk hT [] trivial ⟨⟨rfl, _, rfl, by first | exact conv_eq rfl | (refine conv_eq ?_; rw [wrap_id (by omega) (by omega)]; simp; done) | (refine conv_eq ?_; simp; done)⟩, ⟨rfl, _, rfl, by first | exact conv_eq rfl | (refine conv_eq ?_; rw [wrap_id (by omega) (by omega)]; simp; done) | (refine conv_eq ?_; simp; done)⟩, ⟨rfl, _, rfl, by first | exact conv_eq rfl | (refine conv_eq ?_; rw [wrap_id (by omega) (by omega)]; simp; done) | (refine conv_eq ?_; simp; done)⟩, ⟨rfl, _, rfl, by first | exact conv_eq rfl | (refine conv_eq ?_; rw [wrap_id (by omega) (by omega)]; simp; done) | (refine conv_eq ?_; simp; done)⟩, trivial⟩ ⟨⟨fun _ _ => rfl, .inl ⟨_, rfl, _, _, rfl, Nat.le_refl _, Nat.zero_le _, Nat.zero_le _, fun q hq => conv_eq rfl⟩⟩, ob_list (okIds_S _) rfl rfl rfl rfl rfl (fun q hq => rfl), trivial⟩ rfl
        · rintro ⟨i, d'⟩ ⟨hi, hdl, htry⟩
          refine WP.seq ?_
          refine WP.seq ?_
          refine WP.reg hT hE [] rfl ?_ ?_
          · first | trivial | (simp [holdsC, under, slOk, slB, capEq] <;> grind)
          refine WP.cond rfl (fun h9 => ?_) (fun h9 => ?_)
          · have hil : i < h.length := by simpa using h9
            rw [show h.length - i = (h.length - (i + 1)) + 1 by omega, List.range'_succ] at htry
            have hmr := fun X => mayR_ac k g h hl tm X m i hm hil
            refine WP.skip ?_
            refine WP.seq ?_
            refine WP.block ?_
            refine WP.seq ?_
            refine WP.seq ?_
            refine WP.reg hT hE [CG.pure (.bool (mayR tm h m i))] rfl ?_ ?_
            · refine ⟨⟨rfl, dok_sea rfl⟩, ?_⟩
              show AC Try.prog T tysN 55 [.rp 71 (dview _ (seaV k g h tm d'.length)), .int m, .int i] [] _ []
              rw [sea_row rfl]
              exact hmr _
            refine WP.cond rfl (fun h11 => ?_) (fun h11 => ?_)
            · have hmf : mayR tm h m i = false := by simpa using h11
              simp only [tryR, hmf, Bool.false_eq_true, if_false] at htry
              refine WP.exit ?_
              refine WP.reg hT hE [] rfl ?_ ?_
              · first | trivial | (simp [holdsC, under, slOk, slB, capEq] <;> grind)
              refine ⟨(i + 1, d'), ?_, ?_, ?_⟩
              · exact ⟨hil, by simp only [Nat.succ_mul]; omega, htry⟩
              · refine Ent.mk hT [] trivial ⟨⟨rfl, _, rfl, by first | exact conv_eq rfl | (refine conv_eq ?_; rw [wrap_id (by omega) (by omega)]; simp; done) | (refine conv_eq ?_; simp; done)⟩, ⟨rfl, _, rfl, by first | exact conv_eq rfl | (refine conv_eq ?_; rw [wrap_id (by omega) (by omega)]; simp; done) | (refine conv_eq ?_; simp; done)⟩, ⟨rfl, _, rfl, by first | exact conv_eq rfl | (refine conv_eq ?_; rw [wrap_id (by omega) (by omega)]; simp; done) | (refine conv_eq ?_; simp; done)⟩, ⟨rfl, _, rfl, by first | exact conv_eq rfl | (refine conv_eq ?_; rw [wrap_id (by omega) (by omega)]; simp; done) | (refine conv_eq ?_; simp; done)⟩, trivial⟩ ⟨⟨fun _ _ => rfl, .inl ⟨_, rfl, _, _, rfl, Nat.le_refl _, Nat.zero_le _, Nat.zero_le _, fun q hq => conv_eq rfl⟩⟩, ob_list (okIds_S _) rfl rfl rfl rfl rfl (fun q hq => rfl), trivial⟩ rfl
              · (try simp only []); first | omega | grind
            · have hmt : mayR tm h m i = true := by simpa using h11
              have hb : m.testBit i = false := by simp only [mayR, Bool.and_eq_true, Bool.not_eq_true'] at hmt; exact hmt.1
              have hdo := doref_ac k x (calAt h i) (by omega)
              refine WP.skip ?_
              refine WP.seq ?_
              refine WP.drw hT hE hM [CG.pure (encDo (doR k x (calAt h i)))] rfl ?_ ?_
              · simp [holdsC, under, CG.pure]
                exact ⟨hil, hdo⟩
              refine WP.seq ?_
              refine WP.seq ?_
              refine WP.reg hT hE [] rfl ?_ ?_
              · first | trivial | (simp [holdsC, under, slOk, slB, capEq] <;> grind)
              refine WP.cond rfl (fun h13 => ?_) (fun h13 => ?_)
              · have hdf : (doR k x (calAt h i)).2 = false := by simpa using h13
                simp only [tryR, hmt, hdf, Bool.false_eq_true, if_false, if_true] at htry
                refine WP.exit ?_
                refine WP.reg hT hE [] rfl ?_ ?_
                · first | trivial | (simp [holdsC, under, slOk, slB, capEq] <;> grind)
                refine ⟨(i + 1, d'), ?_, ?_, ?_⟩
                · exact ⟨hil, by simp only [Nat.succ_mul]; omega, htry⟩
                · refine Ent.mk hT [] trivial ⟨⟨rfl, _, rfl, by first | exact conv_eq rfl | (refine conv_eq ?_; rw [wrap_id (by omega) (by omega)]; simp; done) | (refine conv_eq ?_; simp; done)⟩, ⟨rfl, _, rfl, by first | exact conv_eq rfl | (refine conv_eq ?_; rw [wrap_id (by omega) (by omega)]; simp; done) | (refine conv_eq ?_; simp; done)⟩, ⟨rfl, _, rfl, by first | exact conv_eq rfl | (refine conv_eq ?_; rw [wrap_id (by omega) (by omega)]; simp; done) | (refine conv_eq ?_; simp; done)⟩, ⟨rfl, _, rfl, by first | exact conv_eq rfl | (refine conv_eq ?_; rw [wrap_id (by omega) (by omega)]; simp; done) | (refine conv_eq ?_; simp; done)⟩, trivial⟩ ⟨⟨fun _ _ => rfl, .inl ⟨_, rfl, _, _, rfl, Nat.le_refl _, Nat.zero_le _, Nat.zero_le _, fun q hq => conv_eq rfl⟩⟩, ob_list (okIds_S _) rfl rfl rfl rfl rfl (fun q hq => rfl), trivial⟩ rfl
                · (try simp only []); first | omega | grind
              · have hdt : (doR k x (calAt h i)).2 = true := by simpa using h13
                have hset := opens_set hil hb
                have hcap : d'.length + capR n ≤ 19173961 := by
                  have h1 : i * capR n ≤ 7 * capR n := Nat.mul_le_mul_right _ (by omega)
                  simp only [capR] at hd
                  omega
                have hdl2 := doR_lenl k x (calAt h i)
                have hih := ih d' (m ||| 1 <<< i) (doR k x (calAt h i)).1 ⟨hcap, by omega, set_lt hm (by omega), by omega⟩
                have hlen2 := onR_len (k := k) (tm := tm) hl n d' (m ||| 1 <<< i) (doR k x (calAt h i)).1
                have hpath := onR_path (k := k) (tm := tm) (h := h) n d' (m ||| 1 <<< i) (doR k x (calAt h i)).1
                generalize hrr : onR k tm h n d' (m ||| 1 <<< i) (doR k x (calAt h i)).1 = rr at hih hlen2 hpath
                refine WP.skip ?_
                refine WP.seq ?_
                refine WP.drw hT hE hM [⟨true, [.b 0, .b 1], encRes rr.1, [seaOb k g h tm rr.2.length, triedO rr.2]⟩] rfl ?_ ?_
                · simp only [holdsC, under]
                  refine ⟨⟨by omega, trivial⟩, ⟨fun _ _ => rfl, okO_S _ _, trivial⟩, ⟨fun _ _ => rfl, okO_S _ _, trivial⟩, ?_⟩
                  simp only [List.map, renO_S, renO_sea (show sig [Id.b 0, Id.b 1] 0 (.b 1) = .b 1 from rfl)]
                  refine AC.conv hT hih ⟨_, _, rfl, conv_eq rfl, _, _, rfl, conv_eq ?_, _, _, rfl, conv_eq (ren_T _ _), rfl⟩
                  exact congrArg AV.int (set_bits hm (by omega))
                refine WP.seq ?_
                refine WP.reg hT hE [] rfl ?_ ?_
                · first | trivial | (simp [holdsC, under, slOk, slB, capEq] <;> grind)
                refine WP.cond rfl (fun h15 => ?_) (fun h15 => ?_)
                · have hres : rr.1.2 = true := h15
                  have e : onR k tm h (n + 1) d m x = (((i : Int) :: rr.1.1, true), rr.2) := by
                    have e1 : tryR k tm h (onR k tm h n) m x (List.range' 0 h.length) d = (some ((i : Int) :: rr.1.1), rr.2) := by
                      rw [htry]
                      simp only [tryR, hmt, hdt, hrr, hres, if_true]
                    simp [onR, hwh, hin, e1]
                  refine WP.seq ?_
                  rw [e]
                  rcases Nat.eq_zero_or_pos rr.1.1.length with hz | hz
                  · refine WP.reg hT hE [CG.nop] rfl ?_ ?_
                    · simp [holdsC, under]
                      exact List.eq_nil_of_length_eq_zero hz
                    refine WP.ret ?_
                    change Fin _ _ _ _ _ _ _ _
                    rw [List.eq_nil_of_length_eq_zero hz]
                    exact fin_onR [] trivial rfl rfl (by rfl) (by exact conv_rowL (fun h => by cases h) (fun j hj => by
                      obtain rfl : j = 0 := by omega
                      rfl)) (by rfl) (by exact ⟨_, rfl, rfl, rfl, rfl, ren_sea (by rfl)⟩) (by exact ⟨_, rfl, rfl, rfl, rfl, fun q hq => ren_S _ _⟩)
                  · refine WP.reg hT hE [] rfl ?_ ?_
                    · have hb3 : (T 3).bytes = 8 := rfl
                      simp [holdsC, under, hb3]
                      omega
                    refine WP.ret ?_
                    change Fin _ _ _ _ _ _ _ _
                    have e2 : ints false ((i : Int) :: rr.1.1) = .row 3 false (1 + rr.1.1.length) (fun j => .int (((i : Int) :: rr.1.1).getD j 0)) := by
                      rw [ints, List.length_cons, Nat.add_comm]
                    exact fin_onR [(.s 94 0, 1 + rr.1.1.length)] ⟨⟨_, by rfl, Nat.le_refl _⟩, trivial⟩ rfl rfl (by rfl) (by show Conv _ _ _ _ (ints false ((i : Int) :: rr.1.1)); rw [e2]; exact conv_row rfl rfl rfl (fun h => by cases h) (by simp [lookF, idbeq_self]) (fun j hj => by rw [Nat.zero_add]; exact ⟨(congrArg noIds (cons_row (x := (i : Int)) (l := rr.1.1) (z := (T 3).zero) hj)).trans rfl, .of_eq (cons_row (z := (T 3).zero) hj)⟩)) (by rfl) (by exact ⟨_, rfl, rfl, rfl, rfl, ren_sea (by rfl)⟩) (by exact ⟨_, rfl, rfl, rfl, rfl, fun q hq => ren_S _ _⟩)
                · have hres : rr.1.2 = false := h15
                  simp only [tryR, hmt, hdt, hrr, hres, Bool.false_eq_true, if_false, if_true] at htry
                  refine WP.skip ?_
                  refine WP.reg hT hE [] rfl ?_ ?_
                  · first | trivial | (simp [holdsC, under, slOk, slB, capEq] <;> grind)
                  refine ⟨(i + 1, rr.2), ?_, ?_, ?_⟩
                  · exact ⟨hil, by simp only [Nat.succ_mul]; omega, htry⟩
                  · refine Ent.mk hT [] trivial ⟨⟨rfl, _, rfl, by first | exact conv_eq rfl | (refine conv_eq ?_; rw [wrap_id (by omega) (by omega)]; simp; done) | (refine conv_eq ?_; simp; done)⟩, ⟨rfl, _, rfl, by first | exact conv_eq rfl | (refine conv_eq ?_; rw [wrap_id (by omega) (by omega)]; simp; done) | (refine conv_eq ?_; simp; done)⟩, ⟨rfl, _, rfl, by first | exact conv_eq rfl | (refine conv_eq ?_; rw [wrap_id (by omega) (by omega)]; simp; done) | (refine conv_eq ?_; simp; done)⟩, ⟨rfl, _, rfl, by first | exact conv_eq rfl | (refine conv_eq ?_; rw [wrap_id (by omega) (by omega)]; simp; done) | (refine conv_eq ?_; simp; done)⟩, trivial⟩ ⟨⟨fun _ _ => rfl, .inl ⟨_, rfl, _, _, rfl, Nat.le_refl _, Nat.zero_le _, Nat.zero_le _, fun q hq => conv_eq (ren_sea (by rfl))⟩⟩, ob_list (okIds_S _) rfl rfl rfl rfl rfl (fun q hq => ren_S _ _), trivial⟩ rfl
                  · (try simp only []); first | omega | grind
          · have hil : i = h.length := by simp at h9; omega
            subst hil
            refine WP.exit ?_
            refine WP.seq ?_
            refine WP.drw hT hE hM [] rfl ?_ ?_
            · have hb : (T 113).bytes = 40 := rfl
              simp [holdsC, under, hb]
              simp only [capR] at hd
              have h1 : h.length * capR n ≤ 8 * capR n := Nat.mul_le_mul_right _ hl
              omega
            refine WP.seq ?_
            refine WP.reg hT hE [] rfl ?_ ?_
            · first | trivial | (simp [holdsC, under, slOk, slB, capEq] <;> grind)
            refine WP.ret ?_
            change Fin _ _ _ _ _ _ _ _
            have e : onR k tm h (n + 1) d m x = (([], false), d' ++ [(m, x)]) := by
              have e1 : tryR k tm h (onR k tm h n) m x (List.range' 0 h.length) d = (none, d') := by
                rw [htry, Nat.sub_self]
                rfl
              simp [onR, hwh, hin, e1]
            rw [e]
            refine fin_onR [] trivial rfl rfl (by rfl) (by exact conv_nil_row (by decide)) (by rfl) ?_ ?_
            · refine ⟨_, rfl, rfl, rfl, rfl, ?_⟩
              show (seaV k g h tm d'.length).put [3] _ = _
              rw [seaV, stru_put (by simp)]
              simp only [List.length_append, List.length_singleton]
              rfl
            · exact ⟨_, rfl, rfl, by simp only [List.length_append, List.length_singleton], rfl, appL (l := d') (x := (m, x)) (y := AV.agg 113 2 _) (z := (T 113).zero) rfl (by exact agg_ext (fun i => by match i with | 0 | 1 => rfl | i + 2 => rfl)) (fun q hq => rfl)⟩
theorem onR_ac {k : Int} (g : Bool) {h : List Cal} (hl : h.length ≤ 8) (tm : Bool) : ∀ (n : Nat) (d : TD) (m : Nat) (x : Th), OnRK h n d m x → AC Try.prog T tysN 37 [.ptr (.b 0) 1 0 [], .int m, encT x] [seaOb k g h tm d.length, triedO d] (encRes (onR k tm h n d m x).1) [seaOb k g h tm (onR k tm h n d m x).2.length, triedO (onR k tm h n d m x).2]
  | 0, d, m, x, hok => absurd hok.2.1 (Nat.not_lt_zero _)
  | n + 1, d, m, x, hok => onR_step k g h hl tm n (onR_ac g hl tm n) d m x hok
def th0 : Th := ⟨0, []⟩
def firstR (k : Int) (tm : Bool) (h : List Cal) : RR := onR k tm h 9 [] 0 th0
theorem firstR_ok {h : List Cal} (hl : h.length ≤ 8) : OnRK h 9 [] 0 th0 := by
  have h1 := openTo_le 0 h.length
  exact ⟨by decide, by show openTo 0 h.length < 9; omega, by decide, by show 0 + openTo 0 h.length ≤ 8; omega⟩
theorem fin_res {nt : Nat} {st : St} {r : List Int × Bool} {y : AV} (a b : Nat) (hab : a ≠ b) (h6 : st.t a = some (.always, y)) (hy : Conv st.m (fun id => lookF id []) T y (ints false r.1)) (h7 : st.t b = some (.always, .bool r.2)) : Fin T tysN nt 0 [.tmp a, .tmp b] (encRes r) [] st :=
  fin_mk hT [] (ts := [(a, ints false r.1), (b, .bool r.2)]) (l := [ints false r.1, .bool r.2]) (B' := []) trivial ⟨⟨rfl, _, h6, hy⟩, ⟨rfl, _, h7, conv_eq rfl⟩, trivial⟩ trivial rfl (by simp [resL, mkSt, lookN, nbeq_ne hab.symm, nbeq_ne hab, notTup, ints]) (by rfl)
theorem refLinear_ac (k : Int) (g : Bool) (h : List Cal) (hl : h.length ≤ 8) : AC Try.prog T tysN 14 [.int k, cals g h] [] (encRes (firstR k true h).1) [] := by
  refine AC_intro hT Try.func14 rfl rfl (Nat.le_of_ble_eq_true rfl) ?_
  have hon := onR_ac (k := k) g hl true 9 [] 0 th0 (firstR_ok hl)
  rw [show onR k true h 9 [] 0 th0 = firstR k true h from rfl] at hon
  refine WP.seq ?_
  refine WP.reg hT hE [] rfl ?_ ?_
  · first | trivial | (simp [holdsC, under, slOk, slB, capEq] <;> grind)
  refine WP.seq ?_
  refine WP.reg hT hE [] rfl ?_ ?_
  · first | trivial | (simp [holdsC, under, slOk, slB, capEq] <;> grind)
  refine WP.seq ?_
  refine WP.ent (st' := mkSt [(6, .ptr (.s 10 0) 1 0 [])] [(.s 10 0, .cells ⟨71, 1, fun _ => stru 71 [.int k, cals g h, .bool true, .own (.s 99 0) 0 0 0 none], 0⟩), (.s 99 0, triedO [])]) ?_ ?_
  · refine Ent.mk hT [] trivial ⟨⟨rfl, _, rfl, by first | exact conv_eq rfl | (refine conv_eq ?_; rw [wrap_id (by omega) (by omega)]; simp; done) | (refine conv_eq ?_; simp; done)⟩, trivial⟩ ⟨⟨fun _ _ => rfl, .inl ⟨_, rfl, _, _, rfl, Nat.le_refl _, Nat.zero_le _, Nat.zero_le _, fun q hq => ⟨_, rfl, fun i hi => by match i, hi with | 0, _ | 1, _ | 2, _ => exact conv_eq rfl | 3, _ => exact conv_nil_own⟩⟩⟩, ⟨okO_S _ _, .inr ⟨rfl, 113, _, rfl, by decide⟩⟩, trivial⟩ rfl
  refine WP.reg hT hE [⟨true, [.s 10 0, .s 99 0], encRes (firstR k true h).1, [seaOb k g h true (firstR k true h).2.length, triedO (firstR k true h).2]⟩] rfl ?_ ?_
  · refine ⟨⟨fun _ _ => rfl, okO_S _ _, trivial⟩, ⟨fun _ _ => rfl, okO_S _ _, trivial⟩, ?_⟩
    have e1 : renO (sig [.s 10 0, .s 99 0] 0) (.cells ⟨71, 1, fun _ => stru 71 [.int k, cals g h, .bool true, .own (.s 99 0) 0 0 0 none], 0⟩) = seaOb k g h true ([] : TD).length := by
      simp only [renO_cells1, ren_stru, List.map, ren]
      rfl
    simp only [List.map, renO_S, e1]
    refine AC.conv hT hon ⟨_, _, rfl, conv_eq rfl, _, _, rfl, conv_eq rfl, _, _, rfl, ⟨_, rfl, fun i hi => by match i, hi with | 0, _ => exact conv_eq rfl | 1, _ => exact conv_nil_row (by decide)⟩, rfl⟩
  refine WP.ret ?_
  change Fin _ _ _ _ _ _ _ _
  exact fin_res 4 5 (by decide) (by rfl) (by exact conv_eq rfl) (by rfl)
theorem refTurns_ac (k : Int) (g : Bool) (h : List Cal) (hl : h.length ≤ 8) : AC Try.prog T tysN 15 [.int k, cals g h] [] (encRes (firstR k false h).1) [] := by
  refine AC_intro hT Try.func15 rfl rfl (Nat.le_of_ble_eq_true rfl) ?_
  have hon := onR_ac (k := k) g hl false 9 [] 0 th0 (firstR_ok hl)
  rw [show onR k false h 9 [] 0 th0 = firstR k false h from rfl] at hon
  refine WP.seq ?_
  refine WP.reg hT hE [] rfl ?_ ?_
  · first | trivial | (simp [holdsC, under, slOk, slB, capEq] <;> grind)
  refine WP.seq ?_
  refine WP.reg hT hE [] rfl ?_ ?_
  · first | trivial | (simp [holdsC, under, slOk, slB, capEq] <;> grind)
  refine WP.seq ?_
  refine WP.ent (st' := mkSt [(6, .ptr (.s 10 0) 1 0 [])] [(.s 10 0, .cells ⟨71, 1, fun _ => stru 71 [.int k, cals g h, .bool false, .own (.s 99 0) 0 0 0 none], 0⟩), (.s 99 0, triedO [])]) ?_ ?_
  · refine Ent.mk hT [] trivial ⟨⟨rfl, _, rfl, by first | exact conv_eq rfl | (refine conv_eq ?_; rw [wrap_id (by omega) (by omega)]; simp; done) | (refine conv_eq ?_; simp; done)⟩, trivial⟩ ⟨⟨fun _ _ => rfl, .inl ⟨_, rfl, _, _, rfl, Nat.le_refl _, Nat.zero_le _, Nat.zero_le _, fun q hq => ⟨_, rfl, fun i hi => by match i, hi with | 0, _ | 1, _ | 2, _ => exact conv_eq rfl | 3, _ => exact conv_nil_own⟩⟩⟩, ⟨okO_S _ _, .inr ⟨rfl, 113, _, rfl, by decide⟩⟩, trivial⟩ rfl
  refine WP.reg hT hE [⟨true, [.s 10 0, .s 99 0], encRes (firstR k false h).1, [seaOb k g h false (firstR k false h).2.length, triedO (firstR k false h).2]⟩] rfl ?_ ?_
  · refine ⟨⟨fun _ _ => rfl, okO_S _ _, trivial⟩, ⟨fun _ _ => rfl, okO_S _ _, trivial⟩, ?_⟩
    have e1 : renO (sig [.s 10 0, .s 99 0] 0) (.cells ⟨71, 1, fun _ => stru 71 [.int k, cals g h, .bool false, .own (.s 99 0) 0 0 0 none], 0⟩) = seaOb k g h false ([] : TD).length := by
      simp only [renO_cells1, ren_stru, List.map, ren]
      rfl
    simp only [List.map, renO_S, e1]
    refine AC.conv hT hon ⟨_, _, rfl, conv_eq rfl, _, _, rfl, conv_eq rfl, _, _, rfl, ⟨_, rfl, fun i hi => by match i, hi with | 0, _ => exact conv_eq rfl | 1, _ => exact conv_nil_row (by decide)⟩, rfl⟩
  refine WP.ret ?_
  change Fin _ _ _ _ _ _ _ _
  exact fin_res 4 5 (by decide) (by rfl) (by exact conv_eq rfl) (by rfl)
end Go.Ab


/- First orders, without what was tried in vain. -/
set_option autoImplicit false
set_option linter.unusedSimpArgs false
set_option linter.unusedVariables false
namespace Go.Ab
open Go.Proofs
section
variable {S : Type} (h : List Cal) (step : Nat → S → Nat → Option S)
def tryG (rec : Nat → S → Option (List Int)) (m : Nat) (x : S) : List Nat → Option (List Int)
  | [] => none
  | i :: r => match step m x i with
    | none => tryG rec m x r
    | some y => match rec (m ||| 1 <<< i) y with
      | some l => some ((i : Int) :: l)
      | none => tryG rec m x r
def pathG : Nat → Nat → S → Option (List Int)
  | 0, _, _ => none
  | n + 1, m, x => if wholeB h m then some [] else tryG step (pathG n) m x (List.range' 0 h.length)
def StepOK : Prop := ∀ m x i y, step m x i = some y → m.testBit i = false
theorem tryG_congr {rec rec' : Nat → S → Option (List Int)} {m : Nat} {x : S} : ∀ (l : List Nat), (∀ i ∈ l, ∀ y, step m x i = some y → rec (m ||| 1 <<< i) y = rec' (m ||| 1 <<< i) y) → tryG step rec m x l = tryG step rec' m x l
  | [], _ => rfl
  | i :: r, H => by
    have ih := tryG_congr r (fun j hj => H j (List.mem_cons_of_mem _ hj))
    simp only [tryG]
    cases e : step m x i with
    | none => simp only [e]; exact ih
    | some y => simp only [e]; rw [H i (by simp) y e, ih]
theorem path_fuel (hs : StepOK step) : ∀ (n n' m : Nat) (x : S), opens h m < n → opens h m < n' → pathG h step n m x = pathG h step n' m x
  | 0, _, _, _, h1, _ => absurd h1 (Nat.not_lt_zero _)
  | _ + 1, 0, _, _, _, h2 => absurd h2 (Nat.not_lt_zero _)
  | n + 1, n' + 1, m, x, h1, h2 => by
    simp only [pathG]
    split
    · rfl
    · refine tryG_congr step _ (fun i hi y e => ?_)
      have hset := opens_set (h := h) (m := m) (i := i) (by simp at hi; omega) (hs m x i y e)
      exact path_fuel hs n n' _ _ (by omega) (by omega)
end
def outO (o : List Int) : Option (List Int) → List Int × Bool
  | none => ([], false)
  | some l => (o ++ l, true)
section
variable {k : Int} {fst : Cal → Cal → Bool} {h : List Cal}
def stepF (k : Int) (fst : Cal → Cal → Bool) (h : List Cal) (m : Nat) (x : Ct) (i : Nat) : Option Ct := if m.testBit i then none else if notNext k fst h m i x then none else some (doF k x (calAt h i)).1
theorem stepF_ok : StepOK (stepF k fst h) := by
  intro m x i y e
  simp only [stepF] at e
  cases hb : m.testBit i with
  | false => rfl
  | true => simp [hb] at e
def DeadP (k : Int) (fst : Cal → Cal → Bool) (h : List Cal) (d : Dead) : Prop := ∀ p : Key, inD d p = true → ∀ n, opens h p.1 < n → pathG h (stepF k fst h) n p.1 p.2 = none
theorem deadP_put {d : Dead} {p : Key} (hd : DeadP k fst h d) (hp : ∀ n, opens h p.1 < n → pathG h (stepF k fst h) n p.1 p.2 = none) : DeadP k fst h (putK d p ()) := by
  intro q hq
  simp only [inD, getK_put] at hq
  split at hq
  · rename_i e; subst e; exact hp
  · exact hd q hq
theorem tryF_path {rec : Dead → Nat → Ct → List Int → Res} {recG : Nat → Ct → Option (List Int)} {m : Nat} {x : Ct} {o : List Int}
    (hr : ∀ d i x o, i < h.length → m.testBit i = false → DeadP k fst h d → (rec d (m ||| 1 <<< i) x o).1 = outO o (recG (m ||| 1 <<< i) x) ∧ DeadP k fst h (rec d (m ||| 1 <<< i) x o).2) :
    ∀ (l : List Nat) (d : Dead), (∀ i ∈ l, i < h.length) → DeadP k fst h d →
      (tryF k fst h rec m x o l d).1 = (tryG (stepF k fst h) recG m x l).map (o ++ ·) ∧ DeadP k fst h (tryF k fst h rec m x o l d).2
  | [], d, _, hd => by simp [tryF, tryG, hd]
  | i :: r, d, hl, hd => by
    have ih := fun d hd => tryF_path (o := o) (x := x) hr r d (fun j hj => hl j (List.mem_cons_of_mem _ hj)) hd
    simp only [tryF, tryG]
    cases hb : m.testBit i with
    | true =>
      have e : stepF k fst h m x i = none := by simp [stepF, hb]
      simp only [if_true, e]
      exact ih d hd
    | false =>
      cases hn : notNext k fst h m i x with
      | true =>
        have e : stepF k fst h m x i = none := by simp [stepF, hn]
        simp only [if_true, e, Bool.false_eq_true, if_false]
        exact ih d hd
      | false =>
        have e : stepF k fst h m x i = some (doF k x (calAt h i)).1 := by simp [stepF, hb, hn]
        simp only [Bool.false_eq_true, if_false, e]
        obtain ⟨r1, r2⟩ := hr d i (doF k x (calAt h i)).1 (o ++ [(i : Int)]) (hl i (by simp)) hb hd
        rw [r1]
        cases hg : recG (m ||| 1 <<< i) (doF k x (calAt h i)).1 with
        | none => simp only [outO, Bool.false_eq_true, if_false]; exact ih _ r2
        | some l' => simp only [outO, if_true, Option.map_some]; exact ⟨by simp, r2⟩
theorem onF_path : ∀ (n : Nat) (d : Dead) (m : Nat) (x : Ct) (o : List Int), opens h m < n → DeadP k fst h d → (onF k fst h n d m x o).1 = outO o (pathG h (stepF k fst h) n m x) ∧ DeadP k fst h (onF k fst h n d m x o).2
  | 0, d, m, x, o, hn, _ => absurd hn (Nat.not_lt_zero _)
  | n + 1, d, m, x, o, hn, hd => by
    cases hin : inD d (m, x) with
    | true =>
      rw [hd (m, x) hin (n + 1) hn]
      simp only [onF, hin, if_true, outO]
      exact ⟨trivial, hd⟩
    | false =>
      cases hw : wholeB h m with
      | true => simp only [onF, hin, hw, pathG, Bool.false_eq_true, if_false, if_true, outO]; exact ⟨by simp, hd⟩
      | false =>
        have ht := tryF_path (k := k) (fst := fst) (h := h) (rec := onF k fst h n) (recG := pathG h (stepF k fst h) n) (m := m) (x := x) (o := o) (fun d i x o hi hb hd => onF_path n d _ x o (by have := opens_set hi hb; omega) hd) (List.range' 0 h.length) d (fun i hi => by simp at hi; omega) hd
        have hp : pathG h (stepF k fst h) (n + 1) m x = tryG (stepF k fst h) (pathG h (stepF k fst h) n) m x (List.range' 0 h.length) := by simp only [pathG, hw, Bool.false_eq_true, if_false]
        rw [hp]
        cases hg : tryG (stepF k fst h) (pathG h (stepF k fst h) n) m x (List.range' 0 h.length) with
        | none =>
          rw [hg] at ht hp
          have e : tryF k fst h (onF k fst h n) m x o (List.range' 0 h.length) d = (none, (tryF k fst h (onF k fst h n) m x o (List.range' 0 h.length) d).2) := Prod.ext ht.1 rfl
          simp only [onF, hin, hw, Bool.false_eq_true, if_false, outO]
          rw [e]
          exact ⟨rfl, deadP_put ht.2 (fun n' hn' => (path_fuel h _ stepF_ok n' (n + 1) m x hn' hn).trans hp)⟩
        | some l =>
          rw [hg] at ht
          have e : tryF k fst h (onF k fst h n) m x o (List.range' 0 h.length) d = (some (o ++ l), (tryF k fst h (onF k fst h n) m x o (List.range' 0 h.length) d).2) := Prod.ext ht.1 rfl
          simp only [onF, hin, hw, Bool.false_eq_true, if_false, outO]
          rw [e]
          exact ⟨rfl, ht.2⟩
theorem firstF_path (hl : h.length ≤ 8) : (firstF k fst h).1 = outO [] (pathG h (stepF k fst h) 9 0 (beginF k)) :=
  (onF_path 9 [] 0 (beginF k) [] (by have := openTo_le 0 h.length; show openTo 0 h.length < 9; omega) (fun p hp => by simp [inD, getK] at hp)).1
end
section
variable {k : Int} {tm : Bool} {h : List Cal}
def stepR (k : Int) (tm : Bool) (h : List Cal) (m : Nat) (x : Th) (i : Nat) : Option Th := if mayR tm h m i then (if (doR k x (calAt h i)).2 then some (doR k x (calAt h i)).1 else none) else none
theorem stepR_ok : StepOK (stepR k tm h) := by
  intro m x i y e
  simp only [stepR] at e
  cases hm : mayR tm h m i with
  | false => simp [hm] at e
  | true => simp only [mayR, Bool.and_eq_true, Bool.not_eq_true'] at hm; exact hm.1
def TriedP (k : Int) (tm : Bool) (h : List Cal) (d : TD) : Prop := ∀ p ∈ d, ∀ n, opens h p.1 < n → pathG h (stepR k tm h) n p.1 p.2 = none
theorem tryR_path {rec : TD → Nat → Th → RR} {recG : Nat → Th → Option (List Int)} {m : Nat} {x : Th}
    (hr : ∀ d i x, i < h.length → m.testBit i = false → TriedP k tm h d → (rec d (m ||| 1 <<< i) x).1 = outO [] (recG (m ||| 1 <<< i) x) ∧ TriedP k tm h (rec d (m ||| 1 <<< i) x).2) :
    ∀ (l : List Nat) (d : TD), (∀ i ∈ l, i < h.length) → TriedP k tm h d →
      (tryR k tm h rec m x l d).1 = tryG (stepR k tm h) recG m x l ∧ TriedP k tm h (tryR k tm h rec m x l d).2
  | [], d, _, hd => by simp [tryR, tryG, hd]
  | i :: r, d, hl, hd => by
    have ih := fun d hd => tryR_path (x := x) hr r d (fun j hj => hl j (List.mem_cons_of_mem _ hj)) hd
    simp only [tryR, tryG]
    cases hm : mayR tm h m i with
    | false =>
      have e : stepR k tm h m x i = none := by simp [stepR, hm]
      simp only [e, Bool.false_eq_true, if_false]
      exact ih d hd
    | true =>
      have hb : m.testBit i = false := by
        have hm' := hm
        simp only [mayR, Bool.and_eq_true, Bool.not_eq_true'] at hm'; exact hm'.1
      cases ho : (doR k x (calAt h i)).2 with
      | false =>
        have e : stepR k tm h m x i = none := by simp [stepR, ho]
        simp only [if_true, e, Bool.false_eq_true, if_false]
        exact ih d hd
      | true =>
        have e : stepR k tm h m x i = some (doR k x (calAt h i)).1 := by simp [stepR, hm, ho]
        simp only [if_true, e]
        obtain ⟨r1, r2⟩ := hr d i (doR k x (calAt h i)).1 (hl i (by simp)) hb hd
        rw [r1]
        cases hg : recG (m ||| 1 <<< i) (doR k x (calAt h i)).1 with
        | none => simp only [outO, Bool.false_eq_true, if_false]; exact ih _ r2
        | some l' => simp only [outO, if_true, List.nil_append]; exact ⟨trivial, r2⟩
theorem onR_pathG : ∀ (n : Nat) (d : TD) (m : Nat) (x : Th), opens h m < n → TriedP k tm h d → (onR k tm h n d m x).1 = outO [] (pathG h (stepR k tm h) n m x) ∧ TriedP k tm h (onR k tm h n d m x).2
  | 0, d, m, x, hn, _ => absurd hn (Nat.not_lt_zero _)
  | n + 1, d, m, x, hn, hd => by
    cases hw : wholeB h m with
    | true => simp only [onR, hw, pathG, if_true, outO]; exact ⟨by simp, hd⟩
    | false =>
      cases hin : inT d m x with
      | true =>
        rw [inT, List.any_eq_true] at hin
        have hin' : inT d m x = true := by rw [inT, List.any_eq_true]; exact hin
        obtain ⟨p, hp, e⟩ := hin
        simp only [Bool.and_eq_true, beq_iff_eq, decide_eq_true_eq] at e
        obtain ⟨rfl, rfl⟩ := e
        rw [hd p hp (n + 1) hn]
        simp only [onR, hw, hin', if_true, Bool.false_eq_true, if_false, outO]
        exact ⟨trivial, hd⟩
      | false =>
        have ht := tryR_path (k := k) (tm := tm) (h := h) (rec := onR k tm h n) (recG := pathG h (stepR k tm h) n) (m := m) (x := x) (fun d i x hi hb hd => onR_pathG n d _ x (by have := opens_set hi hb; omega) hd) (List.range' 0 h.length) d (fun i hi => by simp at hi; omega) hd
        have hp : pathG h (stepR k tm h) (n + 1) m x = tryG (stepR k tm h) (pathG h (stepR k tm h) n) m x (List.range' 0 h.length) := by simp only [pathG, hw, Bool.false_eq_true, if_false]
        rw [hp]
        cases hg : tryG (stepR k tm h) (pathG h (stepR k tm h) n) m x (List.range' 0 h.length) with
        | none =>
          rw [hg] at ht hp
          have e : tryR k tm h (onR k tm h n) m x (List.range' 0 h.length) d = (none, (tryR k tm h (onR k tm h n) m x (List.range' 0 h.length) d).2) := Prod.ext ht.1 rfl
          simp only [onR, hin, hw, Bool.false_eq_true, if_false, outO]
          rw [e]
          refine ⟨rfl, fun p hp' => ?_⟩
          rcases List.mem_append.1 hp' with h1 | h1
          · exact ht.2 p h1
          · simp only [List.mem_singleton] at h1
            subst h1
            exact fun n' hn' => (path_fuel h _ stepR_ok n' (n + 1) m x hn' hn).trans hp
        | some l =>
          rw [hg] at ht
          have e : tryR k tm h (onR k tm h n) m x (List.range' 0 h.length) d = (some l, (tryR k tm h (onR k tm h n) m x (List.range' 0 h.length) d).2) := Prod.ext ht.1 rfl
          simp only [onR, hin, hw, Bool.false_eq_true, if_false, outO]
          rw [e]
          exact ⟨rfl, ht.2⟩
theorem firstR_path (hl : h.length ≤ 8) : (firstR k tm h).1 = outO [] (pathG h (stepR k tm h) 9 0 th0) :=
  (onR_pathG 9 [] 0 th0 (by have := openTo_le 0 h.length; show openTo 0 h.length < 9; omega) (fun p hp => by simp at hp)).1
end
end Go.Ab

/- The program's search and the reference's find the same. -/
set_option autoImplicit false
set_option linter.unusedSimpArgs false
set_option linter.unusedVariables false
namespace Go.Ab
open Go.Proofs
/-- What is in the thing, of both. -/
def RelX (k : Int) (x : Ct) (y : Th) : Prop := x.v.length = 8 ∧ (if k = 1 ∨ k = 2 then y = ⟨x.v.getD 0 0, []⟩ else 0 ≤ x.n ∧ x.n ≤ 8 ∧ y = ⟨0, x.v.take x.n.toNat⟩)
theorem set0 {v : List Int} (h : v.length = 8) (a : Int) : (v.set 0 a).getD 0 0 = a := by
  match v, h with
  | _ :: _, _ => rfl
theorem fields_parts {k : Int} {c : Cal} (hf : fieldsB k c = true) : doesB k c.act = true ∧ (c.out ≠ 0 → tells c = true ∧ c.fin ≠ -1) ∧ (c.empty = true → c.act = 5) := by
  simp only [fieldsB, Bool.and_eq_true, Bool.not_eq_true', badHead, badVals, okEmpty, Bool.or_eq_false_iff, Bool.or_eq_true, Bool.and_eq_false_iff, bne_eq_false_iff_eq, beq_eq_false_iff_ne] at hf
  obtain ⟨⟨⟨h1, h2⟩, h3⟩, h4⟩ := hf
  refine ⟨?_, ?_, ?_⟩
  · have := h1.1.1.2
    simpa using this
  · intro h0
    rcases h3.2 with h | h
    · exact absurd h h0
    · exact ⟨by simpa using h.1, h.2⟩
  · intro h0
    rcases h4 with h | h
    · simp [h0] at h
    · simpa using h.1
/-- Whether the told is as it was. -/
def tellF (c : Cal) (r : Ct × Int × Bool) : Bool := c.fin != -1 && (r.2.1 != c.out || r.2.2 != c.empty)
theorem tell_no {c : Cal} (h : c.out = 0) (h' : c.empty = false) {x : Ct} : (!tellF c (x, 0, false)) = true := by
  simp [tellF, h, h']
theorem put_list {v : List Int} (hv : v.length = 8) {n : Nat} (hn : n < 8) (a : Int) : (v.set n a).take (n + 1) = v.take n ++ [a] := by
  match v, hv, n, hn with
  | [_, _, _, _, _, _, _, _], _, 0, _ | [_, _, _, _, _, _, _, _], _, 1, _ | [_, _, _, _, _, _, _, _], _, 2, _ | [_, _, _, _, _, _, _, _], _, 3, _ | [_, _, _, _, _, _, _, _], _, 4, _ | [_, _, _, _, _, _, _, _], _, 5, _ | [_, _, _, _, _, _, _, _], _, 6, _ | [_, _, _, _, _, _, _, _], _, 7, _ => rfl
theorem take_first {v : List Int} (hv : v.length = 8) {n : Nat} (hn : n < 8) : ((shiftL v).set n 0).take n = (v.take (n + 1)).eraseIdx 0 ∧ v.getD 0 0 = (v.take (n + 1)).getD 0 0 ∧ (v.take (n + 1)).length = n + 1 := by
  match v, hv, n, hn with
  | [_, _, _, _, _, _, _, _], _, 0, _ | [_, _, _, _, _, _, _, _], _, 1, _ | [_, _, _, _, _, _, _, _], _, 2, _ | [_, _, _, _, _, _, _, _], _, 3, _ | [_, _, _, _, _, _, _, _], _, 4, _ | [_, _, _, _, _, _, _, _], _, 5, _ | [_, _, _, _, _, _, _, _], _, 6, _ | [_, _, _, _, _, _, _, _], _, 7, _ => exact ⟨rfl, rfl, rfl⟩
theorem take_last {v : List Int} (hv : v.length = 8) {n : Nat} (hn : n < 8) : (v.set n 0).take n = (v.take (n + 1)).eraseIdx ((v.take (n + 1)).length - 1) ∧ v.getD n 0 = (v.take (n + 1)).getD ((v.take (n + 1)).length - 1) 0 := by
  match v, hv, n, hn with
  | [_, _, _, _, _, _, _, _], _, 0, _ | [_, _, _, _, _, _, _, _], _, 1, _ | [_, _, _, _, _, _, _, _], _, 2, _ | [_, _, _, _, _, _, _, _], _, 3, _ | [_, _, _, _, _, _, _, _], _, 4, _ | [_, _, _, _, _, _, _, _], _, 5, _ | [_, _, _, _, _, _, _, _], _, 6, _ | [_, _, _, _, _, _, _, _], _, 7, _ => exact ⟨rfl, rfl⟩
theorem do_rel {k : Int} (hk : k = 1 ∨ k = 2 ∨ k = 3 ∨ k = 4) {c : Cal} (hf : fieldsB k c = true) {x : Ct} {y : Th} (hr : RelX k x y) (hx : ¬ (k = 1 ∨ k = 2) → x.n < 8 ∨ c.act ≠ 4) :
    RelX k (doF k x c).1 (doR k y c).1 ∧ (!tellF c (doF k x c)) = (doR k y c).2 := by
  obtain ⟨hd, ho, he⟩ := fields_parts hf
  have hout : tells c = false → c.out = 0 := fun h => Classical.byContradiction fun h0 => by have := (ho h0).1; rw [h] at this; cases this
  obtain ⟨hv, hr⟩ := hr
  by_cases h12 : k = 1 ∨ k = 2
  · rw [if_pos h12] at hr
    subst hr
    have hemp : c.act ≠ 5 → c.empty = false := fun h => by cases hz : c.empty with | false => rfl | true => exact absurd (he hz) h
    have ha : c.act = 1 ∨ c.act = 2 ∨ c.act = 3 := by
      rcases h12 with rfl | rfl <;> simp [doesB] at hd <;> omega
    rw [show doF k x c = cellF x c from if_pos h12]
    rcases ha with h1 | h1 | h1
    · have e0 := hemp (by omega)
      simp only [cellF, doR, h1, if_true]
      refine ⟨⟨hv, by rw [if_pos h12]⟩, ?_⟩
      simp only [tellF, e0]
      cases c.fin != -1 <;> simp
      rw [Bool.eq_iff_iff]
      simp
      exact not_congr eq_comm
    · have e0 := hemp (by omega)
      have e1 := hout (by simp [tells, h1])
      rw [show cellF x c = (⟨x.n, x.v.set 0 c.inp⟩, 0, false) by simp [cellF, h1], show doR k ⟨x.v.getD 0 0, []⟩ c = (⟨c.inp, []⟩, true) by simp [doR, h1]]
      exact ⟨⟨by simpa using hv, by rw [if_pos h12]; simp only [set0 hv]⟩, tell_no e1 e0⟩
    · have e0 := hemp (by omega)
      have e1 := hout (by simp [tells, h1])
      rw [show cellF x c = (⟨x.n, x.v.set 0 (IntKind.i64.wrap (x.v.getD 0 0 + c.inp))⟩, 0, false) by simp [cellF, h1], show doR k ⟨x.v.getD 0 0, []⟩ c = (⟨IntKind.i64.wrap (x.v.getD 0 0 + c.inp), []⟩, true) by simp [doR, h1]]
      exact ⟨⟨by simpa using hv, by rw [if_pos h12]; simp only [set0 hv]⟩, tell_no e1 e0⟩
  · rw [if_neg h12] at hr
    obtain ⟨h0, h8, rfl⟩ := hr
    obtain ⟨xn, v⟩ := x
    simp only at hv h0 h8 hx
    obtain ⟨n, rfl⟩ : ∃ n : Nat, xn = n := ⟨xn.toNat, by omega⟩
    have hk34 : k = 3 ∨ k = 4 := by omega
    have ha : c.act = 4 ∨ c.act = 5 := by
      rcases hk34 with rfl | rfl <;> simpa [doesB] using hd
    rw [show doF k ⟨n, v⟩ c = listF (decide (k = 3)) ⟨n, v⟩ c from if_neg h12]
    simp only [Int.toNat_natCast]
    rcases ha with h1 | h1
    · have hn8 : n < 8 := by have := hx h12; omega
      have e0 : c.empty = false := by cases hz : c.empty with | false => rfl | true => exact absurd (he hz) (by omega)
      have e1 := hout (by simp [tells, h1])
      rw [show listF (decide (k = 3)) ⟨n, v⟩ c = (⟨(n : Int) + 1, v.set n c.inp⟩, 0, false) by simp [listF, h1], show doR k ⟨0, v.take n⟩ c = (⟨0, v.take n ++ [c.inp]⟩, true) by simp [doR, h1]]
      refine ⟨⟨by simpa using hv, ?_⟩, tell_no e1 e0⟩
      rw [if_neg h12]
      refine ⟨by simp only; omega, by simp only; omega, ?_⟩
      simp only
      rw [show ((n : Int) + 1).toNat = n + 1 by omega, put_list hv hn8]
    · match n with
      | 0 =>
        rw [show listF (decide (k = 3)) ⟨((0 : Nat) : Int), v⟩ c = (⟨0, v⟩, 0, true) by simp [listF, h1], show doR k ⟨0, v.take 0⟩ c = (⟨0, []⟩, !(c.fin != -1) || c.empty) by simp [doR, h1]]
        refine ⟨⟨hv, ?_⟩, ?_⟩
        · rw [if_neg h12]
          exact ⟨Int.le_refl 0, (by decide : (0 : Int) ≤ 8), rfl⟩
        · simp only [tellF]
          cases hz : c.empty with
          | true =>
            have e1 := hout (by simp [tells, h1, hz])
            simp [e1]
          | false => cases c.fin != -1 <;> simp
      | n + 1 =>
        have hn8 : n < 8 := by omega
        have e5 : ((n + 1 : Nat) : Int) - 1 = n := by omega
        have e6 : ¬ ((n + 1 : Nat) : Int) = 0 := by omega
        have hl : v.take (n + 1) ≠ [] := fun e => by have := (take_first hv hn8).2.2; rw [e] at this; simp at this
        have hR := doR_take (k := k) (x := ⟨0, v.take (n + 1)⟩) (c := c) (by omega) (by omega) (by omega) (by omega) hl
        rw [hR]
        have hF : listF (decide (k = 3)) ⟨((n + 1 : Nat) : Int), v⟩ c = (⟨(n : Int), (if k = 3 then shiftL v else v).set n 0⟩, if k = 3 then v.getD 0 0 else v.getD n 0, false) := by
          simp only [listF, h1, e6, e5, if_false, Int.toNat_natCast, decide_eq_true_eq]
          simp
        rw [hF]
        rcases hk34 with rfl | rfl
        · obtain ⟨t1, t2, _⟩ := take_first hv hn8
          simp only [if_true, show ¬ (3 : Int) = 4 by decide, if_false]
          refine ⟨⟨by simp [shiftL, hv], ?_⟩, ?_⟩
          · rw [if_neg h12]
            exact ⟨by simp only; omega, by simp only; omega, by simp only [Int.toNat_natCast, t1]⟩
          · simp only [tellF, ← t2]
            cases c.fin != -1 <;> cases c.empty <;> simp
            rw [Bool.eq_iff_iff]
            simp
            exact not_congr eq_comm
        · obtain ⟨t1, t2⟩ := take_last hv hn8
          simp only [if_true, show ¬ (4 : Int) = 3 by decide, if_false]
          refine ⟨⟨by simpa using hv, ?_⟩, ?_⟩
          · rw [if_neg h12]
            exact ⟨by simp only; omega, by simp only; omega, by simp only [Int.toNat_natCast, t1]⟩
          · simp only [tellF, ← t2]
            cases c.fin != -1 <;> cases c.empty <;> simp
            rw [Bool.eq_iff_iff]
            simp
            exact not_congr eq_comm
end Go.Ab

/- The program's search and the reference's find the same, step by step. -/
set_option autoImplicit false
set_option linter.unusedSimpArgs false
set_option linter.unusedVariables false
namespace Go.Ab
open Go.Proofs
section
variable {k : Int} {tm : Bool} {h : List Cal}
theorem hist_fields (hok : okHist k h) {i : Nat} (hi : i < h.length) : fieldsB k (calAt h i) = true := (hok.2.2.2 i hi).1
theorem cross_comm (a b : Cal) : cross a b = cross b a := by
  simp only [cross]
  rw [show (b.go == a.go) = (a.go == b.go) from Bool.beq_comm, Bool.and_assoc, Bool.and_assoc, Bool.and_comm (!ahd b a)]
theorem hist_cross (hok : okHist k h) {i j : Nat} (hi : i < h.length) (hj : j < h.length) (hij : i ≠ j) : cross (calAt h i) (calAt h j) = false := by
  rcases Nat.lt_or_ge j i with h1 | h1
  · exact ((hok.2.2.2 i hi).2 j h1).2
  · rw [cross_comm]; exact ((hok.2.2.2 j hj).2 i (by omega)).2
theorem first_ended (hok : okHist k h) {i j : Nat} (hi : i < h.length) (hj : j < h.length) (hij : i ≠ j) (hf : fstR tm (calAt h i) (calAt h j) = true) : ((calAt h i).fin != -1) = true := by
  cases tm with
  | true =>
    have : ahd (calAt h i) (calAt h j) = true := hf
    simp only [ahd, Bool.and_eq_true] at this
    exact this.1
  | false =>
    have h1 : trn (calAt h i) (calAt h j) = true := hf
    simp only [trn, Bool.and_eq_true, decide_eq_true_eq] at h1
    have h2 := hist_cross hok hi hj hij
    simp only [cross, h1.1, Bool.true_and, Bool.and_eq_false_iff, Bool.not_eq_false'] at h2
    rcases h2 with h2 | h2
    · simp only [ahd, Bool.and_eq_true] at h2
      exact h2.1
    · exfalso
      simp only [ahd, Bool.and_eq_true, decide_eq_true_eq, bne_iff_ne] at h2
      have h3 := (fields_mom (hist_fields hok hj)).2
      omega
/-- With each that is done, what must stand ahead of it is. -/
def Closed (tm : Bool) (h : List Cal) (m : Nat) : Prop := ∀ i j, i < h.length → j < h.length → i ≠ j → fstR tm (calAt h i) (calAt h j) = true → m.testBit j = true → m.testBit i = true
theorem closed_zero : Closed tm h 0 := fun i j _ _ _ _ hb => by simp at hb
theorem closed_set {m i : Nat} (hc : Closed tm h m) (hi : i < h.length) (hm : mayB (fstR tm) h m i = true) : Closed tm h (m ||| 1 <<< i) := by
  intro a b ha hb hab hf hbit
  rw [bit_or, Bool.or_eq_true] at hbit ⊢
  rcases hbit with h1 | h1
  · exact .inl (hc a b ha hb hab hf h1)
  · obtain rfl : i = b := by simpa using h1
    left
    have := allTo_iff.1 hm a ha
    rw [hf] at this
    cases hz : m.testBit a with
    | true => rfl
    | false => simp [hz, hab] at this
theorem may_eq (hok : okHist k h) {m i : Nat} (hc : Closed tm h m) (hi : i < h.length) (hb : m.testBit i = false) : mayR tm h m i = mayB (fstR tm) h m i := by
  rw [mayR, hb, mayB, Bool.not_false, Bool.true_and, Bool.eq_iff_iff, allTo_iff, allTo_iff]
  refine forall_congr' fun j => forall_congr' fun hj => ?_
  by_cases hji : j = i
  · simp [hji]
  · have e1 : fstR tm (calAt h j) (calAt h i) = true → ((calAt h j).fin != -1) = true := first_ended hok hj hi hji
    have e2 : fstR tm (calAt h i) (calAt h j) = true → m.testBit j = true → False := fun h1 h2 => by
      have := hc i j hi hj (Ne.symm hji) h1 h2
      rw [hb] at this; cases this
    cases hz1 : fstR tm (calAt h j) (calAt h i) <;> cases hz2 : fstR tm (calAt h i) (calAt h j) <;> cases hz3 : m.testBit j <;> simp_all
theorem notNext_eq {m i : Nat} {x : Ct} : notNext k (fstR tm) h m i x = !(mayB (fstR tm) h m i && !tellF (calAt h i) (doF k x (calAt h i))) := by
  simp only [notNext, tellF]
  cases mayB (fstR tm) h m i <;> simp
theorem step_rel (hok : okHist k h) {m i : Nat} {x : Ct} {y : Th} (hc : Closed tm h m) (hr : RelX k x y) (hx : okX k h m x) (hi : i < h.length) :
    (stepF k (fstR tm) h m x i = none ∧ stepR k tm h m y i = none) ∨ ∃ x' y', stepF k (fstR tm) h m x i = some x' ∧ stepR k tm h m y i = some y' ∧ RelX k x' y' ∧ Closed tm h (m ||| 1 <<< i) ∧ okX k h (m ||| 1 <<< i) x' := by
  have hk : k = 1 ∨ k = 2 ∨ k = 3 ∨ k = 4 := by have := hok.1; have := hok.2.1; omega
  cases hb : m.testBit i with
  | true =>
    left
    simp [stepF, stepR, mayR, hb]
  | false =>
    have hd := do_rel hk (hist_fields hok hi) hr (fun h12 => by
      have h1 := hx.2 h12
      have h2 := opens_set hi hb
      left; omega)
    simp only [stepF, stepR, hb, Bool.false_eq_true, if_false, notNext_eq, may_eq hok hc hi hb, ← hd.2]
    cases hm : mayB (fstR tm) h m i with
    | false => left; simp
    | true =>
      cases ht : tellF (calAt h i) (doF k x (calAt h i)) with
      | true => left; simp
      | false =>
        right
        exact ⟨_, _, by simp, by simp, hd.1, closed_set hc hi hm, okX_step hx hi hb⟩
theorem path_eq (hok : okHist k h) : ∀ (n m : Nat) (x : Ct) (y : Th), Closed tm h m → RelX k x y → okX k h m x → pathG h (stepF k (fstR tm) h) n m x = pathG h (stepR k tm h) n m y
  | 0, _, _, _, _, _, _ => rfl
  | n + 1, m, x, y, hc, hr, hx => by
    simp only [pathG]
    split
    · rfl
    · have key : ∀ l : List Nat, (∀ i ∈ l, i < h.length) → tryG (stepF k (fstR tm) h) (pathG h (stepF k (fstR tm) h) n) m x l = tryG (stepR k tm h) (pathG h (stepR k tm h) n) m y l := by
        intro l
        induction l with
        | nil => intro _; rfl
        | cons i r ih =>
          intro hl
          have ih := ih (fun j hj => hl j (List.mem_cons_of_mem _ hj))
          simp only [tryG]
          rcases step_rel hok hc hr hx (hl i (by simp)) with ⟨e1, e2⟩ | ⟨x', y', e1, e2, h1, h2, h3⟩
          · rw [e1, e2]; exact ih
          · rw [e1, e2]
            simp only
            rw [path_eq hok n _ x' y' h2 h1 h3, ih]
      exact key _ (fun i hi => by simp at hi; omega)
theorem rel_zero {k : Int} : RelX k (beginF k) th0 := by
  refine ⟨rfl, ?_⟩
  split
  · rfl
  · rename_i hk
    rw [show (beginF k).n = 0 from if_neg hk]
    exact ⟨by decide, by decide, rfl⟩
theorem firsts_eq (hok : okHist k h) : (firstF k (fstR tm) h).1 = (firstR k tm h).1 := by
  rw [firstF_path hok.2.2.1, firstR_path hok.2.2.1, path_eq hok 9 0 (beginF k) th0 closed_zero rel_zero (first_ok hok.2.2.1).2.1]
end
end Go.Ab

/- linear.asked. -/
set_option autoImplicit false
set_option maxRecDepth 20000
set_option linter.unusedSimpArgs false
set_option linter.unusedVariables false
namespace Go.Ab
open Go.Proofs
/-- Which operations are in a list. -/
def marks (l : List Int) : List Int := (List.range 8).map fun j : Nat => if (j : Int) ∈ l then 1 else 0
theorem marks_len (l : List Int) : (marks l).length = 8 := by simp [marks]
theorem marks_get {l : List Int} {j : Nat} (hj : j < 8) : (marks l).getD j 0 = if (j : Int) ∈ l then 1 else 0 := by
  simp [marks, List.getD_eq_getElem?_getD, hj]
theorem marks_set {l : List Int} {j : Nat} : (marks l).set j 1 = marks (l ++ [(j : Int)]) := by
  refine List.ext_getElem (by simp [marks]) (fun q h1 h2 => ?_)
  have hq : q < 8 := by simpa [marks] using h2
  rw [List.getElem_set]
  simp only [marks, List.getElem_map, List.getElem_range, List.mem_append, List.mem_singleton]
  by_cases e : j = q
  · subst e; simp
  · rw [if_neg e]
    have : ¬ (q : Int) = j := by omega
    simp [this]
def ordTo (h : List Cal) (o : List Int) (i : Nat) : Prop := ∀ q, q < i → (0 ≤ o.getD q 0 ∧ o.getD q 0 < h.length) ∧ ∀ p, p < q → o.getD p 0 ≠ o.getD q 0
def isOrd (h : List Cal) (o : List Int) : Prop := ordTo h o o.length ∧ ∀ j, j < h.length → (calAt h j).fin ≠ -1 → (j : Int) ∈ o
open Classical in
noncomputable def askF (k : Int) (h : List Cal) (o : List Int) : Int := if okHist k h then (if isOrd h o then 0 else 1) else 260
theorem take_snoc {o : List Int} {i : Nat} (hi : i < o.length) : o.take (i + 1) = o.take i ++ [o.getD i 0] := by
  rw [List.take_add_one]
  simp [List.getD_eq_getElem?_getD, hi]
theorem mem_take {o : List Int} {i : Nat} (hi : i ≤ o.length) {x : Int} : x ∈ o.take i ↔ ∃ p, p < i ∧ o.getD p 0 = x := by
  rw [List.mem_take_iff_getElem]
  constructor
  · rintro ⟨p, hp, e⟩
    have hp2 : p < o.length := by omega
    exact ⟨p, by omega, by simp [List.getD_eq_getElem?_getD, hp2, e]⟩
  · rintro ⟨p, hp, e⟩
    have hp2 : p < o.length := by omega
    exact ⟨p, by omega, by simpa [List.getD_eq_getElem?_getD, hp2] using e⟩
theorem asked_step {h : List Cal} (hl8 : h.length ≤ 8) {o : List Int} {i : Nat} (hi : i < o.length) : (decide (o.getD i 0 < 0) || decide (o.getD i 0 ≥ (h.length : Int)) || (marks (o.take i)).getD (o.getD i 0).toNat 0 == 1) = false ↔ (0 ≤ o.getD i 0 ∧ o.getD i 0 < h.length) ∧ ∀ p, p < i → o.getD p 0 ≠ o.getD i 0 := by
  simp only [Bool.or_eq_false_iff, decide_eq_false_iff_not, Int.not_lt, Int.not_le, ge_iff_le]
  constructor
  · rintro ⟨⟨h1, h2⟩, h3⟩
    refine ⟨⟨h1, h2⟩, fun p hp e => ?_⟩
    rw [marks_get (by omega), if_pos] at h3
    · simp at h3
    · exact (mem_take (by omega)).2 ⟨p, hp, by omega⟩
  · rintro ⟨⟨h1, h2⟩, h3⟩
    refine ⟨⟨h1, h2⟩, ?_⟩
    rw [marks_get (by omega), if_neg]
    · rfl
    · intro hm
      obtain ⟨p, hp, e⟩ := (mem_take (by omega)).1 hm
      exact h3 p hp (by omega)
theorem asked_ac (k : Int) (g : Bool) (h : List Cal) (f : Bool) (o : List Int) : AC Try.prog T tysN 38 [.int k, cals g h, ints f o] [] (.int (askF k h o)) [] := by
  refine AC_intro hT Try.func38 rfl rfl (Nat.le_of_ble_eq_true rfl) ?_
  refine WP.rowlen 2 rfl (fun hol => ?_)
  refine WP.seq ?_
  refine WP.reg hT hE [] rfl ?_ ?_
  · first | trivial | (simp [holdsC, under, slOk, slB, capEq] <;> grind)
  refine WP.seq ?_
  refine WP.seq ?_
  refine WP.reg hT hE [CG.pure (.int (refCheck k h))] rfl ?_ ?_
  · exact lcheck_ac k g h
  refine WP.seq ?_
  refine WP.reg hT hE [] rfl ?_ ?_
  · first | trivial | (simp [holdsC, under, slOk, slB, capEq] <;> grind)
  refine WP.cond rfl (fun h2 => ?_) (fun h2 => ?_)
  · have hbad : ¬ okHist k h := fun e => by simp [refCheck, e] at h2
    refine WP.seq ?_
    refine WP.reg hT hE [] rfl ?_ ?_
    · first | trivial | (simp [holdsC, under, slOk, slB, capEq] <;> grind)
    refine WP.ret ?_
    change Fin _ _ _ _ _ _ _ _
    refine finI hT (by rfl) ?_
    simp [refCheck, askF, hbad]
  · have hok : okHist k h := Classical.byContradiction fun e => by simp [refCheck, e] at h2
    have hl8 : h.length ≤ 8 := hok.2.2.1
    refine WP.skip ?_
    refine WP.seq ?_
    refine WP.reg hT hE [] rfl ?_ ?_
    · first | trivial | (simp [holdsC, under, slOk, slB, capEq] <;> grind)
    refine WP.seq ?_
    refine WP.seq ?_
    refine WP.reg hT hE [] rfl ?_ ?_
    · first | trivial | (simp [holdsC, under, slOk, slB, capEq] <;> grind)
    refine WP.block ?_
    refine WP.loop (α := Nat) (fun i => mkSt [(1, cals g h), (8, .ptr (.s 8 0) 1 0 []), (19, ints f o), (20, .int o.length), (21, .int i)] [(.s 8 0, .cells ⟨115, 1, fun _ => arrI 115 8 .i64 (marks (o.take i)), 0⟩)]) (fun i => i ≤ o.length ∧ ordTo h o i) (fun i => o.length - i) ?_ ?_
    · refine ⟨0, ?_, ?_⟩
      · exact ⟨Nat.zero_le _, fun q hq => by omega⟩
      · refine Ent.mk hT [] trivial ⟨⟨rfl, _, rfl, by first | exact conv_eq rfl | (refine conv_eq ?_; rw [wrap_id (by omega) (by omega)]; simp; done) | (refine conv_eq ?_; simp; done)⟩, ⟨rfl, _, rfl, by first | exact conv_eq rfl | (refine conv_eq ?_; rw [wrap_id (by omega) (by omega)]; simp; done) | (refine conv_eq ?_; simp; done)⟩, ⟨rfl, _, rfl, by first | exact conv_eq rfl | (refine conv_eq ?_; rw [wrap_id (by omega) (by omega)]; simp; done) | (refine conv_eq ?_; simp; done)⟩, ⟨rfl, _, rfl, by first | exact conv_eq rfl | (refine conv_eq ?_; rw [wrap_id (by omega) (by omega)]; simp; done) | (refine conv_eq ?_; simp; done)⟩, ⟨rfl, _, rfl, by first | exact conv_eq rfl | (refine conv_eq ?_; rw [wrap_id (by omega) (by omega)]; simp; done) | (refine conv_eq ?_; simp; done)⟩, trivial⟩ ⟨⟨fun _ _ => rfl, .inl ⟨_, rfl, _, _, rfl, Nat.le_refl _, Nat.zero_le _, Nat.zero_le _, fun q hq => conv_eq (agg_ext (fun i => by match i with | 0 | 1 | 2 | 3 | 4 | 5 | 6 | 7 => rfl | i + 8 => rfl))⟩⟩, trivial⟩ rfl
    · rintro i ⟨hi, hor⟩
      refine WP.seq ?_
      refine WP.reg hT hE [] rfl ?_ ?_
      · first | trivial | (simp [holdsC, under, slOk, slB, capEq] <;> grind)
      refine WP.seq ?_
      refine WP.cond rfl (fun h6 => ?_) (fun h6 => ?_)
      · have hil : i < o.length := by simpa using h6
        refine WP.skip ?_
        refine WP.seq ?_
        refine WP.block ?_
        refine WP.seq ?_
        refine WP.reg hT hE [] rfl ?_ ?_
        · first | trivial | (simp [holdsC, under, slOk, slB, capEq] <;> grind)
        refine WP.seq ?_
        refine WP.seq ?_
        refine WP.reg hT hE [] rfl ?_ ?_
        · simp [holdsC, under]
          omega
        refine WP.cond rfl (fun h8 => ?_) (fun h8 => ?_)
        · simp only [bor, Int.toNat_natCast] at h8
          refine WP.seq ?_
          refine WP.reg hT hE [] rfl ?_ ?_
          · first | trivial | (simp [holdsC, under, slOk, slB, capEq] <;> grind)
          refine WP.ret ?_
          change Fin _ _ _ _ _ _ _ _
          refine finI hT (by rfl) ?_
          rw [askF, if_pos hok, if_neg]
          intro hord
          have := (asked_step hl8 hil).2 (hord.1 i hil)
          rw [this] at h8; cases h8
        · simp only [bor, Int.toNat_natCast] at h8
          obtain ⟨hb8, hd8⟩ := (asked_step hl8 hil).1 h8
          refine WP.skip ?_
          refine WP.reg hT hE [] rfl ?_ ?_
          · simp [holdsC, under]
            simp [List.getD_eq_getElem?_getD] at hb8
            omega
          refine WP.reg hT hE [] rfl ?_ ?_
          · first | trivial | (simp [holdsC, under, slOk, slB, capEq] <;> grind)
          refine ⟨i + 1, ?_, ?_, ?_⟩
          · refine ⟨hil, fun q hq => ?_⟩
            rcases Nat.lt_or_ge q i with h3 | h3
            · exact hor q h3
            · obtain rfl : q = i := by omega
              exact ⟨hb8, hd8⟩
          · refine Ent.mk hT [] trivial ⟨⟨rfl, _, rfl, by first | exact conv_eq rfl | (refine conv_eq ?_; rw [wrap_id (by omega) (by omega)]; simp; done) | (refine conv_eq ?_; simp; done)⟩, ⟨rfl, _, rfl, by first | exact conv_eq rfl | (refine conv_eq ?_; rw [wrap_id (by omega) (by omega)]; simp; done) | (refine conv_eq ?_; simp; done)⟩, ⟨rfl, _, rfl, by first | exact conv_eq rfl | (refine conv_eq ?_; rw [wrap_id (by omega) (by omega)]; simp; done) | (refine conv_eq ?_; simp; done)⟩, ⟨rfl, _, rfl, by first | exact conv_eq rfl | (refine conv_eq ?_; rw [wrap_id (by omega) (by omega)]; simp; done) | (refine conv_eq ?_; simp; done)⟩, ⟨rfl, _, rfl, by first | exact conv_eq rfl | (refine conv_eq ?_; rw [wrap_id (by omega) (by omega)]; simp; done) | (refine conv_eq ?_; simp; done)⟩, trivial⟩ ⟨⟨fun _ _ => rfl, .inl ⟨_, rfl, _, _, rfl, Nat.le_refl _, Nat.zero_le _, Nat.zero_le _, fun q hq => by (obtain rfl : q = 0 := (by simp at hq; exact hq)); exact conv_eq ((arrI_put (l := marks (o.take i)) (i := (o.getD i 0).toNat) (by rw [marks_len]; omega)).trans (by rw [marks_set, take_snoc hil, Int.toNat_of_nonneg hb8.1]))⟩⟩, trivial⟩ rfl
          · (try simp only []); first | omega | grind
      · have hil : i = o.length := by simp at h6; omega
        subst hil
        refine WP.exit ?_
        refine WP.seq ?_
        refine WP.seq ?_
        refine WP.reg hT hE [] rfl ?_ ?_
        · first | trivial | (simp [holdsC, under, slOk, slB, capEq] <;> grind)
        refine WP.block ?_
        refine WP.loop (α := Nat) (fun j => mkSt [(8, .ptr (.s 8 0) 1 0 []), (42, cals g h), (43, .int h.length), (44, .int j)] [(.s 8 0, .cells ⟨115, 1, fun _ => arrI 115 8 .i64 (marks o), 0⟩)]) (fun j => j ≤ h.length ∧ ∀ q, q < j → (calAt h q).fin ≠ -1 → (q : Int) ∈ o) (fun j => h.length - j) ?_ ?_
        · refine ⟨0, ?_, ?_⟩
          · exact ⟨Nat.zero_le _, fun q hq => by omega⟩
          · refine Ent.mk hT [] trivial ⟨⟨rfl, _, rfl, by first | exact conv_eq rfl | (refine conv_eq ?_; rw [wrap_id (by omega) (by omega)]; simp; done) | (refine conv_eq ?_; simp; done)⟩, ⟨rfl, _, rfl, by first | exact conv_eq rfl | (refine conv_eq ?_; rw [wrap_id (by omega) (by omega)]; simp; done) | (refine conv_eq ?_; simp; done)⟩, ⟨rfl, _, rfl, by first | exact conv_eq rfl | (refine conv_eq ?_; rw [wrap_id (by omega) (by omega)]; simp; done) | (refine conv_eq ?_; simp; done)⟩, ⟨rfl, _, rfl, by first | exact conv_eq rfl | (refine conv_eq ?_; rw [wrap_id (by omega) (by omega)]; simp; done) | (refine conv_eq ?_; simp; done)⟩, trivial⟩ ⟨⟨fun _ _ => rfl, .inl ⟨_, rfl, _, _, rfl, Nat.le_refl _, Nat.zero_le _, Nat.zero_le _, fun q hq => conv_eq (by rw [List.take_length])⟩⟩, trivial⟩ rfl
        · rintro j ⟨hj, hin⟩
          refine WP.seq ?_
          refine WP.reg hT hE [] rfl ?_ ?_
          · first | trivial | (simp [holdsC, under, slOk, slB, capEq] <;> grind)
          refine WP.seq ?_
          refine WP.cond rfl (fun h13 => ?_) (fun h13 => ?_)
          · have hjl : j < h.length := by simpa using h13
            refine WP.skip ?_
            refine WP.seq ?_
            refine WP.block ?_
            refine WP.seq ?_
            refine WP.reg hT hE [] rfl ?_ ?_
            · simp [holdsC, under]; omega
            refine WP.seq ?_
            refine WP.reg hT hE [] rfl ?_ ?_
            · simp [holdsC, under]
              omega
            refine WP.cond rfl (fun h15 => ?_) (fun h15 => ?_)
            · simp only [band, Int.toNat_natCast] at h15
              refine WP.seq ?_
              refine WP.reg hT hE [] rfl ?_ ?_
              · first | trivial | (simp [holdsC, under, slOk, slB, capEq] <;> grind)
              refine WP.ret ?_
              change Fin _ _ _ _ _ _ _ _
              refine finI hT (by rfl) ?_
              rw [askF, if_pos hok, if_neg]
              intro hord
              rw [marks_get (by omega)] at h15
              have := hord.2 j hjl (by simp at h15; simpa [calAt] using h15.1)
              rw [if_pos this] at h15
              simp at h15
            · refine WP.skip ?_
              refine WP.reg hT hE [] rfl ?_ ?_
              · first | trivial | (simp [holdsC, under, slOk, slB, capEq] <;> grind)
              refine ⟨j + 1, ?_, ?_, ?_⟩
              · refine ⟨hjl, fun q hq hf => ?_⟩
                rcases Nat.lt_or_ge q j with h3 | h3
                · exact hin q h3 hf
                · obtain rfl : q = j := by omega
                  simp only [band, Int.toNat_natCast] at h15
                  rw [marks_get (by omega)] at h15
                  have h4 : ((h.getD q cal0).fin != -1) = true := by simpa [calAt] using hf
                  rw [h4] at h15
                  refine Classical.byContradiction fun hno => ?_
                  rw [if_neg hno] at h15
                  simp at h15
              · refine Ent.mk hT [] trivial ⟨⟨rfl, _, rfl, by first | exact conv_eq rfl | (refine conv_eq ?_; rw [wrap_id (by omega) (by omega)]; simp; done) | (refine conv_eq ?_; simp; done)⟩, ⟨rfl, _, rfl, by first | exact conv_eq rfl | (refine conv_eq ?_; rw [wrap_id (by omega) (by omega)]; simp; done) | (refine conv_eq ?_; simp; done)⟩, ⟨rfl, _, rfl, by first | exact conv_eq rfl | (refine conv_eq ?_; rw [wrap_id (by omega) (by omega)]; simp; done) | (refine conv_eq ?_; simp; done)⟩, ⟨rfl, _, rfl, by first | exact conv_eq rfl | (refine conv_eq ?_; rw [wrap_id (by omega) (by omega)]; simp; done) | (refine conv_eq ?_; simp; done)⟩, trivial⟩ ⟨⟨fun _ _ => rfl, .inl ⟨_, rfl, _, _, rfl, Nat.le_refl _, Nat.zero_le _, Nat.zero_le _, fun q hq => conv_eq rfl⟩⟩, trivial⟩ rfl
              · (try simp only []); first | omega | grind
          · have hjl : j = h.length := by simp at h13; omega
            subst hjl
            refine WP.exit ?_
            refine WP.seq ?_
            refine WP.reg hT hE [] rfl ?_ ?_
            · first | trivial | (simp [holdsC, under, slOk, slB, capEq] <;> grind)
            refine WP.ret ?_
            change Fin _ _ _ _ _ _ _ _
            refine finI hT (by rfl) ?_
            rw [askF, if_pos hok, if_pos ⟨hor, hin⟩]
end Go.Ab


/- linear.played. -/
set_option autoImplicit false
set_option maxRecDepth 20000
set_option linter.unusedSimpArgs false
set_option linter.unusedVariables false
namespace Go.Ab
open Go.Proofs
def opAt (h : List Cal) (o : List Int) (i : Nat) : Cal := calAt h (o.getD i 0).toNat
def okTell (c : Cal) (r : Ct × Int × Bool) : Bool := c.fin == -1 || (r.2.1 == c.out && r.2.2 == c.empty)
def playTo (k : Int) (h : List Cal) (o : List Int) : Nat → Ct × Bool
  | 0 => (beginF k, true)
  | i + 1 => ((doF k (playTo k h o i).1 (opAt h o i)).1, (playTo k h o i).2 && okTell (opAt h o i) (doF k (playTo k h o i).1 (opAt h o i)))
def maskTo (o : List Int) : Nat → Nat
  | 0 => 0
  | i + 1 => maskTo o i ||| 1 <<< (o.getD i 0).toNat
theorem mask_bit {o : List Int} {j : Nat} : ∀ {i : Nat}, (maskTo o i).testBit j = true ↔ ∃ p, p < i ∧ (o.getD p 0).toNat = j
  | 0 => by simp [maskTo]
  | i + 1 => by
    rw [maskTo, bit_or, Bool.or_eq_true, mask_bit]
    constructor
    · rintro (⟨p, hp, e⟩ | e)
      · exact ⟨p, by omega, e⟩
      · exact ⟨i, by omega, by simpa using e⟩
    · rintro ⟨p, hp, e⟩
      by_cases hpi : p = i
      · subst hpi; exact .inr (by simpa using e)
      · exact .inl ⟨p, by omega, e⟩
theorem openTo_zero : ∀ n, openTo 0 n = n
  | 0 => rfl
  | n + 1 => by simp [openTo, openTo_zero n]
theorem ord_mono {h : List Cal} {o : List Int} {i j : Nat} (hij : i ≤ j) (ho : ordTo h o j) : ordTo h o i := fun q hq => ho q (by omega)
theorem ord_new {h : List Cal} {o : List Int} {i : Nat} (ho : ordTo h o (i + 1)) : (maskTo o i).testBit (o.getD i 0).toNat = false ∧ (o.getD i 0).toNat < h.length := by
  obtain ⟨h1, h2⟩ := ho i (by omega)
  refine ⟨?_, by omega⟩
  cases hb : (maskTo o i).testBit (o.getD i 0).toNat with
  | false => rfl
  | true =>
    obtain ⟨p, hp, e⟩ := mask_bit.1 hb
    have h3 := (ho p (by omega)).1
    exact absurd (by omega) (h2 p hp)
theorem ord_opens {h : List Cal} {o : List Int} : ∀ {i : Nat}, ordTo h o i → opens h (maskTo o i) + i = h.length
  | 0, _ => openTo_zero _
  | i + 1, ho => by
    have ih := ord_opens (ord_mono (by omega : i ≤ i + 1) ho)
    obtain ⟨h1, h2⟩ := ord_new ho
    have := opens_set h2 h1
    show opens h (maskTo o i ||| 1 <<< (o.getD i 0).toNat) + (i + 1) = h.length
    omega
theorem play_ok {k : Int} {h : List Cal} (hl : h.length ≤ 8) {o : List Int} : ∀ {i : Nat}, ordTo h o i → okX k h (maskTo o i) (playTo k h o i).1
  | 0, _ => (first_ok hl).2.1
  | i + 1, ho => okX_step (play_ok hl (ord_mono (by omega : i ≤ i + 1) ho)) (ord_new ho).2 (ord_new ho).1
def encPlay (r : Ct × Bool) : AV := .tup [encCt r.1, .bool r.2]
theorem fin_play {nt : Nat} {st : St} {B : Blk} {r : Ct × Bool} (h6 : st.t 6 = some (.always, .ptr (.s 6 0) 1 0 [])) (h7 : st.t 7 = some (.always, .bool r.2)) (hm : st.m (.s 6 0) = some (.cells B)) (hty : B.ty = 78) (hn : B.n = 1) (hy : B.get 0 = encCt r.1) : Fin T tysN nt 0 [.cell 6 78, .tmp 7] (encPlay r) [] st :=
  fin_mk hT [(.s 6 0, 1)] (ts := [(6, .rp 78 (encCt r.1)), (7, .bool r.2)]) (B' := []) ⟨⟨B, hm, by omega⟩, trivial⟩ ⟨⟨rfl, _, h6, conv_rpe hm hn (by simp [lookF, idbeq_self]) (by rw [hty]; rfl) (by simpa [AV.at] using hy) (noIds_ct _)⟩, ⟨rfl, _, h7, conv_eq rfl⟩, trivial⟩ trivial rfl (by rfl) (by rfl)
theorem played1_ac (k : Int) (hk : k = 1 ∨ k = 2 ∨ k = 3 ∨ k = 4)  (hcaps : capsOf k = []) (g : Bool) (h : List Cal) (hl : h.length ≤ 8) (f : Bool) (o : List Int) (hor : ordTo h o o.length) : AC Try.prog T tysN 39 [.int k, cals g h, ints f o] [] (encPlay (playTo k h o o.length)) [] := by
  refine AC_intro hT Try.func39 rfl rfl (Nat.le_of_ble_eq_true rfl) ?_
  have hof := of_ac hk
  rw [thOf, hcaps] at hof
  have hol := ord_opens hor
  refine WP.seq ?_
  refine WP.reg hT hE [] rfl ?_ ?_
  · first | trivial | (simp [holdsC, under, slOk, slB, capEq] <;> grind)
  refine WP.seq ?_
  refine WP.reg hT hE [CG.pure (.tup [encTh (mayOf k) (fnOf k) [], .bool true])] rfl ?_ ?_
  · exact ⟨hof, rfl, Nat.le_refl _⟩
  refine WP.seq ?_
  refine WP.reg hT hE [CG.pure (encCt (beginF k))] rfl ?_ ?_
  · exact ⟨begin_ac k, rfl, Nat.le_refl _⟩
  refine WP.seq ?_
  refine WP.reg hT hE [] rfl ?_ ?_
  · first | trivial | (simp [holdsC, under, slOk, slB, capEq] <;> grind)
  refine WP.seq ?_
  refine WP.seq ?_
  refine WP.reg hT hE [] rfl ?_ ?_
  · first | trivial | (simp [holdsC, under, slOk, slB, capEq] <;> grind)
  refine WP.block ?_
  refine WP.loop (α := Nat) (fun i => mkSt [(1, cals g h), (6, .ptr (.s 6 0) 1 0 []), (8, .rp 60 (encTh (mayOf k) (fnOf k) [])), (10, .ptr (.s 10 0) 1 0 []), (11, .bool (playTo k h o i).2), (24, ints f o), (25, .int o.length), (26, .int i)] [(.s 6 0, .cells ⟨78, 1, fun _ => encCt ⟨0, zeros8⟩, 0⟩), (.s 10 0, .cells ⟨78, 1, fun _ => encCt (playTo k h o i).1, 0⟩)]) (fun i => i ≤ o.length) (fun i => o.length - i) ?_ ?_
  · refine ⟨0, ?_, ?_⟩
    · exact Nat.zero_le _
    · refine Ent.mk hT [(.s 8 0, 1)] ⟨⟨_, rfl, Nat.le_refl _⟩, trivial⟩ ⟨⟨rfl, _, rfl, by first | exact conv_eq rfl | (refine conv_eq ?_; rw [wrap_id (by omega) (by omega)]; simp; done) | (refine conv_eq ?_; simp; done)⟩, ⟨rfl, _, rfl, by first | exact conv_eq rfl | (refine conv_eq ?_; rw [wrap_id (by omega) (by omega)]; simp; done) | (refine conv_eq ?_; simp; done)⟩, ⟨rfl, _, rfl, conv_rpe rfl rfl (Nat.lt_succ_self 0) rfl rfl (noIds_th _ _ _ rfl)⟩, ⟨rfl, _, rfl, by first | exact conv_eq rfl | (refine conv_eq ?_; rw [wrap_id (by omega) (by omega)]; simp; done) | (refine conv_eq ?_; simp; done)⟩, ⟨rfl, _, rfl, by first | exact conv_eq rfl | (refine conv_eq ?_; rw [wrap_id (by omega) (by omega)]; simp; done) | (refine conv_eq ?_; simp; done)⟩, ⟨rfl, _, rfl, by first | exact conv_eq rfl | (refine conv_eq ?_; rw [wrap_id (by omega) (by omega)]; simp; done) | (refine conv_eq ?_; simp; done)⟩, ⟨rfl, _, rfl, by first | exact conv_eq rfl | (refine conv_eq ?_; rw [wrap_id (by omega) (by omega)]; simp; done) | (refine conv_eq ?_; simp; done)⟩, ⟨rfl, _, rfl, by first | exact conv_eq rfl | (refine conv_eq ?_; rw [wrap_id (by omega) (by omega)]; simp; done) | (refine conv_eq ?_; simp; done)⟩, trivial⟩ ⟨⟨fun _ _ => rfl, .inl ⟨_, rfl, _, _, rfl, Nat.le_refl _, Nat.zero_le _, Nat.zero_le _, fun q hq => conv_eq (by show stru 78 [.int 0, .agg 76 8 fun _ => .int 0] = _; rw [zero_arr]; rfl)⟩⟩, ⟨fun _ _ => rfl, .inl ⟨_, rfl, _, _, rfl, Nat.le_refl _, Nat.zero_le _, Nat.zero_le _, fun q hq => by (obtain rfl : q = 0 := (by simp at hq; exact hq)); exact conv_eq rfl⟩⟩, trivial⟩ rfl
  · rintro i hi
    refine WP.seq ?_
    refine WP.reg hT hE [] rfl ?_ ?_
    · first | trivial | (simp [holdsC, under, slOk, slB, capEq] <;> grind)
    refine WP.seq ?_
    refine WP.cond rfl (fun h5 => ?_) (fun h5 => ?_)
    · have hil : i < o.length := by simpa using h5
      have hoi := ord_mono (show i + 1 ≤ o.length by omega) hor
      obtain ⟨hb, hin⟩ := ord_new hoi
      have hx := play_ok (k := k) hl (ord_mono (show i ≤ o.length by omega) hor)
      have h0i := (hor i hil).1
      refine WP.skip ?_
      refine WP.seq ?_
      refine WP.block ?_
      refine WP.seq ?_
      refine WP.reg hT hE [] rfl ?_ ?_
      · first | trivial | (simp [holdsC, under, slOk, slB, capEq] <;> grind)
      refine WP.seq ?_
      refine WP.drw hT hE hM [CG.pure (encOut (doF k (playTo k h o i).1 (opAt h o i)))] rfl ?_ ?_
      · have ho1 := do_ac hk (x := (playTo k h o i).1) (c := opAt h o i) hx.1 (okX_pre hx hin hb)
        rw [hcaps] at ho1
        simp [holdsC, under, CG.pure]
        exact ⟨h0i, ho1⟩
      refine WP.seq ?_
      refine WP.reg hT hE [] rfl ?_ ?_
      · simp [holdsC, under]
        have h9 : 0 ≤ o[i]?.getD 0 ∧ o[i]?.getD 0 < (h.length : Int) := by simpa [List.getD_eq_getElem?_getD] using h0i
        grind
      refine WP.reg hT hE [] rfl ?_ ?_
      · first | trivial | (simp [holdsC, under, slOk, slB, capEq] <;> grind)
      refine WP.reg hT hE [] rfl ?_ ?_
      · first | trivial | (simp [holdsC, under, slOk, slB, capEq] <;> grind)
      refine ⟨i + 1, ?_, ?_, ?_⟩
      · exact hil
      · refine Ent.mk hT [] trivial ⟨⟨rfl, _, rfl, by first | exact conv_eq rfl | (refine conv_eq ?_; rw [wrap_id (by omega) (by omega)]; simp; done) | (refine conv_eq ?_; simp; done)⟩, ⟨rfl, _, rfl, by first | exact conv_eq rfl | (refine conv_eq ?_; rw [wrap_id (by omega) (by omega)]; simp; done) | (refine conv_eq ?_; simp; done)⟩, ⟨rfl, _, rfl, by first | exact conv_eq rfl | (refine conv_eq ?_; rw [wrap_id (by omega) (by omega)]; simp; done) | (refine conv_eq ?_; simp; done)⟩, ⟨rfl, _, rfl, by first | exact conv_eq rfl | (refine conv_eq ?_; rw [wrap_id (by omega) (by omega)]; simp; done) | (refine conv_eq ?_; simp; done)⟩, ⟨rfl, _, rfl, conv_eq (by simp only [playTo, okTell, bor, band]; rfl)⟩, ⟨rfl, _, rfl, by first | exact conv_eq rfl | (refine conv_eq ?_; rw [wrap_id (by omega) (by omega)]; simp; done) | (refine conv_eq ?_; simp; done)⟩, ⟨rfl, _, rfl, by first | exact conv_eq rfl | (refine conv_eq ?_; rw [wrap_id (by omega) (by omega)]; simp; done) | (refine conv_eq ?_; simp; done)⟩, ⟨rfl, _, rfl, by first | exact conv_eq rfl | (refine conv_eq ?_; rw [wrap_id (by omega) (by omega)]; simp; done) | (refine conv_eq ?_; simp; done)⟩, trivial⟩ ⟨⟨fun _ _ => rfl, .inl ⟨_, rfl, _, _, rfl, Nat.le_refl _, Nat.zero_le _, Nat.zero_le _, fun q hq => conv_eq rfl⟩⟩, ⟨fun _ _ => rfl, .inl ⟨_, rfl, _, _, rfl, Nat.le_refl _, Nat.zero_le _, Nat.zero_le _, fun q hq => by (obtain rfl : q = 0 := (by simp at hq; exact hq)); exact conv_eq rfl⟩⟩, trivial⟩ rfl
      · (try simp only []); first | omega | grind
    · have hil : i = o.length := by simp at h5; omega
      subst hil
      refine WP.exit ?_
      refine WP.seq ?_
      refine WP.reg hT hE [] rfl ?_ ?_
      · first | trivial | (simp [holdsC, under, slOk, slB, capEq] <;> grind)
      refine WP.ret ?_
      change Fin _ _ _ _ _ _ _ _
      exact fin_play (by rfl) (by rfl) (by rfl) rfl rfl (by rfl)
theorem played2_ac (k : Int) (hk : k = 1 ∨ k = 2 ∨ k = 3 ∨ k = 4) (cb : Bool) (hcaps : capsOf k = [.rp 4 (.bool cb)]) (g : Bool) (h : List Cal) (hl : h.length ≤ 8) (f : Bool) (o : List Int) (hor : ordTo h o o.length) : AC Try.prog T tysN 39 [.int k, cals g h, ints f o] [] (encPlay (playTo k h o o.length)) [] := by
  refine AC_intro hT Try.func39 rfl rfl (Nat.le_of_ble_eq_true rfl) ?_
  have hof := of_ac hk
  rw [thOf, hcaps] at hof
  have hol := ord_opens hor
  refine WP.seq ?_
  refine WP.reg hT hE [] rfl ?_ ?_
  · first | trivial | (simp [holdsC, under, slOk, slB, capEq] <;> grind)
  refine WP.seq ?_
  refine WP.reg hT hE [CG.pure (.tup [encTh (mayOf k) (fnOf k) [.rp 4 (.bool cb)], .bool true])] rfl ?_ ?_
  · exact ⟨hof, rfl, Nat.le_refl _⟩
  refine WP.seq ?_
  refine WP.reg hT hE [CG.pure (encCt (beginF k))] rfl ?_ ?_
  · exact ⟨begin_ac k, rfl, Nat.le_refl _⟩
  refine WP.seq ?_
  refine WP.reg hT hE [] rfl ?_ ?_
  · first | trivial | (simp [holdsC, under, slOk, slB, capEq] <;> grind)
  refine WP.seq ?_
  refine WP.seq ?_
  refine WP.reg hT hE [] rfl ?_ ?_
  · first | trivial | (simp [holdsC, under, slOk, slB, capEq] <;> grind)
  refine WP.block ?_
  refine WP.loop (α := Nat) (fun i => mkSt [(1, cals g h), (6, .ptr (.s 6 0) 1 0 []), (8, .rp 60 (encTh (mayOf k) (fnOf k) [.rp 4 (.bool cb)])), (10, .ptr (.s 10 0) 1 0 []), (11, .bool (playTo k h o i).2), (24, ints f o), (25, .int o.length), (26, .int i)] [(.s 6 0, .cells ⟨78, 1, fun _ => encCt ⟨0, zeros8⟩, 0⟩), (.s 10 0, .cells ⟨78, 1, fun _ => encCt (playTo k h o i).1, 0⟩)]) (fun i => i ≤ o.length) (fun i => o.length - i) ?_ ?_
  · refine ⟨0, ?_, ?_⟩
    · exact Nat.zero_le _
    · refine Ent.mk hT [(.s 8 0, 1)] ⟨⟨_, rfl, Nat.le_refl _⟩, trivial⟩ ⟨⟨rfl, _, rfl, by first | exact conv_eq rfl | (refine conv_eq ?_; rw [wrap_id (by omega) (by omega)]; simp; done) | (refine conv_eq ?_; simp; done)⟩, ⟨rfl, _, rfl, by first | exact conv_eq rfl | (refine conv_eq ?_; rw [wrap_id (by omega) (by omega)]; simp; done) | (refine conv_eq ?_; simp; done)⟩, ⟨rfl, _, rfl, conv_rpe rfl rfl (Nat.lt_succ_self 0) rfl rfl (noIds_th _ _ _ rfl)⟩, ⟨rfl, _, rfl, by first | exact conv_eq rfl | (refine conv_eq ?_; rw [wrap_id (by omega) (by omega)]; simp; done) | (refine conv_eq ?_; simp; done)⟩, ⟨rfl, _, rfl, by first | exact conv_eq rfl | (refine conv_eq ?_; rw [wrap_id (by omega) (by omega)]; simp; done) | (refine conv_eq ?_; simp; done)⟩, ⟨rfl, _, rfl, by first | exact conv_eq rfl | (refine conv_eq ?_; rw [wrap_id (by omega) (by omega)]; simp; done) | (refine conv_eq ?_; simp; done)⟩, ⟨rfl, _, rfl, by first | exact conv_eq rfl | (refine conv_eq ?_; rw [wrap_id (by omega) (by omega)]; simp; done) | (refine conv_eq ?_; simp; done)⟩, ⟨rfl, _, rfl, by first | exact conv_eq rfl | (refine conv_eq ?_; rw [wrap_id (by omega) (by omega)]; simp; done) | (refine conv_eq ?_; simp; done)⟩, trivial⟩ ⟨⟨fun _ _ => rfl, .inl ⟨_, rfl, _, _, rfl, Nat.le_refl _, Nat.zero_le _, Nat.zero_le _, fun q hq => conv_eq (by show stru 78 [.int 0, .agg 76 8 fun _ => .int 0] = _; rw [zero_arr]; rfl)⟩⟩, ⟨fun _ _ => rfl, .inl ⟨_, rfl, _, _, rfl, Nat.le_refl _, Nat.zero_le _, Nat.zero_le _, fun q hq => by (obtain rfl : q = 0 := (by simp at hq; exact hq)); exact conv_eq rfl⟩⟩, trivial⟩ rfl
  · rintro i hi
    refine WP.seq ?_
    refine WP.reg hT hE [] rfl ?_ ?_
    · first | trivial | (simp [holdsC, under, slOk, slB, capEq] <;> grind)
    refine WP.seq ?_
    refine WP.cond rfl (fun h5 => ?_) (fun h5 => ?_)
    · have hil : i < o.length := by simpa using h5
      have hoi := ord_mono (show i + 1 ≤ o.length by omega) hor
      obtain ⟨hb, hin⟩ := ord_new hoi
      have hx := play_ok (k := k) hl (ord_mono (show i ≤ o.length by omega) hor)
      have h0i := (hor i hil).1
      refine WP.skip ?_
      refine WP.seq ?_
      refine WP.block ?_
      refine WP.seq ?_
      refine WP.reg hT hE [] rfl ?_ ?_
      · first | trivial | (simp [holdsC, under, slOk, slB, capEq] <;> grind)
      refine WP.seq ?_
      refine WP.drw hT hE hM [CG.pure (encOut (doF k (playTo k h o i).1 (opAt h o i)))] rfl ?_ ?_
      · have ho1 := do_ac hk (x := (playTo k h o i).1) (c := opAt h o i) hx.1 (okX_pre hx hin hb)
        rw [hcaps] at ho1
        simp [holdsC, under, CG.pure]
        exact ⟨h0i, ho1⟩
      refine WP.seq ?_
      refine WP.reg hT hE [] rfl ?_ ?_
      · simp [holdsC, under]
        have h9 : 0 ≤ o[i]?.getD 0 ∧ o[i]?.getD 0 < (h.length : Int) := by simpa [List.getD_eq_getElem?_getD] using h0i
        grind
      refine WP.reg hT hE [] rfl ?_ ?_
      · first | trivial | (simp [holdsC, under, slOk, slB, capEq] <;> grind)
      refine WP.reg hT hE [] rfl ?_ ?_
      · first | trivial | (simp [holdsC, under, slOk, slB, capEq] <;> grind)
      refine ⟨i + 1, ?_, ?_, ?_⟩
      · exact hil
      · refine Ent.mk hT [] trivial ⟨⟨rfl, _, rfl, by first | exact conv_eq rfl | (refine conv_eq ?_; rw [wrap_id (by omega) (by omega)]; simp; done) | (refine conv_eq ?_; simp; done)⟩, ⟨rfl, _, rfl, by first | exact conv_eq rfl | (refine conv_eq ?_; rw [wrap_id (by omega) (by omega)]; simp; done) | (refine conv_eq ?_; simp; done)⟩, ⟨rfl, _, rfl, by first | exact conv_eq rfl | (refine conv_eq ?_; rw [wrap_id (by omega) (by omega)]; simp; done) | (refine conv_eq ?_; simp; done)⟩, ⟨rfl, _, rfl, by first | exact conv_eq rfl | (refine conv_eq ?_; rw [wrap_id (by omega) (by omega)]; simp; done) | (refine conv_eq ?_; simp; done)⟩, ⟨rfl, _, rfl, conv_eq (by simp only [playTo, okTell, bor, band]; rfl)⟩, ⟨rfl, _, rfl, by first | exact conv_eq rfl | (refine conv_eq ?_; rw [wrap_id (by omega) (by omega)]; simp; done) | (refine conv_eq ?_; simp; done)⟩, ⟨rfl, _, rfl, by first | exact conv_eq rfl | (refine conv_eq ?_; rw [wrap_id (by omega) (by omega)]; simp; done) | (refine conv_eq ?_; simp; done)⟩, ⟨rfl, _, rfl, by first | exact conv_eq rfl | (refine conv_eq ?_; rw [wrap_id (by omega) (by omega)]; simp; done) | (refine conv_eq ?_; simp; done)⟩, trivial⟩ ⟨⟨fun _ _ => rfl, .inl ⟨_, rfl, _, _, rfl, Nat.le_refl _, Nat.zero_le _, Nat.zero_le _, fun q hq => conv_eq rfl⟩⟩, ⟨fun _ _ => rfl, .inl ⟨_, rfl, _, _, rfl, Nat.le_refl _, Nat.zero_le _, Nat.zero_le _, fun q hq => by (obtain rfl : q = 0 := (by simp at hq; exact hq)); exact conv_eq rfl⟩⟩, trivial⟩ rfl
      · (try simp only []); first | omega | grind
    · have hil : i = o.length := by simp at h5; omega
      subst hil
      refine WP.exit ?_
      refine WP.seq ?_
      refine WP.reg hT hE [] rfl ?_ ?_
      · first | trivial | (simp [holdsC, under, slOk, slB, capEq] <;> grind)
      refine WP.ret ?_
      change Fin _ _ _ _ _ _ _ _
      exact fin_play (by rfl) (by rfl) (by rfl) rfl rfl (by rfl)
theorem played_ac {k : Int} (hk : k = 1 ∨ k = 2 ∨ k = 3 ∨ k = 4) (g : Bool) {h : List Cal} (hl : h.length ≤ 8) (f : Bool) {o : List Int} (hor : ordTo h o o.length) : AC Try.prog T tysN 39 [.int k, cals g h, ints f o] [] (encPlay (playTo k h o o.length)) [] := by
  by_cases h12 : k = 1 ∨ k = 2
  · exact played1_ac k hk (if_pos h12) g h hl f o hor
  · exact played2_ac k hk _ (if_neg h12) g h hl f o hor
end Go.Ab


/- linear.Fits. -/
set_option autoImplicit false
set_option maxRecDepth 20000
set_option linter.unusedSimpArgs false
set_option linter.unusedVariables false
namespace Go.Ab
open Go.Proofs
def rowTo (p : Cal → Cal → Bool) (h : List Cal) (o : List Int) (a j : Nat) : Bool := allTo (fun b => !p (opAt h o (a + 1 + b)) (opAt h o a)) j
def prTo (p : Cal → Cal → Bool) (h : List Cal) (o : List Int) (i : Nat) : Bool := allTo (fun a => rowTo p h o a (o.length - (a + 1))) i
open Classical in
noncomputable def fitsF (k : Int) (h : List Cal) (o : List Int) : Bool × Bool × Bool × Int := if askF k h o = 0 then ((playTo k h o o.length).2, prTo ahd h o o.length, prTo trn h o o.length, 0) else (false, false, false, askF k h o)
def encR4 (r : Bool × Bool × Bool × Int) : AV := .tup [.bool r.1, .bool r.2.1, .bool r.2.2.1, .int r.2.2.2]
theorem ask_zero {k : Int} {h : List Cal} {o : List Int} : askF k h o = 0 ↔ okHist k h ∧ isOrd h o := by
  unfold askF
  by_cases h1 : okHist k h
  · by_cases h2 : isOrd h o <;> simp [h1, h2]
  · simp [h1]
theorem tail_row {o : List Int} {i : Nat} (hi : i < o.length) (hl : o.length ≤ 8) {m : Id → Option Ob} {F : Id → Nat} {f : Bool} : Conv m F T (.row 3 f ((o.length : Int) - IntKind.i64.wrap ((i : Int) + 1)).toNat (fun j => .int (o.getD ((IntKind.i64.wrap ((i : Int) + 1)).toNat + j) 0))) (.row 3 false (o.length - (i + 1)) (fun j => .int (o.getD (i + 1 + j) 0))) := by
  have e0 := wrap_id (n := (i : Int) + 1) (by omega) (by omega)
  have e : ((o.length : Int) - IntKind.i64.wrap ((i : Int) + 1)).toNat = o.length - (i + 1) := by omega
  rw [e]
  refine conv_rowL (fun h => by cases h) (fun j hj => ?_)
  rw [e0, show ((i : Int) + 1).toNat = i + 1 by omega]
theorem fin_r4 {nt : Nat} {st : St} {r : Bool × Bool × Bool × Int} (h6 : st.t 6 = some (.always, .bool r.1)) (h7 : st.t 7 = some (.always, .bool r.2.1)) (h8 : st.t 8 = some (.always, .bool r.2.2.1)) (h9 : st.t 9 = some (.always, .int r.2.2.2)) : Fin T tysN nt 0 [.tmp 6, .tmp 7, .tmp 8, .tmp 9] (encR4 r) [] st :=
  fin_mk hT [] (ts := [(6, .bool r.1), (7, .bool r.2.1), (8, .bool r.2.2.1), (9, .int r.2.2.2)]) (B' := []) trivial ⟨⟨rfl, _, h6, conv_eq rfl⟩, ⟨rfl, _, h7, conv_eq rfl⟩, ⟨rfl, _, h8, conv_eq rfl⟩, ⟨rfl, _, h9, conv_eq rfl⟩, trivial⟩ trivial rfl (by rfl) (by rfl)
theorem fits_ac (k : Int) (g : Bool) (h : List Cal) (f : Bool) (o : List Int) : AC Try.prog T tysN 18 [.int k, cals g h, ints f o] [] (encR4 (fitsF k h o)) [] := by
  refine AC_intro hT Try.func18 rfl rfl (Nat.le_of_ble_eq_true rfl) ?_
  refine WP.seq ?_
  refine WP.reg hT hE [] rfl ?_ ?_
  · first | trivial | (simp [holdsC, under, slOk, slB, capEq] <;> grind)
  refine WP.seq ?_
  refine WP.seq ?_
  refine WP.reg hT hE [CG.pure (.int (askF k h o))] rfl ?_ ?_
  · exact asked_ac k g h f o
  refine WP.seq ?_
  refine WP.reg hT hE [] rfl ?_ ?_
  · first | trivial | (simp [holdsC, under, slOk, slB, capEq] <;> grind)
  refine WP.cond rfl (fun h2 => ?_) (fun h2 => ?_)
  · have hbad : ¬ askF k h o = 0 := fun e => by simp [e] at h2
    refine WP.seq ?_
    refine WP.reg hT hE [] rfl ?_ ?_
    · first | trivial | (simp [holdsC, under, slOk, slB, capEq] <;> grind)
    refine WP.ret ?_
    change Fin _ _ _ _ _ _ _ _
    rw [show fitsF k h o = (false, false, false, askF k h o) from if_neg hbad]
    exact fin_r4 (by rfl) (by rfl) (by rfl) (by rfl)
  · have hz : askF k h o = 0 := by simpa using h2
    obtain ⟨hok, hord⟩ := ask_zero.1 hz
    have hl8 := hok.2.2.1
    have hol := ord_opens hord.1
    have hk : k = 1 ∨ k = 2 ∨ k = 3 ∨ k = 4 := by have := hok.1; have := hok.2.1; omega
    have hpl := played_ac hk g hl8 f hord.1
    refine WP.skip ?_
    refine WP.seq ?_
    refine WP.reg hT hE [CG.pure (encPlay (playTo k h o o.length))] rfl ?_ ?_
    · exact ⟨hpl, rfl, Nat.le_refl _⟩
    refine WP.seq ?_
    refine WP.reg hT hE [] rfl ?_ ?_
    · first | trivial | (simp [holdsC, under, slOk, slB, capEq] <;> grind)
    refine WP.seq ?_
    refine WP.seq ?_
    refine WP.reg hT hE [] rfl ?_ ?_
    · first | trivial | (simp [holdsC, under, slOk, slB, capEq] <;> grind)
    refine WP.block ?_
    refine WP.loop (α := Nat) (fun i => mkSt [(1, cals g h), (2, ints f o), (12, .bool (playTo k h o o.length).2), (13, .bool (prTo ahd h o i)), (14, .bool (prTo trn h o i)), (33, ints f o), (34, .int o.length), (35, .int i)] []) (fun i => i ≤ o.length) (fun i => o.length - i) ?_ ?_
    · refine ⟨0, ?_, ?_⟩
      · exact Nat.zero_le _
      · refine Ent.mk hT [] trivial ⟨⟨rfl, _, rfl, by first | exact conv_eq rfl | (refine conv_eq ?_; rw [wrap_id (by omega) (by omega)]; simp; done) | (refine conv_eq ?_; simp; done)⟩, ⟨rfl, _, rfl, by first | exact conv_eq rfl | (refine conv_eq ?_; rw [wrap_id (by omega) (by omega)]; simp; done) | (refine conv_eq ?_; simp; done)⟩, ⟨rfl, _, rfl, by first | exact conv_eq rfl | (refine conv_eq ?_; rw [wrap_id (by omega) (by omega)]; simp; done) | (refine conv_eq ?_; simp; done)⟩, ⟨rfl, _, rfl, by first | exact conv_eq rfl | (refine conv_eq ?_; rw [wrap_id (by omega) (by omega)]; simp; done) | (refine conv_eq ?_; simp; done)⟩, ⟨rfl, _, rfl, by first | exact conv_eq rfl | (refine conv_eq ?_; rw [wrap_id (by omega) (by omega)]; simp; done) | (refine conv_eq ?_; simp; done)⟩, ⟨rfl, _, rfl, by first | exact conv_eq rfl | (refine conv_eq ?_; rw [wrap_id (by omega) (by omega)]; simp; done) | (refine conv_eq ?_; simp; done)⟩, ⟨rfl, _, rfl, by first | exact conv_eq rfl | (refine conv_eq ?_; rw [wrap_id (by omega) (by omega)]; simp; done) | (refine conv_eq ?_; simp; done)⟩, ⟨rfl, _, rfl, by first | exact conv_eq rfl | (refine conv_eq ?_; rw [wrap_id (by omega) (by omega)]; simp; done) | (refine conv_eq ?_; simp; done)⟩, trivial⟩ trivial rfl
    · rintro i hi
      refine WP.seq ?_
      refine WP.reg hT hE [] rfl ?_ ?_
      · first | trivial | (simp [holdsC, under, slOk, slB, capEq] <;> grind)
      refine WP.seq ?_
      refine WP.cond rfl (fun h7 => ?_) (fun h7 => ?_)
      · have hil : i < o.length := by simpa using h7
        have h0i := (hord.1 i hil).1
        refine WP.skip ?_
        refine WP.seq ?_
        refine WP.block ?_
        refine WP.seq ?_
        refine WP.reg hT hE [] rfl ?_ ?_
        · first | trivial | (simp [holdsC, under, slOk, slB, capEq] <;> grind)
        refine WP.seq ?_
        refine WP.reg hT hE [] rfl ?_ ?_
        · have e0 := wrap_id (n := (i : Int) + 1) (by omega) (by omega)
          simp [holdsC, under, slOk, slB, capEq, e0]
          omega
        refine WP.block ?_
        refine WP.loop (α := Nat) (fun j => mkSt [(1, cals g h), (2, ints f o), (12, .bool (playTo k h o o.length).2), (13, .bool (prTo ahd h o i && rowTo ahd h o i j)), (14, .bool (prTo trn h o i && rowTo trn h o i j)), (16, .int (o.getD i 0)), (33, ints f o), (34, .int o.length), (35, .int i), (43, .row 3 false (o.length - (i + 1)) (fun j => .int (o.getD (i + 1 + j) 0))), (44, .int ((o.length - (i + 1) : Nat) : Int)), (45, .int j)] []) (fun j => j ≤ o.length - (i + 1)) (fun j => o.length - (i + 1) - j) ?_ ?_
        · refine ⟨0, ?_, ?_⟩
          · exact Nat.zero_le _
          · refine Ent.mk hT [] trivial ⟨⟨rfl, _, rfl, by first | exact conv_eq rfl | (refine conv_eq ?_; rw [wrap_id (by omega) (by omega)]; simp; done) | (refine conv_eq ?_; simp; done)⟩, ⟨rfl, _, rfl, by first | exact conv_eq rfl | (refine conv_eq ?_; rw [wrap_id (by omega) (by omega)]; simp; done) | (refine conv_eq ?_; simp; done)⟩, ⟨rfl, _, rfl, by first | exact conv_eq rfl | (refine conv_eq ?_; rw [wrap_id (by omega) (by omega)]; simp; done) | (refine conv_eq ?_; simp; done)⟩, ⟨rfl, _, rfl, conv_eq (by simp [rowTo, allTo])⟩, ⟨rfl, _, rfl, conv_eq (by simp [rowTo, allTo])⟩, ⟨rfl, _, rfl, by first | exact conv_eq rfl | (refine conv_eq ?_; rw [wrap_id (by omega) (by omega)]; simp; done) | (refine conv_eq ?_; simp; done)⟩, ⟨rfl, _, rfl, by first | exact conv_eq rfl | (refine conv_eq ?_; rw [wrap_id (by omega) (by omega)]; simp; done) | (refine conv_eq ?_; simp; done)⟩, ⟨rfl, _, rfl, by first | exact conv_eq rfl | (refine conv_eq ?_; rw [wrap_id (by omega) (by omega)]; simp; done) | (refine conv_eq ?_; simp; done)⟩, ⟨rfl, _, rfl, by first | exact conv_eq rfl | (refine conv_eq ?_; rw [wrap_id (by omega) (by omega)]; simp; done) | (refine conv_eq ?_; simp; done)⟩, ⟨rfl, _, rfl, tail_row hil (by omega)⟩, ⟨rfl, _, rfl, ?_⟩, ⟨rfl, _, rfl, by first | exact conv_eq rfl | (refine conv_eq ?_; rw [wrap_id (by omega) (by omega)]; simp; done) | (refine conv_eq ?_; simp; done)⟩, trivial⟩ trivial rfl
            · have e0 := wrap_id (n := (i : Int) + 1) (by omega) (by omega)
              refine conv_eq (congrArg AV.int (congrArg Int.ofNat ?_))
              show ((o.length : Int) - IntKind.i64.wrap ((i : Int) + 1)).toNat = _
              omega
        · rintro j hj
          refine WP.seq ?_
          refine WP.reg hT hE [] rfl ?_ ?_
          · first | trivial | (simp [holdsC, under, slOk, slB, capEq] <;> grind)
          refine WP.seq ?_
          refine WP.cond rfl (fun h10 => ?_) (fun h10 => ?_)
          · have hjl : j < o.length - (i + 1) := by simp at h10; omega
            have h0j := (hord.1 (i + 1 + j) (by omega)).1
            refine WP.skip ?_
            refine WP.seq ?_
            refine WP.block ?_
            refine WP.seq ?_
            refine WP.reg hT hE [] rfl ?_ ?_
            · first | trivial | (simp [holdsC, under, slOk, slB, capEq] <;> grind)
            refine WP.seq ?_
            refine WP.drw hT hE hM [CG.pure (.bool (ahd (opAt h o (i + 1 + j)) (opAt h o i)))] rfl ?_ ?_
            · have ha := ahead_ac (opAt h o (i + 1 + j)) (opAt h o i)
              simp [holdsC, under, CG.pure]
              exact ⟨⟨fun _ _ => h0j, fun _ _ => h0i⟩, fun _ _ => ha⟩
            refine WP.drw hT hE hM [CG.pure (.bool (trn (opAt h o (i + 1 + j)) (opAt h o i)))] rfl ?_ ?_
            · have ha := turns_ac (opAt h o (i + 1 + j)) (opAt h o i)
              simp [holdsC, under, CG.pure]
              exact ⟨⟨fun _ _ => h0j, fun _ _ => h0i⟩, fun _ _ => ha⟩
            refine WP.reg hT hE [] rfl ?_ ?_
            · first | trivial | (simp [holdsC, under, slOk, slB, capEq] <;> grind)
            refine ⟨j + 1, ?_, ?_, ?_⟩
            · exact hjl
            · refine Ent.mk hT [] trivial ⟨⟨rfl, _, rfl, by first | exact conv_eq rfl | (refine conv_eq ?_; rw [wrap_id (by omega) (by omega)]; simp; done) | (refine conv_eq ?_; simp; done)⟩, ⟨rfl, _, rfl, by first | exact conv_eq rfl | (refine conv_eq ?_; rw [wrap_id (by omega) (by omega)]; simp; done) | (refine conv_eq ?_; simp; done)⟩, ⟨rfl, _, rfl, by first | exact conv_eq rfl | (refine conv_eq ?_; rw [wrap_id (by omega) (by omega)]; simp; done) | (refine conv_eq ?_; simp; done)⟩, ⟨rfl, _, rfl, conv_eq (by simp only [rowTo, allTo, band, Bool.and_assoc])⟩, ⟨rfl, _, rfl, conv_eq (by simp only [rowTo, allTo, band, Bool.and_assoc])⟩, ⟨rfl, _, rfl, by first | exact conv_eq rfl | (refine conv_eq ?_; rw [wrap_id (by omega) (by omega)]; simp; done) | (refine conv_eq ?_; simp; done)⟩, ⟨rfl, _, rfl, by first | exact conv_eq rfl | (refine conv_eq ?_; rw [wrap_id (by omega) (by omega)]; simp; done) | (refine conv_eq ?_; simp; done)⟩, ⟨rfl, _, rfl, by first | exact conv_eq rfl | (refine conv_eq ?_; rw [wrap_id (by omega) (by omega)]; simp; done) | (refine conv_eq ?_; simp; done)⟩, ⟨rfl, _, rfl, by first | exact conv_eq rfl | (refine conv_eq ?_; rw [wrap_id (by omega) (by omega)]; simp; done) | (refine conv_eq ?_; simp; done)⟩, ⟨rfl, _, rfl, by first | exact conv_eq rfl | (refine conv_eq ?_; rw [wrap_id (by omega) (by omega)]; simp; done) | (refine conv_eq ?_; simp; done)⟩, ⟨rfl, _, rfl, by first | exact conv_eq rfl | (refine conv_eq ?_; rw [wrap_id (by omega) (by omega)]; simp; done) | (refine conv_eq ?_; simp; done)⟩, ⟨rfl, _, rfl, by first | exact conv_eq rfl | (refine conv_eq ?_; rw [wrap_id (by omega) (by omega)]; simp; done) | (refine conv_eq ?_; simp; done)⟩, trivial⟩ trivial rfl
            · (try simp only []); first | omega | grind
          · have hjl : j = o.length - (i + 1) := by simp at h10; omega
            subst hjl
            refine WP.exit ?_
            refine WP.reg hT hE [] rfl ?_ ?_
            · first | trivial | (simp [holdsC, under, slOk, slB, capEq] <;> grind)
            refine ⟨i + 1, ?_, ?_, ?_⟩
            · exact hil
            · refine Ent.mk hT [] trivial ⟨⟨rfl, _, rfl, by first | exact conv_eq rfl | (refine conv_eq ?_; rw [wrap_id (by omega) (by omega)]; simp; done) | (refine conv_eq ?_; simp; done)⟩, ⟨rfl, _, rfl, by first | exact conv_eq rfl | (refine conv_eq ?_; rw [wrap_id (by omega) (by omega)]; simp; done) | (refine conv_eq ?_; simp; done)⟩, ⟨rfl, _, rfl, by first | exact conv_eq rfl | (refine conv_eq ?_; rw [wrap_id (by omega) (by omega)]; simp; done) | (refine conv_eq ?_; simp; done)⟩, ⟨rfl, _, rfl, by first | exact conv_eq rfl | (refine conv_eq ?_; rw [wrap_id (by omega) (by omega)]; simp; done) | (refine conv_eq ?_; simp; done)⟩, ⟨rfl, _, rfl, by first | exact conv_eq rfl | (refine conv_eq ?_; rw [wrap_id (by omega) (by omega)]; simp; done) | (refine conv_eq ?_; simp; done)⟩, ⟨rfl, _, rfl, by first | exact conv_eq rfl | (refine conv_eq ?_; rw [wrap_id (by omega) (by omega)]; simp; done) | (refine conv_eq ?_; simp; done)⟩, ⟨rfl, _, rfl, by first | exact conv_eq rfl | (refine conv_eq ?_; rw [wrap_id (by omega) (by omega)]; simp; done) | (refine conv_eq ?_; simp; done)⟩, ⟨rfl, _, rfl, by first | exact conv_eq rfl | (refine conv_eq ?_; rw [wrap_id (by omega) (by omega)]; simp; done) | (refine conv_eq ?_; simp; done)⟩, trivial⟩ trivial rfl
            · (try simp only []); first | omega | grind
      · have hil : i = o.length := by simp at h7; omega
        subst hil
        refine WP.exit ?_
        refine WP.seq ?_
        refine WP.reg hT hE [] rfl ?_ ?_
        · first | trivial | (simp [holdsC, under, slOk, slB, capEq] <;> grind)
        refine WP.ret ?_
        change Fin _ _ _ _ _ _ _ _
        rw [show fitsF k h o = ((playTo k h o o.length).2, prTo ahd h o o.length, prTo trn h o o.length, 0) from if_pos hz]
        exact fin_r4 (by rfl) (by rfl) (by rfl) (by rfl)
end Go.Ab


/- What a first order is. -/
set_option autoImplicit false
set_option linter.unusedSimpArgs false
set_option linter.unusedVariables false
namespace Go.Ab
open Go.Proofs
theorem getD_left {p l : List Int} {i : Nat} (hi : i < p.length) : (p ++ l).getD i 0 = p.getD i 0 := by
  simp only [List.getD_eq_getElem?_getD, List.getElem?_append_left hi]
theorem getD_last {p : List Int} {x : Int} : (p ++ [x]).getD p.length 0 = x := by
  simp [List.getD_eq_getElem?_getD]
theorem mask_left {p l : List Int} : ∀ {i : Nat}, i ≤ p.length → maskTo (p ++ l) i = maskTo p i
  | 0, _ => rfl
  | i + 1, h => by rw [maskTo, maskTo, mask_left (by omega), getD_left (by omega)]
theorem play_left {k : Int} {h : List Cal} {p l : List Int} : ∀ {i : Nat}, i ≤ p.length → playTo k h (p ++ l) i = playTo k h p i
  | 0, _ => rfl
  | i + 1, hi => by
    have ih := play_left (k := k) (h := h) (l := l) (show i ≤ p.length by omega)
    have e : opAt h (p ++ l) i = opAt h p i := by rw [opAt, opAt, getD_left (by omega)]
    rw [playTo, playTo, ih, e]
theorem ord_left {h : List Cal} {p l : List Int} {i : Nat} (hi : i ≤ p.length) (ho : ordTo h p i) : ordTo h (p ++ l) i := by
  intro q hq
  obtain ⟨h1, h2⟩ := ho q hq
  rw [getD_left (by omega)]
  exact ⟨h1, fun r hr => by rw [getD_left (by omega)]; exact h2 r hr⟩
section
variable {k : Int} {fst : Cal → Cal → Bool} {h : List Cal}
/-- An order that goes on rightly. -/
structure Good (k : Int) (fst : Cal → Cal → Bool) (h : List Cal) (o : List Int) : Prop where
  ord : ordTo h o o.length
  may : ∀ a, a < o.length → mayB fst h (maskTo o a) (o.getD a 0).toNat = true
  fits : (playTo k h o o.length).2 = true
theorem step_parts {m i : Nat} {x y : Ct} (e : stepF k fst h m x i = some y) : m.testBit i = false ∧ mayB fst h m i = true ∧ okTell (calAt h i) (doF k x (calAt h i)) = true ∧ y = (doF k x (calAt h i)).1 := by
  simp only [stepF] at e
  cases hb : m.testBit i with
  | true => simp [hb] at e
  | false =>
    rw [hb] at e
    simp only [Bool.false_eq_true, if_false] at e
    cases hn : notNext k fst h m i x with
    | true => simp [hn] at e
    | false =>
      simp only [hn, Bool.false_eq_true, if_false, Option.some.injEq] at e
      simp only [notNext, Bool.or_eq_false_iff, Bool.not_eq_false', Bool.and_eq_false_iff, bne_eq_false_iff_eq] at hn
      refine ⟨rfl, hn.1, ?_, e.symm⟩
      simp only [okTell, Bool.or_eq_true, beq_iff_eq, Bool.and_eq_true]
      exact hn.2
theorem good_snoc {o : List Int} {i : Nat} (hg : Good k fst h o) (hi : i < h.length) {y : Ct} (e : stepF k fst h (maskTo o o.length) (playTo k h o o.length).1 i = some y) :
    Good k fst h (o ++ [(i : Int)]) ∧ maskTo (o ++ [(i : Int)]) (o ++ [(i : Int)]).length = maskTo o o.length ||| 1 <<< i ∧ (playTo k h (o ++ [(i : Int)]) (o ++ [(i : Int)]).length).1 = y := by
  obtain ⟨h1, h2, h3, h4⟩ := step_parts e
  have el : (o ++ [(i : Int)]).length = o.length + 1 := by simp
  have em : maskTo (o ++ [(i : Int)]) (o.length + 1) = maskTo o o.length ||| 1 <<< i := by
    rw [maskTo, mask_left (Nat.le_refl _), getD_last]; rfl
  have ep : playTo k h (o ++ [(i : Int)]) (o.length + 1) = (y, true) := by
    have e1 : opAt h (o ++ [(i : Int)]) o.length = calAt h i := by rw [opAt, getD_last]; rfl
    rw [playTo, play_left (Nat.le_refl _), e1, hg.fits, h3, h4]
    rfl
  refine ⟨⟨?_, ?_, ?_⟩, ?_, ?_⟩
  · rw [el]
    intro q hq
    rcases Nat.lt_or_ge q o.length with hq' | hq'
    · exact ord_left (l := [(i : Int)]) (Nat.le_refl _) hg.ord q hq'
    · obtain rfl : q = o.length := by omega
      rw [getD_last]
      refine ⟨by omega, fun p hp e => ?_⟩
      rw [getD_left hp] at e
      have : (maskTo o o.length).testBit i = true := mask_bit.2 ⟨p, hp, by omega⟩
      rw [h1] at this; cases this
  · intro a ha
    rw [el] at ha
    rcases Nat.lt_or_ge a o.length with hq' | hq'
    · rw [mask_left (by omega), getD_left hq']
      exact hg.may a hq'
    · obtain rfl : a = o.length := by omega
      rw [mask_left (Nat.le_refl _), getD_last]
      exact h2
  · rw [el, ep]
  · rw [el]; exact em
  · rw [el, ep]
theorem path_good : ∀ (n : Nat) (o l : List Int), Good k fst h o → pathG h (stepF k fst h) n (maskTo o o.length) (playTo k h o o.length).1 = some l → Good k fst h (o ++ l) ∧ wholeB h (maskTo (o ++ l) (o ++ l).length) = true
  | 0, o, l, _, e => by simp [pathG] at e
  | n + 1, o, l, hg, e => by
    simp only [pathG] at e
    split at e
    · rename_i hw
      simp only [Option.some.injEq] at e
      subst e
      rw [List.append_nil]
      exact ⟨hg, hw⟩
    · have key : ∀ r : List Nat, (∀ i ∈ r, i < h.length) → tryG (stepF k fst h) (pathG h (stepF k fst h) n) (maskTo o o.length) (playTo k h o o.length).1 r = some l → Good k fst h (o ++ l) ∧ wholeB h (maskTo (o ++ l) (o ++ l).length) = true := by
        intro r
        induction r with
        | nil => intro _ e; simp [tryG] at e
        | cons i r ih =>
          intro hl e
          have ih := ih (fun j hj => hl j (List.mem_cons_of_mem _ hj))
          simp only [tryG] at e
          cases hs : stepF k fst h (maskTo o o.length) (playTo k h o o.length).1 i with
          | none => rw [hs] at e; exact ih e
          | some y =>
            rw [hs] at e
            simp only at e
            obtain ⟨g1, g2, g3⟩ := good_snoc hg (hl i (by simp)) hs
            cases hp : pathG h (stepF k fst h) n (maskTo o o.length ||| 1 <<< i) y with
            | none => rw [hp] at e; exact ih e
            | some l' =>
              rw [hp] at e
              simp only [Option.some.injEq] at e
              subst e
              rw [← g2, ← g3] at hp
              have := path_good n (o ++ [(i : Int)]) l' g1 hp
              rwa [List.append_assoc, List.singleton_append] at this
      exact key _ (fun i hi => by simp at hi; omega) e
theorem good_nil : Good k fst h [] := ⟨fun q hq => by simp at hq, fun a ha => by simp at ha, rfl⟩
theorem first_good (hl : h.length ≤ 8) (e : (firstF k fst h).1.2 = true) : Good k fst h (firstF k fst h).1.1 ∧ wholeB h (maskTo (firstF k fst h).1.1 (firstF k fst h).1.1.length) = true := by
  rw [firstF_path hl] at e ⊢
  cases hp : pathG h (stepF k fst h) 9 0 (beginF k) with
  | none => rw [hp] at e; simp [outO] at e
  | some l => exact path_good 9 [] l good_nil hp
theorem first_none (hl : h.length ≤ 8) (e : (firstF k fst h).1.2 = false) : (firstF k fst h).1.1 = [] := by
  rw [firstF_path hl] at e ⊢
  cases hp : pathG h (stepF k fst h) 9 0 (beginF k) with
  | none => rfl
  | some l => rw [hp] at e; simp [outO] at e
theorem good_isOrd {o : List Int} (hg : Good k fst h o) (hw : wholeB h (maskTo o o.length) = true) : isOrd h o := by
  refine ⟨hg.ord, fun j hj hf => ?_⟩
  have h1 := allTo_iff.1 hw j hj
  have hb : (maskTo o o.length).testBit j = true := by
    cases hz : (maskTo o o.length).testBit j with
    | true => rfl
    | false => simp [hz, hf] at h1
  obtain ⟨p, hp, e⟩ := mask_bit.1 hb
  have h2 := (hg.ord p hp).1
  have : o.getD p 0 = (j : Int) := by omega
  rw [← this, List.getD_eq_getElem?_getD, List.getElem?_eq_getElem hp, Option.getD_some]
  exact List.getElem_mem hp
theorem good_pairs {o : List Int} (hg : Good k fst h o) : prTo fst h o o.length = true := by
  refine allTo_iff.2 (fun a ha => allTo_iff.2 (fun b hb => ?_))
  have h1 := allTo_iff.1 (hg.may a ha) (o.getD (a + 1 + b) 0).toNat (by have := (hg.ord (a + 1 + b) (by omega)).1; omega)
  have hd := (hg.ord (a + 1 + b) (by omega)).2 a (by omega)
  have h2 := (hg.ord (a + 1 + b) (by omega)).1
  have h3 := (hg.ord a ha).1
  have hne : ((o.getD (a + 1 + b) 0).toNat != (o.getD a 0).toNat) = true := by
    rw [bne_iff_ne]; omega
  have hbit : (maskTo o a).testBit (o.getD (a + 1 + b) 0).toNat = false := by
    cases hz : (maskTo o a).testBit (o.getD (a + 1 + b) 0).toNat with
    | false => rfl
    | true =>
      obtain ⟨p, hp, e⟩ := mask_bit.1 hz
      have h4 := (hg.ord p (by omega)).1
      exact absurd (by omega) ((hg.ord (a + 1 + b) (by omega)).2 p (by omega))
  rw [hne, hbit] at h1
  simpa [opAt] using h1
theorem trn_ahd (hok : okHist k h) {i j : Nat} (hi : i < h.length) (hj : j < h.length) (hij : i ≠ j) (h1 : trn (calAt h i) (calAt h j) = true) : ahd (calAt h i) (calAt h j) = true := by
  simp only [trn, Bool.and_eq_true, decide_eq_true_eq] at h1
  have h2 := hist_cross hok hi hj hij
  simp only [cross, h1.1, Bool.true_and, Bool.and_eq_false_iff, Bool.not_eq_false'] at h2
  rcases h2 with h2 | h2
  · exact h2
  · exfalso
    simp only [ahd, Bool.and_eq_true, decide_eq_true_eq, bne_iff_ne] at h2
    have h3 := (fields_mom (hist_fields hok hj)).2
    omega
theorem can_trn (hok : okHist k h) {m : Nat} {x : Ct} (hc : Can k ahd h m x) : Can k trn h m x := by
  induction hc with
  | done hw => exact .done hw
  | @step m x i hi hb hn hr ih =>
    refine .step i hi hb ?_ ih
    simp only [notNext, Bool.or_eq_false_iff, Bool.not_eq_false'] at hn ⊢
    refine ⟨allTo_iff.2 (fun j hj => ?_), hn.2⟩
    have h1 := allTo_iff.1 hn.1 j hj
    by_cases hji : j = i
    · simp [hji]
    · cases ht : trn (calAt h j) (calAt h i) with
      | false => simp
      | true =>
        rw [trn_ahd hok hj hi hji ht] at h1
        exact h1
theorem lin_turns (hok : okHist k h) (e : (firstF k ahd h).1.2 = true) : (firstF k trn h).1.2 = true :=
  (first_iff hok.2.2.1).2 (can_trn hok ((first_iff hok.2.2.1).1 e))
theorem fits_first (hok : okHist k h) (e : (firstF k fst h).1.2 = true) : (fitsF k h (firstF k fst h).1.1).1 = true ∧ (fitsF k h (firstF k fst h).1.1).2.2.2 = 0 ∧ prTo fst h (firstF k fst h).1.1 (firstF k fst h).1.1.length = true ∧ fitsF k h (firstF k fst h).1.1 = ((playTo k h (firstF k fst h).1.1 (firstF k fst h).1.1.length).2, prTo ahd h (firstF k fst h).1.1 (firstF k fst h).1.1.length, prTo trn h (firstF k fst h).1.1 (firstF k fst h).1.1.length, 0) := by
  obtain ⟨hg, hw⟩ := first_good hok.2.2.1 e
  have hz : askF k h (firstF k fst h).1.1 = 0 := ask_zero.2 ⟨hok, good_isOrd hg hw⟩
  have ef : fitsF k h (firstF k fst h).1.1 = _ := if_pos hz
  exact ⟨by rw [ef]; exact hg.fits, by rw [ef], good_pairs hg, ef⟩
end
end Go.Ab

/- alone. -/
set_option autoImplicit false
set_option maxRecDepth 20000
set_option linter.unusedSimpArgs false
set_option linter.unusedVariables false
namespace Go.Ab
open Go.Proofs
def sepB (a b : Cal) : Bool := decide (b.fin < a.bgn) || !decide (a.fin > b.bgn)
def alTo (h : List Cal) (i j : Nat) : Bool := allTo (fun q => q == i || sepB (calAt h i) (calAt h q)) j
def okAl (h : List Cal) (i : Nat) : Bool := alTo h i h.length && (calAt h i).fin != -1
def aloneB (h : List Cal) : Bool := allTo (okAl h) h.length
def cntTo (h : List Cal) (i : Nat) : Nat → Nat
  | 0 => 0
  | j + 1 => cntTo h i j + if j ≠ i ∧ (calAt h j).fin < (calAt h i).bgn then 1 else 0
theorem cnt_le {h : List Cal} {i : Nat} : ∀ (j : Nat), cntTo h i j + (if i < j then 1 else 0) ≤ j
  | 0 => by simp [cntTo]
  | j + 1 => by
    have ih := cnt_le (h := h) (i := i) j
    simp only [cntTo]
    by_cases e : j = i
    · subst e; simp at ih ⊢; exact ih
    · split <;> split at ih <;> split <;> omega
def aloneL (h : List Cal) : Nat → List Int
  | 0 => []
  | i + 1 => (if i = 0 then List.replicate h.length 0 else aloneL h i).set (cntTo h i h.length) i
def padL (h : List Cal) (i q : Nat) : List Int := if i = 0 then List.replicate q 0 else aloneL h i
theorem alone_len {h : List Cal} : ∀ {i : Nat}, 0 < i → (aloneL h i).length = h.length
  | i + 1, _ => by
    simp only [aloneL, List.length_set]
    by_cases e : i = 0
    · simp [e]
    · rw [if_neg e]; exact alone_len (by omega)
theorem pad_len {h : List Cal} {i q : Nat} (hq : i ≠ 0 → q = h.length) : (padL h i q).length = q := by
  simp only [padL]
  by_cases e : i = 0
  · simp [e]
  · rw [if_neg e, hq e]; exact alone_len (by omega)
def aloneF (h : List Cal) : List Int × Bool := if aloneB h then (aloneL h h.length, true) else ([], false)
theorem alone_no {h : List Cal} {i : Nat} (hi : i < h.length) (hb : okAl h i = false) : aloneF h = ([], false) := by
  rw [aloneF, if_neg]
  intro ha
  have := allTo_iff.1 ha i hi
  rw [hb] at this; cases this
theorem alTo_no {h : List Cal} {i j : Nat} (hj : j < h.length) (hb : (j == i || sepB (calAt h i) (calAt h j)) = false) : okAl h i = false := by
  cases hz : alTo h i h.length with
  | false => simp [okAl, hz]
  | true =>
    have := allTo_iff.1 hz j hj
    rw [hb] at this; cases this
theorem fin_al {nt : Nat} {st : St} {r : List Int × Bool} {y : AV} (F : List (Id × Nat)) (hF : entF st F) (h6 : st.t 2 = some (.always, y)) (hy : Conv st.m (fun id => lookF id F) T y (ints false r.1)) (h7 : st.t 3 = some (.always, .bool r.2)) : Fin T tysN nt 0 [.tmp 2, .tmp 3] (encRes r) [] st :=
  fin_mk hT F (ts := [(2, ints false r.1), (3, .bool r.2)]) (l := [ints false r.1, .bool r.2]) (B' := []) hF ⟨⟨rfl, _, h6, hy⟩, ⟨rfl, _, h7, conv_eq rfl⟩, trivial⟩ trivial rfl (by rfl) (by rfl)
abbrev ownI (l : List Int) : AV := .own (.s 60 0) l.length 0 l.length none
theorem alone_ac (g : Bool) (h : List Cal) (hbig : h.length * 8 ≤ 140737488355328) : AC Try.prog T tysN 17 [cals g h] [] (encRes (aloneF h)) [] := by
  refine AC_intro hT Try.func17 rfl rfl (Nat.le_of_ble_eq_true rfl) ?_
  refine WP.seq ?_
  refine WP.reg hT hE [] rfl ?_ ?_
  · first | trivial | (simp [holdsC, under, slOk, slB, capEq] <;> grind)
  refine WP.seq ?_
  refine WP.reg hT hE [] rfl ?_ ?_
  · first | trivial | (simp [holdsC, under, slOk, slB, capEq] <;> grind)
  refine WP.seq ?_
  refine WP.seq ?_
  refine WP.reg hT hE [] rfl ?_ ?_
  · first | trivial | (simp [holdsC, under, slOk, slB, capEq] <;> grind)
  refine WP.block ?_
  refine WP.loop (α := Nat) (fun i => mkSt [(0, cals g h), (4, ownI (aloneL h i)), (5, .int i)] [(.s 60 0, cellsI 3 .i64 (aloneL h i))]) (fun i => i ≤ h.length ∧ ∀ q, q < i → okAl h q = true) (fun i => h.length - i) ?_ ?_
  · refine ⟨0, ?_, ?_⟩
    · exact ⟨Nat.zero_le _, fun q hq => by omega⟩
    · refine Ent.mk hT [] trivial ⟨⟨rfl, _, rfl, by first | exact conv_eq rfl | (refine conv_eq ?_; rw [wrap_id (by omega) (by omega)]; simp; done) | (refine conv_eq ?_; simp; done)⟩, ⟨rfl, _, rfl, conv_nil_own⟩, ⟨rfl, _, rfl, by first | exact conv_eq rfl | (refine conv_eq ?_; rw [wrap_id (by omega) (by omega)]; simp; done) | (refine conv_eq ?_; simp; done)⟩, trivial⟩ ⟨⟨fun _ _ => rfl, .inr ⟨rfl, 3, _, rfl, by decide⟩⟩, trivial⟩ rfl
  · rintro i ⟨hi, hal⟩
    refine WP.seq ?_
    refine WP.seq ?_
    refine WP.reg hT hE [] rfl ?_ ?_
    · first | trivial | (simp [holdsC, under, slOk, slB, capEq] <;> grind)
    refine WP.cond rfl (fun h3 => ?_) (fun h3 => ?_)
    · have hil : i < h.length := by simpa using h3
      refine WP.skip ?_
      refine WP.seq ?_
      refine WP.block ?_
      refine WP.seq ?_
      refine WP.reg hT hE [] rfl ?_ ?_
      · first | trivial | (simp [holdsC, under, slOk, slB, capEq] <;> grind)
      refine WP.seq ?_
      refine WP.seq ?_
      refine WP.reg hT hE [] rfl ?_ ?_
      · first | trivial | (simp [holdsC, under, slOk, slB, capEq] <;> grind)
      refine WP.block ?_
      refine WP.loop (α := Nat) (fun j => mkSt [(0, cals g h), (4, ownI (aloneL h i)), (5, .int i), (6, .int (cntTo h i j)), (7, .int j)] [(.s 60 0, cellsI 3 .i64 (aloneL h i))]) (fun j => j ≤ h.length ∧ alTo h i j = true) (fun j => h.length - j) ?_ ?_
      · refine ⟨0, ?_, ?_⟩
        · exact ⟨Nat.zero_le _, rfl⟩
        · refine Ent.mk hT [] trivial ⟨⟨rfl, _, rfl, by first | exact conv_eq rfl | (refine conv_eq ?_; rw [wrap_id (by omega) (by omega)]; simp; done) | (refine conv_eq ?_; simp; done)⟩, ⟨rfl, _, rfl, by first | exact conv_eq rfl | (refine conv_eq ?_; rw [wrap_id (by omega) (by omega)]; simp; done) | (refine conv_eq ?_; simp; done)⟩, ⟨rfl, _, rfl, by first | exact conv_eq rfl | (refine conv_eq ?_; rw [wrap_id (by omega) (by omega)]; simp; done) | (refine conv_eq ?_; simp; done)⟩, ⟨rfl, _, rfl, by first | exact conv_eq rfl | (refine conv_eq ?_; rw [wrap_id (by omega) (by omega)]; simp; done) | (refine conv_eq ?_; simp; done)⟩, ⟨rfl, _, rfl, by first | exact conv_eq rfl | (refine conv_eq ?_; rw [wrap_id (by omega) (by omega)]; simp; done) | (refine conv_eq ?_; simp; done)⟩, trivial⟩ ⟨ob_ints rfl rfl rfl rfl rfl (fun q hq => rfl), trivial⟩ rfl
      · rintro j ⟨hj, hto⟩
        refine WP.seq ?_
        refine WP.seq ?_
        refine WP.reg hT hE [] rfl ?_ ?_
        · first | trivial | (simp [holdsC, under, slOk, slB, capEq] <;> grind)
        refine WP.cond rfl (fun h7 => ?_) (fun h7 => ?_)
        · have hjl : j < h.length := by simpa using h7
          have hcl := cnt_le (h := h) (i := i) j
          refine WP.skip ?_
          refine WP.seq ?_
          refine WP.block ?_
          refine WP.seq ?_
          refine WP.seq ?_
          refine WP.reg hT hE [] rfl ?_ ?_
          · first | trivial | (simp [holdsC, under, slOk, slB, capEq] <;> grind)
          refine WP.cond rfl (fun h9 => ?_) (fun h9 => ?_)
          · have hji : j = i := by simp at h9; omega
            refine WP.exit ?_
            refine WP.reg hT hE [] rfl ?_ ?_
            · first | trivial | (simp [holdsC, under, slOk, slB, capEq] <;> grind)
            refine ⟨j + 1, ?_, ?_, ?_⟩
            · exact ⟨hjl, by simp [alTo, allTo, hji] at hto ⊢; exact hto⟩
            · refine Ent.mk hT [] trivial ⟨⟨rfl, _, rfl, by first | exact conv_eq rfl | (refine conv_eq ?_; rw [wrap_id (by omega) (by omega)]; simp; done) | (refine conv_eq ?_; simp; done)⟩, ⟨rfl, _, rfl, by first | exact conv_eq rfl | (refine conv_eq ?_; rw [wrap_id (by omega) (by omega)]; simp; done) | (refine conv_eq ?_; simp; done)⟩, ⟨rfl, _, rfl, by first | exact conv_eq rfl | (refine conv_eq ?_; rw [wrap_id (by omega) (by omega)]; simp; done) | (refine conv_eq ?_; simp; done)⟩, ⟨rfl, _, rfl, conv_eq (by simp [cntTo, hji])⟩, ⟨rfl, _, rfl, by first | exact conv_eq rfl | (refine conv_eq ?_; rw [wrap_id (by omega) (by omega)]; simp; done) | (refine conv_eq ?_; simp; done)⟩, trivial⟩ ⟨ob_ints rfl rfl rfl rfl rfl (fun q hq => rfl), trivial⟩ rfl
            · (try simp only []); first | omega | grind
          · have hji : j ≠ i := by simp at h9; omega
            refine WP.skip ?_
            refine WP.seq ?_
            refine WP.drw hT hE hM [] rfl ?_ ?_
            · simp [holdsC, under]; omega
            refine WP.cond rfl (fun h10 => ?_) (fun h10 => ?_)
            · have hlt : (calAt h j).fin < (calAt h i).bgn := by simpa [calAt] using h10
              refine WP.reg hT hE [] rfl ?_ ?_
              · first | trivial | (simp [holdsC, under, slOk, slB, capEq] <;> grind)
              refine WP.reg hT hE [] rfl ?_ ?_
              · first | trivial | (simp [holdsC, under, slOk, slB, capEq] <;> grind)
              refine ⟨j + 1, ?_, ?_, ?_⟩
              · exact ⟨hjl, by simp only [alTo, allTo, Bool.and_eq_true, Bool.or_eq_true] at hto ⊢; exact ⟨hto, .inr (by simp [sepB, hlt])⟩⟩
              · refine Ent.mk hT [] trivial ⟨⟨rfl, _, rfl, by first | exact conv_eq rfl | (refine conv_eq ?_; rw [wrap_id (by omega) (by omega)]; simp; done) | (refine conv_eq ?_; simp; done)⟩, ⟨rfl, _, rfl, by first | exact conv_eq rfl | (refine conv_eq ?_; rw [wrap_id (by omega) (by omega)]; simp; done) | (refine conv_eq ?_; simp; done)⟩, ⟨rfl, _, rfl, by first | exact conv_eq rfl | (refine conv_eq ?_; rw [wrap_id (by omega) (by omega)]; simp; done) | (refine conv_eq ?_; simp; done)⟩, ⟨rfl, _, rfl, conv_eq (by rw [wrap_id (by omega) (by omega)]; simp [cntTo, hji, hlt])⟩, ⟨rfl, _, rfl, by first | exact conv_eq rfl | (refine conv_eq ?_; rw [wrap_id (by omega) (by omega)]; simp; done) | (refine conv_eq ?_; simp; done)⟩, trivial⟩ ⟨ob_ints rfl rfl rfl rfl rfl (fun q hq => rfl), trivial⟩ rfl
              · (try simp only []); first | omega | grind
            · have hlt : ¬ (calAt h j).fin < (calAt h i).bgn := by simpa [calAt] using h10
              refine WP.seq ?_
              refine WP.drw hT hE hM [] rfl ?_ ?_
              · simp [holdsC, under]; omega
              refine WP.cond rfl (fun h12 => ?_) (fun h12 => ?_)
              · have hgt : (calAt h i).fin > (calAt h j).bgn := by simpa [calAt] using h12
                refine WP.seq ?_
                refine WP.reg hT hE [] rfl ?_ ?_
                · first | trivial | (simp [holdsC, under, slOk, slB, capEq] <;> grind)
                refine WP.ret ?_
                change Fin _ _ _ _ _ _ _ _
                rw [alone_no hil (alTo_no hjl (by simp [sepB, hji, hlt, hgt]))]
                exact fin_al [] trivial (by rfl) (by exact conv_nil_row (by decide)) (by rfl)
              · have hgt : ¬ (calAt h i).fin > (calAt h j).bgn := by simpa [calAt] using h12
                refine WP.skip ?_
                refine WP.reg hT hE [] rfl ?_ ?_
                · first | trivial | (simp [holdsC, under, slOk, slB, capEq] <;> grind)
                refine ⟨j + 1, ?_, ?_, ?_⟩
                · exact ⟨hjl, by simp only [alTo, allTo, Bool.and_eq_true, Bool.or_eq_true] at hto ⊢; exact ⟨hto, .inr (by simp [sepB, hgt])⟩⟩
                · refine Ent.mk hT [] trivial ⟨⟨rfl, _, rfl, by first | exact conv_eq rfl | (refine conv_eq ?_; rw [wrap_id (by omega) (by omega)]; simp; done) | (refine conv_eq ?_; simp; done)⟩, ⟨rfl, _, rfl, by first | exact conv_eq rfl | (refine conv_eq ?_; rw [wrap_id (by omega) (by omega)]; simp; done) | (refine conv_eq ?_; simp; done)⟩, ⟨rfl, _, rfl, by first | exact conv_eq rfl | (refine conv_eq ?_; rw [wrap_id (by omega) (by omega)]; simp; done) | (refine conv_eq ?_; simp; done)⟩, ⟨rfl, _, rfl, conv_eq (by simp [cntTo, hlt])⟩, ⟨rfl, _, rfl, by first | exact conv_eq rfl | (refine conv_eq ?_; rw [wrap_id (by omega) (by omega)]; simp; done) | (refine conv_eq ?_; simp; done)⟩, trivial⟩ ⟨ob_ints rfl rfl rfl rfl rfl (fun q hq => rfl), trivial⟩ rfl
                · (try simp only []); first | omega | grind
        · have hjl : j = h.length := by simp at h7; omega
          subst hjl
          refine WP.exit ?_
          refine WP.seq ?_
          refine WP.seq ?_
          refine WP.reg hT hE [] rfl ?_ ?_
          · simp [holdsC, under]; omega
          refine WP.cond rfl (fun h14 => ?_) (fun h14 => ?_)
          · have hf : (calAt h i).fin = -1 := by simpa [calAt] using h14
            refine WP.seq ?_
            refine WP.reg hT hE [] rfl ?_ ?_
            · first | trivial | (simp [holdsC, under, slOk, slB, capEq] <;> grind)
            refine WP.ret ?_
            change Fin _ _ _ _ _ _ _ _
            rw [alone_no hil (by simp [okAl, hf])]
            exact fin_al [] trivial (by rfl) (by exact conv_nil_row (by decide)) (by rfl)
          · have hf : (calAt h i).fin ≠ -1 := by simpa [calAt] using h14
            have hok : okAl h i = true := by simp [okAl, hto, hf]
            have hcl := cnt_le (h := h) (i := i) h.length
            rw [if_pos hil] at hcl
            refine WP.skip ?_
            refine WP.seq ?_
            refine WP.block ?_
            refine WP.loop (α := Nat) (fun q => mkSt [(0, cals g h), (4, ownI (padL h i q)), (5, .int i), (6, .int (cntTo h i h.length))] [(.s 60 0, cellsI 3 .i64 (padL h i q))]) (fun q => q ≤ h.length ∧ (i ≠ 0 → q = h.length)) (fun q => h.length - q) ?_ ?_
            · refine ⟨if i = 0 then 0 else h.length, ?_, ?_⟩
              · exact ⟨by split <;> omega, fun h0 => if_neg h0⟩
              · have e0 : padL h i (if i = 0 then 0 else h.length) = aloneL h i := by by_cases e : i = 0 <;> simp [padL, e, aloneL]
                rw [e0]
                refine Ent.mk hT [] trivial ⟨⟨rfl, _, rfl, by first | exact conv_eq rfl | (refine conv_eq ?_; rw [wrap_id (by omega) (by omega)]; simp; done) | (refine conv_eq ?_; simp; done)⟩, ⟨rfl, _, rfl, by first | exact conv_eq rfl | (refine conv_eq ?_; rw [wrap_id (by omega) (by omega)]; simp; done) | (refine conv_eq ?_; simp; done)⟩, ⟨rfl, _, rfl, by first | exact conv_eq rfl | (refine conv_eq ?_; rw [wrap_id (by omega) (by omega)]; simp; done) | (refine conv_eq ?_; simp; done)⟩, ⟨rfl, _, rfl, by first | exact conv_eq rfl | (refine conv_eq ?_; rw [wrap_id (by omega) (by omega)]; simp; done) | (refine conv_eq ?_; simp; done)⟩, trivial⟩ ⟨ob_ints rfl rfl rfl rfl rfl (fun q hq => rfl), trivial⟩ rfl
            · rintro q ⟨hq, hqi⟩
              refine WP.seq ?_
              refine WP.seq ?_
              refine WP.reg hT hE [] rfl ?_ ?_
              · first | trivial | (simp [holdsC, under, slOk, slB, capEq] <;> grind)
              refine WP.cond rfl (fun h16 => ?_) (fun h16 => ?_)
              · have hpl := pad_len (h := h) (i := i) (q := q) hqi
                have hql : q < h.length := by rw [hpl] at h16; simpa using h16
                have hi0 : i = 0 := Classical.byContradiction fun h0 => by have := hqi h0; omega
                refine WP.skip ?_
                refine WP.block ?_
                refine WP.reg hT hE [] rfl ?_ ?_
                · have hb : (T 3).bytes = 8 := rfl
                  simp [holdsC, under, hb]
                  omega
                refine ⟨q + 1, ?_, ?_, ?_⟩
                · exact ⟨hql, fun h0 => absurd hi0 h0⟩
                · have e0 : padL h i (q + 1) = padL h i q ++ [0] := by simp [padL, hi0, List.replicate_succ']
                  rw [e0]
                  refine Ent.mk hT [] trivial ⟨⟨rfl, _, rfl, by first | exact conv_eq rfl | (refine conv_eq ?_; rw [wrap_id (by omega) (by omega)]; simp; done) | (refine conv_eq ?_; simp; done)⟩, ⟨rfl, _, rfl, conv_eq (by simp only [ownI, List.length_append, List.length_singleton])⟩, ⟨rfl, _, rfl, by first | exact conv_eq rfl | (refine conv_eq ?_; rw [wrap_id (by omega) (by omega)]; simp; done) | (refine conv_eq ?_; simp; done)⟩, ⟨rfl, _, rfl, by first | exact conv_eq rfl | (refine conv_eq ?_; rw [wrap_id (by omega) (by omega)]; simp; done) | (refine conv_eq ?_; simp; done)⟩, trivial⟩ ⟨ob_ints rfl rfl (by simp only [List.length_append, List.length_singleton]) rfl rfl (app1 (l := padL h i q) (x := 0) (z := .int 0) rfl (fun q hq => rfl)), trivial⟩ rfl
                · (try simp only []); first | omega | grind
              · have hpl := pad_len (h := h) (i := i) (q := q) hqi
                have hql : q = h.length := by rw [hpl] at h16; simp at h16; omega
                subst hql
                refine WP.exit ?_
                refine WP.reg hT hE [] rfl ?_ ?_
                · simp [holdsC, under]
                  omega
                refine WP.reg hT hE [] rfl ?_ ?_
                · first | trivial | (simp [holdsC, under, slOk, slB, capEq] <;> grind)
                refine ⟨i + 1, ?_, ?_, ?_⟩
                · refine ⟨hil, fun q hq' => ?_⟩
                  rcases Nat.lt_or_ge q i with h3 | h3
                  · exact hal q h3
                  · obtain rfl : q = i := by omega
                    exact hok
                · refine Ent.mk hT [] trivial ⟨⟨rfl, _, rfl, by first | exact conv_eq rfl | (refine conv_eq ?_; rw [wrap_id (by omega) (by omega)]; simp; done) | (refine conv_eq ?_; simp; done)⟩, ⟨rfl, _, rfl, conv_eq (by simp only [ownI, alone_len (show 0 < i + 1 by omega), hpl])⟩, ⟨rfl, _, rfl, by first | exact conv_eq rfl | (refine conv_eq ?_; rw [wrap_id (by omega) (by omega)]; simp; done) | (refine conv_eq ?_; simp; done)⟩, trivial⟩ ⟨ob_ints rfl rfl (by show (padL h i h.length).length = _; rw [hpl, alone_len (by omega)]) rfl rfl (fun q hq => (set_list (enc := fun n : Int => AV.int n) (d := 0) (l := padL h i h.length) (i := cntTo h i h.length) (y := .int i) (x := (i : Int)) (by omega) rfl q).trans rfl), trivial⟩ rfl
                · (try simp only []); first | omega | grind
    · have hil : i = h.length := by simp at h3; omega
      subst hil
      refine WP.exit ?_
      refine WP.seq ?_
      refine WP.reg hT hE [] rfl ?_ ?_
      · first | trivial | (simp [holdsC, under, slOk, slB, capEq] <;> grind)
      refine WP.ret ?_
      change Fin _ _ _ _ _ _ _ _
      have e : aloneF h = (aloneL h h.length, true) := if_pos (allTo_iff.2 hal)
      rw [e]
      exact fin_al [(.s 60 0, (aloneL h h.length).length)] ⟨⟨_, by rfl, Nat.le_refl _⟩, trivial⟩ (by rfl) (by exact conv_row rfl rfl rfl (fun h => by cases h) (by simp [lookF, idbeq_self]) (fun j hj => by rw [Nat.zero_add]; exact ⟨rfl, AEq.refl _⟩)) (by rfl)
end Go.Ab


/- Alone: one order. -/
set_option autoImplicit false
set_option linter.unusedSimpArgs false
set_option linter.unusedVariables false
namespace Go.Ab
open Go.Proofs
theorem hist_meet {k : Int} {h : List Cal} (hok : okHist k h) {i j : Nat} (hi : i < h.length) (hj : j < h.length) (hij : i ≠ j) : (calAt h i).fin ≠ (calAt h j).bgn := by
  have key : ∀ a b, b < a → a < h.length → (calAt h a).bgn ≠ (calAt h b).fin ∧ (calAt h a).fin ≠ (calAt h b).bgn := by
    intro a b hba ha
    have h1 := ((hok.2.2.2 a ha).2 b hba).1
    simp only [clash, Bool.or_eq_false_iff, beq_eq_false_iff_ne] at h1
    exact ⟨h1.1.1.2, h1.1.2⟩
  rcases Nat.lt_or_ge j i with h1 | h1
  · exact (key i j h1 hi).2
  · exact fun e => (key j i (by omega) hj).1 e.symm
theorem hist_span {k : Int} {h : List Cal} (hok : okHist k h) {i : Nat} (hi : i < h.length) (hf : (calAt h i).fin ≠ -1) : (calAt h i).bgn < (calAt h i).fin := by
  have := (fields_mom (hist_fields hok hi)).2
  omega
section
variable {k : Int} {h : List Cal}
theorem al_fin (ha : aloneB h = true) {i : Nat} (hi : i < h.length) : (calAt h i).fin ≠ -1 := by
  have := allTo_iff.1 ha i hi
  simp only [okAl, Bool.and_eq_true, bne_iff_ne] at this
  exact this.2
theorem ahd_iff (ha : aloneB h = true) {i j : Nat} (hi : i < h.length) : ahd (calAt h i) (calAt h j) = true ↔ (calAt h i).fin < (calAt h j).bgn := by
  simp [ahd, al_fin ha hi]
theorem al_two (hok : okHist k h) (ha : aloneB h = true) {i j : Nat} (hi : i < h.length) (hj : j < h.length) (hij : i ≠ j) : (calAt h i).fin < (calAt h j).bgn ∨ (calAt h j).fin < (calAt h i).bgn := by
  have h1 := allTo_iff.1 ha i hi
  simp only [okAl, Bool.and_eq_true] at h1
  have h2 := allTo_iff.1 h1.1 j hj
  have h3 := hist_meet hok hi hj hij
  simp only [sepB, Bool.or_eq_true, beq_iff_eq, decide_eq_true_eq, Bool.not_eq_true', decide_eq_false_iff_not] at h2
  rcases h2 with h2 | h2 | h2 <;> omega
theorem cnt_mono (hok : okHist k h) (ha : aloneB h = true) {i j : Nat} (hi : i < h.length) (hj : j < h.length) (hij : (calAt h i).fin < (calAt h j).bgn) : ∀ q, cntTo h i q + (if i < q then 1 else 0) ≤ cntTo h j q
  | 0 => by simp [cntTo]
  | q + 1 => by
    have ih := cnt_mono hok ha hi hj hij q
    have s1 := hist_span hok hi (al_fin ha hi)
    have s2 := hist_span hok hj (al_fin ha hj)
    simp only [cntTo]
    by_cases e : q = i
    · subst e
      have hne : q ≠ j := fun e => by subst e; omega
      rw [if_neg (by omega : ¬ q < q)] at ih
      rw [show (if q ≠ q ∧ (calAt h q).fin < (calAt h q).bgn then 1 else 0) = 0 from if_neg (fun h => h.1 rfl), show (if q ≠ j ∧ (calAt h q).fin < (calAt h j).bgn then 1 else 0) = 1 from if_pos ⟨hne, hij⟩, show (if q < q + 1 then 1 else 0) = 1 from if_pos (by omega)]
      omega
    · have hlt : (if i < q + 1 then 1 else 0) = (if i < q then 1 else 0) := by
        by_cases h1 : i < q
        · rw [if_pos h1, if_pos (by omega)]
        · rw [if_neg h1, if_neg (by omega)]
      rw [hlt]
      by_cases h1 : (calAt h q).fin < (calAt h i).bgn
      · have hne : q ≠ j := fun e => by subst e; omega
        rw [show (if q ≠ i ∧ (calAt h q).fin < (calAt h i).bgn then 1 else 0) = 1 from if_pos ⟨e, h1⟩, show (if q ≠ j ∧ (calAt h q).fin < (calAt h j).bgn then 1 else 0) = 1 from if_pos ⟨hne, by omega⟩]
        omega
      · rw [show (if q ≠ i ∧ (calAt h q).fin < (calAt h i).bgn then 1 else 0) = 0 from if_neg (fun h2 => h1 h2.2)]
        omega
abbrev rank (h : List Cal) (i : Nat) : Nat := cntTo h i h.length
theorem rank_lt (hok : okHist k h) (ha : aloneB h = true) {i j : Nat} (hi : i < h.length) (hj : j < h.length) (hij : (calAt h i).fin < (calAt h j).bgn) : rank h i < rank h j := by
  have := cnt_mono hok ha hi hj hij h.length
  rw [if_pos hi] at this
  exact this
theorem rank_le {i : Nat} (hi : i < h.length) : rank h i < h.length := by
  have := cnt_le (h := h) (i := i) h.length
  rw [if_pos hi] at this
  exact this
theorem rank_inj (hok : okHist k h) (ha : aloneB h = true) {i j : Nat} (hi : i < h.length) (hj : j < h.length) (e : rank h i = rank h j) : i = j := by
  refine Classical.byContradiction fun hne => ?_
  rcases al_two hok ha hi hj hne with h1 | h1
  · have := rank_lt hok ha hi hj h1; omega
  · have := rank_lt hok ha hj hi h1; omega
theorem open_all {m : Nat} : ∀ {n : Nat}, openTo m n = 0 → ∀ i, i < n → m.testBit i = true
  | 0, _, i, hi => absurd hi (Nat.not_lt_zero _)
  | n + 1, e, i, hi => by
    simp only [openTo] at e
    by_cases hb : m.testBit n = true
    · by_cases hin : i = n
      · subst hin; exact hb
      · exact open_all (n := n) (by omega) i (by omega)
    · rw [if_neg hb] at e; omega
theorem all_open {m : Nat} : ∀ {n : Nat}, (∀ i, i < n → m.testBit i = true) → openTo m n = 0
  | 0, _ => rfl
  | n + 1, hb => by
    rw [openTo, if_pos (hb n (by omega)), all_open (fun i hi => hb i (by omega))]
theorem rank_onto (hok : okHist k h) (ha : aloneB h = true) {p : Nat} (hp : p < h.length) : ∃ i, i < h.length ∧ rank h i = p := by
  let o : List Int := (List.range h.length).map fun i => ((rank h i : Nat) : Int)
  have hl : o.length = h.length := by simp [o]
  have hg : ∀ q, q < h.length → o.getD q 0 = ((rank h q : Nat) : Int) := fun q hq => by simp [o, List.getD_eq_getElem?_getD, hq]
  have ho : ordTo h o h.length := by
    intro q hq
    rw [hg q hq]
    have := rank_le hq
    refine ⟨by omega, fun r hr e => ?_⟩
    rw [hg r (by omega)] at e
    have := rank_inj hok ha (by omega : r < h.length) hq (by omega)
    omega
  have h1 := ord_opens ho
  have h2 := open_all (m := maskTo o h.length) (n := h.length) (by show opens h _ = 0; omega) p hp
  obtain ⟨i, hi, e⟩ := mask_bit.1 h2
  rw [hg i hi] at e
  exact ⟨i, hi, by omega⟩
theorem al_at (hok : okHist k h) (ha : aloneB h = true) : ∀ (m : Nat), m ≤ h.length → ∀ i, i < m → (aloneL h m).getD (rank h i) 0 = i
  | 0, _, i, hi => absurd hi (Nat.not_lt_zero _)
  | m + 1, hm, i, hi => by
    have hpl : (if m = 0 then List.replicate h.length (0 : Int) else aloneL h m).length = h.length := by
      split
      · simp
      · exact alone_len (by omega)
    have hr := rank_le (h := h) (i := i) (by omega)
    rw [aloneL, List.getD_eq_getElem?_getD, List.getElem?_set]
    by_cases e : i = m
    · subst e
      rw [if_pos rfl, if_pos (by rw [hpl]; exact hr)]
      rfl
    · rw [if_neg (fun e2 => e (rank_inj hok ha (by omega) (by omega) e2.symm)), if_neg (by omega), ← List.getD_eq_getElem?_getD]
      exact al_at hok ha m (by omega) i (by omega)
/-- The order in which they began. -/
abbrev alO (h : List Cal) : List Int := aloneL h h.length
theorem alO_len : (alO h).length = h.length := by
  rcases Nat.eq_zero_or_pos h.length with h0 | h0
  · rw [alO, h0]; rfl
  · exact alone_len h0
theorem alO_get (hok : okHist k h) (ha : aloneB h = true) {i : Nat} (hi : i < h.length) : (alO h).getD (rank h i) 0 = i := al_at hok ha h.length (Nat.le_refl _) i hi
theorem alO_ord (hok : okHist k h) (ha : aloneB h = true) : isOrd h (alO h) := by
  have key : ∀ q, q < h.length → ∃ i, i < h.length ∧ rank h i = q ∧ (alO h).getD q 0 = i := fun q hq => by
    obtain ⟨i, hi, e⟩ := rank_onto hok ha hq
    exact ⟨i, hi, e, by rw [← e]; exact alO_get hok ha hi⟩
  refine ⟨?_, fun j hj _ => ?_⟩
  · rw [alO_len]
    intro q hq
    obtain ⟨i, hi, e1, e2⟩ := key q hq
    rw [e2]
    refine ⟨by omega, fun p hp e => ?_⟩
    obtain ⟨i', hi', e1', e2'⟩ := key p (by omega)
    rw [e2'] at e
    obtain rfl : i' = i := by omega
    omega
  · have h1 := alO_get hok ha hj
    have h2 := rank_le hj
    rw [← h1, List.getD_eq_getElem?_getD, List.getElem?_eq_getElem (by rw [alO_len]; exact h2), Option.getD_some]
    exact List.getElem_mem _
theorem alO_not (hok : okHist k h) (ha : aloneB h = true) {a b : Nat} (hab : a < b) (hb : b < h.length) : (calAt h ((alO h).getD a 0).toNat).fin < (calAt h ((alO h).getD b 0).toNat).bgn := by
  obtain ⟨i, hi, e1⟩ := rank_onto hok ha (show a < h.length by omega)
  obtain ⟨j, hj, e2⟩ := rank_onto hok ha hb
  rw [← e1, ← e2, alO_get hok ha hi, alO_get hok ha hj]
  simp only [Int.toNat_natCast]
  rcases al_two hok ha hi hj (fun e => by subst e; omega) with h1 | h1
  · exact h1
  · have := rank_lt hok ha hj hi h1; omega
theorem alO_pairs (hok : okHist k h) (ha : aloneB h = true) : prTo ahd h (alO h) (alO h).length = true ∧ prTo trn h (alO h) (alO h).length = true := by
  have hor := (alO_ord hok ha).1
  rw [alO_len] at hor ⊢
  have key : ∀ a b, a < b → b < h.length → ahd (opAt h (alO h) b) (opAt h (alO h) a) = false ∧ ((alO h).getD b 0).toNat ≠ ((alO h).getD a 0).toNat ∧ ((alO h).getD b 0).toNat < h.length ∧ ((alO h).getD a 0).toNat < h.length := by
    intro a b hab hb
    have h1 := alO_not hok ha hab hb
    have h2 := hor a (by omega)
    have h3 := hor b hb
    have s1 := hist_span hok (i := ((alO h).getD a 0).toNat) (by omega) (al_fin ha (by omega))
    have s2 := hist_span hok (i := ((alO h).getD b 0).toNat) (by omega) (al_fin ha (by omega))
    refine ⟨?_, fun e => h3.2 a hab (by omega), by omega, by omega⟩
    cases hz : ahd (opAt h (alO h) b) (opAt h (alO h) a) with
    | false => rfl
    | true =>
      have := (ahd_iff ha (i := ((alO h).getD b 0).toNat) (j := ((alO h).getD a 0).toNat) (by omega)).1 hz
      omega
  refine ⟨allTo_iff.2 (fun a ha' => allTo_iff.2 (fun b hb => ?_)), allTo_iff.2 (fun a ha' => allTo_iff.2 (fun b hb => ?_))⟩
  · rw [alO_len] at hb
    rw [(key a (a + 1 + b) (by omega) (by omega)).1]; rfl
  · rw [alO_len] at hb
    obtain ⟨k1, k2, k3, k4⟩ := key a (a + 1 + b) (by omega) (by omega)
    cases hz : trn (opAt h (alO h) (a + 1 + b)) (opAt h (alO h) a) with
    | false => rfl
    | true =>
      have := trn_ahd hok k3 k4 k2 hz
      rw [opAt, opAt] at k1
      rw [this] at k1; cases k1
theorem good_alO (hok : okHist k h) (ha : aloneB h = true) (hp : (playTo k h (alO h) (alO h).length).2 = true) : Good k ahd h (alO h) := by
  have hor := (alO_ord hok ha).1
  refine ⟨hor, fun a haa => allTo_iff.2 (fun j hj => ?_), hp⟩
  rw [alO_len] at haa
  have hr := rank_le hj
  have hg := alO_get hok ha hj
  rcases Nat.lt_trichotomy (rank h j) a with h1 | h1 | h1
  · have : (maskTo (alO h) a).testBit j = true := mask_bit.2 ⟨rank h j, h1, by rw [hg]; rfl⟩
    simp [this]
  · have : ((alO h).getD a 0).toNat = j := by rw [← h1, hg]; rfl
    rw [this]
    simp
  · have h2 := alO_not hok ha h1 hr
    rw [hg] at h2
    simp only [Int.toNat_natCast] at h2
    have h3 : ((alO h).getD a 0).toNat < h.length := by
      have := (hor a (by rw [alO_len]; omega)).1; omega
    have s1 := hist_span hok h3 (al_fin ha h3)
    have s2 := hist_span hok hj (al_fin ha hj)
    have : ahd (calAt h j) (calAt h ((alO h).getD a 0).toNat) = false := by
      cases hz : ahd (calAt h j) (calAt h ((alO h).getD a 0).toNat) with
      | false => rfl
      | true => have := (ahd_iff ha hj).1 hz; omega
    rw [this]
    simp
theorem play_false {o : List Int} {i : Nat} (hp : (playTo k h o i).2 = false) : ∀ j, i ≤ j → (playTo k h o j).2 = false
  | 0, hj => by obtain rfl : i = 0 := by omega
                exact hp
  | j + 1, hj => by
    by_cases e : i = j + 1
    · subst e; exact hp
    · rw [playTo, play_false hp j (by omega)]; rfl
theorem can_good {fst : Cal → Cal → Bool} {o : List Int} (hg : Good k fst h o) (hw : wholeB h (maskTo o o.length) = true) : ∀ d, d ≤ o.length → Can k fst h (maskTo o (o.length - d)) (playTo k h o (o.length - d)).1
  | 0, _ => .done hw
  | d + 1, hd => by
    have ih := can_good hg hw d (by omega)
    have e : o.length - d = (o.length - (d + 1)) + 1 := by omega
    rw [e] at ih
    have hor := ord_mono (show o.length - (d + 1) + 1 ≤ o.length by omega) hg.ord
    obtain ⟨h1, h2⟩ := ord_new hor
    have hm := hg.may (o.length - (d + 1)) (by omega)
    have ht : okTell (opAt h o (o.length - (d + 1))) (doF k (playTo k h o (o.length - (d + 1))).1 (opAt h o (o.length - (d + 1)))) = true := by
      cases hz : okTell (opAt h o (o.length - (d + 1))) (doF k (playTo k h o (o.length - (d + 1))).1 (opAt h o (o.length - (d + 1)))) with
      | true => rfl
      | false =>
        have := play_false (k := k) (h := h) (o := o) (i := o.length - (d + 1) + 1) (by rw [playTo, hz, Bool.and_false]) o.length (by omega)
        rw [hg.fits] at this; cases this
    refine .step _ h2 h1 ?_ ih
    rw [notNext, hm]
    simp only [okTell, opAt, Bool.or_eq_true, beq_iff_eq, Bool.and_eq_true] at ht
    simp only [Bool.not_true, Bool.false_or, Bool.and_eq_false_iff, bne_eq_false_iff_eq, Bool.or_eq_false_iff]
    exact ht
theorem only_one (hok : okHist k h) (ha : aloneB h = true) {l : List Int} (hg : Good k ahd h l) (hw : wholeB h (maskTo l l.length) = true) : l = alO h := by
  have hall : ∀ j, j < h.length → (maskTo l l.length).testBit j = true := fun j hj => by
    have h1 := allTo_iff.1 hw j hj
    cases hz : (maskTo l l.length).testBit j with
    | true => rfl
    | false => simp [hz, al_fin ha hj] at h1
  have hlen : l.length = h.length := by
    have h1 := ord_opens hg.ord
    have h2 := all_open hall
    have : opens h (maskTo l l.length) = 0 := h2
    omega
  have hlt : ∀ a, a < h.length → (l.getD a 0).toNat < h.length := fun a ha' => by have := (hg.ord a (by omega)).1; omega
  have hpr := good_pairs hg
  have hup : ∀ a b, a < b → b < h.length → rank h (l.getD a 0).toNat < rank h (l.getD b 0).toNat := by
    intro a b hab hb
    have h1 := allTo_iff.1 hpr a (by omega)
    have h2 := allTo_iff.1 h1 (b - (a + 1)) (by omega)
    rw [show a + 1 + (b - (a + 1)) = b by omega] at h2
    have h3 := hg.ord b (by omega)
    have h4 := (hg.ord a (by omega)).1
    rcases al_two hok ha (hlt a (by omega)) (hlt b hb) (fun e => h3.2 a hab (by omega)) with h5 | h5
    · exact rank_lt hok ha (hlt a (by omega)) (hlt b hb) h5
    · have := (ahd_iff ha (j := (l.getD a 0).toNat) (hlt b hb)).2 h5
      rw [opAt, opAt, this] at h2; cases h2
  have hsum : ∀ d a, a + d < h.length → rank h (l.getD a 0).toNat + d ≤ rank h (l.getD (a + d) 0).toNat := by
    intro d
    induction d with
    | zero => intro a _; exact Nat.le_refl _
    | succ d ih =>
      intro a had
      have h1 := ih a (by omega)
      have h2 := hup (a + d) (a + (d + 1)) (by omega) had
      omega
  have hrk : ∀ a, a < h.length → rank h (l.getD a 0).toNat = a := by
    intro a ha'
    have h1 := hsum a 0 (by omega)
    rw [Nat.zero_add] at h1
    have h2 := hsum (h.length - 1 - a) a (by omega)
    have h3 := rank_le (hlt (a + (h.length - 1 - a)) (by omega))
    omega
  refine List.ext_getElem (by rw [alO_len, hlen]) (fun a h1 h2 => ?_)
  have e1 := alO_get hok ha (hlt a (by omega))
  rw [hrk a (by omega)] at e1
  have h4 := (hg.ord a h1).1
  rw [Int.toNat_of_nonneg h4.1] at e1
  simpa [List.getD_eq_getElem?_getD, h1, h2] using e1.symm
theorem alone_law (hok : okHist k h) (ha : aloneB h = true) : fitsF k h (alO h) = ((playTo k h (alO h) (alO h).length).2, true, true, 0) ∧ (firstF k ahd h).1.2 = (playTo k h (alO h) (alO h).length).2 ∧ ((firstF k ahd h).1.2 = true → (firstF k ahd h).1.1 = alO h) := by
  have hz : askF k h (alO h) = 0 := ask_zero.2 ⟨hok, alO_ord hok ha⟩
  have ef : fitsF k h (alO h) = _ := if_pos hz
  obtain ⟨p1, p2⟩ := alO_pairs hok ha
  rw [p1, p2] at ef
  have hone : (firstF k ahd h).1.2 = true → (firstF k ahd h).1.1 = alO h := fun e => by
    obtain ⟨hg, hw⟩ := first_good hok.2.2.1 e
    exact only_one hok ha hg hw
  refine ⟨ef, ?_, hone⟩
  rw [Bool.eq_iff_iff]
  constructor
  · intro e
    obtain ⟨hg, hw⟩ := first_good hok.2.2.1 e
    rw [← hone e]
    exact hg.fits
  · intro e
    have hg := good_alO hok ha e
    have hw : wholeB h (maskTo (alO h) (alO h).length) = true := allTo_iff.2 (fun j hj => by
      have : (maskTo (alO h) (alO h).length).testBit j = true := mask_bit.2 ⟨rank h j, by rw [alO_len]; exact rank_le hj, by rw [alO_get hok ha hj]; rfl⟩
      simp [this])
    have := can_good hg hw (alO h).length (Nat.le_refl _)
    rw [Nat.sub_self] at this
    exact (first_iff hok.2.2.1).2 this
end
end Go.Ab

/- The reference's Order, Fits, Last. -/
set_option autoImplicit false
set_option maxRecDepth 20000
set_option linter.unusedSimpArgs false
set_option linter.unusedVariables false
namespace Go.Ab
open Go.Proofs
/-- Which operations are in a list. -/
def inB (l : List Int) : AV := .agg 82 8 (fun j => .bool (decide ((j : Int) ∈ l)))
theorem inB_put {l : List Int} {j : Nat} : (inB l).put [j] (.bool true) = inB (l ++ [(j : Int)]) := by
  simp only [inB, AV.put, AV.agg.injEq, true_and]
  funext q
  by_cases e : q = j
  · subst e; simp [List.mem_append]
  · have : ¬ (q : Int) = j := by omega
    simp [e, nbeq_ne e, List.mem_append, this]
open Classical in
noncomputable def ordB (h : List Cal) (o : List Int) : Bool := decide (isOrd h o)
theorem ordB_yes {h : List Cal} {o : List Int} (e : isOrd h o) : true = ordB h o := by simp [ordB, e]
theorem ordB_no {h : List Cal} {o : List Int} (e : ¬ isOrd h o) : false = ordB h o := by simp [ordB, e]
theorem rord_step {h : List Cal} {o : List Int} {i : Nat} (hi : i < o.length) : (decide (o.getD i 0 < 0) || decide (o.getD i 0 ≥ (h.length : Int)) || decide ((((o.getD i 0).toNat : Nat) : Int) ∈ o.take i)) = false ↔ (0 ≤ o.getD i 0 ∧ o.getD i 0 < h.length) ∧ ∀ p, p < i → o.getD p 0 ≠ o.getD i 0 := by
  simp only [Bool.or_eq_false_iff, decide_eq_false_iff_not, Int.not_lt, Int.not_le, ge_iff_le]
  constructor
  · rintro ⟨⟨h1, h2⟩, h3⟩
    exact ⟨⟨h1, h2⟩, fun p hp e => h3 ((mem_take (by omega)).2 ⟨p, hp, by omega⟩)⟩
  · rintro ⟨⟨h1, h2⟩, h3⟩
    refine ⟨⟨h1, h2⟩, fun hm => ?_⟩
    obtain ⟨p, hp, e⟩ := (mem_take (by omega)).1 hm
    exact h3 p hp (by omega)
theorem rorder_ac (g : Bool) (h : List Cal) (hl8 : h.length ≤ 8) (f : Bool) (o : List Int) : AC Try.prog T tysN 20 [cals g h, ints f o] [] (.bool (ordB h o)) [] := by
  refine AC_intro hT Try.func20 rfl rfl (Nat.le_of_ble_eq_true rfl) ?_
  refine WP.rowlen 1 rfl (fun hol => ?_)
  refine WP.seq ?_
  refine WP.reg hT hE [] rfl ?_ ?_
  · first | trivial | (simp [holdsC, under, slOk, slB, capEq] <;> grind)
  refine WP.seq ?_
  refine WP.reg hT hE [] rfl ?_ ?_
  · first | trivial | (simp [holdsC, under, slOk, slB, capEq] <;> grind)
  refine WP.seq ?_
  refine WP.seq ?_
  refine WP.reg hT hE [] rfl ?_ ?_
  · first | trivial | (simp [holdsC, under, slOk, slB, capEq] <;> grind)
  refine WP.block ?_
  refine WP.loop (α := Nat) (fun i => mkSt [(0, cals g h), (1, ints f o), (5, .ptr (.s 5 0) 1 0 []), (6, .int i)] [(.s 5 0, .cells ⟨82, 1, fun _ => inB (o.take i), 0⟩)]) (fun i => i ≤ o.length ∧ ordTo h o i) (fun i => o.length - i) ?_ ?_
  · refine ⟨0, ?_, ?_⟩
    · exact ⟨Nat.zero_le _, fun q hq => by omega⟩
    · refine Ent.mk hT [] trivial ⟨⟨rfl, _, rfl, by first | exact conv_eq rfl | (refine conv_eq ?_; rw [wrap_id (by omega) (by omega)]; simp; done) | (refine conv_eq ?_; simp; done)⟩, ⟨rfl, _, rfl, by first | exact conv_eq rfl | (refine conv_eq ?_; rw [wrap_id (by omega) (by omega)]; simp; done) | (refine conv_eq ?_; simp; done)⟩, ⟨rfl, _, rfl, by first | exact conv_eq rfl | (refine conv_eq ?_; rw [wrap_id (by omega) (by omega)]; simp; done) | (refine conv_eq ?_; simp; done)⟩, ⟨rfl, _, rfl, by first | exact conv_eq rfl | (refine conv_eq ?_; rw [wrap_id (by omega) (by omega)]; simp; done) | (refine conv_eq ?_; simp; done)⟩, trivial⟩ ⟨⟨fun _ _ => rfl, .inl ⟨_, rfl, _, _, rfl, Nat.le_refl _, Nat.zero_le _, Nat.zero_le _, fun q hq => conv_eq (agg_ext (fun i => by simp))⟩⟩, trivial⟩ rfl
  · rintro i ⟨hi, hor⟩
    refine WP.seq ?_
    refine WP.seq ?_
    refine WP.reg hT hE [] rfl ?_ ?_
    · first | trivial | (simp [holdsC, under, slOk, slB, capEq] <;> grind)
    refine WP.cond rfl (fun h3 => ?_) (fun h3 => ?_)
    · have hil : i < o.length := by simpa using h3
      refine WP.skip ?_
      refine WP.seq ?_
      refine WP.block ?_
      refine WP.seq ?_
      refine WP.seq ?_
      refine WP.reg hT hE [] rfl ?_ ?_
      · simp [holdsC, under]
        exact ⟨⟨⟨hil, fun _ => hil⟩, fun _ _ => hil⟩, fun h1 h2 => ⟨h1, by omega⟩⟩
      refine WP.cond rfl (fun h5 => ?_) (fun h5 => ?_)
      · simp only [bor, Int.toNat_natCast] at h5
        refine WP.seq ?_
        refine WP.reg hT hE [] rfl ?_ ?_
        · first | trivial | (simp [holdsC, under, slOk, slB, capEq] <;> grind)
        refine WP.ret ?_
        change Fin _ _ _ _ _ _ _ _
        refine fin1 hT (by rfl) (ordB_no ?_)
        intro hord
        have := (rord_step (h := h) hil).2 (hord.1 i hil)
        rw [this] at h5; cases h5
      · simp only [bor, Int.toNat_natCast] at h5
        obtain ⟨hb8, hd8⟩ := (rord_step (h := h) hil).1 h5
        refine WP.skip ?_
        refine WP.reg hT hE [] rfl ?_ ?_
        · simp [holdsC, under]
          simp [List.getD_eq_getElem?_getD] at hb8
          omega
        refine WP.reg hT hE [] rfl ?_ ?_
        · first | trivial | (simp [holdsC, under, slOk, slB, capEq] <;> grind)
        refine ⟨i + 1, ?_, ?_, ?_⟩
        · refine ⟨hil, fun q hq => ?_⟩
          rcases Nat.lt_or_ge q i with h3 | h3
          · exact hor q h3
          · obtain rfl : q = i := by omega
            exact ⟨hb8, hd8⟩
        · refine Ent.mk hT [] trivial ⟨⟨rfl, _, rfl, by first | exact conv_eq rfl | (refine conv_eq ?_; rw [wrap_id (by omega) (by omega)]; simp; done) | (refine conv_eq ?_; simp; done)⟩, ⟨rfl, _, rfl, by first | exact conv_eq rfl | (refine conv_eq ?_; rw [wrap_id (by omega) (by omega)]; simp; done) | (refine conv_eq ?_; simp; done)⟩, ⟨rfl, _, rfl, by first | exact conv_eq rfl | (refine conv_eq ?_; rw [wrap_id (by omega) (by omega)]; simp; done) | (refine conv_eq ?_; simp; done)⟩, ⟨rfl, _, rfl, by first | exact conv_eq rfl | (refine conv_eq ?_; rw [wrap_id (by omega) (by omega)]; simp; done) | (refine conv_eq ?_; simp; done)⟩, trivial⟩ ⟨⟨fun _ _ => rfl, .inl ⟨_, rfl, _, _, rfl, Nat.le_refl _, Nat.zero_le _, Nat.zero_le _, fun q hq => by (obtain rfl : q = 0 := (by simp at hq; exact hq)); exact conv_eq ((inB_put (l := o.take i) (j := (o.getD i 0).toNat)).trans (by rw [take_snoc hil, Int.toNat_of_nonneg hb8.1]))⟩⟩, trivial⟩ rfl
        · (try simp only []); first | omega | grind
    · have hil : i = o.length := by simp at h3; omega
      subst hil
      refine WP.exit ?_
      refine WP.seq ?_
      refine WP.seq ?_
      refine WP.reg hT hE [] rfl ?_ ?_
      · first | trivial | (simp [holdsC, under, slOk, slB, capEq] <;> grind)
      refine WP.block ?_
      refine WP.loop (α := Nat) (fun j => mkSt [(0, cals g h), (5, .ptr (.s 5 0) 1 0 []), (7, .int j)] [(.s 5 0, .cells ⟨82, 1, fun _ => inB o, 0⟩)]) (fun j => j ≤ h.length ∧ ∀ q, q < j → (calAt h q).fin ≠ -1 → (q : Int) ∈ o) (fun j => h.length - j) ?_ ?_
      · refine ⟨0, ?_, ?_⟩
        · exact ⟨Nat.zero_le _, fun q hq => by omega⟩
        · refine Ent.mk hT [] trivial ⟨⟨rfl, _, rfl, by first | exact conv_eq rfl | (refine conv_eq ?_; rw [wrap_id (by omega) (by omega)]; simp; done) | (refine conv_eq ?_; simp; done)⟩, ⟨rfl, _, rfl, by first | exact conv_eq rfl | (refine conv_eq ?_; rw [wrap_id (by omega) (by omega)]; simp; done) | (refine conv_eq ?_; simp; done)⟩, ⟨rfl, _, rfl, by first | exact conv_eq rfl | (refine conv_eq ?_; rw [wrap_id (by omega) (by omega)]; simp; done) | (refine conv_eq ?_; simp; done)⟩, trivial⟩ ⟨⟨fun _ _ => rfl, .inl ⟨_, rfl, _, _, rfl, Nat.le_refl _, Nat.zero_le _, Nat.zero_le _, fun q hq => conv_eq (by rw [List.take_length])⟩⟩, trivial⟩ rfl
      · rintro j ⟨hj, hin⟩
        refine WP.seq ?_
        refine WP.seq ?_
        refine WP.reg hT hE [] rfl ?_ ?_
        · first | trivial | (simp [holdsC, under, slOk, slB, capEq] <;> grind)
        refine WP.cond rfl (fun h9 => ?_) (fun h9 => ?_)
        · have hjl : j < h.length := by simpa using h9
          refine WP.skip ?_
          refine WP.seq ?_
          refine WP.block ?_
          refine WP.seq ?_
          refine WP.reg hT hE [] rfl ?_ ?_
          · simp [holdsC, under]
            omega
          refine WP.cond rfl (fun h11 => ?_) (fun h11 => ?_)
          · simp only [band, Int.toNat_natCast] at h11
            refine WP.seq ?_
            refine WP.reg hT hE [] rfl ?_ ?_
            · first | trivial | (simp [holdsC, under, slOk, slB, capEq] <;> grind)
            refine WP.ret ?_
            change Fin _ _ _ _ _ _ _ _
            refine fin1 hT (by rfl) (ordB_no ?_)
            intro hord
            have h12 : ((calAt h j).fin != -1 && !decide ((j : Int) ∈ o)) = true := h11
            simp only [Bool.and_eq_true, bne_iff_ne, Bool.not_eq_true', decide_eq_false_iff_not] at h12
            exact h12.2 (hord.2 j hjl h12.1)
          · simp only [band, Int.toNat_natCast] at h11
            refine WP.skip ?_
            refine WP.reg hT hE [] rfl ?_ ?_
            · first | trivial | (simp [holdsC, under, slOk, slB, capEq] <;> grind)
            refine ⟨j + 1, ?_, ?_, ?_⟩
            · refine ⟨hjl, fun q hq hf => ?_⟩
              rcases Nat.lt_or_ge q j with h3 | h3
              · exact hin q h3 hf
              · obtain rfl : q = j := by omega
                have h12 : ((calAt h q).fin != -1 && !decide ((q : Int) ∈ o)) = false := h11
                simp only [Bool.and_eq_false_iff, bne_eq_false_iff_eq, Bool.not_eq_false', decide_eq_true_eq] at h12
                exact h12.resolve_left hf
            · refine Ent.mk hT [] trivial ⟨⟨rfl, _, rfl, by first | exact conv_eq rfl | (refine conv_eq ?_; rw [wrap_id (by omega) (by omega)]; simp; done) | (refine conv_eq ?_; simp; done)⟩, ⟨rfl, _, rfl, by first | exact conv_eq rfl | (refine conv_eq ?_; rw [wrap_id (by omega) (by omega)]; simp; done) | (refine conv_eq ?_; simp; done)⟩, ⟨rfl, _, rfl, by first | exact conv_eq rfl | (refine conv_eq ?_; rw [wrap_id (by omega) (by omega)]; simp; done) | (refine conv_eq ?_; simp; done)⟩, trivial⟩ ⟨⟨fun _ _ => rfl, .inl ⟨_, rfl, _, _, rfl, Nat.le_refl _, Nat.zero_le _, Nat.zero_le _, fun q hq => conv_eq rfl⟩⟩, trivial⟩ rfl
            · (try simp only []); first | omega | grind
        · have hjl : j = h.length := by simp at h9; omega
          subst hjl
          refine WP.exit ?_
          refine WP.seq ?_
          refine WP.reg hT hE [] rfl ?_ ?_
          · first | trivial | (simp [holdsC, under, slOk, slB, capEq] <;> grind)
          refine WP.ret ?_
          change Fin _ _ _ _ _ _ _ _
          exact fin1 hT (by rfl) (ordB_yes ⟨hor, hin⟩)
def rplayTo (k : Int) (h : List Cal) (o : List Int) : Nat → Th × Bool
  | 0 => (th0, true)
  | i + 1 => ((doR k (rplayTo k h o i).1 (opAt h o i)).1, (rplayTo k h o i).2 && (doR k (rplayTo k h o i).1 (opAt h o i)).2)
theorem tell_ok (c : Cal) (r : Ct × Int × Bool) : okTell c r = !tellF c r := by
  simp only [okTell, tellF]
  cases h : c.fin == -1 <;> cases h2 : r.2.1 == c.out <;> cases h3 : r.2.2 == c.empty <;> simp_all [bne]
theorem play_rel {k : Int} {h : List Cal} (hok : okHist k h) {o : List Int} : ∀ {i : Nat}, ordTo h o i → RelX k (playTo k h o i).1 (rplayTo k h o i).1 ∧ (playTo k h o i).2 = (rplayTo k h o i).2
  | 0, _ => ⟨rel_zero, rfl⟩
  | i + 1, ho => by
    have hm := ord_mono (by omega : i ≤ i + 1) ho
    obtain ⟨h1, h2⟩ := play_rel hok hm
    have hk : k = 1 ∨ k = 2 ∨ k = 3 ∨ k = 4 := by have := hok.1; have := hok.2.1; omega
    have hx := play_ok (k := k) hok.2.2.1 hm
    obtain ⟨n1, n2⟩ := ord_new ho
    have hd := do_rel hk (hist_fields hok n2) h1 (fun h12 => by
      have h3 := hx.2 h12
      have h4 := opens_set n2 n1
      left; omega)
    refine ⟨hd.1, ?_⟩
    rw [playTo, rplayTo, h2, tell_ok]
    exact congrArg (fun b => (rplayTo k h o i).2 && b) hd.2
theorem rel_len {k : Int} {x : Ct} {y : Th} (h : RelX k x y) : y.l.length ≤ 8 := by
  obtain ⟨hv, h⟩ := h
  split at h
  · subst h; simp
  · obtain ⟨_, _, rfl⟩ := h
    simp [List.length_take, hv]
    omega
def rowR (p : Cal → Cal → Bool) (h : List Cal) (o : List Int) (a j : Nat) : Bool := allTo (fun b => p (opAt h o a) (opAt h o b)) j
def prR (p : Cal → Cal → Bool) (h : List Cal) (o : List Int) (i : Nat) : Bool := allTo (fun a => rowR p h o a a) i
def tnR (c b : Cal) : Bool := c.go != b.go || decide (b.bgn < c.bgn)
def ahR (c b : Cal) : Bool := !ahd c b
theorem rfits_ac (k : Int) (g : Bool) (h : List Cal) (hok : okHist k h) (f : Bool) (o : List Int) (hor : ordTo h o o.length) : AC Try.prog T tysN 21 [.int k, cals g h, ints f o] [] (.tup [.bool (rplayTo k h o o.length).2, .bool (prR ahR h o o.length), .bool (prR tnR h o o.length)]) [] := by
  refine AC_intro hT Try.func21 rfl rfl (Nat.le_of_ble_eq_true rfl) ?_
  have hl8 := hok.2.2.1
  have hol := ord_opens hor
  refine WP.seq ?_
  refine WP.reg hT hE [] rfl ?_ ?_
  · first | trivial | (simp [holdsC, under, slOk, slB, capEq] <;> grind)
  refine WP.seq ?_
  refine WP.reg hT hE [] rfl ?_ ?_
  · first | trivial | (simp [holdsC, under, slOk, slB, capEq] <;> grind)
  refine WP.seq ?_
  refine WP.reg hT hE [] rfl ?_ ?_
  · first | trivial | (simp [holdsC, under, slOk, slB, capEq] <;> grind)
  refine WP.seq ?_
  refine WP.seq ?_
  refine WP.reg hT hE [] rfl ?_ ?_
  · first | trivial | (simp [holdsC, under, slOk, slB, capEq] <;> grind)
  refine WP.block ?_
  refine WP.loop (α := Nat) (fun i => mkSt [(0, .int k), (1, cals g h), (2, ints f o), (9, .bool (rplayTo k h o i).2), (10, .bool (prR ahR h o i)), (11, .bool (prR tnR h o i)), (12, .ptr (.s 12 0) 1 0 []), (13, .int i)] [(.s 12 0, .cells ⟨74, 1, fun _ => encT (rplayTo k h o i).1, 0⟩)]) (fun i => i ≤ o.length) (fun i => o.length - i) ?_ ?_
  · refine ⟨0, ?_, ?_⟩
    · exact Nat.zero_le _
    · refine Ent.mk hT [] trivial ⟨⟨rfl, _, rfl, by first | exact conv_eq rfl | (refine conv_eq ?_; rw [wrap_id (by omega) (by omega)]; simp; done) | (refine conv_eq ?_; simp; done)⟩, ⟨rfl, _, rfl, by first | exact conv_eq rfl | (refine conv_eq ?_; rw [wrap_id (by omega) (by omega)]; simp; done) | (refine conv_eq ?_; simp; done)⟩, ⟨rfl, _, rfl, by first | exact conv_eq rfl | (refine conv_eq ?_; rw [wrap_id (by omega) (by omega)]; simp; done) | (refine conv_eq ?_; simp; done)⟩, ⟨rfl, _, rfl, by first | exact conv_eq rfl | (refine conv_eq ?_; rw [wrap_id (by omega) (by omega)]; simp; done) | (refine conv_eq ?_; simp; done)⟩, ⟨rfl, _, rfl, by first | exact conv_eq rfl | (refine conv_eq ?_; rw [wrap_id (by omega) (by omega)]; simp; done) | (refine conv_eq ?_; simp; done)⟩, ⟨rfl, _, rfl, by first | exact conv_eq rfl | (refine conv_eq ?_; rw [wrap_id (by omega) (by omega)]; simp; done) | (refine conv_eq ?_; simp; done)⟩, ⟨rfl, _, rfl, by first | exact conv_eq rfl | (refine conv_eq ?_; rw [wrap_id (by omega) (by omega)]; simp; done) | (refine conv_eq ?_; simp; done)⟩, ⟨rfl, _, rfl, by first | exact conv_eq rfl | (refine conv_eq ?_; rw [wrap_id (by omega) (by omega)]; simp; done) | (refine conv_eq ?_; simp; done)⟩, trivial⟩ ⟨⟨fun _ _ => rfl, .inl ⟨_, rfl, _, _, rfl, Nat.le_refl _, Nat.zero_le _, Nat.zero_le _, fun q hq => by (obtain rfl : q = 0 := (by simp at hq; exact hq)); exact ⟨_, rfl, fun i hi => by match i, hi with | 0, _ => exact conv_eq rfl | 1, _ => exact conv_nil_row (by decide)⟩⟩⟩, trivial⟩ rfl
  · rintro i hi
    refine WP.seq ?_
    refine WP.seq ?_
    refine WP.reg hT hE [] rfl ?_ ?_
    · first | trivial | (simp [holdsC, under, slOk, slB, capEq] <;> grind)
    refine WP.cond rfl (fun h4 => ?_) (fun h4 => ?_)
    · have hil : i < o.length := by simpa using h4
      have h0i := (hor i hil).1
      have hre := play_rel hok (ord_mono (show i ≤ o.length by omega) hor)
      have hdo := doref_ac k (rplayTo k h o i).1 (opAt h o i) (by have := rel_len hre.1; omega)
      refine WP.skip ?_
      refine WP.seq ?_
      refine WP.block ?_
      refine WP.seq ?_
      refine WP.reg hT hE [] rfl ?_ ?_
      · simp [holdsC, under]
        have h9 : 0 ≤ o[i]?.getD 0 ∧ o[i]?.getD 0 < (h.length : Int) := by simpa [List.getD_eq_getElem?_getD] using h0i
        grind
      refine WP.seq ?_
      refine WP.reg hT hE [CG.pure (encDo (doR k (rplayTo k h o i).1 (opAt h o i)))] rfl ?_ ?_
      · simp [holdsC, under, CG.pure]
        exact hdo
      refine WP.seq ?_
      refine WP.reg hT hE [] rfl ?_ ?_
      · first | trivial | (simp [holdsC, under, slOk, slB, capEq] <;> grind)
      refine WP.seq ?_
      refine WP.reg hT hE [] rfl ?_ ?_
      · first | trivial | (simp [holdsC, under, slOk, slB, capEq] <;> grind)
      refine WP.seq ?_
      refine WP.reg hT hE [] rfl ?_ ?_
      · first | trivial | (simp [holdsC, under, slOk, slB, capEq] <;> grind)
      refine WP.block ?_
      refine WP.loop (α := Nat) (fun j => mkSt [(0, .int k), (1, cals g h), (2, ints f o), (9, .bool (rplayTo k h o (i + 1)).2), (10, .bool (prR ahR h o i && rowR ahR h o i j)), (11, .bool (prR tnR h o i && rowR tnR h o i j)), (12, .ptr (.s 12 0) 1 0 []), (13, .int i), (14, .rp 30 (encCal (opAt h o i))), (17, .int j)] [(.s 12 0, .cells ⟨74, 1, fun _ => encT (rplayTo k h o (i + 1)).1, 0⟩)]) (fun j => j ≤ i) (fun j => i - j) ?_ ?_
      · refine ⟨0, ?_, ?_⟩
        · exact Nat.zero_le _
        · refine Ent.mk hT [(.s 14 0, 1)] ⟨⟨_, rfl, Nat.le_refl _⟩, trivial⟩ ⟨⟨rfl, _, rfl, by first | exact conv_eq rfl | (refine conv_eq ?_; rw [wrap_id (by omega) (by omega)]; simp; done) | (refine conv_eq ?_; simp; done)⟩, ⟨rfl, _, rfl, by first | exact conv_eq rfl | (refine conv_eq ?_; rw [wrap_id (by omega) (by omega)]; simp; done) | (refine conv_eq ?_; simp; done)⟩, ⟨rfl, _, rfl, by first | exact conv_eq rfl | (refine conv_eq ?_; rw [wrap_id (by omega) (by omega)]; simp; done) | (refine conv_eq ?_; simp; done)⟩, ⟨rfl, _, rfl, conv_eq (by simp only [rplayTo, band] <;> rfl)⟩, ⟨rfl, _, rfl, conv_eq (by simp [rowR, allTo])⟩, ⟨rfl, _, rfl, conv_eq (by simp [rowR, allTo])⟩, ⟨rfl, _, rfl, by first | exact conv_eq rfl | (refine conv_eq ?_; rw [wrap_id (by omega) (by omega)]; simp; done) | (refine conv_eq ?_; simp; done)⟩, ⟨rfl, _, rfl, by first | exact conv_eq rfl | (refine conv_eq ?_; rw [wrap_id (by omega) (by omega)]; simp; done) | (refine conv_eq ?_; simp; done)⟩, ⟨rfl, _, rfl, conv_rpe rfl rfl (Nat.lt_succ_self 0) rfl rfl (noIds_cal _)⟩, ⟨rfl, _, rfl, by first | exact conv_eq rfl | (refine conv_eq ?_; rw [wrap_id (by omega) (by omega)]; simp; done) | (refine conv_eq ?_; simp; done)⟩, trivial⟩ ⟨⟨fun _ _ => rfl, .inl ⟨_, rfl, _, _, rfl, Nat.le_refl _, Nat.zero_le _, Nat.zero_le _, fun q hq => by (obtain rfl : q = 0 := (by simp at hq; exact hq)); exact conv_eq rfl⟩⟩, trivial⟩ rfl
      · rintro j hj
        refine WP.seq ?_
        refine WP.seq ?_
        refine WP.reg hT hE [] rfl ?_ ?_
        · first | trivial | (simp [holdsC, under, slOk, slB, capEq] <;> grind)
        refine WP.cond rfl (fun h11 => ?_) (fun h11 => ?_)
        · have hjl : j < i := by simpa using h11
          have h0j := (hor j (by omega)).1
          refine WP.skip ?_
          refine WP.seq ?_
          refine WP.block ?_
          refine WP.seq ?_
          refine WP.reg hT hE [] rfl ?_ ?_
          · simp [holdsC, under]
            exact ⟨by omega, h0j⟩
          refine WP.seq ?_
          refine WP.reg hT hE [CG.pure (.bool (ahd (opAt h o i) (opAt h o j)))] rfl ?_ ?_
          · have ha := refAhead_ac (opAt h o i) (opAt h o j)
            simp [holdsC, under, CG.pure]
            exact fun _ _ => ha
          refine WP.reg hT hE [] rfl ?_ ?_
          · first | trivial | (simp [holdsC, under, slOk, slB, capEq] <;> grind)
          refine WP.reg hT hE [] rfl ?_ ?_
          · first | trivial | (simp [holdsC, under, slOk, slB, capEq] <;> grind)
          refine ⟨j + 1, ?_, ?_, ?_⟩
          · exact hjl
          · refine Ent.mk hT [] trivial ⟨⟨rfl, _, rfl, by first | exact conv_eq rfl | (refine conv_eq ?_; rw [wrap_id (by omega) (by omega)]; simp; done) | (refine conv_eq ?_; simp; done)⟩, ⟨rfl, _, rfl, by first | exact conv_eq rfl | (refine conv_eq ?_; rw [wrap_id (by omega) (by omega)]; simp; done) | (refine conv_eq ?_; simp; done)⟩, ⟨rfl, _, rfl, by first | exact conv_eq rfl | (refine conv_eq ?_; rw [wrap_id (by omega) (by omega)]; simp; done) | (refine conv_eq ?_; simp; done)⟩, ⟨rfl, _, rfl, by first | exact conv_eq rfl | (refine conv_eq ?_; rw [wrap_id (by omega) (by omega)]; simp; done) | (refine conv_eq ?_; simp; done)⟩, ⟨rfl, _, rfl, conv_eq (by simp only [rowR, allTo, band, Bool.and_assoc, ahR])⟩, ⟨rfl, _, rfl, conv_eq (by simp only [rowR, allTo, band, bor, Bool.and_assoc, tnR]; rfl)⟩, ⟨rfl, _, rfl, by first | exact conv_eq rfl | (refine conv_eq ?_; rw [wrap_id (by omega) (by omega)]; simp; done) | (refine conv_eq ?_; simp; done)⟩, ⟨rfl, _, rfl, by first | exact conv_eq rfl | (refine conv_eq ?_; rw [wrap_id (by omega) (by omega)]; simp; done) | (refine conv_eq ?_; simp; done)⟩, ⟨rfl, _, rfl, by first | exact conv_eq rfl | (refine conv_eq ?_; rw [wrap_id (by omega) (by omega)]; simp; done) | (refine conv_eq ?_; simp; done)⟩, ⟨rfl, _, rfl, by first | exact conv_eq rfl | (refine conv_eq ?_; rw [wrap_id (by omega) (by omega)]; simp; done) | (refine conv_eq ?_; simp; done)⟩, trivial⟩ ⟨⟨fun _ _ => rfl, .inl ⟨_, rfl, _, _, rfl, Nat.le_refl _, Nat.zero_le _, Nat.zero_le _, fun q hq => by (obtain rfl : q = 0 := (by simp at hq; exact hq)); exact conv_eq rfl⟩⟩, trivial⟩ rfl
          · (try simp only []); first | omega | grind
        · have hjl : j = i := by simp at h11; omega
          subst hjl
          refine WP.exit ?_
          refine WP.reg hT hE [] rfl ?_ ?_
          · first | trivial | (simp [holdsC, under, slOk, slB, capEq] <;> grind)
          refine ⟨j + 1, ?_, ?_, ?_⟩
          · exact hil
          · refine Ent.mk hT [] trivial ⟨⟨rfl, _, rfl, by first | exact conv_eq rfl | (refine conv_eq ?_; rw [wrap_id (by omega) (by omega)]; simp; done) | (refine conv_eq ?_; simp; done)⟩, ⟨rfl, _, rfl, by first | exact conv_eq rfl | (refine conv_eq ?_; rw [wrap_id (by omega) (by omega)]; simp; done) | (refine conv_eq ?_; simp; done)⟩, ⟨rfl, _, rfl, by first | exact conv_eq rfl | (refine conv_eq ?_; rw [wrap_id (by omega) (by omega)]; simp; done) | (refine conv_eq ?_; simp; done)⟩, ⟨rfl, _, rfl, by first | exact conv_eq rfl | (refine conv_eq ?_; rw [wrap_id (by omega) (by omega)]; simp; done) | (refine conv_eq ?_; simp; done)⟩, ⟨rfl, _, rfl, by first | exact conv_eq rfl | (refine conv_eq ?_; rw [wrap_id (by omega) (by omega)]; simp; done) | (refine conv_eq ?_; simp; done)⟩, ⟨rfl, _, rfl, by first | exact conv_eq rfl | (refine conv_eq ?_; rw [wrap_id (by omega) (by omega)]; simp; done) | (refine conv_eq ?_; simp; done)⟩, ⟨rfl, _, rfl, by first | exact conv_eq rfl | (refine conv_eq ?_; rw [wrap_id (by omega) (by omega)]; simp; done) | (refine conv_eq ?_; simp; done)⟩, ⟨rfl, _, rfl, by first | exact conv_eq rfl | (refine conv_eq ?_; rw [wrap_id (by omega) (by omega)]; simp; done) | (refine conv_eq ?_; simp; done)⟩, trivial⟩ ⟨⟨fun _ _ => rfl, .inl ⟨_, rfl, _, _, rfl, Nat.le_refl _, Nat.zero_le _, Nat.zero_le _, fun q hq => by (obtain rfl : q = 0 := (by simp at hq; exact hq)); exact conv_eq rfl⟩⟩, trivial⟩ rfl
          · (try simp only []); first | omega | grind
    · have hil : i = o.length := by simp at h4; omega
      subst hil
      refine WP.exit ?_
      refine WP.seq ?_
      refine WP.reg hT hE [] rfl ?_ ?_
      · first | trivial | (simp [holdsC, under, slOk, slB, capEq] <;> grind)
      refine WP.ret ?_
      change Fin _ _ _ _ _ _ _ _
      exact fin_mk hT [] (ts := [(6, .bool (rplayTo k h o o.length).2), (7, .bool (prR ahR h o o.length)), (8, .bool (prR tnR h o o.length))]) (B' := []) trivial ⟨⟨rfl, _, rfl, conv_eq rfl⟩, ⟨rfl, _, rfl, conv_eq rfl⟩, ⟨rfl, _, rfl, conv_eq rfl⟩, trivial⟩ trivial rfl (by rfl) (by rfl)
def rlastF (k : Int) (y : Th) : List Int := if k = 1 ∨ k = 2 then [y.n] else y.l
theorem rlast_ac (k : Int) (g : Bool) (h : List Cal) (hok : okHist k h) (f : Bool) (o : List Int) (hor : ordTo h o o.length) : AC Try.prog T tysN 22 [.int k, cals g h, ints f o] [] (i64s (rlastF k (rplayTo k h o o.length).1)) [] := by
  refine AC_intro hT Try.func22 rfl rfl (Nat.le_of_ble_eq_true rfl) ?_
  have hl8 := hok.2.2.1
  have hol := ord_opens hor
  refine WP.seq ?_
  refine WP.reg hT hE [] rfl ?_ ?_
  · first | trivial | (simp [holdsC, under, slOk, slB, capEq] <;> grind)
  refine WP.seq ?_
  refine WP.reg hT hE [] rfl ?_ ?_
  · first | trivial | (simp [holdsC, under, slOk, slB, capEq] <;> grind)
  refine WP.seq ?_
  refine WP.seq ?_
  refine WP.reg hT hE [] rfl ?_ ?_
  · first | trivial | (simp [holdsC, under, slOk, slB, capEq] <;> grind)
  refine WP.block ?_
  refine WP.loop (α := Nat) (fun i => mkSt [(0, .int k), (1, cals g h), (2, ints f o), (7, .ptr (.s 7 0) 1 0 []), (8, .int i)] [(.s 7 0, .cells ⟨74, 1, fun _ => encT (rplayTo k h o i).1, 0⟩)]) (fun i => i ≤ o.length) (fun i => o.length - i) ?_ ?_
  · refine ⟨0, ?_, ?_⟩
    · exact Nat.zero_le _
    · refine Ent.mk hT [] trivial ⟨⟨rfl, _, rfl, by first | exact conv_eq rfl | (refine conv_eq ?_; rw [wrap_id (by omega) (by omega)]; simp; done) | (refine conv_eq ?_; simp; done)⟩, ⟨rfl, _, rfl, by first | exact conv_eq rfl | (refine conv_eq ?_; rw [wrap_id (by omega) (by omega)]; simp; done) | (refine conv_eq ?_; simp; done)⟩, ⟨rfl, _, rfl, by first | exact conv_eq rfl | (refine conv_eq ?_; rw [wrap_id (by omega) (by omega)]; simp; done) | (refine conv_eq ?_; simp; done)⟩, ⟨rfl, _, rfl, by first | exact conv_eq rfl | (refine conv_eq ?_; rw [wrap_id (by omega) (by omega)]; simp; done) | (refine conv_eq ?_; simp; done)⟩, ⟨rfl, _, rfl, by first | exact conv_eq rfl | (refine conv_eq ?_; rw [wrap_id (by omega) (by omega)]; simp; done) | (refine conv_eq ?_; simp; done)⟩, trivial⟩ ⟨⟨fun _ _ => rfl, .inl ⟨_, rfl, _, _, rfl, Nat.le_refl _, Nat.zero_le _, Nat.zero_le _, fun q hq => by (obtain rfl : q = 0 := (by simp at hq; exact hq)); exact ⟨_, rfl, fun i hi => by match i, hi with | 0, _ => exact conv_eq rfl | 1, _ => exact conv_nil_row (by decide)⟩⟩⟩, trivial⟩ rfl
  · rintro i hi
    refine WP.seq ?_
    refine WP.seq ?_
    refine WP.reg hT hE [] rfl ?_ ?_
    · first | trivial | (simp [holdsC, under, slOk, slB, capEq] <;> grind)
    refine WP.cond rfl (fun h3 => ?_) (fun h3 => ?_)
    · have hil : i < o.length := by simpa using h3
      have h0i := (hor i hil).1
      have hre := play_rel hok (ord_mono (show i ≤ o.length by omega) hor)
      have hdo := doref_ac k (rplayTo k h o i).1 (opAt h o i) (by have := rel_len hre.1; omega)
      refine WP.skip ?_
      refine WP.seq ?_
      refine WP.block ?_
      refine WP.seq ?_
      refine WP.drw hT hE hM [CG.pure (encDo (doR k (rplayTo k h o i).1 (opAt h o i)))] rfl ?_ ?_
      · simp [holdsC, under, CG.pure]
        exact ⟨⟨hil, h0i⟩, hdo⟩
      refine WP.reg hT hE [] rfl ?_ ?_
      · first | trivial | (simp [holdsC, under, slOk, slB, capEq] <;> grind)
      refine WP.reg hT hE [] rfl ?_ ?_
      · first | trivial | (simp [holdsC, under, slOk, slB, capEq] <;> grind)
      refine ⟨i + 1, ?_, ?_, ?_⟩
      · exact hil
      · refine Ent.mk hT [] trivial ⟨⟨rfl, _, rfl, by first | exact conv_eq rfl | (refine conv_eq ?_; rw [wrap_id (by omega) (by omega)]; simp; done) | (refine conv_eq ?_; simp; done)⟩, ⟨rfl, _, rfl, by first | exact conv_eq rfl | (refine conv_eq ?_; rw [wrap_id (by omega) (by omega)]; simp; done) | (refine conv_eq ?_; simp; done)⟩, ⟨rfl, _, rfl, by first | exact conv_eq rfl | (refine conv_eq ?_; rw [wrap_id (by omega) (by omega)]; simp; done) | (refine conv_eq ?_; simp; done)⟩, ⟨rfl, _, rfl, by first | exact conv_eq rfl | (refine conv_eq ?_; rw [wrap_id (by omega) (by omega)]; simp; done) | (refine conv_eq ?_; simp; done)⟩, ⟨rfl, _, rfl, by first | exact conv_eq rfl | (refine conv_eq ?_; rw [wrap_id (by omega) (by omega)]; simp; done) | (refine conv_eq ?_; simp; done)⟩, trivial⟩ ⟨⟨fun _ _ => rfl, .inl ⟨_, rfl, _, _, rfl, Nat.le_refl _, Nat.zero_le _, Nat.zero_le _, fun q hq => by (obtain rfl : q = 0 := (by simp at hq; exact hq)); exact conv_eq rfl⟩⟩, trivial⟩ rfl
      · (try simp only []); first | omega | grind
    · have hil : i = o.length := by simp at h3; omega
      subst hil
      refine WP.exit ?_
      refine WP.seq ?_
      refine WP.seq ?_
      refine WP.reg hT hE [] rfl ?_ ?_
      · first | trivial | (simp [holdsC, under, slOk, slB, capEq] <;> grind)
      refine WP.cond rfl (fun h7 => ?_) (fun h7 => ?_)
      · have hk : k = 1 ∨ k = 2 := by simpa [bor] using h7
        refine WP.seq ?_
        refine WP.reg hT hE [] rfl ?_ ?_
        · first | trivial | (simp [holdsC, under, slOk, slB, capEq] <;> grind)
        refine WP.ret ?_
        change Fin _ _ _ _ _ _ _ _
        rw [show rlastF k (rplayTo k h o o.length).1 = [(rplayTo k h o o.length).1.n] from if_pos hk]
        exact fin_mk hT [] (ts := [(6, i64s [(rplayTo k h o o.length).1.n])]) (B' := []) trivial ⟨⟨rfl, _, rfl, conv_rowL (fun h => by cases h) (fun j hj => by
          obtain rfl : j = 0 := by simp at hj; exact hj
          rfl)⟩, trivial⟩ trivial rfl (by rfl) (by rfl)
      · have hk : ¬ (k = 1 ∨ k = 2) := by simpa [bor] using h7
        refine WP.skip ?_
        refine WP.seq ?_
        refine WP.reg hT hE [] rfl ?_ ?_
        · first | trivial | (simp [holdsC, under, slOk, slB, capEq] <;> grind)
        refine WP.ret ?_
        change Fin _ _ _ _ _ _ _ _
        rw [show rlastF k (rplayTo k h o o.length).1 = (rplayTo k h o o.length).1.l from if_neg hk]
        exact fin_mk hT [] (ts := [(6, i64s (rplayTo k h o o.length).1.l)]) (B' := []) trivial ⟨⟨rfl, _, rfl, conv_eq rfl⟩, trivial⟩ trivial rfl (by rfl) (by rfl)
end Go.Ab


/- slices.Clone; linear.Last. -/
set_option autoImplicit false
set_option maxRecDepth 20000
set_option linter.unusedSimpArgs false
set_option linter.unusedVariables false
namespace Go.Ab
open Go.Proofs
theorem ren_ct (σ : Id → Id) (x : Ct) : ren σ (encCt x) = encCt x := by simp only [encCt, ren_stru, List.map, ren_arrI, ren]
theorem fin_cl {nt : Nat} {st : St} {x : Ct} {l : List Int} {y : AV} (F : List (Id × Nat)) (hF : entF st F) (hF0 : lookF (.b 0) F = 0) (h2 : st.t 2 = some (.always, y)) (hy : Conv st.m (fun id => lookF id F) T y (i64s l)) (h0 : st.m (.b 0) = some (.cells ⟨78, 1, fun _ => encCt x, 0⟩)) : Fin T tysN nt 1 [.tmp 2] (i64s l) [.cells ⟨78, 1, fun _ => encCt x, 0⟩] st :=
  fin_mk hT F (ts := [(2, i64s l)]) (B' := [.cells ⟨78, 1, fun _ => encCt x, 0⟩]) hF ⟨⟨rfl, _, h2, hy⟩, trivial⟩ ⟨⟨fun _ _ => rfl, .inl ⟨_, h0, _, _, rfl, Nat.le_refl _, by rw [hF0]; exact Nat.zero_le _, Nat.zero_le _, fun q hq => conv_eq rfl⟩⟩, trivial⟩ rfl (by rfl) (by rfl)
theorem clone1_ac (n : Nat) (hn : n < 8) (x : Ct) (hv : x.v.length = 8) : AC Try.prog T tysN 40 [.arr (.b 0) 1 0 [1] 0 (n + 1) 8] [.cells ⟨78, 1, fun _ => encCt x, 0⟩] (i64s (x.v.take (n + 1))) [.cells ⟨78, 1, fun _ => encCt x, 0⟩] := by
  refine AC_intro hT Try.func40 rfl rfl (Nat.le_of_ble_eq_true rfl) ?_
  refine WP.seq ?_
  refine WP.reg hT hE [] rfl ?_ ?_
  · first | trivial | (simp [holdsC, under, slOk, slB, capEq] <;> grind)
  refine WP.seq ?_
  refine WP.seq ?_
  refine WP.reg hT hE [] rfl ?_ ?_
  · first | trivial | (simp [holdsC, under, slOk, slB, capEq] <;> grind)
  refine WP.cond rfl (fun h1 => ?_) (fun h1 => ?_)
  · cases h1
  · refine WP.skip ?_
    refine WP.seq ?_
    refine WP.reg hT hE [] rfl ?_ ?_
    · have hb : (T 2).bytes = 8 := rfl
      simp [holdsC, under, hb]
      omega
    refine WP.ret ?_
    change Fin _ _ _ _ _ _ _ _
    have hl : (x.v.take (n + 1)).length = 0 + (n + 1) := by rw [List.length_take, hv]; omega
    refine fin_cl [(.s 7 0, 0 + (n + 1))] ⟨⟨_, by rfl, Nat.le_refl _⟩, trivial⟩ rfl (by rfl) ?_ (by rfl)
    rw [i64s, hl]
    refine conv_row rfl rfl rfl (fun h => by cases h) (by simp [lookF, idbeq_self]) (fun j hj => ?_)
    have e5 := joinG_ge (n := 0) (k := n + 1) (i := 0 + j) (g := partG [] (T 2).zero) (h := fun j => .int (x.v.getD (0 + j) 0)) (Nat.zero_le _) (by omega)
    have hj' : j < n + 1 := by have : j < 0 + (n + 1) := hj; omega
    refine ⟨(congrArg noIds e5).trans rfl, .of_eq (e5.trans (congrArg AV.int ?_))⟩
    rw [show 0 + (0 + j - 0) = j by omega, List.getD_eq_getElem?_getD, List.getD_eq_getElem?_getD, List.getElem?_take, if_pos hj']
theorem clone0_ac (x : Ct) : AC Try.prog T tysN 40 [.arr (.b 0) 1 0 [1] 0 0 8] [.cells ⟨78, 1, fun _ => encCt x, 0⟩] (i64s []) [.cells ⟨78, 1, fun _ => encCt x, 0⟩] := by
  refine AC_intro hT Try.func40 rfl rfl (Nat.le_of_ble_eq_true rfl) ?_
  refine WP.seq ?_
  refine WP.reg hT hE [] rfl ?_ ?_
  · first | trivial | (simp [holdsC, under, slOk, slB, capEq] <;> grind)
  refine WP.seq ?_
  refine WP.seq ?_
  refine WP.reg hT hE [] rfl ?_ ?_
  · first | trivial | (simp [holdsC, under, slOk, slB, capEq] <;> grind)
  refine WP.cond rfl (fun h1 => ?_) (fun h1 => ?_)
  · cases h1
  · refine WP.skip ?_
    refine WP.seq ?_
    refine WP.reg hT hE [CG.nop] rfl ?_ ?_
    · simp [holdsC, under]
    refine WP.ret ?_
    change Fin _ _ _ _ _ _ _ _
    exact fin_cl [] trivial rfl (by rfl) (conv_rowL (fun h => by cases h) (fun j hj => by simp at hj)) (by rfl)
open Classical in
noncomputable def lastF (k : Int) (h : List Cal) (o : List Int) : List Int × Int := if askF k h o = 0 then ((playTo k h o o.length).1.v.take (playTo k h o o.length).1.n.toNat, 0) else ([], askF k h o)
def encLa (r : List Int × Int) : AV := .tup [i64s r.1, .int r.2]
theorem fin_la {nt : Nat} {st : St} {r : List Int × Int} {y : AV} (h6 : st.t 6 = some (.always, y)) (hy : Conv st.m (fun id => lookF id []) T y (i64s r.1)) (h7 : st.t 7 = some (.always, .int r.2)) : Fin T tysN nt 0 [.tmp 6, .tmp 7] (encLa r) [] st :=
  fin_mk hT [] (ts := [(6, i64s r.1), (7, .int r.2)]) (B' := []) trivial ⟨⟨rfl, _, h6, hy⟩, ⟨rfl, _, h7, conv_eq rfl⟩, trivial⟩ trivial rfl (by rfl) (by rfl)
theorem last1_ac (k : Int) (g : Bool) (h : List Cal) (f : Bool) (o : List Int) (hn : askF k h o = 0 → (playTo k h o o.length).1.n = 0) (hn8 : askF k h o = 0 → (playTo k h o o.length).1.n ≤ 8) : AC Try.prog T tysN 19 [.int k, cals g h, ints f o] [] (encLa (lastF k h o)) [] := by
  refine AC_intro hT Try.func19 rfl rfl (Nat.le_of_ble_eq_true rfl) ?_
  refine WP.seq ?_
  refine WP.reg hT hE [] rfl ?_ ?_
  · first | trivial | (simp [holdsC, under, slOk, slB, capEq] <;> grind)
  refine WP.seq ?_
  refine WP.seq ?_
  refine WP.reg hT hE [CG.pure (.int (askF k h o))] rfl ?_ ?_
  · exact asked_ac k g h f o
  refine WP.seq ?_
  refine WP.reg hT hE [] rfl ?_ ?_
  · first | trivial | (simp [holdsC, under, slOk, slB, capEq] <;> grind)
  refine WP.cond rfl (fun h2 => ?_) (fun h2 => ?_)
  · have hbad : ¬ askF k h o = 0 := fun e => by simp [e] at h2
    refine WP.seq ?_
    refine WP.reg hT hE [] rfl ?_ ?_
    · first | trivial | (simp [holdsC, under, slOk, slB, capEq] <;> grind)
    refine WP.ret ?_
    change Fin _ _ _ _ _ _ _ _
    rw [show lastF k h o = ([], askF k h o) from if_neg hbad]
    exact fin_la (by rfl) (by exact conv_nil_row (by decide)) (by rfl)
  · have hz : askF k h o = 0 := by simpa using h2
    have hn := hn hz
    have hn8 := hn8 hz
    obtain ⟨hok, hord⟩ := ask_zero.1 hz
    have hl8 := hok.2.2.1
    have hk : k = 1 ∨ k = 2 ∨ k = 3 ∨ k = 4 := by have := hok.1; have := hok.2.1; omega
    have hpl := played_ac hk g hl8 f hord.1
    have hv8 := (play_ok (k := k) hl8 hord.1).1
    rw [show lastF k h o = ((playTo k h o o.length).1.v.take (playTo k h o o.length).1.n.toNat, 0) from if_pos hz]
    generalize hps : playTo k h o o.length = ps at hpl hn hn8 hv8
    refine WP.skip ?_
    refine WP.seq ?_
    refine WP.reg hT hE [CG.pure (encPlay ps)] rfl ?_ ?_
    · exact ⟨hpl, rfl, Nat.le_refl _⟩
    refine WP.seq ?_
    obtain ⟨n, hnn⟩ : ∃ n : Nat, ps.1.n = ((0 : Nat) : Int) := ⟨ps.1.n.toNat - 1, by omega⟩
    have hn7 : (0) ≤ 8 := by omega
    rw [show ps.1.v.take ps.1.n.toNat = ps.1.v.take (0) by rw [hnn, Int.toNat_natCast]]
    refine WP.ent (st' := mkSt [(9, .ptr (.s 9 0) 1 0 [])] [(.s 9 0, .cells ⟨78, 1, fun _ => encCt ps.1, 0⟩)]) ?_ ?_
    · refine Ent.mk hT [] trivial ⟨⟨rfl, _, rfl, by first | exact conv_eq rfl | (refine conv_eq ?_; rw [wrap_id (by omega) (by omega)]; simp; done) | (refine conv_eq ?_; simp; done)⟩, trivial⟩ ⟨⟨fun _ _ => rfl, .inl ⟨_, rfl, _, _, rfl, Nat.le_refl _, Nat.zero_le _, Nat.zero_le _, fun q hq => by (obtain rfl : q = 0 := (by simp at hq; exact hq)); exact conv_eq rfl⟩⟩, trivial⟩ rfl
    refine WP.reg hT hE [⟨true, [.s 9 0], i64s (ps.1.v.take (0)), [.cells ⟨78, 1, fun _ => encCt ps.1, 0⟩]⟩] rfl ?_ ?_
    · simp only [holdsC, under]
      refine ⟨?_, ⟨fun _ _ => rfl, trivial⟩, ⟨fun _ _ => rfl, trivial⟩, ?_⟩
      · refine ⟨⟨⟨trivial, trivial⟩, trivial⟩, trivial, ?_, ?_, by decide⟩
        · simp [slOk, slB]
          omega
        · simp [slB]
      · have ec := clone0_ac ps.1
        simp only [List.map, renO_cells1, ren_ct]
        refine AC.conv hT ec ⟨_, _, rfl, conv_eq ?_, rfl⟩
        show AV.arr (.b 0) 1 0 [1] 0 (ps.1.n - 0).toNat 8 = _
        rw [show (ps.1.n - 0).toNat = 0 by omega]
    refine WP.ret ?_
    change Fin _ _ _ _ _ _ _ _
    exact fin_la (by rfl) (by exact conv_eq rfl) (by rfl)
theorem last2_ac (k : Int) (g : Bool) (h : List Cal) (f : Bool) (o : List Int) (hn : askF k h o = 0 → 0 < (playTo k h o o.length).1.n) (hn8 : askF k h o = 0 → (playTo k h o o.length).1.n ≤ 8) : AC Try.prog T tysN 19 [.int k, cals g h, ints f o] [] (encLa (lastF k h o)) [] := by
  refine AC_intro hT Try.func19 rfl rfl (Nat.le_of_ble_eq_true rfl) ?_
  refine WP.seq ?_
  refine WP.reg hT hE [] rfl ?_ ?_
  · first | trivial | (simp [holdsC, under, slOk, slB, capEq] <;> grind)
  refine WP.seq ?_
  refine WP.seq ?_
  refine WP.reg hT hE [CG.pure (.int (askF k h o))] rfl ?_ ?_
  · exact asked_ac k g h f o
  refine WP.seq ?_
  refine WP.reg hT hE [] rfl ?_ ?_
  · first | trivial | (simp [holdsC, under, slOk, slB, capEq] <;> grind)
  refine WP.cond rfl (fun h2 => ?_) (fun h2 => ?_)
  · have hbad : ¬ askF k h o = 0 := fun e => by simp [e] at h2
    refine WP.seq ?_
    refine WP.reg hT hE [] rfl ?_ ?_
    · first | trivial | (simp [holdsC, under, slOk, slB, capEq] <;> grind)
    refine WP.ret ?_
    change Fin _ _ _ _ _ _ _ _
    rw [show lastF k h o = ([], askF k h o) from if_neg hbad]
    exact fin_la (by rfl) (by exact conv_nil_row (by decide)) (by rfl)
  · have hz : askF k h o = 0 := by simpa using h2
    have hn := hn hz
    have hn8 := hn8 hz
    obtain ⟨hok, hord⟩ := ask_zero.1 hz
    have hl8 := hok.2.2.1
    have hk : k = 1 ∨ k = 2 ∨ k = 3 ∨ k = 4 := by have := hok.1; have := hok.2.1; omega
    have hpl := played_ac hk g hl8 f hord.1
    have hv8 := (play_ok (k := k) hl8 hord.1).1
    rw [show lastF k h o = ((playTo k h o o.length).1.v.take (playTo k h o o.length).1.n.toNat, 0) from if_pos hz]
    generalize hps : playTo k h o o.length = ps at hpl hn hn8 hv8
    refine WP.skip ?_
    refine WP.seq ?_
    refine WP.reg hT hE [CG.pure (encPlay ps)] rfl ?_ ?_
    · exact ⟨hpl, rfl, Nat.le_refl _⟩
    refine WP.seq ?_
    obtain ⟨n, hnn⟩ : ∃ n : Nat, ps.1.n = ((n + 1 : Nat) : Int) := ⟨ps.1.n.toNat - 1, by omega⟩
    have hn7 : (n + 1) ≤ 8 := by omega
    rw [show ps.1.v.take ps.1.n.toNat = ps.1.v.take (n + 1) by rw [hnn, Int.toNat_natCast]]
    refine WP.ent (st' := mkSt [(9, .ptr (.s 9 0) 1 0 [])] [(.s 9 0, .cells ⟨78, 1, fun _ => encCt ps.1, 0⟩)]) ?_ ?_
    · refine Ent.mk hT [] trivial ⟨⟨rfl, _, rfl, by first | exact conv_eq rfl | (refine conv_eq ?_; rw [wrap_id (by omega) (by omega)]; simp; done) | (refine conv_eq ?_; simp; done)⟩, trivial⟩ ⟨⟨fun _ _ => rfl, .inl ⟨_, rfl, _, _, rfl, Nat.le_refl _, Nat.zero_le _, Nat.zero_le _, fun q hq => by (obtain rfl : q = 0 := (by simp at hq; exact hq)); exact conv_eq rfl⟩⟩, trivial⟩ rfl
    refine WP.reg hT hE [⟨true, [.s 9 0], i64s (ps.1.v.take (n + 1)), [.cells ⟨78, 1, fun _ => encCt ps.1, 0⟩]⟩] rfl ?_ ?_
    · simp only [holdsC, under]
      refine ⟨?_, ⟨fun _ _ => rfl, trivial⟩, ⟨fun _ _ => rfl, trivial⟩, ?_⟩
      · refine ⟨⟨⟨trivial, trivial⟩, trivial⟩, trivial, ?_, ?_, by decide⟩
        · simp [slOk, slB]
          omega
        · simp [slB]
      · have ec := clone1_ac n (by omega) ps.1 hv8
        simp only [List.map, renO_cells1, ren_ct]
        refine AC.conv hT ec ⟨_, _, rfl, conv_eq ?_, rfl⟩
        show AV.arr (.b 0) 1 0 [1] 0 (ps.1.n - 0).toNat 8 = _
        rw [show (ps.1.n - 0).toNat = n + 1 by omega]
    refine WP.ret ?_
    change Fin _ _ _ _ _ _ _ _
    exact fin_la (by rfl) (by exact conv_eq rfl) (by rfl)
end Go.Ab


/- Fits: the two say the same. -/
set_option autoImplicit false
set_option linter.unusedSimpArgs false
set_option linter.unusedVariables false
namespace Go.Ab
open Go.Proofs
section
variable {k : Int} {h : List Cal} {o : List Int}
theorem play_one (h12 : k = 1 ∨ k = 2) : ∀ i, (playTo k h o i).1.n = 1
  | 0 => if_pos h12
  | i + 1 => by
    have ih := play_one h12 i
    rw [playTo]
    simp only [doF, if_pos h12, cellF]
    split
    · exact ih
    · split <;> exact ih
theorem play_n (hok : okHist k h) (hor : isOrd h o) : 0 ≤ (playTo k h o o.length).1.n ∧ (playTo k h o o.length).1.n ≤ 8 := by
  by_cases h12 : k = 1 ∨ k = 2
  · rw [play_one h12]; exact ⟨by decide, by decide⟩
  · have := (play_ok (k := k) hok.2.2.1 hor.1).2 h12
    omega
theorem last_eq (hok : okHist k h) (hor : isOrd h o) : (playTo k h o o.length).1.v.take (playTo k h o o.length).1.n.toNat = rlastF k (rplayTo k h o o.length).1 := by
  obtain ⟨⟨hv, hr⟩, _⟩ := play_rel hok hor.1
  unfold rlastF
  by_cases h12 : k = 1 ∨ k = 2
  · rw [if_pos h12] at hr ⊢
    rw [hr, play_one h12]
    match (playTo k h o o.length).1.v, hv with
    | a :: r, _ => rfl
  · rw [if_neg h12] at hr ⊢
    rw [hr.2.2]
theorem hist_bgn (hok : okHist k h) {i j : Nat} (hi : i < h.length) (hj : j < h.length) (hij : i ≠ j) : (calAt h i).bgn ≠ (calAt h j).bgn := by
  have key : ∀ a b, b < a → a < h.length → (calAt h a).bgn ≠ (calAt h b).bgn := by
    intro a b hba ha
    have h1 := ((hok.2.2.2 a ha).2 b hba).1
    simp only [clash, Bool.or_eq_false_iff, beq_eq_false_iff_ne] at h1
    exact h1.1.1.1
  rcases Nat.lt_or_ge j i with h1 | h1
  · exact key i j h1 hi
  · exact fun e => key j i (by omega) hj e.symm
theorem pr_eq {p q : Cal → Cal → Bool} {L : Nat} (hL : L = o.length) (hpq : ∀ a b, b < a → a < L → (!p (opAt h o a) (opAt h o b)) = q (opAt h o a) (opAt h o b)) : prTo p h o L = prR q h o L := by
  rw [Bool.eq_iff_iff, prTo, prR, allTo_iff, allTo_iff]
  constructor
  · intro H a ha
    refine allTo_iff.2 (fun b hb => ?_)
    have h1 := allTo_iff.1 (H b (by omega)) (a - (b + 1)) (by omega)
    rw [show b + 1 + (a - (b + 1)) = a by omega] at h1
    rw [← hpq a b hb ha]; exact h1
  · intro H a ha
    refine allTo_iff.2 (fun b hb => ?_)
    have h1 := allTo_iff.1 (H (a + 1 + b) (by omega)) a (by omega)
    rw [← hpq (a + 1 + b) a (by omega) (by omega)] at h1; exact h1
theorem pr_ahd : prTo ahd h o o.length = prR ahR h o o.length := pr_eq rfl (fun a b _ _ => rfl)
theorem trn_tn {c b : Cal} (h : c.bgn ≠ b.bgn) : (!trn c b) = tnR c b := by
  simp only [trn, tnR]
  cases hg : c.go == b.go
  · simp [bne, hg]
  · simp only [bne, hg, Bool.true_and, Bool.not_true, Bool.false_or]
    by_cases h5 : c.bgn < b.bgn
    · rw [decide_eq_true h5, decide_eq_false (by omega)]; rfl
    · rw [decide_eq_false h5, decide_eq_true (by omega)]; rfl
theorem pr_trn (hok : okHist k h) (hor : isOrd h o) : prTo trn h o o.length = prR tnR h o o.length := by
  refine pr_eq rfl (fun a b hba ha => ?_)
  have h1 := hor.1 a ha
  have h2 := (hor.1 b (by omega)).1
  have h3 := hist_bgn hok (i := (o.getD a 0).toNat) (j := (o.getD b 0).toNat) (by omega) (by omega) (fun e => h1.2 b hba (by omega))
  exact trn_tn h3
end
end Go.Ab

/- LinearFits. -/
set_option autoImplicit false
set_option maxRecDepth 20000
set_option linter.unusedSimpArgs false
set_option linter.unusedVariables false
namespace Go.Ab
open Go.Proofs
theorem last_ac (k : Int) (g : Bool) (h : List Cal) (f : Bool) (o : List Int) : AC Try.prog T tysN 19 [.int k, cals g h, ints f o] [] (encLa (lastF k h o)) [] := by
  have h8 : askF k h o = 0 → (playTo k h o o.length).1.n ≤ 8 := fun e => (play_n (ask_zero.1 e).1 (ask_zero.1 e).2).2
  by_cases hn : (playTo k h o o.length).1.n = 0
  · exact last1_ac k g h f o (fun _ => hn) h8
  · exact last2_ac k g h f o (fun e => by have := (play_n (ask_zero.1 e).1 (ask_zero.1 e).2).1; omega) h8
theorem lfits_ac (k : Int) (g : Bool) (h : List Cal) (f : Bool) (o : List Int) : AC Try.prog T tysN 7 [.int k, cals g h, ints f o] [] (.bool true) [] := by
  refine AC_intro hT Try.func7 rfl rfl (Nat.le_of_ble_eq_true rfl) ?_
  refine WP.seq ?_
  refine WP.reg hT hE [] rfl ?_ ?_
  · first | trivial | (simp [holdsC, under, slOk, slB, capEq] <;> grind)
  refine WP.seq ?_
  refine WP.reg hT hE [CG.pure (encR4 (fitsF k h o))] rfl ?_ ?_
  · exact fits_ac k g h f o
  refine WP.seq ?_
  refine WP.reg hT hE [CG.pure (encLa (lastF k h o))] rfl ?_ ?_
  · exact last_ac k g h f o
  refine WP.seq ?_
  refine WP.reg hT hE [CG.pure (.int (refCheck k h))] rfl ?_ ?_
  · exact refCheck_ac g k h
  refine WP.seq ?_
  refine WP.seq ?_
  have hfe : (fitsF k h o).2.2.2 = askF k h o := by
    unfold fitsF; split
    · rename_i e; exact e.symm
    · rfl
  have hle : (lastF k h o).2 = askF k h o := by
    unfold lastF; split
    · rename_i e; exact e.symm
    · rfl
  have hs := speaks_ac
  refine WP.reg hT hE [CG.pure (.bool (ordB h o))] rfl ?_ ?_
  · simp [holdsC, under, CG.pure]
    exact fun e => rorder_ac g h (refCheck_zero.1 e).2.2.1 f o
  refine WP.cond rfl (fun h4 => ?_) (fun h4 => ?_)
  · simp only [band, Bool.and_eq_true, beq_iff_eq, Bool.not_eq_true'] at h4
    have hok : okHist k h := refCheck_zero.1 h4.1
    have hno : ¬ isOrd h o := fun e => by rw [← ordB_yes e] at h4; cases h4.2
    have ha : askF k h o = 1 := by unfold askF; rw [if_pos hok, if_neg hno]
    have hfF : fitsF k h o = (false, false, false, 1) := by unfold fitsF; rw [if_neg (by rw [ha]; decide), ha]
    have hlF : lastF k h o = ([], 1) := by unfold lastF; rw [if_neg (by rw [ha]; decide), ha]
    refine WP.reg hT hE [] rfl ?_ ?_
    · first | trivial | (simp [holdsC, under, slOk, slB, capEq] <;> grind)
    refine WP.seq ?_
    refine WP.seq ?_
    refine WP.reg hT hE [CG.pure (.bool true)] rfl ?_ ?_
    · simp [holdsC, under, CG.pure]
      exact fun _ _ => hs
    refine WP.cond rfl (fun h6 => ?_) (fun h6 => ?_)
    · exfalso
      rw [hfF, hlF] at h6
      simp at h6
    · refine WP.skip ?_
      refine WP.seq ?_
      refine WP.seq ?_
      refine WP.reg hT hE [] rfl ?_ ?_
      · first | trivial | (simp [holdsC, under, slOk, slB, capEq] <;> grind)
      refine WP.cond rfl (fun h8 => ?_) (fun h8 => ?_)
      · refine WP.seq ?_
        refine WP.reg hT hE [] rfl ?_ ?_
        · first | trivial | (simp [holdsC, under, slOk, slB, capEq] <;> grind)
        refine WP.ret ?_
        change Fin _ _ _ _ _ _ _ _
        refine fin1 hT rfl ?_
        rw [hfF, hlF]
        rfl
      · cases h8
  · simp only [band, Bool.and_eq_false_iff, beq_eq_false_iff_ne, Bool.not_eq_false'] at h4
    have ha : askF k h o = refCheck k h := by
      by_cases hok : okHist k h
      · have ho : isOrd h o := by
          rcases h4 with h4 | h4
          · exact absurd (refCheck_zero.2 hok) h4
          · exact Classical.byContradiction fun e => by rw [← ordB_no e] at h4; cases h4
        rw [refCheck_zero.2 hok, ask_zero.2 ⟨hok, ho⟩]
      · simp [askF, refCheck, hok]
    refine WP.skip ?_
    refine WP.seq ?_
    refine WP.seq ?_
    refine WP.reg hT hE [CG.pure (.bool true)] rfl ?_ ?_
    · simp [holdsC, under, CG.pure]
      exact fun _ _ => hs
    refine WP.cond rfl (fun h6 => ?_) (fun h6 => ?_)
    · exfalso
      rw [hfe, hle, ha] at h6
      simp at h6
    · refine WP.skip ?_
      refine WP.seq ?_
      refine WP.seq ?_
      refine WP.reg hT hE [] rfl ?_ ?_
      · first | trivial | (simp [holdsC, under, slOk, slB, capEq] <;> grind)
      refine WP.cond rfl (fun h8 => ?_) (fun h8 => ?_)
      · have hbad : ¬ askF k h o = 0 := fun e => by rw [← ha, e] at h8; cases h8
        have hfF : fitsF k h o = (false, false, false, askF k h o) := if_neg hbad
        have hlF : lastF k h o = ([], askF k h o) := if_neg hbad
        refine WP.seq ?_
        refine WP.reg hT hE [] rfl ?_ ?_
        · first | trivial | (simp [holdsC, under, slOk, slB, capEq] <;> grind)
        refine WP.ret ?_
        change Fin _ _ _ _ _ _ _ _
        refine fin1 hT rfl ?_
        rw [hfF, hlF]
        rfl
      · have hz : askF k h o = 0 := by rw [ha]; simpa using h8
        obtain ⟨hok, hord⟩ := ask_zero.1 hz
        have hl8 := hok.2.2.1
        have hfF : fitsF k h o = ((playTo k h o o.length).2, prTo ahd h o o.length, prTo trn h o o.length, 0) := if_pos hz
        have hlF : lastF k h o = (rlastF k (rplayTo k h o o.length).1, 0) := by
          rw [show lastF k h o = _ from if_pos hz, last_eq hok hord]
        have hlen : (rlastF k (rplayTo k h o o.length).1).length ≤ 8 := by
          rw [← last_eq hok hord, List.length_take, (play_ok (k := k) hl8 hord.1).1]; omega
        have hrf := rfits_ac k g h hok f o hord.1
        have hrl := rlast_ac k g h hok f o hord.1
        refine WP.skip ?_
        refine WP.seq ?_
        refine WP.reg hT hE [CG.pure (.tup [.bool (rplayTo k h o o.length).2, .bool (prR ahR h o o.length), .bool (prR tnR h o o.length)])] rfl ?_ ?_
        · exact hrf
        refine WP.seq ?_
        refine WP.reg hT hE [CG.pure (i64s (rlastF k (rplayTo k h o o.length).1))] rfl ?_ ?_
        · exact hrl
        refine WP.seq ?_
        refine WP.seq ?_
        refine WP.reg hT hE [] rfl ?_ ?_
        · first | trivial | (simp [holdsC, under, slOk, slB, capEq] <;> grind)
        refine WP.cond rfl (fun h12 => ?_) (fun h12 => ?_)
        · exfalso
          rw [hlF] at h12
          simp at h12
        · refine WP.skip ?_
          refine WP.seq ?_
          refine WP.seq ?_
          refine WP.reg hT hE [] rfl ?_ ?_
          · first | trivial | (simp [holdsC, under, slOk, slB, capEq] <;> grind)
          refine WP.block ?_
          refine WP.loop (α := Nat) (fun j => mkSt [(7, .bool (fitsF k h o).1), (8, .bool (fitsF k h o).2.1), (9, .bool (fitsF k h o).2.2.1), (11, i64s (lastF k h o).1), (14, .bool (rplayTo k h o o.length).2), (15, .bool (prR ahR h o o.length)), (16, .bool (prR tnR h o o.length)), (17, i64s (rlastF k (rplayTo k h o o.length).1)), (18, .int j)] []) (fun j => j ≤ (lastF k h o).1.length) (fun j => (lastF k h o).1.length - j) ?_ ?_
          · refine ⟨0, ?_, ?_⟩
            · exact Nat.zero_le _
            · refine Ent.mk hT [] trivial ⟨⟨rfl, _, rfl, by first | exact conv_eq rfl | (refine conv_eq ?_; rw [wrap_id (by omega) (by omega)]; simp; done) | (refine conv_eq ?_; simp; done)⟩, ⟨rfl, _, rfl, by first | exact conv_eq rfl | (refine conv_eq ?_; rw [wrap_id (by omega) (by omega)]; simp; done) | (refine conv_eq ?_; simp; done)⟩, ⟨rfl, _, rfl, by first | exact conv_eq rfl | (refine conv_eq ?_; rw [wrap_id (by omega) (by omega)]; simp; done) | (refine conv_eq ?_; simp; done)⟩, ⟨rfl, _, rfl, by first | exact conv_eq rfl | (refine conv_eq ?_; rw [wrap_id (by omega) (by omega)]; simp; done) | (refine conv_eq ?_; simp; done)⟩, ⟨rfl, _, rfl, by first | exact conv_eq rfl | (refine conv_eq ?_; rw [wrap_id (by omega) (by omega)]; simp; done) | (refine conv_eq ?_; simp; done)⟩, ⟨rfl, _, rfl, by first | exact conv_eq rfl | (refine conv_eq ?_; rw [wrap_id (by omega) (by omega)]; simp; done) | (refine conv_eq ?_; simp; done)⟩, ⟨rfl, _, rfl, by first | exact conv_eq rfl | (refine conv_eq ?_; rw [wrap_id (by omega) (by omega)]; simp; done) | (refine conv_eq ?_; simp; done)⟩, ⟨rfl, _, rfl, by first | exact conv_eq rfl | (refine conv_eq ?_; rw [wrap_id (by omega) (by omega)]; simp; done) | (refine conv_eq ?_; simp; done)⟩, ⟨rfl, _, rfl, by first | exact conv_eq rfl | (refine conv_eq ?_; rw [wrap_id (by omega) (by omega)]; simp; done) | (refine conv_eq ?_; simp; done)⟩, trivial⟩ trivial rfl
          · rintro j hj
            refine WP.seq ?_
            refine WP.seq ?_
            refine WP.reg hT hE [] rfl ?_ ?_
            · first | trivial | (simp [holdsC, under, slOk, slB, capEq] <;> grind)
            refine WP.cond rfl (fun h15 => ?_) (fun h15 => ?_)
            · have hjl : j < (lastF k h o).1.length := by simpa using h15
              have hl1 : (lastF k h o).1 = rlastF k (rplayTo k h o o.length).1 := by rw [hlF]
              refine WP.skip ?_
              refine WP.seq ?_
              refine WP.block ?_
              refine WP.seq ?_
              refine WP.drw hT hE hM [] rfl ?_ ?_
              · simp [holdsC, under]
                rw [← hl1]
                omega
              refine WP.cond rfl (fun h17 => ?_) (fun h17 => ?_)
              · exfalso
                rw [hl1] at h17
                simp at h17
              · refine WP.skip ?_
                refine WP.reg hT hE [] rfl ?_ ?_
                · first | trivial | (simp [holdsC, under, slOk, slB, capEq] <;> grind)
                refine ⟨j + 1, ?_, ?_, ?_⟩
                · exact hjl
                · refine Ent.mk hT [] trivial ⟨⟨rfl, _, rfl, by first | exact conv_eq rfl | (refine conv_eq ?_; rw [wrap_id (by omega) (by omega)]; simp; done) | (refine conv_eq ?_; simp; done)⟩, ⟨rfl, _, rfl, by first | exact conv_eq rfl | (refine conv_eq ?_; rw [wrap_id (by omega) (by omega)]; simp; done) | (refine conv_eq ?_; simp; done)⟩, ⟨rfl, _, rfl, by first | exact conv_eq rfl | (refine conv_eq ?_; rw [wrap_id (by omega) (by omega)]; simp; done) | (refine conv_eq ?_; simp; done)⟩, ⟨rfl, _, rfl, by first | exact conv_eq rfl | (refine conv_eq ?_; rw [wrap_id (by omega) (by omega)]; simp; done) | (refine conv_eq ?_; simp; done)⟩, ⟨rfl, _, rfl, by first | exact conv_eq rfl | (refine conv_eq ?_; rw [wrap_id (by omega) (by omega)]; simp; done) | (refine conv_eq ?_; simp; done)⟩, ⟨rfl, _, rfl, by first | exact conv_eq rfl | (refine conv_eq ?_; rw [wrap_id (by omega) (by omega)]; simp; done) | (refine conv_eq ?_; simp; done)⟩, ⟨rfl, _, rfl, by first | exact conv_eq rfl | (refine conv_eq ?_; rw [wrap_id (by omega) (by omega)]; simp; done) | (refine conv_eq ?_; simp; done)⟩, ⟨rfl, _, rfl, by first | exact conv_eq rfl | (refine conv_eq ?_; rw [wrap_id (by omega) (by omega)]; simp; done) | (refine conv_eq ?_; simp; done)⟩, ⟨rfl, _, rfl, conv_eq (by rw [wrap_id (by rw [hl1] at hjl; omega) (by rw [hl1] at hjl; omega)]; simp)⟩, trivial⟩ trivial rfl
                · (try simp only []); first | omega | grind
            · refine WP.exit ?_
              refine WP.seq ?_
              refine WP.reg hT hE [] rfl ?_ ?_
              · first | trivial | (simp [holdsC, under, slOk, slB, capEq] <;> grind)
              refine WP.ret ?_
              change Fin _ _ _ _ _ _ _ _
              refine fin1 hT rfl ?_
              rw [hfF, (play_rel hok hord.1).2, pr_ahd, pr_trn hok hord]
              simp
end Go.Ab


/- Ab, part 35: a law's row out of its contract. -/
set_option autoImplicit false
set_option linter.unusedVariables false
namespace Go.Ab
open Go.ChangeShapes Go.WideShapes Go.ChangeAt Go.RowKit
section
variable {P : Program} {T : Nat → TI} {N : Nat}
/-- What is read as a value of type t is some enc a. -/
def Dec (P : Program) (T : Nat → TI) (N : Nat) (t : Nat) {α : Type} (enc : α → AV) (Q : α → Prop) : Prop :=
  ∀ (H : Type) (eh : TypeId × Value → H) (w : World) (fuel : Nat) (cs : List Value) (d : DataW H) (ps : List MemPlace), DataW.trod eh P w 0 (fun _ => true) true fuel t cs = some (d, ps) → ∃ a, Q a ∧ Rep T N (memI w) noPl (enc a) cs ∧ fit T t (enc a) = true
theorem Dec.map {t : Nat} {α β : Type} {enc : α → AV} {enc' : β → AV} {Q : α → Prop} {Q' : β → Prop} (h : Dec P T N t enc Q) (f : α → β) (he : ∀ a, enc' (f a) = enc a) (hq : ∀ a, Q a → Q' (f a)) : Dec P T N t enc' Q' := fun H eh w fuel cs d ps hr => by
  obtain ⟨a, h1, h2, h3⟩ := h H eh w fuel cs d ps hr
  exact ⟨f a, hq a h1, by rw [he]; exact h2, by rw [he]; exact h3⟩
theorem Dec.int {t : Nat} {k : IntKind} (hu : P.underlying t = some (.int k)) (hk : (T t).kind.isAgg = false) : Dec P T N t (fun n : Int => .v (.int k n)) (fun n => k.min ≤ n ∧ n ≤ k.max) := by
  intro H eh w fuel cs d ps hr
  cases fuel with
  | zero => simp [DataW.trod] at hr
  | succ fuel =>
    unfold DataW.trod at hr
    rw [hu] at hr
    match cs, hr with
    | [.int k' n], hr =>
      simp only [Option.ite_none_right_eq_some] at hr
      obtain ⟨⟨rfl, hwf⟩, _⟩ := hr
      simp only [Lit.wf, Bool.and_eq_true, decide_eq_true_eq] at hwf
      exact ⟨n, hwf, .v rfl, by simp [fit, hk]⟩
theorem Dec.bool {t : Nat} (hu : P.underlying t = some .bool) (hk : (T t).kind.isAgg = false) : Dec P T N t (fun b : Bool => .v (.bool b)) (fun _ => True) := by
  intro H eh w fuel cs d ps hr
  cases fuel with
  | zero => simp [DataW.trod] at hr
  | succ fuel =>
    unfold DataW.trod at hr
    rw [hu] at hr
    match cs, hr with
    | [.bool b], hr => exact ⟨b, trivial, .v rfl, by simp [fit, hk]⟩
theorem mapM_at {α β : Type} {f : α → Option β} : ∀ {l : List α} {r : List β}, l.mapM f = some r → r.length = l.length ∧ ∀ (i : Nat) (x : α), l[i]? = some x → ∃ y, r[i]? = some y ∧ f x = some y
  | [], r, h => by
    simp at h
    subst h
    exact ⟨rfl, fun i x hi => by simp at hi⟩
  | a :: l, r, h => by
    rw [List.mapM_cons] at h
    simp only [Option.pure_def, Option.bind_eq_bind, Option.bind_eq_some_iff, Option.some.injEq] at h
    obtain ⟨y, h1, ys, h2, rfl⟩ := h
    obtain ⟨h3, h4⟩ := mapM_at h2
    refine ⟨by simp [h3], fun i x hi => ?_⟩
    cases i with
    | zero => simp at hi; subst hi; exact ⟨y, rfl, h1⟩
    | succ i => simpa using h4 i x (by simpa using hi)
theorem cells?_get {w : World} {base : Nat} {a : Addr} {n : Nat} {cs : List Value} (h : w.cells? base a n = some cs) : cs.length = n ∧ ∀ i, i < n → w.cell? (a.add i) = cs[i]? := by
  unfold World.cells? at h
  split at h
  · obtain ⟨h1, h2⟩ := mapM_at h
    refine ⟨by simpa using h1, fun i hi => ?_⟩
    obtain ⟨y, h3, h4⟩ := h2 i i (by simp [hi])
    rw [h3]; exact h4
  · cases h
theorem TOK.cellsOf (hT : TOK P T N) {t : Nat} (ht : t < N) : P.cellsOf t = (T t).size := by
  obtain ⟨i, h1, h2, _⟩ := hT.info t ht
  simp [Program.cellsOf, h1, h2]
/-- A row of what is read so. -/
def rowL {α : Type} (e : Nat) (enc : α → AV) (d : α) (f : Bool) (l : List α) : AV := .row e f l.length (fun i => enc (l.getD i d))
/-- A slice among the arguments. -/
theorem dec_slice (hT : TOK P T N) {t e : Nat} {α : Type} {enc : α → AV} {Q : α → Prop} (d0 : α) (hu : P.underlying t = some (.slice e)) (he : e < N) (hd : Dec P T N e enc Q) {H : Type} {eh : TypeId × Value → H} {w : World} {fuel base : Nat} {v : Value} {d : DataW H} {ps : List MemPlace}
    (hr : DataW.trod eh P w 0 (fun _ => true) true fuel t v.cells.toList = some (d, ps)) (hok : Value.okWide P w .any base t v) : ∃ l : List α, (∀ a ∈ l, Q a) ∧ RepV T N (memI w) noPl (rowL e enc d0 false l) v := by
  have hc : Cell.okWide P w .any base t v := by
    unfold Value.okWide at hok
    rw [hu] at hok
    exact hok
  unfold Cell.okWide Cell.ok at hc
  rw [hu] at hc
  cases fuel with
  | zero => simp [DataW.trod] at hr
  | succ fuel =>
  cases v <;> simp only at hc <;> try exact absurd hc id
  rename_i a len cap
  cases a with
  | none =>
    have h0 : len = 0 ∧ cap = 0 := by
      cases len <;> cases cap <;> simp_all
    obtain ⟨rfl, rfl⟩ := h0
    exact ⟨[], fun a ha => by simp at ha, .one ⟨[_], .row0 he, rfl⟩⟩
  | some a =>
    have hhas : len ≤ cap ∧ (cap : Int) ≤ IntKind.i64.max ∧ w.has P .any base a e cap := by
      simpa using hc
    obtain ⟨h1, h2, h3⟩ := hhas
    have hspot := h3.2.1
    obtain ⟨b, off, spot⟩ := a
    simp only at hspot
    subst hspot
    have hcap : cap < 2 ^ 63 := by
      have : IntKind.i64.max = 9223372036854775807 := rfl
      omega
    unfold DataW.trod at hr
    rw [hu] at hr
    simp only [Value.cells, List.toList_toArray, Option.ite_none_right_eq_some, if_true, Option.bind_eq_some_iff, Option.map_eq_some_iff] at hr
    obtain ⟨_, elems, hel, _⟩ := hr
    obtain ⟨hlen, hat⟩ := mapM_at hel
    have hsz := hT.cellsOf he
    have hpos := hT.size_pos he
    have hex : ∀ i, ∃ (a : α) (seg : List Value), i < len → Q a ∧ Rep T N (memI w) noPl (enc a) seg ∧ fit T e (enc a) = true ∧ seg.length = (T e).size ∧ ∀ o, o < (T e).size → memI w b (off + (i * (T e).size + o)) = seg[o]? := by
      intro i
      by_cases hi : i < len
      · obtain ⟨y, h5, h6⟩ := hat i i (by simp [hi])
        simp only [Option.bind_eq_some_iff] at h6
        obtain ⟨seg, h7, h8⟩ := h6
        obtain ⟨a, q1, q2, q3⟩ := hd H eh w fuel seg y.1 y.2 h8
        obtain ⟨c1, c2⟩ := cells?_get h7
        rw [hsz] at c1 c2
        refine ⟨a, seg, fun _ => ⟨q1, q2, q3, c1, fun o ho => ?_⟩⟩
        rw [← c2 o ho]
        simp only [memI, add_none, Nat.add_assoc]
      · exact ⟨d0, [], fun h => absurd h hi⟩
    have hch := fun i => Classical.choose_spec (Classical.choose_spec (hex i))
    generalize hA : (fun i => Classical.choose (hex i)) = A at hch
    have hA' : ∀ i, Classical.choose (hex i) = A i := fun i => congrFun hA i
    refine ⟨(List.range len).map A, fun a ha => ?_, .one ⟨[_], ?_, rfl⟩⟩
    · simp only [List.mem_map, List.mem_range] at ha
      obtain ⟨i, hi, rfl⟩ := ha
      have := (hch i hi).1
      rwa [hA'] at this
    · have hg : ∀ i, i < len → ((List.range len).map A).getD i d0 = A i := fun i hi => by simp [hi]
      have := Rep.row (T := T) (N := N) (I := memI w) (ρ := noPl) (e := e) (full := false) (len := ((List.range len).map A).length) (get := fun i => enc (((List.range len).map A).getD i d0)) b off cap (fun i => Classical.choose (Classical.choose_spec (hex i))) he (by simpa using h1) hcap (fun h => by cases h)
        (fun i hi => by have hi' : i < len := by simpa using hi
                        rw [hg i hi', ← hA']; exact (hch i hi').2.1)
        (fun i hi => by have hi' : i < len := by simpa using hi
                        rw [hg i hi', ← hA']; exact (hch i hi').2.2.1)
        (fun i hi => (hch i (by simpa using hi)).2.2.2.1)
        (fun i hi o ho => (hch i (by simpa using hi)).2.2.2.2 o ho)
      simpa [rowL] using this
/-- .. of each field. -/
def DecL (P : Program) (T : Nat → TI) (N : Nat) (fs : List Nat) {β : Type} (encL : β → List AV) (Q : β → Prop) : Prop :=
  ∀ (H : Type) (eh : TypeId × Value → H) (w : World) (fuel : Nat) (cs : Nat → List Value), (∀ (i u : Nat), fs[i]? = some u → ∃ y : DataW H × List MemPlace, DataW.trod eh P w 0 (fun _ => true) true fuel u (cs i) = some y) →
    ∃ b, Q b ∧ (encL b).length = fs.length ∧ ∀ (i u : Nat), fs[i]? = some u → Rep T N (memI w) noPl ((encL b).getD i .bad) (cs i) ∧ fit T u ((encL b).getD i .bad) = true
theorem DecL.nil : DecL P T N [] (fun _ : Unit => []) (fun _ => True) := fun H eh w fuel cs h => ⟨(), trivial, rfl, fun i u hi => by simp at hi⟩
theorem DecL.cons {t : Nat} {fs : List Nat} {α β : Type} {enc : α → AV} {encL : β → List AV} {Q : α → Prop} {R : β → Prop} (hd : Dec P T N t enc Q) (hl : DecL P T N fs encL R) : DecL P T N (t :: fs) (fun x : α × β => enc x.1 :: encL x.2) (fun x => Q x.1 ∧ R x.2) := by
  intro H eh w fuel cs h
  obtain ⟨y, hy⟩ := h 0 t rfl
  obtain ⟨a, q1, q2, q3⟩ := hd H eh w fuel (cs 0) y.1 y.2 hy
  obtain ⟨b, r1, r2, r3⟩ := hl H eh w fuel (fun i => cs (i + 1)) (fun i u hi => h (i + 1) u (by simpa using hi))
  refine ⟨(a, b), ⟨q1, r1⟩, by simp [r2], fun i u hi => ?_⟩
  cases i with
  | zero => simp at hi; subst hi; exact ⟨q2, q3⟩
  | succ i => simpa using r3 i u (by simpa using hi)
theorem Dec.struct (hT : TOK P T N) {t : Nat} {fs : List Nat} {β : Type} {encL : β → List AV} {Q : β → Prop} (hk : (T t).kind = .struct fs) (hl : DecL P T N fs encL Q) : Dec P T N t (fun b => stru t (encL b)) Q := by
  intro H eh w fuel cs d ps hr
  have htN := hT.lt (t := t) (by rw [hk]; simp)
  obtain ⟨dd, hd1, hd2, hd3⟩ := hT.und t htN
  rw [hk] at hd2
  cases dd <;> simp only [kindOf, reduceCtorEq, TK.struct.injEq] at hd2
  rename_i flds
  cases fuel with
  | zero => simp [DataW.trod] at hr
  | succ fuel =>
    unfold DataW.trod at hr
    rw [hd1] at hr
    simp only [Option.ite_none_right_eq_some, Option.map_eq_some_iff] at hr
    obtain ⟨hlen, xs, hxs, _⟩ := hr
    obtain ⟨_, hat⟩ := mapM_at hxs
    have hS := hT.struct t fs hk
    have hszt := hT.cellsOf htN
    have hfl : ∀ (i u : Nat), fs[i]? = some u → ∃ f, flds[i]? = some f ∧ f.type = u ∧ f.offset = foff T fs i := by
      intro i u hu
      have hu' := hu
      rw [← hd2] at hu
      simp only [List.getElem?_map, Option.map_eq_some_iff, Array.getElem?_toList] at hu
      obtain ⟨f, h1, h2⟩ := hu
      refine ⟨f, h1, h2, ?_⟩
      rw [← hd2]
      exact (hd3 flds rfl i f h1).1
    have hex : ∀ (i u : Nat), fs[i]? = some u → ∃ y : DataW H × List MemPlace, DataW.trod eh P w 0 (fun _ => true) true fuel u ((cs.drop (foff T fs i)).take ((fs.getD i 0 |> T).size)) = some y := by
      intro i u hu
      obtain ⟨f, h1, h2, h3⟩ := hfl i u hu
      obtain ⟨y, _, h4⟩ := hat i f (by simpa using h1)
      refine ⟨y, ?_⟩
      rw [h2, h3, hT.cellsOf (hS.1 u (List.mem_of_getElem? hu))] at h4
      rw [show fs.getD i 0 = u by simp [hu]]
      exact h4
    obtain ⟨b, q1, q2, q3⟩ := hl H eh w fuel (fun i => (cs.drop (foff T fs i)).take ((fs.getD i 0 |> T).size)) hex
    refine ⟨b, q1, ?_, by simp [fit, stru, hk, TK.isAgg]⟩
    have hcl : cs.length = foff T fs fs.length := by rw [hlen, hszt, hS.2]
    have hmono : ∀ k, k < fs.length → foff T fs (k + 1) = foff T fs k + (T (fs.getD k 0)).size := fun k hk' => by
      simp only [foff, offs]
      simp [hk']
    have hup : ∀ j k, k + j = fs.length → foff T fs k ≤ cs.length := by
      intro j
      induction j with
      | zero => intro k hkj; rw [hcl, ← hkj]; exact Nat.le_refl _
      | succ j ih =>
        intro k hkj
        have h1 := ih (k + 1) (by omega)
        rw [hmono k (by omega)] at h1
        omega
    have hle : ∀ k, k ≤ fs.length → foff T fs k ≤ cs.length ∧ (List.range k).flatMap (fun i => (cs.drop (foff T fs i)).take ((fs.getD i 0 |> T).size)) = cs.take (foff T fs k) := by
      intro k
      induction k with
      | zero => intro _; exact ⟨hup fs.length 0 (by omega), by simp [foff, offs]⟩
      | succ k ih =>
        intro hk'
        have h1 := ih (by omega)
        refine ⟨hup (fs.length - (k + 1)) (k + 1) (by omega), ?_⟩
        rw [List.range_succ, List.flatMap_append, h1.2, hmono k (by omega), List.take_add]
        simp
    have hflat := (hle fs.length (Nat.le_refl _)).2
    rw [← hcl, List.take_length] at hflat
    have := Rep.struct (T := T) (N := N) (I := memI w) (ρ := noPl) (t := t) (n := fs.length) (get := fun i => (encL b).getD i .bad) fs (fun i => (cs.drop (foff T fs i)).take ((fs.getD i 0 |> T).size)) hk rfl htN (fun i u hu => (q3 i u hu).1) (fun i u hu => (q3 i u hu).2) (fun i u hu => by
      have hi := (List.getElem?_eq_some_iff.1 hu).1
      have h1 := (hle (i + 1) (by omega)).1
      rw [hmono i hi] at h1
      rw [List.length_take, List.length_drop, show fs.getD i 0 = u by simp [hu]] at *
      omega)
    rw [hflat] at this
    simpa [stru, q2] using this
end
end Go.Ab

/- Ab, part 36: a law's row: what the call leaves. -/
set_option autoImplicit false
set_option linter.unusedVariables false
namespace Go.Ab
open Go.ChangeShapes Go.WideShapes Go.ChangeAt Go.RowKit
section
variable {P : Program} {T : Nat → TI} {N : Nat} {H : Type} {enc : TypeId × Value → H}
theorem trodAll_below (hl : laidOutB P = true) {W W' : World} (hb : Below W.heap.size W W') : ∀ {ts : List TypeId} {vs : List Value} {ds : List (DataW H)} {ps : List MemPlace}, (ts.all fun t => P.readableRec t && decide (t < P.types.size)) = true → DataW.TrodAll enc P W 0 (fun _ => true) true ts vs ds ps → (∀ y ∈ ps, y.block < W.heap.size) →
    DataW.TrodAll enc P W' 0 (fun b => decide (b < W.heap.size)) true ts vs ds ps
  | [], [], [], ps, _, h, _ => h
  | [], _ :: _, _, _, _, h, _ => h.elim
  | [], [], _ :: _, _, _, h, _ => h.elim
  | _ :: _, [], _, _, _, h, _ => h.elim
  | _ :: _, _ :: _, [], _, _, h, _ => h.elim
  | t :: ts, v :: vs, d :: ds, ps, ht, h, hlt => by
    obtain ⟨p, q, h1, h2, rfl⟩ := h
    simp only [List.all_cons, Bool.and_eq_true, decide_eq_true_eq] at ht
    exact ⟨p, q, Below.trod hl ht.1.1 ht.1.2 h1 hb (fun y hy => hlt y (List.mem_append_left _ hy)), trodAll_below hl hb ht.2 h2 (fun y hy => hlt y (List.mem_append_right _ hy)), rfl⟩
theorem trodAll_len {W : World} {base : Nat} {sp : Nat → Bool} {held : Bool} : ∀ {ts : List TypeId} {vs : List Value} {ds : List (DataW H)} {ps : List MemPlace}, DataW.TrodAll enc P W base sp held ts vs ds ps → vs.length = ts.length ∧ ds.length = ts.length
  | [], [], [], ps, h => ⟨rfl, rfl⟩
  | [], _ :: _, _, _, h => h.elim
  | [], [], _ :: _, _, h => h.elim
  | _ :: _, [], _, _, h => h.elim
  | _ :: _, _ :: _, [], _, h => h.elim
  | t :: ts, v :: vs, d :: ds, ps, h => by
    obtain ⟨p, q, h1, h2, rfl⟩ := h
    have := trodAll_len h2
    simp [this.1, this.2]
/-- A law that is true at what its arguments are read as. -/
theorem law_calls (hl : laidOutB P = true) {f : FuncId} {fn : Func} {tb : TypeId} {s : ChangeSpec} {W : World} {args : Array Value} {ds gs : List (DataW H)} {before : List MemPlace}
    (hrow : (fn.params.toList.all fun t => P.readableRec t && decide (t < P.types.size)) = true) (hres : fn.resultTypes.toList = [tb]) (hb : P.underlying tb = some .bool) (hvars : s.vars = [])
    (hspec : ∀ ds : List (DataW H), ds.length = fn.params.toList.length → s.fn H ds = { results := [.lit (.bool true)], args := ds })
    (hW : DataW.Whole enc P fn.params.toList s.vars false W args.toList ds gs before) {avs : List AV} (hac : AC P T N f avs [] (.bool true) []) (hlen : avs.length = args.toList.length)
    (hrep : ∀ (i : Nat) (a : AV) (v : Value), avs[i]? = some a → args.toList[i]? = some v → RepV T N (memI W) noPl a v) :
    Calls P f args W fun e W' => ∃ v, e = .returned v ∧ s.post enc P fn false true false false W args v W' := by
  have hcall := hac.2 (memI W) noPl W args.toList hlen.symm (fun i a v h1 h2 => hrep i a v h1 h2) (wrep_none (fun b o y h => h))
  rw [Array.toArray_toList] at hcall
  refine hcall.mono ?_
  rintro e W' ⟨v, I', ρ', rfl, hev, hv, _⟩
  have hbelow : Below W.heap.size W W' := ⟨hev.os, hev.tape, hev.output, hev.size, fun k hk => hev.frame k hk (fun id p hp => by simp [noPl] at hp)⟩
  have hW' := hW
  obtain ⟨p, q, hA, hV, rfl, _, _⟩ := hW
  rw [hvars] at hV
  obtain ⟨rfl, rfl⟩ := trodVars_none hV
  have hlt : ∀ y ∈ p, y.block < W.heap.size := fun y hy => hW'.lt y (List.mem_append_left _ hy)
  have hA' := trodAll_below hl hbelow hrow hA hlt
  obtain ⟨rfl, _⟩ := (hv.rep1 (fun _ => by simp)).v
  have hsz : fn.resultTypes.size = 1 := by
    have := congrArg List.length hres
    simpa using this
  refine ⟨_, rfl, ds, [], p ++ [], [], p, [], hW', ?_, ?_, ?_, hbelow.frame _, fun h => by cases h⟩
  · rw [List.append_nil, hspec ds (trodAll_len hA).2, hres, hsz]
    exact trodAll_mk1 (shut_bool hb true)
  · rw [List.append_nil, hspec ds (trodAll_len hA).2]
    exact hA'
  · rw [List.append_nil, hspec ds (trodAll_len hA).2, hvars]
    rfl
end
end Go.Ab

/- What a history reads as; the program's facts for rows. -/
set_option autoImplicit false
set_option maxRecDepth 20000
set_option linter.unusedVariables false
namespace Go.Ab
open Go.Proofs Go.ChangeShapes Go.WideShapes Go.ChangeAt Go.RowKit
theorem tryOwn : ownKnob Try.prog.godebug = none := by kernel_rfl
theorem tryLaid : laidOutB Try.prog = true := by kernel_rfl
theorem u2 : Try.prog.underlying 2 = some (.int .i64) := by kernel_rfl
theorem u3 : Try.prog.underlying 3 = some (.int .i64) := by kernel_rfl
theorem u4 : Try.prog.underlying 4 = some .bool := by kernel_rfl
theorem u22 : Try.prog.underlying 22 = some (.slice 30) := by kernel_rfl
theorem u23 : Try.prog.underlying 23 = some (.slice 3) := by kernel_rfl
theorem decI3 : Dec Try.prog T tysN 3 (fun n : Int => .int n) (fun n => IntKind.i64.min ≤ n ∧ n ≤ IntKind.i64.max) := Dec.int u3 rfl
theorem decI2 : Dec Try.prog T tysN 2 (fun n : Int => .int n) (fun n => IntKind.i64.min ≤ n ∧ n ≤ IntKind.i64.max) := Dec.int u2 rfl
theorem decB4 : Dec Try.prog T tysN 4 (fun b : Bool => .bool b) (fun _ => True) := Dec.bool u4 rfl
theorem decCal : Dec Try.prog T tysN 30 encCal (fun _ => True) :=
  (Dec.struct (t := 30) hT (show (T 30).kind = .struct [3, 3, 2, 2, 4, 3, 3] from rfl) (DecL.cons decI3 (DecL.cons decI3 (DecL.cons decI2 (DecL.cons decI2 (DecL.cons decB4 (DecL.cons decI3 (DecL.cons decI3 DecL.nil)))))))).map (fun x => ⟨x.1, x.2.1, x.2.2.1, x.2.2.2.1, x.2.2.2.2.1, x.2.2.2.2.2.1, x.2.2.2.2.2.2.1⟩) (fun _ => rfl) (fun _ _ => trivial)
theorem arg_int {H : Type} {eh : TypeId × Value → H} {W : World} {base : Nat} {v : Value} {d : DataW H} {p : List MemPlace} (h : DataW.Trod eh Try.prog W 0 (fun _ => true) true 3 v d p) (hok : Value.okWide Try.prog W .any base 3 v) : ∃ n : Int, (IntKind.i64.min ≤ n ∧ n ≤ IntKind.i64.max) ∧ RepV T tysN (memI W) noPl (.int n) v := by
  obtain ⟨n, rfl, rfl, rfl, wn⟩ := open_int u3 hok h
  simp only [Lit.wf, Bool.and_eq_true, decide_eq_true_eq] at wn
  exact ⟨n, wn, .one ⟨[_], .v rfl, rfl⟩⟩
theorem arg_cals {H : Type} {eh : TypeId × Value → H} {W : World} {base : Nat} {v : Value} {d : DataW H} {p : List MemPlace} (h : DataW.Trod eh Try.prog W 0 (fun _ => true) true 22 v d p) (hok : Value.okWide Try.prog W .any base 22 v) : ∃ l : List Cal, RepV T tysN (memI W) noPl (cals false l) v := by
  obtain ⟨fuel, h⟩ := h
  obtain ⟨l, _, hl⟩ := dec_slice hT cal0 u22 (Nat.le_of_ble_eq_true rfl) decCal h hok
  exact ⟨l, hl⟩
/-- Arguments by their places. -/
theorem reps3 {W : World} {a b c : AV} {v0 v1 v2 : Value} (h0 : RepV T tysN (memI W) noPl a v0) (h1 : RepV T tysN (memI W) noPl b v1) (h2 : RepV T tysN (memI W) noPl c v2) :
    ∀ (i : Nat) (x : AV) (v : Value), [a, b, c][i]? = some x → (#[v0, v1, v2] : Array Value).toList[i]? = some v → RepV T tysN (memI W) noPl x v := by
  intro i x v hx hv
  match i with
  | 0 => simp at hx hv; subst hx hv; exact h0
  | 1 => simp at hx hv; subst hx hv; exact h1
  | 2 => simp at hx hv; subst hx hv; exact h2
  | i + 3 => simp at hx
theorem reps2 {W : World} {a b : AV} {v0 v1 : Value} (h0 : RepV T tysN (memI W) noPl a v0) (h1 : RepV T tysN (memI W) noPl b v1) :
    ∀ (i : Nat) (x : AV) (v : Value), [a, b][i]? = some x → (#[v0, v1] : Array Value).toList[i]? = some v → RepV T tysN (memI W) noPl x v := by
  intro i x v hx hv
  match i with
  | 0 => simp at hx hv; subst hx hv; exact h0
  | 1 => simp at hx hv; subst hx hv; exact h1
  | i + 2 => simp at hx
end Go.Ab

/- LinearFits: the row. -/
set_option autoImplicit false
set_option maxRecDepth 20000
set_option linter.unusedVariables false
namespace Go.Ab
open Go.Proofs Go.ChangeShapes Go.WideShapes Go.ChangeAt Go.RowKit
theorem arg_ints {H : Type} {eh : TypeId × Value → H} {W : World} {base : Nat} {v : Value} {d : DataW H} {p : List MemPlace} (h : DataW.Trod eh Try.prog W 0 (fun _ => true) true 23 v d p) (hok : Value.okWide Try.prog W .any base 23 v) : ∃ l : List Int, RepV T tysN (memI W) noPl (ints false l) v := by
  obtain ⟨fuel, h⟩ := h
  obtain ⟨l, _, hl⟩ := dec_slice hT (0 : Int) u23 (Nat.le_of_ble_eq_true rfl) decI3 h hok
  exact ⟨l, hl⟩
end Go.Ab
namespace Go.Proofs.Ytaanljgonmhdiaa
open Go.Ab Go.ChangeShapes Go.WideShapes Go.ChangeAt Go.RowKit
set_option maxRecDepth 100000 in
theorem linearFits_lifted (os : Os) (started : os.Started) (H : Type) (enc : TypeId × Value → H) :
    ReturnsInHanded {} Try.checked os 7 .any (Rows.linearFitsSpec.pre6 enc Try.prog Try.f7 Rows.linearFitsRow.domain false) (Rows.linearFitsSpec.post enc Try.prog Try.f7 false true false false) := by
  refine returnsInHanded_of_change_sized (C := Try.checked) tryOwn started (by kernel_rfl) Try.func7
    (ChangeSpec.witness6 (enc := enc) (C := Try.checked) false ⟨#[], #[.int .i64 0, .slice none 0 0, .slice none 0 0], []⟩ 8 (by kernel_rfl) (by kernel_rfl) (by kernel_rfl) (by kernel_rfl)) ?_
  intro W base args ds gs before hval0 hW _ _ _
  have hval : ∀ (j : Nat) t v, Try.f7.params[j]? = some t → args[j]? = some v → Value.okWide Try.prog W .any base t v := hval0
  have hW' : DataW.Whole enc Try.prog Try.f7.params.toList Rows.linearFitsSpec.vars false W args.toList ds gs before := hW
  obtain ⟨p, q, hA0, hV, _, _, _⟩ := hW
  have hA : DataW.TrodAll enc Try.prog W 0 (fun _ => true) true Try.f7.params.toList args.toList ds p := hA0
  rw [Try.params7] at hA hval
  obtain ⟨v0, v1, v2, d0, d1, d2, p0, p1, p2, rfl, rfl, rfl, h0, h1, h2⟩ := trodAll_three hA
  obtain ⟨k, _, r0⟩ := arg_int h0 (hval 0 3 v0 rfl rfl)
  obtain ⟨h, r1⟩ := arg_cals h1 (hval 1 22 v1 rfl rfl)
  obtain ⟨o, r2⟩ := arg_ints h2 (hval 2 23 v2 rfl rfl)
  exact law_calls (tb := 4) tryLaid (by kernel_rfl) (by rfl) u4 rfl (fun ds hd => by match ds, hd with | [x, y, z], _ => rfl) hW' (lfits_ac k false h false o) rfl (reps3 r0 r1 r2)
theorem linearFits_holds : Rows.LinearFitsSaid :=
  OpenClaim.holds_of_wide 7 Try.f7 rfl rfl rfl rfl rfl rfl rfl ⟨rfl, rfl, rfl, rfl, rfl⟩ rfl rfl rfl rfl rfl (by kernel_rfl) Try.func7 (by kernel_rfl)
    (of_decide_eq_true (by kernel_rfl)) (by unfold Func.isWrapper; first | (rw [if_pos (by decide +kernel)]; kernel_rfl) | (rw [if_neg (by decide +kernel)]; exact ⟨rfl, rfl⟩))
    (fun os started H enc _ => linearFits_lifted os started H enc)
end Go.Proofs.Ytaanljgonmhdiaa
