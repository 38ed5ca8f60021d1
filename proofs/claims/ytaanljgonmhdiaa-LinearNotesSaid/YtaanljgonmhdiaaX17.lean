/- Part 18 of a proof of a statement about the given program: an abstract machine over the model, proved sound, and contracts of the functions that the statement reaches; the last part proves the statement, for every input, with no condition. -/
import Derived.Test.YtaanljgonmhdiaaX16
import Derived.Test.YtaanljgonmhdiaaX15
import Derived.ProofKit
import Derived.SizedLaws
import Derived.Lib.RowBridge
import Derived.Test.YtaanljgonmhdiaaRows
set_option linter.unusedSimpArgs false
set_option linter.unusedVariables false
/- The reference's search: two things the same; the search itself. -/
set_option autoImplicit false
set_option maxRecDepth 20000
set_option linter.unusedSimpArgs false
set_option linter.unusedVariables false
namespace Go.Ab
open Go.Proofs
theorem doref_ac (k : Int) (x : Th) (c : Cal) (hlen : x.l.length < 1000) : AC Try.prog T tysN 41 [.int k, encT x, encCal c] [] (encDo (doR k x c)) [] := by
  by_cases h4 : c.act = 4
  · by_cases hl : x.l = []
    · exact do2_ac k x c h4 hl
    · exact do3_ac k x c h4 (List.length_pos_iff.2 hl) hlen
  · by_cases hl : x.l = [] ∨ c.act = 1 ∨ c.act = 2 ∨ c.act = 3
    · exact do1_ac k x c h4 hl
    · have h0 : x.l ≠ [] := fun e => hl (.inl e)
      have h1 : c.act ≠ 1 := fun e => hl (.inr (.inl e))
      have h2 : c.act ≠ 2 := fun e => hl (.inr (.inr (.inl e)))
      have h3 : c.act ≠ 3 := fun e => hl (.inr (.inr (.inr e)))
      have hp := List.length_pos_iff.2 h0
      by_cases e1 : x.l.length = 1
      · exact do4_ac k x c h1 h2 h3 h4 e1 hlen
      · by_cases hk : k = 4
        · exact do6_ac k hk x c h1 h2 h3 h4 (by omega) hlen
        · exact do5_ac k hk x c h1 h2 h3 h4 (by omega) hlen
theorem th_ext {a b : Th} (h1 : a.n = b.n) (h2 : a.l.length = b.l.length) (h3 : ∀ q, q < a.l.length → a.l.getD q 0 = b.l.getD q 0) : a = b := by
  obtain ⟨n, l⟩ := a
  obtain ⟨n', l'⟩ := b
  simp only at h1 h2 h3
  subst h1
  congr 1
  refine List.ext_getElem h2 (fun q h4 h5 => ?_)
  have := h3 q h4
  simpa [List.getD_eq_getElem?_getD, h4, h5] using this
theorem same_ac (a b : Th) (hlen : b.l.length < 1000) : AC Try.prog T tysN 54 [encT a, encT b] [] (.bool (decide (a = b))) [] := by
  refine AC_intro hT Try.func54 rfl rfl (Nat.le_of_ble_eq_true rfl) ?_
  refine WP.seq ?_
  refine WP.reg hT hE [] rfl ?_ ?_
  · first | trivial | (simp [holdsC, under, slOk, slB, capEq] <;> grind)
  refine WP.seq ?_
  refine WP.seq ?_
  refine WP.reg hT hE [] rfl ?_ ?_
  · first | trivial | (simp [holdsC, under, slOk, slB, capEq] <;> grind)
  refine WP.cond rfl (fun h1 => ?_) (fun h1 => ?_)
  · refine WP.seq ?_
    refine WP.reg hT hE [] rfl ?_ ?_
    · first | trivial | (simp [holdsC, under, slOk, slB, capEq] <;> grind)
    refine WP.ret ?_
    change Fin _ _ _ _ _ _ _ _
    refine fin1 hT (by rfl) (Eq.symm (decide_eq_false ?_))
    rintro rfl
    simp [bor] at h1
  · have h1n : a.n = b.n := by simp [bor] at h1; exact h1.1
    have h1l : a.l.length = b.l.length := by simp [bor] at h1; omega
    refine WP.skip ?_
    refine WP.seq ?_
    refine WP.seq ?_
    refine WP.reg hT hE [] rfl ?_ ?_
    · first | trivial | (simp [holdsC, under, slOk, slB, capEq] <;> grind)
    refine WP.block ?_
    refine WP.loop (α := Nat) (fun j => mkSt [(2, .rp 74 (encT a)), (3, .rp 74 (encT b)), (5, .int j)] []) (fun j => j ≤ a.l.length ∧ ∀ q, q < j → a.l.getD q 0 = b.l.getD q 0) (fun j => a.l.length - j) ?_ ?_
    · refine ⟨0, ?_, ?_⟩
      · exact ⟨Nat.zero_le _, fun q hq => by omega⟩
      · refine Ent.mk hT [(.s 2 0, 1), (.s 3 0, 1)] ⟨⟨_, rfl, Nat.le_refl _⟩, ⟨_, rfl, Nat.le_refl _⟩, trivial⟩ ⟨⟨rfl, _, rfl, conv_rpe rfl rfl (Nat.lt_succ_self 0) rfl rfl rfl⟩, ⟨rfl, _, rfl, conv_rpe rfl rfl (Nat.lt_succ_self 0) rfl rfl rfl⟩, ⟨rfl, _, rfl, by first | exact conv_eq rfl | (refine conv_eq ?_; rw [wrap_id (by omega) (by omega)]; simp; done) | (refine conv_eq ?_; simp; done)⟩, trivial⟩ trivial rfl
    · rintro j ⟨hj, hq⟩
      refine WP.seq ?_
      refine WP.seq ?_
      refine WP.reg hT hE [] rfl ?_ ?_
      · first | trivial | (simp [holdsC, under, slOk, slB, capEq] <;> grind)
      refine WP.cond rfl (fun h4 => ?_) (fun h4 => ?_)
      · have hjl : j < a.l.length := by simpa using h4
        refine WP.skip ?_
        refine WP.seq ?_
        refine WP.block ?_
        refine WP.seq ?_
        refine WP.drw hT hE hM [] rfl ?_ ?_
        · simp [holdsC, under]; omega
        refine WP.cond rfl (fun h6 => ?_) (fun h6 => ?_)
        · refine WP.seq ?_
          refine WP.reg hT hE [] rfl ?_ ?_
          · first | trivial | (simp [holdsC, under, slOk, slB, capEq] <;> grind)
          refine WP.ret ?_
          change Fin _ _ _ _ _ _ _ _
          refine fin1 hT (by rfl) (Eq.symm (decide_eq_false ?_))
          rintro rfl
          simp at h6
        · refine WP.skip ?_
          refine WP.reg hT hE [] rfl ?_ ?_
          · first | trivial | (simp [holdsC, under, slOk, slB, capEq] <;> grind)
          refine ⟨j + 1, ?_, ?_, ?_⟩
          · refine ⟨hjl, fun q hq' => ?_⟩
            rcases Nat.lt_or_ge q j with h3 | h3
            · exact hq q h3
            · obtain rfl : q = j := by omega
              simpa using h6
          · refine Ent.mk hT [] trivial ⟨⟨rfl, _, rfl, by first | exact conv_eq rfl | (refine conv_eq ?_; rw [wrap_id (by omega) (by omega)]; simp; done) | (refine conv_eq ?_; simp; done)⟩, ⟨rfl, _, rfl, by first | exact conv_eq rfl | (refine conv_eq ?_; rw [wrap_id (by omega) (by omega)]; simp; done) | (refine conv_eq ?_; simp; done)⟩, ⟨rfl, _, rfl, by first | exact conv_eq rfl | (refine conv_eq ?_; rw [wrap_id (by omega) (by omega)]; simp; done) | (refine conv_eq ?_; simp; done)⟩, trivial⟩ trivial rfl
          · (try simp only []); first | omega | grind
      · have hjl : j = a.l.length := by simp at h4; omega
        subst hjl
        refine WP.exit ?_
        refine WP.seq ?_
        refine WP.reg hT hE [] rfl ?_ ?_
        · first | trivial | (simp [holdsC, under, slOk, slB, capEq] <;> grind)
        refine WP.ret ?_
        change Fin _ _ _ _ _ _ _ _
        exact fin1 hT (by rfl) (Eq.symm (decide_eq_true (th_ext h1n h1l hq)))
end Go.Ab


/- The reference's search, walked. -/
set_option autoImplicit false
set_option maxRecDepth 20000
set_option linter.unusedSimpArgs false
set_option linter.unusedVariables false
namespace Go.Ab
open Go.Proofs
abbrev TD := List (Nat × Th)
abbrev RR := (List Int × Bool) × TD
def encS (p : Nat × Th) : AV := stru 113 [.int p.1, encT p.2]
def s0 : Nat × Th := (0, ⟨0, []⟩)
abbrev triedO (d : TD) : Ob := cellsL 113 encS s0 d
def seaV (k : Int) (g : Bool) (h : List Cal) (tm : Bool) (L : Nat) : AV := stru 71 [.int k, cals g h, .bool tm, .own (.b 1) L 0 L none]
def seaOb (k : Int) (g : Bool) (h : List Cal) (tm : Bool) (L : Nat) : Ob := .cells ⟨71, 1, fun _ => seaV k g h tm L, 0⟩
def tryR (k : Int) (tm : Bool) (h : List Cal) (rec : TD → Nat → Th → RR) (m : Nat) (x : Th) : List Nat → TD → Option (List Int) × TD
  | [], d => (none, d)
  | i :: r, d => if mayR tm h m i then (if (doR k x (calAt h i)).2 then (if (rec d (m ||| 1 <<< i) (doR k x (calAt h i)).1).1.2 then (some ((i : Int) :: (rec d (m ||| 1 <<< i) (doR k x (calAt h i)).1).1.1), (rec d (m ||| 1 <<< i) (doR k x (calAt h i)).1).2) else tryR k tm h rec m x r (rec d (m ||| 1 <<< i) (doR k x (calAt h i)).1).2) else tryR k tm h rec m x r d) else tryR k tm h rec m x r d
def inT (d : TD) (m : Nat) (x : Th) : Bool := d.any fun p => p.1 == m && decide (p.2 = x)
def onR (k : Int) (tm : Bool) (h : List Cal) : Nat → TD → Nat → Th → RR
  | 0, d, _, _ => (([], false), d)
  | n + 1, d, m, x => if wholeB h m then (([], true), d) else if inT d m x then (([], false), d) else
    match tryR k tm h (onR k tm h n) m x (List.range' 0 h.length) d with
    | (some l, d') => ((l, true), d')
    | (none, d') => (([], false), d' ++ [(m, x)])
def capR : Nat → Nat
  | 0 => 0
  | n + 1 => 8 * capR n + 1
def RecOK (h : List Cal) (C : Nat) (rec : TD → Nat → Th → RR) : Prop := ∀ d m x, (rec d m x).2.length ≤ d.length + C ∧ (rec d m x).1.1.length ≤ 8
theorem try_len {k : Int} {tm : Bool} {h : List Cal} {C : Nat} {rec : TD → Nat → Th → RR} (hr : ∀ d m x, (rec d m x).2.length ≤ d.length + C) {m : Nat} {x : Th} : ∀ (l : List Nat) (d : TD), (tryR k tm h rec m x l d).2.length ≤ d.length + l.length * C
  | [], d => by simp [tryR]
  | i :: r, d => by
    have e : (i :: r).length * C = r.length * C + C := by simp [Nat.succ_mul]
    rw [e]
    have h1 := try_len (k := k) (tm := tm) (h := h) hr (m := m) (x := x) r d
    simp only [tryR]
    split
    · split
      · have h3 := hr d (m ||| 1 <<< i) (doR k x (calAt h i)).1
        split
        · simp only; omega
        · have h2 := try_len (k := k) (tm := tm) (h := h) hr (m := m) (x := x) r (rec d (m ||| 1 <<< i) (doR k x (calAt h i)).1).2
          omega
      · omega
    · omega
theorem onR_len {k : Int} {tm : Bool} {h : List Cal} (hl : h.length ≤ 8) : ∀ (n : Nat) (d : TD) (m : Nat) (x : Th), (onR k tm h n d m x).2.length ≤ d.length + capR n
  | 0, d, m, x => by simp [onR, capR]
  | n + 1, d, m, x => by
    have h1 := try_len (k := k) (tm := tm) (h := h) (onR_len (k := k) (tm := tm) hl n) (m := m) (x := x) (List.range' 0 h.length) d
    have h2 : h.length * capR n ≤ 8 * capR n := Nat.mul_le_mul_right _ hl
    simp only [List.length_range'] at h1
    simp only [onR, capR]
    split
    · simp only; omega
    · split
      · simp only; omega
      · split
        · rename_i e; rw [e] at h1; simp only at h1 ⊢; omega
        · rename_i e; rw [e] at h1; simp only [List.length_append, List.length_singleton] at h1 ⊢; omega
theorem try_path {k : Int} {tm : Bool} {h : List Cal} {m : Nat} {x : Th} {rec : TD → Nat → Th → RR} {c : Nat} (hr : ∀ i d x, i < h.length → m.testBit i = false → (rec d (m ||| 1 <<< i) x).1.1.length + 1 ≤ c) : ∀ (l : List Nat) (d : TD), (∀ i ∈ l, i < h.length) → ∀ o, (tryR k tm h rec m x l d).1 = some o → o.length ≤ c
  | [], d, _, o, e => by simp [tryR] at e
  | i :: r, d, hl, o, e => by
    have ih := fun d => try_path (k := k) (tm := tm) (x := x) hr r d (fun j hj => hl j (List.mem_cons_of_mem _ hj)) o
    simp only [tryR] at e
    split at e
    · rename_i hm
      have hb : m.testBit i = false := by simp only [mayR, Bool.and_eq_true, Bool.not_eq_true'] at hm; exact hm.1
      split at e
      · split at e
        · simp only [Option.some.injEq] at e
          subst e
          simpa using hr i d (doR k x (calAt h i)).1 (hl i (by simp)) hb
        · exact ih _ e
      · exact ih _ e
    · exact ih _ e
theorem onR_path {k : Int} {tm : Bool} {h : List Cal} : ∀ (n : Nat) (d : TD) (m : Nat) (x : Th), (onR k tm h n d m x).1.1.length ≤ opens h m
  | 0, d, m, x => by simp [onR]
  | n + 1, d, m, x => by
    simp only [onR]
    split
    · simp
    · split
      · simp
      · split
        · rename_i e
          exact try_path (k := k) (tm := tm) (h := h) (m := m) (x := x) (rec := onR k tm h n) (c := opens h m) (fun i d x hi hb => by have h1 := onR_path (k := k) (tm := tm) (h := h) n d (m ||| 1 <<< i) x; have h2 := opens_set hi hb; omega) (List.range' 0 h.length) d (fun i hi => by simp at hi; omega) _ (by rw [e])
        · simp
theorem doR_lenl (k : Int) (x : Th) (c : Cal) : (doR k x c).1.l.length ≤ x.l.length + 1 := by
  simp only [doR]
  repeat' split
  all_goals first | simp; done | (simp only [List.length_eraseIdx]; split <;> omega)
def OnRK (h : List Cal) (n : Nat) (d : TD) (m : Nat) (x : Th) : Prop := d.length + capR n ≤ 19173961 ∧ opens h m < n ∧ m < 256 ∧ x.l.length + opens h m ≤ 8
theorem noIds_S (p : Nat × Th) : noIds (encS p) = true := noIds_agg (fun i hi => by match i, hi with | 0, _ => rfl | 1, _ => exact noIds_T _)
theorem okIds_T (ids : List Id) (x : Th) : okIds ids (encT x) = true := okIds_agg (fun i hi => by match i, hi with | 0, _ | 1, _ => rfl)
theorem okIds_S (ids : List Id) (p : Nat × Th) : okIds ids (encS p) = true := okIds_agg (fun i hi => by match i, hi with | 0, _ => rfl | 1, _ => exact okIds_T _ _)
theorem ren_T (σ : Id → Id) (x : Th) : ren σ (encT x) = encT x := by simp only [encT, i64s, ren_stru, List.map, ren]
theorem ren_S (σ : Id → Id) (p : Nat × Th) : ren σ (encS p) = encS p := by simp only [encS, ren_stru, List.map, ren, ren_T]
theorem okO_S (ids : List Id) (d : TD) : okO ids (triedO d) := fun _ _ => okIds_S ids _
theorem renO_S (σ : Id → Id) (d : TD) : renO σ (triedO d) = triedO d := renO_list (ren_S σ)
theorem ren_sea {σ : Id → Id} {k : Int} {g : Bool} {h : List Cal} {tm : Bool} {L : Nat} (hs : σ (.b 1) = .b 1) : ren σ (seaV k g h tm L) = seaV k g h tm L := by
  simp only [seaV, ren_stru, List.map, ren, hs]
  rfl
theorem renO_sea {σ : Id → Id} {k : Int} {g : Bool} {h : List Cal} {tm : Bool} {L : Nat} (hs : σ (.b 1) = .b 1) : renO σ (seaOb k g h tm L) = seaOb k g h tm L := by
  simp only [seaOb, renO_cells1, ren_sea hs]
theorem fin_onR {k : Int} {g : Bool} {h : List Cal} {tm : Bool} {d : TD} {nt : Nat} {st : St} {r : List Int × Bool} {y : AV} (F : List (Id × Nat)) (hF : entF st F) (hF0 : lookF (.b 0) F = 0) (hF1 : lookF (.b 1) F = 0) (h6 : st.t 6 = some (.always, y)) (hy : Conv st.m (fun id => lookF id F) T y (ints false r.1)) (h7 : st.t 7 = some (.always, .bool r.2))
    (h0 : ∃ B, st.m (.b 0) = some (.cells B) ∧ B.ty = 71 ∧ B.n = 1 ∧ B.fz = 0 ∧ B.get 0 = seaV k g h tm d.length) (h1 : ∃ B, st.m (.b 1) = some (.cells B) ∧ B.ty = 113 ∧ B.n = d.length ∧ B.fz = 0 ∧ ∀ q, q < d.length → B.get q = encS (d.getD q s0)) : Fin T tysN nt 2 [.tmp 6, .tmp 7] (encRes r) [seaOb k g h tm d.length, triedO d] st := by
  obtain ⟨B, hB, e1, e2, e3, e4⟩ := h0
  obtain ⟨B1, hB1, f1, f2, f3, f4⟩ := h1
  obtain ⟨ty, n, get, fz⟩ := B
  simp only at e1 e2 e3 e4
  subst e1 e2 e3
  refine fin_mk hT F (ts := [(6, ints false r.1), (7, .bool r.2)]) (B' := [seaOb k g h tm d.length, triedO d]) hF ⟨⟨rfl, _, h6, hy⟩, ⟨rfl, _, h7, conv_eq rfl⟩, trivial⟩ ⟨⟨fun _ _ => rfl, .inl ⟨_, hB, _, _, rfl, Nat.le_refl _, by rw [hF0]; exact Nat.zero_le _, Nat.zero_le _, fun q hq => ?_⟩⟩, ob_list (okIds_S _) hB1 f1 f2 f3 hF1 f4, trivial⟩ rfl (by rfl) (by rfl)
  obtain rfl : q = 0 := by simp at hq; exact hq
  exact conv_eq e4
theorem sea_row {m : Id → Option Ob} {k : Int} {g : Bool} {h : List Cal} {tm : Bool} {L : Nat} {B : Blk} (hm : m (.b 1) = some (.cells B)) : dview m (seaV k g h tm L) = stru 71 [.int k, cals g h, .bool tm, .row B.ty false L (fun j => B.get (j + 0))] := by
  refine agg_ext (fun i => ?_)
  match i with
  | 0 | 1 | 2 => rfl
  | 3 => simp [dview, hm]; rfl
  | i + 4 => rfl
theorem dok_sea {m : Id → Option Ob} {k : Int} {g : Bool} {h : List Cal} {tm : Bool} {d : TD} (hm : m (.b 1) = some (.cells ⟨113, d.length, fun i => encS (d.getD i s0), 0⟩)) : dok m (seaV k g h tm d.length) := by
  intro i hi
  match i, hi with
  | 0, _ => rfl
  | 1, _ => rfl
  | 2, _ => rfl
  | 3, _ =>
    show dok m (.own (.b 1) d.length 0 d.length none)
    simp only [dok, hm]
    exact ⟨trivial, fun j hj => noIds_S _⟩
theorem inT_no {d : TD} {m : Nat} {x : Th} (h : ∀ q, q < d.length → ((d.getD q s0).1 == m && decide ((d.getD q s0).2 = x)) = false) : inT d m x = false := by
  rw [inT, List.any_eq_false]
  intro p hp
  obtain ⟨q, hq, rfl⟩ := List.getElem_of_mem hp
  have := h q hq
  simpa [List.getD_eq_getElem?_getD, hq] using this
theorem inT_yes {d : TD} {m : Nat} {x : Th} {q : Nat} (hq : q < d.length) (h : ((d.getD q s0).1 == m && decide ((d.getD q s0).2 = x)) = true) : inT d m x = true := by
  rw [inT, List.any_eq_true]
  refine ⟨d[q], List.getElem_mem hq, ?_⟩
  simpa [List.getD_eq_getElem?_getD, hq] using h
theorem cons_row {x : Int} {l : List Int} {z : AV} {j : Nat} (hj : j < 1 + l.length) : joinG 1 l.length (partG [(0, .int x)] z) (fun i => .int (l.getD i 0)) j = .int ((x :: l).getD j 0) := by
  cases j with
  | zero => rw [joinG_lt (by omega)]; rfl
  | succ j => rw [joinG_ge (by omega) (by omega)]; rfl
theorem onR_step (k : Int) (g : Bool) (h : List Cal) (hl : h.length ≤ 8) (tm : Bool) (n : Nat) (ih : ∀ (d : TD) (m : Nat) (x : Th), OnRK h n d m x → AC Try.prog T tysN 37 [.ptr (.b 0) 1 0 [], .int m, encT x] [seaOb k g h tm d.length, triedO d] (encRes (onR k tm h n d m x).1) [seaOb k g h tm (onR k tm h n d m x).2.length, triedO (onR k tm h n d m x).2]) (d : TD) (m : Nat) (x : Th) (hok : OnRK h (n + 1) d m x) : AC Try.prog T tysN 37 [.ptr (.b 0) 1 0 [], .int m, encT x] [seaOb k g h tm d.length, triedO d] (encRes (onR k tm h (n + 1) d m x).1) [seaOb k g h tm (onR k tm h (n + 1) d m x).2.length, triedO (onR k tm h (n + 1) d m x).2] := by
  refine AC_intro hT Try.func37 rfl rfl (Nat.le_of_ble_eq_true rfl) ?_
  obtain ⟨hd, hop, hm, hxl⟩ := hok
  have hwa := fun X => whole_ac k g h hl tm X m hm
  refine WP.seq ?_
  refine WP.reg hT hE [] rfl ?_ ?_
  · first | trivial | (simp [holdsC, under, slOk, slB, capEq] <;> grind)
  refine WP.seq ?_
  refine WP.seq ?_
  refine WP.reg hT hE [CG.pure (.bool (wholeB h m))] rfl ?_ ?_
  · refine ⟨⟨rfl, dok_sea rfl⟩, ?_⟩
    show AC Try.prog T tysN 53 [.rp 71 (dview _ (seaV k g h tm d.length)), .int m] [] _ []
    rw [sea_row rfl]
    exact hwa _
  refine WP.cond rfl (fun h1 => ?_) (fun h1 => ?_)
  · have hwh : wholeB h m = true := h1
    refine WP.seq ?_
    refine WP.reg hT hE [] rfl ?_ ?_
    · first | trivial | (simp [holdsC, under, slOk, slB, capEq] <;> grind)
    refine WP.ret ?_
    change Fin _ _ _ _ _ _ _ _
    have e : onR k tm h (n + 1) d m x = (([], true), d) := by simp [onR, hwh]
    rw [e]
    exact fin_onR [] trivial rfl rfl (by rfl) (by exact conv_nil_row (by decide)) (by rfl) (by exact ⟨_, rfl, rfl, rfl, rfl, rfl⟩) (by exact ⟨_, rfl, rfl, rfl, rfl, fun q hq => rfl⟩)
  · have hwh : wholeB h m = false := h1
    refine WP.skip ?_
    refine WP.seq ?_
    refine WP.seq ?_
    refine WP.reg hT hE [] rfl ?_ ?_
    · first | trivial | (simp [holdsC, under, slOk, slB, capEq] <;> grind)
    refine WP.block ?_
    refine WP.loop (α := Nat) (fun i => mkSt [(0, .ptr (.b 0) 1 0 []), (1, .int m), (5, .rp 74 (encT x)), (8, .int i)] [(.b 0, seaOb k g h tm d.length), (.b 1, triedO d)]) (fun i => i ≤ d.length ∧ ∀ q, q < i → ((d.getD q s0).1 == m && decide ((d.getD q s0).2 = x)) = false) (fun i => d.length - i) ?_ ?_
    · refine ⟨0, ?_, ?_⟩
      · exact ⟨Nat.zero_le _, fun q hq => by omega⟩
      · refine Ent.mk hT [(.s 5 0, 1)] ⟨⟨_, rfl, Nat.le_refl _⟩, trivial⟩ ⟨⟨rfl, _, rfl, by first | exact conv_eq rfl | (refine conv_eq ?_; rw [wrap_id (by omega) (by omega)]; simp; done) | (refine conv_eq ?_; simp; done)⟩, ⟨rfl, _, rfl, by first | exact conv_eq rfl | (refine conv_eq ?_; rw [wrap_id (by omega) (by omega)]; simp; done) | (refine conv_eq ?_; simp; done)⟩, ⟨rfl, _, rfl, conv_rpe rfl rfl (Nat.lt_succ_self 0) rfl rfl (noIds_T _)⟩, ⟨rfl, _, rfl, by first | exact conv_eq rfl | (refine conv_eq ?_; rw [wrap_id (by omega) (by omega)]; simp; done) | (refine conv_eq ?_; simp; done)⟩, trivial⟩ ⟨⟨fun _ _ => rfl, .inl ⟨_, rfl, _, _, rfl, Nat.le_refl _, Nat.zero_le _, Nat.zero_le _, fun q hq => conv_eq rfl⟩⟩, ob_list (okIds_S _) rfl rfl rfl rfl rfl (fun q hq => rfl), trivial⟩ rfl
    · rintro i ⟨hi, hno⟩
      refine WP.seq ?_
      refine WP.seq ?_
      refine WP.reg hT hE [] rfl ?_ ?_
      · first | trivial | (simp [holdsC, under, slOk, slB, capEq] <;> grind)
      refine WP.cond rfl (fun h4 => ?_) (fun h4 => ?_)
      · have hil : i < d.length := by simpa using h4
        have ene : (((d.getD i s0).1 : Int) == (m : Int)) = ((d.getD i s0).1 == m) := by rw [Bool.eq_iff_iff]; simp; omega
        have hsm := same_ac (d.getD i s0).2 x (by omega)
        refine WP.skip ?_
        refine WP.seq ?_
        refine WP.block ?_
        refine WP.seq ?_
        refine WP.drw hT hE hM [CG.pure (.bool (decide ((d.getD i s0).2 = x)))] rfl ?_ ?_
        · simp [holdsC, under, CG.pure]
          exact ⟨⟨hil, fun _ => hil⟩, fun _ => hsm⟩
        refine WP.cond rfl (fun h6 => ?_) (fun h6 => ?_)
        · change (bif (((d.getD i s0).1 : Int) == (m : Int)) then _ else false) = true at h6
          rw [band, ene] at h6
          refine WP.seq ?_
          refine WP.reg hT hE [] rfl ?_ ?_
          · first | trivial | (simp [holdsC, under, slOk, slB, capEq] <;> grind)
          refine WP.ret ?_
          change Fin _ _ _ _ _ _ _ _
          have e : onR k tm h (n + 1) d m x = (([], false), d) := by
            have : inT d m x = true := inT_yes hil h6
            simp [onR, hwh, this]
          rw [e]
          exact fin_onR [] trivial rfl rfl (by rfl) (by exact conv_nil_row (by decide)) (by rfl) (by exact ⟨_, rfl, rfl, rfl, rfl, rfl⟩) (by exact ⟨_, rfl, rfl, rfl, rfl, fun q hq => rfl⟩)
        · change (bif (((d.getD i s0).1 : Int) == (m : Int)) then _ else false) = false at h6
          rw [band, ene] at h6
          refine WP.skip ?_
          refine WP.reg hT hE [] rfl ?_ ?_
          · first | trivial | (simp [holdsC, under, slOk, slB, capEq] <;> grind)
          refine ⟨i + 1, ?_, ?_, ?_⟩
          · refine ⟨hil, fun q hq' => ?_⟩
            rcases Nat.lt_or_ge q i with h3 | h3
            · exact hno q h3
            · obtain rfl : q = i := by omega
              exact h6
          · refine Ent.mk hT [] trivial ⟨⟨rfl, _, rfl, by first | exact conv_eq rfl | (refine conv_eq ?_; rw [wrap_id (by omega) (by omega)]; simp; done) | (refine conv_eq ?_; simp; done)⟩, ⟨rfl, _, rfl, by first | exact conv_eq rfl | (refine conv_eq ?_; rw [wrap_id (by omega) (by omega)]; simp; done) | (refine conv_eq ?_; simp; done)⟩, ⟨rfl, _, rfl, by first | exact conv_eq rfl | (refine conv_eq ?_; rw [wrap_id (by omega) (by omega)]; simp; done) | (refine conv_eq ?_; simp; done)⟩, ⟨rfl, _, rfl, by first | exact conv_eq rfl | (refine conv_eq ?_; rw [wrap_id (by omega) (by omega)]; simp; done) | (refine conv_eq ?_; simp; done)⟩, trivial⟩ ⟨⟨fun _ _ => rfl, .inl ⟨_, rfl, _, _, rfl, Nat.le_refl _, Nat.zero_le _, Nat.zero_le _, fun q hq => conv_eq rfl⟩⟩, ob_list (okIds_S _) rfl rfl rfl rfl rfl (fun q hq => rfl), trivial⟩ rfl
          · (try simp only []); first | omega | grind
      · have hil : i = d.length := by simp at h4; omega
        have hin : inT d m x = false := inT_no (fun q hq => hno q (by omega))
        refine WP.exit ?_
        refine WP.seq ?_
        refine WP.seq ?_
        refine WP.reg hT hE [] rfl ?_ ?_
        · first | trivial | (simp [holdsC, under, slOk, slB, capEq] <;> grind)
        refine WP.block ?_
        refine WP.loop (α := Nat × TD) (fun (⟨i, d'⟩ : Nat × TD) => mkSt [(0, .ptr (.b 0) 1 0 []), (1, .int m), (5, .rp 74 (encT x)), (9, .int i)] [(.b 0, seaOb k g h tm d'.length), (.b 1, triedO d')]) (fun (⟨i, d'⟩ : Nat × TD) => i ≤ h.length ∧ d'.length ≤ d.length + i * capR n ∧ tryR k tm h (onR k tm h n) m x (List.range' 0 h.length) d = tryR k tm h (onR k tm h n) m x (List.range' i (h.length - i)) d') (fun (⟨i, d'⟩ : Nat × TD) => h.length - i) ?_ ?_
        · refine ⟨(0, d), ?_, ?_⟩
          · exact ⟨Nat.zero_le _, by omega, rfl⟩
          · refine Ent.mk hT [] trivial ⟨⟨rfl, _, rfl, by first | exact conv_eq rfl | (refine conv_eq ?_; rw [wrap_id (by omega) (by omega)]; simp; done) | (refine conv_eq ?_; simp; done)⟩, ⟨rfl, _, rfl, by first | exact conv_eq rfl | (refine conv_eq ?_; rw [wrap_id (by omega) (by omega)]; simp; done) | (refine conv_eq ?_; simp; done)⟩, ⟨rfl, _, rfl, by first | exact conv_eq rfl | (refine conv_eq ?_; rw [wrap_id (by omega) (by omega)]; simp; done) | (refine conv_eq ?_; simp; done)⟩, ⟨rfl, _, rfl, by first | exact conv_eq rfl | (refine conv_eq ?_; rw [wrap_id (by omega) (by omega)]; simp; done) | (refine conv_eq ?_; simp; done)⟩, trivial⟩ ⟨⟨fun _ _ => rfl, .inl ⟨_, rfl, _, _, rfl, Nat.le_refl _, Nat.zero_le _, Nat.zero_le _, fun q hq => conv_eq rfl⟩⟩, ob_list (okIds_S _) rfl rfl rfl rfl rfl (fun q hq => rfl), trivial⟩ rfl
        · rintro ⟨i, d'⟩ ⟨hi, hdl, htry⟩
          refine WP.seq ?_
          refine WP.seq ?_
          refine WP.reg hT hE [] rfl ?_ ?_
          · first | trivial | (simp [holdsC, under, slOk, slB, capEq] <;> grind)
          refine WP.cond rfl (fun h9 => ?_) (fun h9 => ?_)
          · have hil : i < h.length := by simpa using h9
            rw [show h.length - i = (h.length - (i + 1)) + 1 by omega, List.range'_succ] at htry
            have hmr := fun X => mayR_ac k g h hl tm X m i hm hil
            refine WP.skip ?_
            refine WP.seq ?_
            refine WP.block ?_
            refine WP.seq ?_
            refine WP.seq ?_
            refine WP.reg hT hE [CG.pure (.bool (mayR tm h m i))] rfl ?_ ?_
            · refine ⟨⟨rfl, dok_sea rfl⟩, ?_⟩
              show AC Try.prog T tysN 55 [.rp 71 (dview _ (seaV k g h tm d'.length)), .int m, .int i] [] _ []
              rw [sea_row rfl]
              exact hmr _
            refine WP.cond rfl (fun h11 => ?_) (fun h11 => ?_)
            · have hmf : mayR tm h m i = false := by simpa using h11
              simp only [tryR, hmf, Bool.false_eq_true, if_false] at htry
              refine WP.exit ?_
              refine WP.reg hT hE [] rfl ?_ ?_
              · first | trivial | (simp [holdsC, under, slOk, slB, capEq] <;> grind)
              refine ⟨(i + 1, d'), ?_, ?_, ?_⟩
              · exact ⟨hil, by simp only [Nat.succ_mul]; omega, htry⟩
              · refine Ent.mk hT [] trivial ⟨⟨rfl, _, rfl, by first | exact conv_eq rfl | (refine conv_eq ?_; rw [wrap_id (by omega) (by omega)]; simp; done) | (refine conv_eq ?_; simp; done)⟩, ⟨rfl, _, rfl, by first | exact conv_eq rfl | (refine conv_eq ?_; rw [wrap_id (by omega) (by omega)]; simp; done) | (refine conv_eq ?_; simp; done)⟩, ⟨rfl, _, rfl, by first | exact conv_eq rfl | (refine conv_eq ?_; rw [wrap_id (by omega) (by omega)]; simp; done) | (refine conv_eq ?_; simp; done)⟩, ⟨rfl, _, rfl, by first | exact conv_eq rfl | (refine conv_eq ?_; rw [wrap_id (by omega) (by omega)]; simp; done) | (refine conv_eq ?_; simp; done)⟩, trivial⟩ ⟨⟨fun _ _ => rfl, .inl ⟨_, rfl, _, _, rfl, Nat.le_refl _, Nat.zero_le _, Nat.zero_le _, fun q hq => conv_eq rfl⟩⟩, ob_list (okIds_S _) rfl rfl rfl rfl rfl (fun q hq => rfl), trivial⟩ rfl
              · (try simp only []); first | omega | grind
            · have hmt : mayR tm h m i = true := by simpa using h11
              have hb : m.testBit i = false := by simp only [mayR, Bool.and_eq_true, Bool.not_eq_true'] at hmt; exact hmt.1
              have hdo := doref_ac k x (calAt h i) (by omega)
              refine WP.skip ?_
              refine WP.seq ?_
              refine WP.drw hT hE hM [CG.pure (encDo (doR k x (calAt h i)))] rfl ?_ ?_
              · simp [holdsC, under, CG.pure]
                exact ⟨hil, hdo⟩
              refine WP.seq ?_
              refine WP.seq ?_
              refine WP.reg hT hE [] rfl ?_ ?_
              · first | trivial | (simp [holdsC, under, slOk, slB, capEq] <;> grind)
              refine WP.cond rfl (fun h13 => ?_) (fun h13 => ?_)
              · have hdf : (doR k x (calAt h i)).2 = false := by simpa using h13
                simp only [tryR, hmt, hdf, Bool.false_eq_true, if_false, if_true] at htry
                refine WP.exit ?_
                refine WP.reg hT hE [] rfl ?_ ?_
                · first | trivial | (simp [holdsC, under, slOk, slB, capEq] <;> grind)
                refine ⟨(i + 1, d'), ?_, ?_, ?_⟩
                · exact ⟨hil, by simp only [Nat.succ_mul]; omega, htry⟩
                · refine Ent.mk hT [] trivial ⟨⟨rfl, _, rfl, by first | exact conv_eq rfl | (refine conv_eq ?_; rw [wrap_id (by omega) (by omega)]; simp; done) | (refine conv_eq ?_; simp; done)⟩, ⟨rfl, _, rfl, by first | exact conv_eq rfl | (refine conv_eq ?_; rw [wrap_id (by omega) (by omega)]; simp; done) | (refine conv_eq ?_; simp; done)⟩, ⟨rfl, _, rfl, by first | exact conv_eq rfl | (refine conv_eq ?_; rw [wrap_id (by omega) (by omega)]; simp; done) | (refine conv_eq ?_; simp; done)⟩, ⟨rfl, _, rfl, by first | exact conv_eq rfl | (refine conv_eq ?_; rw [wrap_id (by omega) (by omega)]; simp; done) | (refine conv_eq ?_; simp; done)⟩, trivial⟩ ⟨⟨fun _ _ => rfl, .inl ⟨_, rfl, _, _, rfl, Nat.le_refl _, Nat.zero_le _, Nat.zero_le _, fun q hq => conv_eq rfl⟩⟩, ob_list (okIds_S _) rfl rfl rfl rfl rfl (fun q hq => rfl), trivial⟩ rfl
                · (try simp only []); first | omega | grind
              · have hdt : (doR k x (calAt h i)).2 = true := by simpa using h13
                have hset := opens_set hil hb
                have hcap : d'.length + capR n ≤ 19173961 := by
                  have h1 : i * capR n ≤ 7 * capR n := Nat.mul_le_mul_right _ (by omega)
                  simp only [capR] at hd
                  omega
                have hdl2 := doR_lenl k x (calAt h i)
                have hih := ih d' (m ||| 1 <<< i) (doR k x (calAt h i)).1 ⟨hcap, by omega, set_lt hm (by omega), by omega⟩
                have hlen2 := onR_len (k := k) (tm := tm) hl n d' (m ||| 1 <<< i) (doR k x (calAt h i)).1
                have hpath := onR_path (k := k) (tm := tm) (h := h) n d' (m ||| 1 <<< i) (doR k x (calAt h i)).1
                generalize hrr : onR k tm h n d' (m ||| 1 <<< i) (doR k x (calAt h i)).1 = rr at hih hlen2 hpath
                refine WP.skip ?_
                refine WP.seq ?_
                refine WP.drw hT hE hM [⟨true, [.b 0, .b 1], encRes rr.1, [seaOb k g h tm rr.2.length, triedO rr.2]⟩] rfl ?_ ?_
                · simp only [holdsC, under]
                  refine ⟨⟨by omega, trivial⟩, ⟨fun _ _ => rfl, okO_S _ _, trivial⟩, ⟨fun _ _ => rfl, okO_S _ _, trivial⟩, ?_⟩
                  simp only [List.map, renO_S, renO_sea (show sig [Id.b 0, Id.b 1] 0 (.b 1) = .b 1 from rfl)]
                  refine AC.conv hT hih ⟨_, _, rfl, conv_eq rfl, _, _, rfl, conv_eq ?_, _, _, rfl, conv_eq (ren_T _ _), rfl⟩
                  exact congrArg AV.int (set_bits hm (by omega))
                refine WP.seq ?_
                refine WP.reg hT hE [] rfl ?_ ?_
                · first | trivial | (simp [holdsC, under, slOk, slB, capEq] <;> grind)
                refine WP.cond rfl (fun h15 => ?_) (fun h15 => ?_)
                · have hres : rr.1.2 = true := h15
                  have e : onR k tm h (n + 1) d m x = (((i : Int) :: rr.1.1, true), rr.2) := by
                    have e1 : tryR k tm h (onR k tm h n) m x (List.range' 0 h.length) d = (some ((i : Int) :: rr.1.1), rr.2) := by
                      rw [htry]
                      simp only [tryR, hmt, hdt, hrr, hres, if_true]
                    simp [onR, hwh, hin, e1]
                  refine WP.seq ?_
                  rw [e]
                  rcases Nat.eq_zero_or_pos rr.1.1.length with hz | hz
                  · refine WP.reg hT hE [CG.nop] rfl ?_ ?_
                    · simp [holdsC, under]
                      exact List.eq_nil_of_length_eq_zero hz
                    refine WP.ret ?_
                    change Fin _ _ _ _ _ _ _ _
                    rw [List.eq_nil_of_length_eq_zero hz]
                    exact fin_onR [] trivial rfl rfl (by rfl) (by exact conv_rowL (fun h => by cases h) (fun j hj => by
                      obtain rfl : j = 0 := by omega
                      rfl)) (by rfl) (by exact ⟨_, rfl, rfl, rfl, rfl, ren_sea (by rfl)⟩) (by exact ⟨_, rfl, rfl, rfl, rfl, fun q hq => ren_S _ _⟩)
                  · refine WP.reg hT hE [] rfl ?_ ?_
                    · have hb3 : (T 3).bytes = 8 := rfl
                      simp [holdsC, under, hb3]
                      omega
                    refine WP.ret ?_
                    change Fin _ _ _ _ _ _ _ _
                    have e2 : ints false ((i : Int) :: rr.1.1) = .row 3 false (1 + rr.1.1.length) (fun j => .int (((i : Int) :: rr.1.1).getD j 0)) := by
                      rw [ints, List.length_cons, Nat.add_comm]
                    exact fin_onR [(.s 94 0, 1 + rr.1.1.length)] ⟨⟨_, by rfl, Nat.le_refl _⟩, trivial⟩ rfl rfl (by rfl) (by show Conv _ _ _ _ (ints false ((i : Int) :: rr.1.1)); rw [e2]; exact conv_row rfl rfl rfl (fun h => by cases h) (by simp [lookF, idbeq_self]) (fun j hj => by rw [Nat.zero_add]; exact ⟨(congrArg noIds (cons_row (x := (i : Int)) (l := rr.1.1) (z := (T 3).zero) hj)).trans rfl, .of_eq (cons_row (z := (T 3).zero) hj)⟩)) (by rfl) (by exact ⟨_, rfl, rfl, rfl, rfl, ren_sea (by rfl)⟩) (by exact ⟨_, rfl, rfl, rfl, rfl, fun q hq => ren_S _ _⟩)
                · have hres : rr.1.2 = false := h15
                  simp only [tryR, hmt, hdt, hrr, hres, Bool.false_eq_true, if_false, if_true] at htry
                  refine WP.skip ?_
                  refine WP.reg hT hE [] rfl ?_ ?_
                  · first | trivial | (simp [holdsC, under, slOk, slB, capEq] <;> grind)
                  refine ⟨(i + 1, rr.2), ?_, ?_, ?_⟩
                  · exact ⟨hil, by simp only [Nat.succ_mul]; omega, htry⟩
                  · refine Ent.mk hT [] trivial ⟨⟨rfl, _, rfl, by first | exact conv_eq rfl | (refine conv_eq ?_; rw [wrap_id (by omega) (by omega)]; simp; done) | (refine conv_eq ?_; simp; done)⟩, ⟨rfl, _, rfl, by first | exact conv_eq rfl | (refine conv_eq ?_; rw [wrap_id (by omega) (by omega)]; simp; done) | (refine conv_eq ?_; simp; done)⟩, ⟨rfl, _, rfl, by first | exact conv_eq rfl | (refine conv_eq ?_; rw [wrap_id (by omega) (by omega)]; simp; done) | (refine conv_eq ?_; simp; done)⟩, ⟨rfl, _, rfl, by first | exact conv_eq rfl | (refine conv_eq ?_; rw [wrap_id (by omega) (by omega)]; simp; done) | (refine conv_eq ?_; simp; done)⟩, trivial⟩ ⟨⟨fun _ _ => rfl, .inl ⟨_, rfl, _, _, rfl, Nat.le_refl _, Nat.zero_le _, Nat.zero_le _, fun q hq => conv_eq (ren_sea (by rfl))⟩⟩, ob_list (okIds_S _) rfl rfl rfl rfl rfl (fun q hq => ren_S _ _), trivial⟩ rfl
                  · (try simp only []); first | omega | grind
          · have hil : i = h.length := by simp at h9; omega
            subst hil
            refine WP.exit ?_
            refine WP.seq ?_
            refine WP.drw hT hE hM [] rfl ?_ ?_
            · have hb : (T 113).bytes = 40 := rfl
              simp [holdsC, under, hb]
              simp only [capR] at hd
              have h1 : h.length * capR n ≤ 8 * capR n := Nat.mul_le_mul_right _ hl
              omega
            refine WP.seq ?_
            refine WP.reg hT hE [] rfl ?_ ?_
            · first | trivial | (simp [holdsC, under, slOk, slB, capEq] <;> grind)
            refine WP.ret ?_
            change Fin _ _ _ _ _ _ _ _
            have e : onR k tm h (n + 1) d m x = (([], false), d' ++ [(m, x)]) := by
              have e1 : tryR k tm h (onR k tm h n) m x (List.range' 0 h.length) d = (none, d') := by
                rw [htry, Nat.sub_self]
                rfl
              simp [onR, hwh, hin, e1]
            rw [e]
            refine fin_onR [] trivial rfl rfl (by rfl) (by exact conv_nil_row (by decide)) (by rfl) ?_ ?_
            · refine ⟨_, rfl, rfl, rfl, rfl, ?_⟩
              show (seaV k g h tm d'.length).put [3] _ = _
              rw [seaV, stru_put (by simp)]
              simp only [List.length_append, List.length_singleton]
              rfl
            · exact ⟨_, rfl, rfl, by simp only [List.length_append, List.length_singleton], rfl, appL (l := d') (x := (m, x)) (y := AV.agg 113 2 _) (z := (T 113).zero) rfl (by exact agg_ext (fun i => by match i with | 0 | 1 => rfl | i + 2 => rfl)) (fun q hq => rfl)⟩
theorem onR_ac {k : Int} (g : Bool) {h : List Cal} (hl : h.length ≤ 8) (tm : Bool) : ∀ (n : Nat) (d : TD) (m : Nat) (x : Th), OnRK h n d m x → AC Try.prog T tysN 37 [.ptr (.b 0) 1 0 [], .int m, encT x] [seaOb k g h tm d.length, triedO d] (encRes (onR k tm h n d m x).1) [seaOb k g h tm (onR k tm h n d m x).2.length, triedO (onR k tm h n d m x).2]
  | 0, d, m, x, hok => absurd hok.2.1 (Nat.not_lt_zero _)
  | n + 1, d, m, x, hok => onR_step k g h hl tm n (onR_ac g hl tm n) d m x hok
def th0 : Th := ⟨0, []⟩
def firstR (k : Int) (tm : Bool) (h : List Cal) : RR := onR k tm h 9 [] 0 th0
theorem firstR_ok {h : List Cal} (hl : h.length ≤ 8) : OnRK h 9 [] 0 th0 := by
  have h1 := openTo_le 0 h.length
  exact ⟨by decide, by show openTo 0 h.length < 9; omega, by decide, by show 0 + openTo 0 h.length ≤ 8; omega⟩
theorem fin_res {nt : Nat} {st : St} {r : List Int × Bool} {y : AV} (a b : Nat) (hab : a ≠ b) (h6 : st.t a = some (.always, y)) (hy : Conv st.m (fun id => lookF id []) T y (ints false r.1)) (h7 : st.t b = some (.always, .bool r.2)) : Fin T tysN nt 0 [.tmp a, .tmp b] (encRes r) [] st :=
  fin_mk hT [] (ts := [(a, ints false r.1), (b, .bool r.2)]) (l := [ints false r.1, .bool r.2]) (B' := []) trivial ⟨⟨rfl, _, h6, hy⟩, ⟨rfl, _, h7, conv_eq rfl⟩, trivial⟩ trivial rfl (by simp [resL, mkSt, lookN, nbeq_ne hab.symm, nbeq_ne hab, notTup, ints]) (by rfl)
theorem refLinear_ac (k : Int) (g : Bool) (h : List Cal) (hl : h.length ≤ 8) : AC Try.prog T tysN 14 [.int k, cals g h] [] (encRes (firstR k true h).1) [] := by
  refine AC_intro hT Try.func14 rfl rfl (Nat.le_of_ble_eq_true rfl) ?_
  have hon := onR_ac (k := k) g hl true 9 [] 0 th0 (firstR_ok hl)
  rw [show onR k true h 9 [] 0 th0 = firstR k true h from rfl] at hon
  refine WP.seq ?_
  refine WP.reg hT hE [] rfl ?_ ?_
  · first | trivial | (simp [holdsC, under, slOk, slB, capEq] <;> grind)
  refine WP.seq ?_
  refine WP.reg hT hE [] rfl ?_ ?_
  · first | trivial | (simp [holdsC, under, slOk, slB, capEq] <;> grind)
  refine WP.seq ?_
  refine WP.ent (st' := mkSt [(6, .ptr (.s 10 0) 1 0 [])] [(.s 10 0, .cells ⟨71, 1, fun _ => stru 71 [.int k, cals g h, .bool true, .own (.s 99 0) 0 0 0 none], 0⟩), (.s 99 0, triedO [])]) ?_ ?_
  · refine Ent.mk hT [] trivial ⟨⟨rfl, _, rfl, by first | exact conv_eq rfl | (refine conv_eq ?_; rw [wrap_id (by omega) (by omega)]; simp; done) | (refine conv_eq ?_; simp; done)⟩, trivial⟩ ⟨⟨fun _ _ => rfl, .inl ⟨_, rfl, _, _, rfl, Nat.le_refl _, Nat.zero_le _, Nat.zero_le _, fun q hq => ⟨_, rfl, fun i hi => by match i, hi with | 0, _ | 1, _ | 2, _ => exact conv_eq rfl | 3, _ => exact conv_nil_own⟩⟩⟩, ⟨okO_S _ _, .inr ⟨rfl, 113, _, rfl, by decide⟩⟩, trivial⟩ rfl
  refine WP.reg hT hE [⟨true, [.s 10 0, .s 99 0], encRes (firstR k true h).1, [seaOb k g h true (firstR k true h).2.length, triedO (firstR k true h).2]⟩] rfl ?_ ?_
  · refine ⟨⟨fun _ _ => rfl, okO_S _ _, trivial⟩, ⟨fun _ _ => rfl, okO_S _ _, trivial⟩, ?_⟩
    have e1 : renO (sig [.s 10 0, .s 99 0] 0) (.cells ⟨71, 1, fun _ => stru 71 [.int k, cals g h, .bool true, .own (.s 99 0) 0 0 0 none], 0⟩) = seaOb k g h true ([] : TD).length := by
      simp only [renO_cells1, ren_stru, List.map, ren]
      rfl
    simp only [List.map, renO_S, e1]
    refine AC.conv hT hon ⟨_, _, rfl, conv_eq rfl, _, _, rfl, conv_eq rfl, _, _, rfl, ⟨_, rfl, fun i hi => by match i, hi with | 0, _ => exact conv_eq rfl | 1, _ => exact conv_nil_row (by decide)⟩, rfl⟩
  refine WP.ret ?_
  change Fin _ _ _ _ _ _ _ _
  exact fin_res 4 5 (by decide) (by rfl) (by exact conv_eq rfl) (by rfl)
theorem refTurns_ac (k : Int) (g : Bool) (h : List Cal) (hl : h.length ≤ 8) : AC Try.prog T tysN 15 [.int k, cals g h] [] (encRes (firstR k false h).1) [] := by
  refine AC_intro hT Try.func15 rfl rfl (Nat.le_of_ble_eq_true rfl) ?_
  have hon := onR_ac (k := k) g hl false 9 [] 0 th0 (firstR_ok hl)
  rw [show onR k false h 9 [] 0 th0 = firstR k false h from rfl] at hon
  refine WP.seq ?_
  refine WP.reg hT hE [] rfl ?_ ?_
  · first | trivial | (simp [holdsC, under, slOk, slB, capEq] <;> grind)
  refine WP.seq ?_
  refine WP.reg hT hE [] rfl ?_ ?_
  · first | trivial | (simp [holdsC, under, slOk, slB, capEq] <;> grind)
  refine WP.seq ?_
  refine WP.ent (st' := mkSt [(6, .ptr (.s 10 0) 1 0 [])] [(.s 10 0, .cells ⟨71, 1, fun _ => stru 71 [.int k, cals g h, .bool false, .own (.s 99 0) 0 0 0 none], 0⟩), (.s 99 0, triedO [])]) ?_ ?_
  · refine Ent.mk hT [] trivial ⟨⟨rfl, _, rfl, by first | exact conv_eq rfl | (refine conv_eq ?_; rw [wrap_id (by omega) (by omega)]; simp; done) | (refine conv_eq ?_; simp; done)⟩, trivial⟩ ⟨⟨fun _ _ => rfl, .inl ⟨_, rfl, _, _, rfl, Nat.le_refl _, Nat.zero_le _, Nat.zero_le _, fun q hq => ⟨_, rfl, fun i hi => by match i, hi with | 0, _ | 1, _ | 2, _ => exact conv_eq rfl | 3, _ => exact conv_nil_own⟩⟩⟩, ⟨okO_S _ _, .inr ⟨rfl, 113, _, rfl, by decide⟩⟩, trivial⟩ rfl
  refine WP.reg hT hE [⟨true, [.s 10 0, .s 99 0], encRes (firstR k false h).1, [seaOb k g h false (firstR k false h).2.length, triedO (firstR k false h).2]⟩] rfl ?_ ?_
  · refine ⟨⟨fun _ _ => rfl, okO_S _ _, trivial⟩, ⟨fun _ _ => rfl, okO_S _ _, trivial⟩, ?_⟩
    have e1 : renO (sig [.s 10 0, .s 99 0] 0) (.cells ⟨71, 1, fun _ => stru 71 [.int k, cals g h, .bool false, .own (.s 99 0) 0 0 0 none], 0⟩) = seaOb k g h false ([] : TD).length := by
      simp only [renO_cells1, ren_stru, List.map, ren]
      rfl
    simp only [List.map, renO_S, e1]
    refine AC.conv hT hon ⟨_, _, rfl, conv_eq rfl, _, _, rfl, conv_eq rfl, _, _, rfl, ⟨_, rfl, fun i hi => by match i, hi with | 0, _ => exact conv_eq rfl | 1, _ => exact conv_nil_row (by decide)⟩, rfl⟩
  refine WP.ret ?_
  change Fin _ _ _ _ _ _ _ _
  exact fin_res 4 5 (by decide) (by rfl) (by exact conv_eq rfl) (by rfl)
end Go.Ab


/- First orders, without what was tried in vain. -/
set_option autoImplicit false
set_option linter.unusedSimpArgs false
set_option linter.unusedVariables false
namespace Go.Ab
open Go.Proofs
section
variable {S : Type} (h : List Cal) (step : Nat → S → Nat → Option S)
def tryG (rec : Nat → S → Option (List Int)) (m : Nat) (x : S) : List Nat → Option (List Int)
  | [] => none
  | i :: r => match step m x i with
    | none => tryG rec m x r
    | some y => match rec (m ||| 1 <<< i) y with
      | some l => some ((i : Int) :: l)
      | none => tryG rec m x r
def pathG : Nat → Nat → S → Option (List Int)
  | 0, _, _ => none
  | n + 1, m, x => if wholeB h m then some [] else tryG step (pathG n) m x (List.range' 0 h.length)
def StepOK : Prop := ∀ m x i y, step m x i = some y → m.testBit i = false
theorem tryG_congr {rec rec' : Nat → S → Option (List Int)} {m : Nat} {x : S} : ∀ (l : List Nat), (∀ i ∈ l, ∀ y, step m x i = some y → rec (m ||| 1 <<< i) y = rec' (m ||| 1 <<< i) y) → tryG step rec m x l = tryG step rec' m x l
  | [], _ => rfl
  | i :: r, H => by
    have ih := tryG_congr r (fun j hj => H j (List.mem_cons_of_mem _ hj))
    simp only [tryG]
    cases e : step m x i with
    | none => simp only [e]; exact ih
    | some y => simp only [e]; rw [H i (by simp) y e, ih]
theorem path_fuel (hs : StepOK step) : ∀ (n n' m : Nat) (x : S), opens h m < n → opens h m < n' → pathG h step n m x = pathG h step n' m x
  | 0, _, _, _, h1, _ => absurd h1 (Nat.not_lt_zero _)
  | _ + 1, 0, _, _, _, h2 => absurd h2 (Nat.not_lt_zero _)
  | n + 1, n' + 1, m, x, h1, h2 => by
    simp only [pathG]
    split
    · rfl
    · refine tryG_congr step _ (fun i hi y e => ?_)
      have hset := opens_set (h := h) (m := m) (i := i) (by simp at hi; omega) (hs m x i y e)
      exact path_fuel hs n n' _ _ (by omega) (by omega)
end
def outO (o : List Int) : Option (List Int) → List Int × Bool
  | none => ([], false)
  | some l => (o ++ l, true)
section
variable {k : Int} {fst : Cal → Cal → Bool} {h : List Cal}
def stepF (k : Int) (fst : Cal → Cal → Bool) (h : List Cal) (m : Nat) (x : Ct) (i : Nat) : Option Ct := if m.testBit i then none else if notNext k fst h m i x then none else some (doF k x (calAt h i)).1
theorem stepF_ok : StepOK (stepF k fst h) := by
  intro m x i y e
  simp only [stepF] at e
  cases hb : m.testBit i with
  | false => rfl
  | true => simp [hb] at e
def DeadP (k : Int) (fst : Cal → Cal → Bool) (h : List Cal) (d : Dead) : Prop := ∀ p : Key, inD d p = true → ∀ n, opens h p.1 < n → pathG h (stepF k fst h) n p.1 p.2 = none
theorem deadP_put {d : Dead} {p : Key} (hd : DeadP k fst h d) (hp : ∀ n, opens h p.1 < n → pathG h (stepF k fst h) n p.1 p.2 = none) : DeadP k fst h (putK d p ()) := by
  intro q hq
  simp only [inD, getK_put] at hq
  split at hq
  · rename_i e; subst e; exact hp
  · exact hd q hq
theorem tryF_path {rec : Dead → Nat → Ct → List Int → Res} {recG : Nat → Ct → Option (List Int)} {m : Nat} {x : Ct} {o : List Int}
    (hr : ∀ d i x o, i < h.length → m.testBit i = false → DeadP k fst h d → (rec d (m ||| 1 <<< i) x o).1 = outO o (recG (m ||| 1 <<< i) x) ∧ DeadP k fst h (rec d (m ||| 1 <<< i) x o).2) :
    ∀ (l : List Nat) (d : Dead), (∀ i ∈ l, i < h.length) → DeadP k fst h d →
      (tryF k fst h rec m x o l d).1 = (tryG (stepF k fst h) recG m x l).map (o ++ ·) ∧ DeadP k fst h (tryF k fst h rec m x o l d).2
  | [], d, _, hd => by simp [tryF, tryG, hd]
  | i :: r, d, hl, hd => by
    have ih := fun d hd => tryF_path (o := o) (x := x) hr r d (fun j hj => hl j (List.mem_cons_of_mem _ hj)) hd
    simp only [tryF, tryG]
    cases hb : m.testBit i with
    | true =>
      have e : stepF k fst h m x i = none := by simp [stepF, hb]
      simp only [if_true, e]
      exact ih d hd
    | false =>
      cases hn : notNext k fst h m i x with
      | true =>
        have e : stepF k fst h m x i = none := by simp [stepF, hn]
        simp only [if_true, e, Bool.false_eq_true, if_false]
        exact ih d hd
      | false =>
        have e : stepF k fst h m x i = some (doF k x (calAt h i)).1 := by simp [stepF, hb, hn]
        simp only [Bool.false_eq_true, if_false, e]
        obtain ⟨r1, r2⟩ := hr d i (doF k x (calAt h i)).1 (o ++ [(i : Int)]) (hl i (by simp)) hb hd
        rw [r1]
        cases hg : recG (m ||| 1 <<< i) (doF k x (calAt h i)).1 with
        | none => simp only [outO, Bool.false_eq_true, if_false]; exact ih _ r2
        | some l' => simp only [outO, if_true, Option.map_some]; exact ⟨by simp, r2⟩
theorem onF_path : ∀ (n : Nat) (d : Dead) (m : Nat) (x : Ct) (o : List Int), opens h m < n → DeadP k fst h d → (onF k fst h n d m x o).1 = outO o (pathG h (stepF k fst h) n m x) ∧ DeadP k fst h (onF k fst h n d m x o).2
  | 0, d, m, x, o, hn, _ => absurd hn (Nat.not_lt_zero _)
  | n + 1, d, m, x, o, hn, hd => by
    cases hin : inD d (m, x) with
    | true =>
      rw [hd (m, x) hin (n + 1) hn]
      simp only [onF, hin, if_true, outO]
      exact ⟨trivial, hd⟩
    | false =>
      cases hw : wholeB h m with
      | true => simp only [onF, hin, hw, pathG, Bool.false_eq_true, if_false, if_true, outO]; exact ⟨by simp, hd⟩
      | false =>
        have ht := tryF_path (k := k) (fst := fst) (h := h) (rec := onF k fst h n) (recG := pathG h (stepF k fst h) n) (m := m) (x := x) (o := o) (fun d i x o hi hb hd => onF_path n d _ x o (by have := opens_set hi hb; omega) hd) (List.range' 0 h.length) d (fun i hi => by simp at hi; omega) hd
        have hp : pathG h (stepF k fst h) (n + 1) m x = tryG (stepF k fst h) (pathG h (stepF k fst h) n) m x (List.range' 0 h.length) := by simp only [pathG, hw, Bool.false_eq_true, if_false]
        rw [hp]
        cases hg : tryG (stepF k fst h) (pathG h (stepF k fst h) n) m x (List.range' 0 h.length) with
        | none =>
          rw [hg] at ht hp
          have e : tryF k fst h (onF k fst h n) m x o (List.range' 0 h.length) d = (none, (tryF k fst h (onF k fst h n) m x o (List.range' 0 h.length) d).2) := Prod.ext ht.1 rfl
          simp only [onF, hin, hw, Bool.false_eq_true, if_false, outO]
          rw [e]
          exact ⟨rfl, deadP_put ht.2 (fun n' hn' => (path_fuel h _ stepF_ok n' (n + 1) m x hn' hn).trans hp)⟩
        | some l =>
          rw [hg] at ht
          have e : tryF k fst h (onF k fst h n) m x o (List.range' 0 h.length) d = (some (o ++ l), (tryF k fst h (onF k fst h n) m x o (List.range' 0 h.length) d).2) := Prod.ext ht.1 rfl
          simp only [onF, hin, hw, Bool.false_eq_true, if_false, outO]
          rw [e]
          exact ⟨rfl, ht.2⟩
theorem firstF_path (hl : h.length ≤ 8) : (firstF k fst h).1 = outO [] (pathG h (stepF k fst h) 9 0 (beginF k)) :=
  (onF_path 9 [] 0 (beginF k) [] (by have := openTo_le 0 h.length; show openTo 0 h.length < 9; omega) (fun p hp => by simp [inD, getK] at hp)).1
end
section
variable {k : Int} {tm : Bool} {h : List Cal}
def stepR (k : Int) (tm : Bool) (h : List Cal) (m : Nat) (x : Th) (i : Nat) : Option Th := if mayR tm h m i then (if (doR k x (calAt h i)).2 then some (doR k x (calAt h i)).1 else none) else none
theorem stepR_ok : StepOK (stepR k tm h) := by
  intro m x i y e
  simp only [stepR] at e
  cases hm : mayR tm h m i with
  | false => simp [hm] at e
  | true => simp only [mayR, Bool.and_eq_true, Bool.not_eq_true'] at hm; exact hm.1
def TriedP (k : Int) (tm : Bool) (h : List Cal) (d : TD) : Prop := ∀ p ∈ d, ∀ n, opens h p.1 < n → pathG h (stepR k tm h) n p.1 p.2 = none
theorem tryR_path {rec : TD → Nat → Th → RR} {recG : Nat → Th → Option (List Int)} {m : Nat} {x : Th}
    (hr : ∀ d i x, i < h.length → m.testBit i = false → TriedP k tm h d → (rec d (m ||| 1 <<< i) x).1 = outO [] (recG (m ||| 1 <<< i) x) ∧ TriedP k tm h (rec d (m ||| 1 <<< i) x).2) :
    ∀ (l : List Nat) (d : TD), (∀ i ∈ l, i < h.length) → TriedP k tm h d →
      (tryR k tm h rec m x l d).1 = tryG (stepR k tm h) recG m x l ∧ TriedP k tm h (tryR k tm h rec m x l d).2
  | [], d, _, hd => by simp [tryR, tryG, hd]
  | i :: r, d, hl, hd => by
    have ih := fun d hd => tryR_path (x := x) hr r d (fun j hj => hl j (List.mem_cons_of_mem _ hj)) hd
    simp only [tryR, tryG]
    cases hm : mayR tm h m i with
    | false =>
      have e : stepR k tm h m x i = none := by simp [stepR, hm]
      simp only [e, Bool.false_eq_true, if_false]
      exact ih d hd
    | true =>
      have hb : m.testBit i = false := by
        have hm' := hm
        simp only [mayR, Bool.and_eq_true, Bool.not_eq_true'] at hm'; exact hm'.1
      cases ho : (doR k x (calAt h i)).2 with
      | false =>
        have e : stepR k tm h m x i = none := by simp [stepR, ho]
        simp only [if_true, e, Bool.false_eq_true, if_false]
        exact ih d hd
      | true =>
        have e : stepR k tm h m x i = some (doR k x (calAt h i)).1 := by simp [stepR, hm, ho]
        simp only [if_true, e]
        obtain ⟨r1, r2⟩ := hr d i (doR k x (calAt h i)).1 (hl i (by simp)) hb hd
        rw [r1]
        cases hg : recG (m ||| 1 <<< i) (doR k x (calAt h i)).1 with
        | none => simp only [outO, Bool.false_eq_true, if_false]; exact ih _ r2
        | some l' => simp only [outO, if_true, List.nil_append]; exact ⟨trivial, r2⟩
theorem onR_pathG : ∀ (n : Nat) (d : TD) (m : Nat) (x : Th), opens h m < n → TriedP k tm h d → (onR k tm h n d m x).1 = outO [] (pathG h (stepR k tm h) n m x) ∧ TriedP k tm h (onR k tm h n d m x).2
  | 0, d, m, x, hn, _ => absurd hn (Nat.not_lt_zero _)
  | n + 1, d, m, x, hn, hd => by
    cases hw : wholeB h m with
    | true => simp only [onR, hw, pathG, if_true, outO]; exact ⟨by simp, hd⟩
    | false =>
      cases hin : inT d m x with
      | true =>
        rw [inT, List.any_eq_true] at hin
        have hin' : inT d m x = true := by rw [inT, List.any_eq_true]; exact hin
        obtain ⟨p, hp, e⟩ := hin
        simp only [Bool.and_eq_true, beq_iff_eq, decide_eq_true_eq] at e
        obtain ⟨rfl, rfl⟩ := e
        rw [hd p hp (n + 1) hn]
        simp only [onR, hw, hin', if_true, Bool.false_eq_true, if_false, outO]
        exact ⟨trivial, hd⟩
      | false =>
        have ht := tryR_path (k := k) (tm := tm) (h := h) (rec := onR k tm h n) (recG := pathG h (stepR k tm h) n) (m := m) (x := x) (fun d i x hi hb hd => onR_pathG n d _ x (by have := opens_set hi hb; omega) hd) (List.range' 0 h.length) d (fun i hi => by simp at hi; omega) hd
        have hp : pathG h (stepR k tm h) (n + 1) m x = tryG (stepR k tm h) (pathG h (stepR k tm h) n) m x (List.range' 0 h.length) := by simp only [pathG, hw, Bool.false_eq_true, if_false]
        rw [hp]
        cases hg : tryG (stepR k tm h) (pathG h (stepR k tm h) n) m x (List.range' 0 h.length) with
        | none =>
          rw [hg] at ht hp
          have e : tryR k tm h (onR k tm h n) m x (List.range' 0 h.length) d = (none, (tryR k tm h (onR k tm h n) m x (List.range' 0 h.length) d).2) := Prod.ext ht.1 rfl
          simp only [onR, hin, hw, Bool.false_eq_true, if_false, outO]
          rw [e]
          refine ⟨rfl, fun p hp' => ?_⟩
          rcases List.mem_append.1 hp' with h1 | h1
          · exact ht.2 p h1
          · simp only [List.mem_singleton] at h1
            subst h1
            exact fun n' hn' => (path_fuel h _ stepR_ok n' (n + 1) m x hn' hn).trans hp
        | some l =>
          rw [hg] at ht
          have e : tryR k tm h (onR k tm h n) m x (List.range' 0 h.length) d = (some l, (tryR k tm h (onR k tm h n) m x (List.range' 0 h.length) d).2) := Prod.ext ht.1 rfl
          simp only [onR, hin, hw, Bool.false_eq_true, if_false, outO]
          rw [e]
          exact ⟨rfl, ht.2⟩
theorem firstR_path (hl : h.length ≤ 8) : (firstR k tm h).1 = outO [] (pathG h (stepR k tm h) 9 0 th0) :=
  (onR_pathG 9 [] 0 th0 (by have := openTo_le 0 h.length; show openTo 0 h.length < 9; omega) (fun p hp => by simp at hp)).1
end
end Go.Ab

/- The program's search and the reference's find the same. -/
set_option autoImplicit false
set_option linter.unusedSimpArgs false
set_option linter.unusedVariables false
namespace Go.Ab
open Go.Proofs
/-- What is in the thing, of both. -/
def RelX (k : Int) (x : Ct) (y : Th) : Prop := x.v.length = 8 ∧ (if k = 1 ∨ k = 2 then y = ⟨x.v.getD 0 0, []⟩ else 0 ≤ x.n ∧ x.n ≤ 8 ∧ y = ⟨0, x.v.take x.n.toNat⟩)
theorem set0 {v : List Int} (h : v.length = 8) (a : Int) : (v.set 0 a).getD 0 0 = a := by
  match v, h with
  | _ :: _, _ => rfl
theorem fields_parts {k : Int} {c : Cal} (hf : fieldsB k c = true) : doesB k c.act = true ∧ (c.out ≠ 0 → tells c = true ∧ c.fin ≠ -1) ∧ (c.empty = true → c.act = 5) := by
  simp only [fieldsB, Bool.and_eq_true, Bool.not_eq_true', badHead, badVals, okEmpty, Bool.or_eq_false_iff, Bool.or_eq_true, Bool.and_eq_false_iff, bne_eq_false_iff_eq, beq_eq_false_iff_ne] at hf
  obtain ⟨⟨⟨h1, h2⟩, h3⟩, h4⟩ := hf
  refine ⟨?_, ?_, ?_⟩
  · have := h1.1.1.2
    simpa using this
  · intro h0
    rcases h3.2 with h | h
    · exact absurd h h0
    · exact ⟨by simpa using h.1, h.2⟩
  · intro h0
    rcases h4 with h | h
    · simp [h0] at h
    · simpa using h.1
/-- Whether the told is as it was. -/
def tellF (c : Cal) (r : Ct × Int × Bool) : Bool := c.fin != -1 && (r.2.1 != c.out || r.2.2 != c.empty)
theorem tell_no {c : Cal} (h : c.out = 0) (h' : c.empty = false) {x : Ct} : (!tellF c (x, 0, false)) = true := by
  simp [tellF, h, h']
theorem put_list {v : List Int} (hv : v.length = 8) {n : Nat} (hn : n < 8) (a : Int) : (v.set n a).take (n + 1) = v.take n ++ [a] := by
  match v, hv, n, hn with
  | [_, _, _, _, _, _, _, _], _, 0, _ | [_, _, _, _, _, _, _, _], _, 1, _ | [_, _, _, _, _, _, _, _], _, 2, _ | [_, _, _, _, _, _, _, _], _, 3, _ | [_, _, _, _, _, _, _, _], _, 4, _ | [_, _, _, _, _, _, _, _], _, 5, _ | [_, _, _, _, _, _, _, _], _, 6, _ | [_, _, _, _, _, _, _, _], _, 7, _ => rfl
theorem take_first {v : List Int} (hv : v.length = 8) {n : Nat} (hn : n < 8) : ((shiftL v).set n 0).take n = (v.take (n + 1)).eraseIdx 0 ∧ v.getD 0 0 = (v.take (n + 1)).getD 0 0 ∧ (v.take (n + 1)).length = n + 1 := by
  match v, hv, n, hn with
  | [_, _, _, _, _, _, _, _], _, 0, _ | [_, _, _, _, _, _, _, _], _, 1, _ | [_, _, _, _, _, _, _, _], _, 2, _ | [_, _, _, _, _, _, _, _], _, 3, _ | [_, _, _, _, _, _, _, _], _, 4, _ | [_, _, _, _, _, _, _, _], _, 5, _ | [_, _, _, _, _, _, _, _], _, 6, _ | [_, _, _, _, _, _, _, _], _, 7, _ => exact ⟨rfl, rfl, rfl⟩
theorem take_last {v : List Int} (hv : v.length = 8) {n : Nat} (hn : n < 8) : (v.set n 0).take n = (v.take (n + 1)).eraseIdx ((v.take (n + 1)).length - 1) ∧ v.getD n 0 = (v.take (n + 1)).getD ((v.take (n + 1)).length - 1) 0 := by
  match v, hv, n, hn with
  | [_, _, _, _, _, _, _, _], _, 0, _ | [_, _, _, _, _, _, _, _], _, 1, _ | [_, _, _, _, _, _, _, _], _, 2, _ | [_, _, _, _, _, _, _, _], _, 3, _ | [_, _, _, _, _, _, _, _], _, 4, _ | [_, _, _, _, _, _, _, _], _, 5, _ | [_, _, _, _, _, _, _, _], _, 6, _ | [_, _, _, _, _, _, _, _], _, 7, _ => exact ⟨rfl, rfl⟩
theorem do_rel {k : Int} (hk : k = 1 ∨ k = 2 ∨ k = 3 ∨ k = 4) {c : Cal} (hf : fieldsB k c = true) {x : Ct} {y : Th} (hr : RelX k x y) (hx : ¬ (k = 1 ∨ k = 2) → x.n < 8 ∨ c.act ≠ 4) :
    RelX k (doF k x c).1 (doR k y c).1 ∧ (!tellF c (doF k x c)) = (doR k y c).2 := by
  obtain ⟨hd, ho, he⟩ := fields_parts hf
  have hout : tells c = false → c.out = 0 := fun h => Classical.byContradiction fun h0 => by have := (ho h0).1; rw [h] at this; cases this
  obtain ⟨hv, hr⟩ := hr
  by_cases h12 : k = 1 ∨ k = 2
  · rw [if_pos h12] at hr
    subst hr
    have hemp : c.act ≠ 5 → c.empty = false := fun h => by cases hz : c.empty with | false => rfl | true => exact absurd (he hz) h
    have ha : c.act = 1 ∨ c.act = 2 ∨ c.act = 3 := by
      rcases h12 with rfl | rfl <;> simp [doesB] at hd <;> omega
    rw [show doF k x c = cellF x c from if_pos h12]
    rcases ha with h1 | h1 | h1
    · have e0 := hemp (by omega)
      simp only [cellF, doR, h1, if_true]
      refine ⟨⟨hv, by rw [if_pos h12]⟩, ?_⟩
      simp only [tellF, e0]
      cases c.fin != -1 <;> simp
      rw [Bool.eq_iff_iff]
      simp
      exact not_congr eq_comm
    · have e0 := hemp (by omega)
      have e1 := hout (by simp [tells, h1])
      rw [show cellF x c = (⟨x.n, x.v.set 0 c.inp⟩, 0, false) by simp [cellF, h1], show doR k ⟨x.v.getD 0 0, []⟩ c = (⟨c.inp, []⟩, true) by simp [doR, h1]]
      exact ⟨⟨by simpa using hv, by rw [if_pos h12]; simp only [set0 hv]⟩, tell_no e1 e0⟩
    · have e0 := hemp (by omega)
      have e1 := hout (by simp [tells, h1])
      rw [show cellF x c = (⟨x.n, x.v.set 0 (IntKind.i64.wrap (x.v.getD 0 0 + c.inp))⟩, 0, false) by simp [cellF, h1], show doR k ⟨x.v.getD 0 0, []⟩ c = (⟨IntKind.i64.wrap (x.v.getD 0 0 + c.inp), []⟩, true) by simp [doR, h1]]
      exact ⟨⟨by simpa using hv, by rw [if_pos h12]; simp only [set0 hv]⟩, tell_no e1 e0⟩
  · rw [if_neg h12] at hr
    obtain ⟨h0, h8, rfl⟩ := hr
    obtain ⟨xn, v⟩ := x
    simp only at hv h0 h8 hx
    obtain ⟨n, rfl⟩ : ∃ n : Nat, xn = n := ⟨xn.toNat, by omega⟩
    have hk34 : k = 3 ∨ k = 4 := by omega
    have ha : c.act = 4 ∨ c.act = 5 := by
      rcases hk34 with rfl | rfl <;> simpa [doesB] using hd
    rw [show doF k ⟨n, v⟩ c = listF (decide (k = 3)) ⟨n, v⟩ c from if_neg h12]
    simp only [Int.toNat_natCast]
    rcases ha with h1 | h1
    · have hn8 : n < 8 := by have := hx h12; omega
      have e0 : c.empty = false := by cases hz : c.empty with | false => rfl | true => exact absurd (he hz) (by omega)
      have e1 := hout (by simp [tells, h1])
      rw [show listF (decide (k = 3)) ⟨n, v⟩ c = (⟨(n : Int) + 1, v.set n c.inp⟩, 0, false) by simp [listF, h1], show doR k ⟨0, v.take n⟩ c = (⟨0, v.take n ++ [c.inp]⟩, true) by simp [doR, h1]]
      refine ⟨⟨by simpa using hv, ?_⟩, tell_no e1 e0⟩
      rw [if_neg h12]
      refine ⟨by simp only; omega, by simp only; omega, ?_⟩
      simp only
      rw [show ((n : Int) + 1).toNat = n + 1 by omega, put_list hv hn8]
    · match n with
      | 0 =>
        rw [show listF (decide (k = 3)) ⟨((0 : Nat) : Int), v⟩ c = (⟨0, v⟩, 0, true) by simp [listF, h1], show doR k ⟨0, v.take 0⟩ c = (⟨0, []⟩, !(c.fin != -1) || c.empty) by simp [doR, h1]]
        refine ⟨⟨hv, ?_⟩, ?_⟩
        · rw [if_neg h12]
          exact ⟨Int.le_refl 0, (by decide : (0 : Int) ≤ 8), rfl⟩
        · simp only [tellF]
          cases hz : c.empty with
          | true =>
            have e1 := hout (by simp [tells, h1, hz])
            simp [e1]
          | false => cases c.fin != -1 <;> simp
      | n + 1 =>
        have hn8 : n < 8 := by omega
        have e5 : ((n + 1 : Nat) : Int) - 1 = n := by omega
        have e6 : ¬ ((n + 1 : Nat) : Int) = 0 := by omega
        have hl : v.take (n + 1) ≠ [] := fun e => by have := (take_first hv hn8).2.2; rw [e] at this; simp at this
        have hR := doR_take (k := k) (x := ⟨0, v.take (n + 1)⟩) (c := c) (by omega) (by omega) (by omega) (by omega) hl
        rw [hR]
        have hF : listF (decide (k = 3)) ⟨((n + 1 : Nat) : Int), v⟩ c = (⟨(n : Int), (if k = 3 then shiftL v else v).set n 0⟩, if k = 3 then v.getD 0 0 else v.getD n 0, false) := by
          simp only [listF, h1, e6, e5, if_false, Int.toNat_natCast, decide_eq_true_eq]
          simp
        rw [hF]
        rcases hk34 with rfl | rfl
        · obtain ⟨t1, t2, _⟩ := take_first hv hn8
          simp only [if_true, show ¬ (3 : Int) = 4 by decide, if_false]
          refine ⟨⟨by simp [shiftL, hv], ?_⟩, ?_⟩
          · rw [if_neg h12]
            exact ⟨by simp only; omega, by simp only; omega, by simp only [Int.toNat_natCast, t1]⟩
          · simp only [tellF, ← t2]
            cases c.fin != -1 <;> cases c.empty <;> simp
            rw [Bool.eq_iff_iff]
            simp
            exact not_congr eq_comm
        · obtain ⟨t1, t2⟩ := take_last hv hn8
          simp only [if_true, show ¬ (4 : Int) = 3 by decide, if_false]
          refine ⟨⟨by simpa using hv, ?_⟩, ?_⟩
          · rw [if_neg h12]
            exact ⟨by simp only; omega, by simp only; omega, by simp only [Int.toNat_natCast, t1]⟩
          · simp only [tellF, ← t2]
            cases c.fin != -1 <;> cases c.empty <;> simp
            rw [Bool.eq_iff_iff]
            simp
            exact not_congr eq_comm
end Go.Ab

/- The program's search and the reference's find the same, step by step. -/
set_option autoImplicit false
set_option linter.unusedSimpArgs false
set_option linter.unusedVariables false
namespace Go.Ab
open Go.Proofs
section
variable {k : Int} {tm : Bool} {h : List Cal}
theorem hist_fields (hok : okHist k h) {i : Nat} (hi : i < h.length) : fieldsB k (calAt h i) = true := (hok.2.2.2 i hi).1
theorem cross_comm (a b : Cal) : cross a b = cross b a := by
  simp only [cross]
  rw [show (b.go == a.go) = (a.go == b.go) from Bool.beq_comm, Bool.and_assoc, Bool.and_assoc, Bool.and_comm (!ahd b a)]
theorem hist_cross (hok : okHist k h) {i j : Nat} (hi : i < h.length) (hj : j < h.length) (hij : i ≠ j) : cross (calAt h i) (calAt h j) = false := by
  rcases Nat.lt_or_ge j i with h1 | h1
  · exact ((hok.2.2.2 i hi).2 j h1).2
  · rw [cross_comm]; exact ((hok.2.2.2 j hj).2 i (by omega)).2
theorem first_ended (hok : okHist k h) {i j : Nat} (hi : i < h.length) (hj : j < h.length) (hij : i ≠ j) (hf : fstR tm (calAt h i) (calAt h j) = true) : ((calAt h i).fin != -1) = true := by
  cases tm with
  | true =>
    have : ahd (calAt h i) (calAt h j) = true := hf
    simp only [ahd, Bool.and_eq_true] at this
    exact this.1
  | false =>
    have h1 : trn (calAt h i) (calAt h j) = true := hf
    simp only [trn, Bool.and_eq_true, decide_eq_true_eq] at h1
    have h2 := hist_cross hok hi hj hij
    simp only [cross, h1.1, Bool.true_and, Bool.and_eq_false_iff, Bool.not_eq_false'] at h2
    rcases h2 with h2 | h2
    · simp only [ahd, Bool.and_eq_true] at h2
      exact h2.1
    · exfalso
      simp only [ahd, Bool.and_eq_true, decide_eq_true_eq, bne_iff_ne] at h2
      have h3 := (fields_mom (hist_fields hok hj)).2
      omega
/-- With each that is done, what must stand ahead of it is. -/
def Closed (tm : Bool) (h : List Cal) (m : Nat) : Prop := ∀ i j, i < h.length → j < h.length → i ≠ j → fstR tm (calAt h i) (calAt h j) = true → m.testBit j = true → m.testBit i = true
theorem closed_zero : Closed tm h 0 := fun i j _ _ _ _ hb => by simp at hb
theorem closed_set {m i : Nat} (hc : Closed tm h m) (hi : i < h.length) (hm : mayB (fstR tm) h m i = true) : Closed tm h (m ||| 1 <<< i) := by
  intro a b ha hb hab hf hbit
  rw [bit_or, Bool.or_eq_true] at hbit ⊢
  rcases hbit with h1 | h1
  · exact .inl (hc a b ha hb hab hf h1)
  · obtain rfl : i = b := by simpa using h1
    left
    have := allTo_iff.1 hm a ha
    rw [hf] at this
    cases hz : m.testBit a with
    | true => rfl
    | false => simp [hz, hab] at this
theorem may_eq (hok : okHist k h) {m i : Nat} (hc : Closed tm h m) (hi : i < h.length) (hb : m.testBit i = false) : mayR tm h m i = mayB (fstR tm) h m i := by
  rw [mayR, hb, mayB, Bool.not_false, Bool.true_and, Bool.eq_iff_iff, allTo_iff, allTo_iff]
  refine forall_congr' fun j => forall_congr' fun hj => ?_
  by_cases hji : j = i
  · simp [hji]
  · have e1 : fstR tm (calAt h j) (calAt h i) = true → ((calAt h j).fin != -1) = true := first_ended hok hj hi hji
    have e2 : fstR tm (calAt h i) (calAt h j) = true → m.testBit j = true → False := fun h1 h2 => by
      have := hc i j hi hj (Ne.symm hji) h1 h2
      rw [hb] at this; cases this
    cases hz1 : fstR tm (calAt h j) (calAt h i) <;> cases hz2 : fstR tm (calAt h i) (calAt h j) <;> cases hz3 : m.testBit j <;> simp_all
theorem notNext_eq {m i : Nat} {x : Ct} : notNext k (fstR tm) h m i x = !(mayB (fstR tm) h m i && !tellF (calAt h i) (doF k x (calAt h i))) := by
  simp only [notNext, tellF]
  cases mayB (fstR tm) h m i <;> simp
theorem step_rel (hok : okHist k h) {m i : Nat} {x : Ct} {y : Th} (hc : Closed tm h m) (hr : RelX k x y) (hx : okX k h m x) (hi : i < h.length) :
    (stepF k (fstR tm) h m x i = none ∧ stepR k tm h m y i = none) ∨ ∃ x' y', stepF k (fstR tm) h m x i = some x' ∧ stepR k tm h m y i = some y' ∧ RelX k x' y' ∧ Closed tm h (m ||| 1 <<< i) ∧ okX k h (m ||| 1 <<< i) x' := by
  have hk : k = 1 ∨ k = 2 ∨ k = 3 ∨ k = 4 := by have := hok.1; have := hok.2.1; omega
  cases hb : m.testBit i with
  | true =>
    left
    simp [stepF, stepR, mayR, hb]
  | false =>
    have hd := do_rel hk (hist_fields hok hi) hr (fun h12 => by
      have h1 := hx.2 h12
      have h2 := opens_set hi hb
      left; omega)
    simp only [stepF, stepR, hb, Bool.false_eq_true, if_false, notNext_eq, may_eq hok hc hi hb, ← hd.2]
    cases hm : mayB (fstR tm) h m i with
    | false => left; simp
    | true =>
      cases ht : tellF (calAt h i) (doF k x (calAt h i)) with
      | true => left; simp
      | false =>
        right
        exact ⟨_, _, by simp, by simp, hd.1, closed_set hc hi hm, okX_step hx hi hb⟩
theorem path_eq (hok : okHist k h) : ∀ (n m : Nat) (x : Ct) (y : Th), Closed tm h m → RelX k x y → okX k h m x → pathG h (stepF k (fstR tm) h) n m x = pathG h (stepR k tm h) n m y
  | 0, _, _, _, _, _, _ => rfl
  | n + 1, m, x, y, hc, hr, hx => by
    simp only [pathG]
    split
    · rfl
    · have key : ∀ l : List Nat, (∀ i ∈ l, i < h.length) → tryG (stepF k (fstR tm) h) (pathG h (stepF k (fstR tm) h) n) m x l = tryG (stepR k tm h) (pathG h (stepR k tm h) n) m y l := by
        intro l
        induction l with
        | nil => intro _; rfl
        | cons i r ih =>
          intro hl
          have ih := ih (fun j hj => hl j (List.mem_cons_of_mem _ hj))
          simp only [tryG]
          rcases step_rel hok hc hr hx (hl i (by simp)) with ⟨e1, e2⟩ | ⟨x', y', e1, e2, h1, h2, h3⟩
          · rw [e1, e2]; exact ih
          · rw [e1, e2]
            simp only
            rw [path_eq hok n _ x' y' h2 h1 h3, ih]
      exact key _ (fun i hi => by simp at hi; omega)
theorem rel_zero {k : Int} : RelX k (beginF k) th0 := by
  refine ⟨rfl, ?_⟩
  split
  · rfl
  · rename_i hk
    rw [show (beginF k).n = 0 from if_neg hk]
    exact ⟨by decide, by decide, rfl⟩
theorem firsts_eq (hok : okHist k h) : (firstF k (fstR tm) h).1 = (firstR k tm h).1 := by
  rw [firstF_path hok.2.2.1, firstR_path hok.2.2.1, path_eq hok 9 0 (beginF k) th0 closed_zero rel_zero (first_ok hok.2.2.1).2.1]
end
end Go.Ab

/- What a trace's notes tell: the model. -/
set_option autoImplicit false
set_option linter.unusedSimpArgs false
set_option linter.unusedVariables false
namespace Go.Ab
open Go.Proofs
def isOpen (h : List Cal) (g : Int) (j : Nat) : Bool := (calAt h j).go == g && (calAt h j).fin == -1
def openJ (h : List Cal) (g : Int) : Nat → Int
  | 0 => -1
  | j + 1 => if isOpen h g j then (j : Int) else openJ h g j
abbrev openI (h : List Cal) (g : Int) : Int := openJ h g h.length
theorem openJ_none {h : List Cal} {g : Int} : ∀ {n : Nat}, openJ h g n = -1 ↔ ∀ j, j < n → isOpen h g j = false
  | 0 => by simp [openJ]
  | n + 1 => by
    rw [openJ]
    by_cases e : isOpen h g n = true
    · rw [if_pos e]
      constructor
      · intro h1; omega
      · intro h1; rw [h1 n (by omega)] at e; cases e
    · rw [if_neg e, openJ_none]
      constructor
      · intro h1 j hj
        rcases Nat.lt_or_ge j n with h2 | h2
        · exact h1 j h2
        · obtain rfl : j = n := by omega
          simpa using e
      · exact fun h1 j hj => h1 j (by omega)
theorem openJ_some {h : List Cal} {g : Int} : ∀ {n : Nat}, openJ h g n ≠ -1 → ∃ j : Nat, j < n ∧ openJ h g n = j ∧ isOpen h g j = true
  | 0, e => absurd rfl e
  | n + 1, e => by
    rw [openJ] at e ⊢
    by_cases h1 : isOpen h g n = true
    · rw [if_pos h1]; exact ⟨n, by omega, rfl, h1⟩
    · rw [if_neg h1] at e ⊢
      obtain ⟨j, h2, h3, h4⟩ := openJ_some e
      exact ⟨j, by omega, h3, h4⟩
/-- Of each goroutine one is open at most. -/
def OneOpen (h : List Cal) : Prop := ∀ g a b, a < h.length → b < h.length → isOpen h g a = true → isOpen h g b = true → a = b
/-- A note that tells nothing. -/
def skipE (e : Evt) : Bool := e.op != 65 || decide (e.tag < 11) || decide (e.tag > 53) || decide (e.tag.tmod 10 < 1) || decide (e.tag.tmod 10 > 3) || (e.tag.tmod 10 == 3 && e.tag != 53)
def newC (i : Nat) (e : Evt) : Cal := ⟨e.go, e.tag.tdiv 10, if e.tag.tdiv 10 ≠ 1 ∧ e.tag.tdiv 10 ≠ 5 then e.val else 0, 0, false, 2 * (i : Int), -1⟩
def endC (i : Nat) (e : Evt) (c : Cal) : Cal := { c with fin := 2 * (i : Int), empty := e.tag == 53, out := if (e.tag.tdiv 10 = 1 ∨ e.tag.tdiv 10 = 5) ∧ e.tag ≠ 53 then e.val else c.out }
def stepN (i : Nat) (e : Evt) (h : List Cal) : Option (List Cal) :=
  if skipE e then some h
  else if e.tag.tmod 10 = 1 then (if openI h e.go ≠ -1 ∨ h.length = 8 then none else some (h ++ [newC i e]))
  else if openI h e.go = -1 then none
  else if (calAt h (openI h e.go).toNat).act ≠ e.tag.tdiv 10 then none
  else some (h.set (openI h e.go).toNat (endC i e (calAt h (openI h e.go).toNat)))
def notedTo (t : List Evt) : Nat → Option (List Cal)
  | 0 => some []
  | i + 1 => (notedTo t i).bind (stepN i (eAt t i))
theorem noted_none {t : List Evt} {i : Nat} (e : notedTo t i = none) : ∀ j, i ≤ j → notedTo t j = none
  | 0, hj => by obtain rfl : i = 0 := by omega
                exact e
  | j + 1, hj => by
    by_cases h1 : i = j + 1
    · subst h1; exact e
    · rw [notedTo, noted_none e j (by omega)]; rfl
def notedF (t : List Evt) : List Cal × Int := if chkE t ≠ 0 then ([], chkE t) else match notedTo t t.length with
  | some h => (h, 0)
  | none => ([], 260)
end Go.Ab

/- What a trace's notes tell: which are open. -/
set_option autoImplicit false
set_option linter.unusedSimpArgs false
set_option linter.unusedVariables false
namespace Go.Ab
open Go.Proofs
theorem openJ_congr {h h' : List Cal} {g g' : Int} : ∀ {n : Nat}, (∀ j, j < n → isOpen h g j = isOpen h' g' j) → openJ h g n = openJ h' g' n
  | 0, _ => rfl
  | n + 1, H => by rw [openJ, openJ, H n (by omega), openJ_congr (fun j hj => H j (by omega))]
theorem calAt_app {h : List Cal} {c : Cal} {j : Nat} (hj : j < h.length) : calAt (h ++ [c]) j = calAt h j := by
  simp only [calAt, List.getD_eq_getElem?_getD, List.getElem?_append_left hj]
theorem calAt_new {h : List Cal} {c : Cal} : calAt (h ++ [c]) h.length = c := by
  simp [calAt, List.getD_eq_getElem?_getD]
theorem calAt_set {h : List Cal} {c : Cal} {k j : Nat} (hk : k < h.length) : calAt (h.set k c) j = if j = k then c else calAt h j := by
  simp only [calAt, List.getD_eq_getElem?_getD, List.getElem?_set]
  by_cases e : k = j
  · subst e; simp [hk]
  · rw [if_neg e, if_neg (Ne.symm e)]
theorem open_app {h : List Cal} {c : Cal} (hf : c.fin = -1) (g : Int) : openI (h ++ [c]) g = if c.go = g then (h.length : Int) else openI h g := by
  have e : (h ++ [c]).length = h.length + 1 := by simp
  rw [openI, e, openJ]
  have h1 : isOpen (h ++ [c]) g h.length = (c.go == g) := by
    rw [isOpen, calAt_new, hf]; simp
  rw [h1]
  by_cases hg : c.go = g
  · simp [hg]
  · rw [if_neg (by simpa using hg), if_neg hg]
    exact openJ_congr (fun j hj => by rw [isOpen, isOpen, calAt_app hj])
theorem open_at {h : List Cal} {g : Int} (e : openI h g ≠ -1) : ∃ k : Nat, k < h.length ∧ openI h g = k ∧ (calAt h k).go = g ∧ (calAt h k).fin = -1 := by
  obtain ⟨j, h1, h2, h3⟩ := openJ_some e
  simp only [isOpen, Bool.and_eq_true, beq_iff_eq] at h3
  exact ⟨j, h1, h2, h3.1, h3.2⟩
theorem open_set {h : List Cal} {c : Cal} {k : Nat} {g : Int} (ho : OneOpen h) (hk : k < h.length) (hg : (calAt h k).go = g) (hop : (calAt h k).fin = -1) (hf : c.fin ≠ -1) (g' : Int) : openI (h.set k c) g' = if g' = g then -1 else openI h g' := by
  have e : (h.set k c).length = h.length := by simp
  rw [openI, e]
  have hcl : isOpen (h.set k c) g' k = false := by rw [isOpen, calAt_set hk, if_pos rfl]; simp [hf]
  by_cases hgg : g' = g
  · subst hgg
    rw [if_pos rfl]
    refine openJ_none.2 (fun j hj => ?_)
    by_cases hjk : j = k
    · subst hjk; exact hcl
    · rw [isOpen, calAt_set hk, if_neg hjk]
      cases hz : isOpen h g' j with
      | false => exact hz
      | true => exact absurd (ho g' j k hj hk hz (by simp [isOpen, hg, hop])) hjk
  · rw [if_neg hgg]
    refine openJ_congr (fun j hj => ?_)
    by_cases hjk : j = k
    · subst hjk
      rw [hcl, isOpen, hg]
      have : (g == g') = false := by simpa using Ne.symm hgg
      rw [this]; rfl
    · rw [isOpen, isOpen, calAt_set hk, if_neg hjk]
theorem one_app {h : List Cal} {c : Cal} (ho : OneOpen h) (hn : openI h c.go = -1) : OneOpen (h ++ [c]) := by
  have hno := openJ_none.1 hn
  intro g a b ha hb h1 h2
  have e : (h ++ [c]).length = h.length + 1 := by simp
  rw [e] at ha hb
  have key : ∀ j, j < h.length → isOpen (h ++ [c]) g j = isOpen h g j := fun j hj => by rw [isOpen, isOpen, calAt_app hj]
  have knew : isOpen (h ++ [c]) g h.length = true → c.go = g := fun h3 => by
    rw [isOpen, calAt_new] at h3
    simp only [Bool.and_eq_true, beq_iff_eq] at h3
    exact h3.1
  rcases Nat.lt_or_ge a h.length with ha' | ha' <;> rcases Nat.lt_or_ge b h.length with hb' | hb'
  · rw [key a ha'] at h1; rw [key b hb'] at h2
    exact ho g a b ha' hb' h1 h2
  · obtain rfl : b = h.length := by omega
    have := hno a ha'
    rw [key a ha', ← knew h2, this] at h1; cases h1
  · obtain rfl : a = h.length := by omega
    have := hno b hb'
    rw [key b hb', ← knew h1, this] at h2; cases h2
  · omega
theorem one_set {h : List Cal} {c : Cal} {k : Nat} (ho : OneOpen h) (hk : k < h.length) (hf : c.fin ≠ -1) : OneOpen (h.set k c) := by
  intro g a b ha hb h1 h2
  rw [List.length_set] at ha hb
  have key : ∀ j, isOpen (h.set k c) g j = true → isOpen h g j = true := fun j hj => by
    rw [isOpen, calAt_set hk] at hj
    by_cases e : j = k
    · rw [if_pos e] at hj; simp [hf] at hj
    · rw [if_neg e] at hj; exact hj
  exact ho g a b ha hb (key a h1) (key b h2)
end Go.Ab

/- What a trace's notes tell: the program's array. -/
set_option autoImplicit false
set_option linter.unusedSimpArgs false
set_option linter.unusedVariables false
namespace Go.Ab
open Go.Proofs
def arrO (h : List Cal) : List Int := (List.range 6).map fun g : Nat => openI h (g : Int) + 1
theorem arrO_len (h : List Cal) : (arrO h).length = 6 := by simp [arrO]
theorem arrO_get {h : List Cal} {g : Nat} (hg : g < 6) : (arrO h).getD g 0 = openI h (g : Int) + 1 := by
  simp [arrO, List.getD_eq_getElem?_getD, hg]
theorem arrO_app {h : List Cal} {c : Cal} {g : Nat} (hf : c.fin = -1) (hg : c.go = g) : (arrO h).set g ((h.length : Int) + 1) = arrO (h ++ [c]) := by
  refine List.ext_getElem (by simp [arrO]) (fun q h1 h2 => ?_)
  have hq : q < 6 := by simpa [arrO] using h2
  rw [List.getElem_set]
  simp only [arrO, List.getElem_map, List.getElem_range, open_app hf, hg]
  by_cases e : g = q
  · subst e; simp
  · rw [if_neg e, if_neg (by omega)]
theorem arrO_set {h : List Cal} {c : Cal} {k g : Nat} (ho : OneOpen h) (hk : k < h.length) (hg : (calAt h k).go = g) (hop : (calAt h k).fin = -1) (hf : c.fin ≠ -1) : (arrO h).set g 0 = arrO (h.set k c) := by
  refine List.ext_getElem (by simp [arrO]) (fun q h1 h2 => ?_)
  have hq : q < 6 := by simpa [arrO] using h2
  rw [List.getElem_set]
  simp only [arrO, List.getElem_map, List.getElem_range, open_set ho hk hg hop hf]
  by_cases e : g = q
  · subst e; simp
  · rw [if_neg e, if_neg (by omega)]
end Go.Ab

/- speaks. -/
set_option autoImplicit false
set_option maxRecDepth 20000
set_option linter.unusedSimpArgs false
set_option linter.unusedVariables false
namespace Go.Ab
open Go.Proofs
def spA : Cal := ⟨0, 2, 1, 0, false, 0, 3⟩
def spB : Cal := ⟨1, 1, 0, 0, false, 1, 2⟩
def spC : Cal := ⟨1, 1, 0, 0, false, 4, 5⟩
theorem two_hist {a b : Cal} (h1 : fieldsB 1 a = true) (h2 : fieldsB 1 b = true) (h3 : clash b a = false) (h4 : cross b a = false) : okHist 1 [a, b] := by
  refine ⟨by decide, by decide, by simp, fun i hi => ?_⟩
  match i, hi with
  | 0, _ => exact ⟨h1, fun m hm => by omega⟩
  | 1, _ =>
    refine ⟨h2, fun m hm => ?_⟩
    obtain rfl : m = 0 := by omega
    exact ⟨h3, h4⟩
theorem sp1 : linF 1 ahd [spA, spB] = ([1, 0], true, 0) := by
  rw [linF_ok (two_hist (by decide) (by decide) (by decide) (by decide))]
  rfl
theorem sp2 : linF 1 ahd [spA, spC] = ([], false, 0) := by
  rw [linF_ok (two_hist (by decide) (by decide) (by decide) (by decide))]
  rfl
theorem sp3 : refCheck 9 [] = 260 := (refCheck_bad (fun h => by have := h.2.1; omega)).symm
theorem cal_built {c : Cal} {x : AV} (h : ∃ g, x = .agg 30 7 g ∧ ∀ i, i < 7 → g i = ([.int c.go, .int c.act, .int c.inp, .int c.out, .bool c.empty, .int c.bgn, .int c.fin] : List AV).getD i .bad) (h7 : ∀ g, x = .agg 30 7 g → ∀ i, 7 ≤ i → g i = .bad) : x = encCal c := by
  obtain ⟨g, rfl, h⟩ := h
  refine agg_ext (fun i => ?_)
  rcases Nat.lt_or_ge i 7 with hi | hi
  · exact h i hi
  · rw [h7 g rfl i hi]
    simp [hi]
theorem speaks_ac  : AC Try.prog T tysN 11 [] [] (.bool true) [] := by
  refine AC_intro hT Try.func11 rfl rfl (Nat.le_of_ble_eq_true rfl) ?_
  refine WP.seq ?_
  refine WP.reg hT hE [] rfl ?_ ?_
  · first | trivial | (simp [holdsC, under, slOk, slB, capEq] <;> grind)
  refine WP.seq ?_
  refine WP.reg hT hE [CG.mine] rfl ?_ ?_
  · first | trivial | (simp [holdsC, under, slOk, slB, capEq] <;> grind)
  refine WP.seq ?_
  refine WP.ent (st' := mkSt [(1, ownC (.s 10 0) [spA, spB])] [(.s 10 0, obC [spA, spB])]) ?_ ?_
  · refine Ent.mk hT [] trivial ⟨⟨rfl, _, rfl, by first | exact conv_eq rfl | (refine conv_eq ?_; rw [wrap_id (by omega) (by omega)]; simp; done) | (refine conv_eq ?_; simp; done)⟩, trivial⟩ ⟨ob_list (okIds_cal _) rfl rfl rfl rfl rfl (fun q hq => by match q, hq with | 0, _ => exact (agg_ext (fun i => by match i with | 0 | 1 | 2 | 3 | 4 | 5 | 6 => rfl | i + 7 => rfl)) | 1, _ => exact (agg_ext (fun i => by match i with | 0 | 1 | 2 | 3 | 4 | 5 | 6 => rfl | i + 7 => rfl))), trivial⟩ rfl
  refine WP.reg hT hE [⟨true, [.s 10 0], encR3 ([1, 0], true, 0), [obC [spA, spB]]⟩] rfl ?_ ?_
  · refine ⟨⟨okO_C _ _, trivial⟩, ⟨okO_C _ _, trivial⟩, ?_⟩
    simp only [List.map, renO_C]
    have h := linear_own 1 [spA, spB]
    rw [sp1] at h
    exact h
  refine WP.seq ?_
  refine WP.reg hT hE [] rfl ?_ ?_
  · simp [holdsC, under, cellsL, renO]
  refine WP.seq ?_
  refine WP.reg hT hE [] rfl ?_ ?_
  · simp [holdsC, under, cellsL, renO]
  refine WP.seq ?_
  refine WP.ent (st' := mkSt [(1, ownC (.s 10 0) [spA, spC]), (2, ints false [1, 0]), (3, .bool true), (4, .int 0)] [(.s 10 0, obC [spA, spC])]) ?_ ?_
  · refine Ent.mk hT [] trivial ⟨⟨rfl, _, rfl, by first | exact conv_eq rfl | (refine conv_eq ?_; rw [wrap_id (by omega) (by omega)]; simp; done) | (refine conv_eq ?_; simp; done)⟩, ⟨rfl, _, rfl, by first | exact conv_eq rfl | (refine conv_eq ?_; rw [wrap_id (by omega) (by omega)]; simp; done) | (refine conv_eq ?_; simp; done)⟩, ⟨rfl, _, rfl, by first | exact conv_eq rfl | (refine conv_eq ?_; rw [wrap_id (by omega) (by omega)]; simp; done) | (refine conv_eq ?_; simp; done)⟩, ⟨rfl, _, rfl, by first | exact conv_eq rfl | (refine conv_eq ?_; rw [wrap_id (by omega) (by omega)]; simp; done) | (refine conv_eq ?_; simp; done)⟩, trivial⟩ ⟨ob_list (okIds_cal _) rfl rfl rfl rfl rfl (fun q hq => by match q, hq with | 0, _ => exact (agg_ext (fun i => by match i with | 0 | 1 | 2 | 3 | 4 | 5 | 6 => rfl | i + 7 => rfl)) | 1, _ => exact (agg_ext (fun i => by match i with | 0 | 1 | 2 | 3 | 4 | 5 | 6 => rfl | i + 7 => rfl))), trivial⟩ rfl
  refine WP.reg hT hE [⟨true, [.s 10 0], encR3 ([], false, 0), [obC [spA, spC]]⟩] rfl ?_ ?_
  · refine ⟨⟨okO_C _ _, trivial⟩, ⟨okO_C _ _, trivial⟩, ?_⟩
    simp only [List.map, renO_C]
    have h := linear_own 1 [spA, spC]
    rw [sp2] at h
    exact h
  refine WP.seq ?_
  refine WP.reg hT hE [CG.pure (.bool true), CG.pure (.int 260)] rfl ?_ ?_
  · have h1 := AC.conv hT (sameInts_ac false true [1, 0] [1, 0]) (args := [ints false [1, 0], .row 3 true 2 (partG [(0, .int 1), (1, .int 0)] (.int 0))]) ⟨_, _, rfl, conv_eq rfl, _, _, rfl, conv_rowL (fun h => h) (fun j hj => by match j, hj with | 0, _ => rfl | 1, _ => rfl), rfl⟩
    have h2 := AC.conv hT (lcheck_ac 9 false []) (args := [.int 9, .nils]) ⟨_, _, rfl, conv_eq rfl, _, _, rfl, conv_nil_row (e := 30) (by decide), rfl⟩
    rw [sp3] at h2
    simp [holdsC, under, CG.pure]
    exact ⟨h1, h2⟩
  refine WP.ret ?_
  change Fin _ _ _ _ _ _ _ _
  exact fin1 hT (by rfl) rfl
end Go.Ab


/- LinearParts. -/
set_option autoImplicit false
set_option maxRecDepth 20000
set_option linter.unusedSimpArgs false
set_option linter.unusedVariables false
namespace Go.Ab
open Go.Proofs
theorem cut_put {c : Cal} : (((encCal c).put [6] (.int (-1))).put [3] (.int 0)).put [4] (.bool false) = encCal { c with fin := -1, out := 0, empty := false } := by
  rw [encCal, stru_put (by simp), stru_put (by simp), stru_put (by simp)]
  rfl
theorem refCheck_zero {k : Int} {h : List Cal} : refCheck k h = 0 ↔ okHist k h := by
  unfold refCheck
  split <;> simp [*]
theorem parts_ac (k : Int) (g : Bool) (h : List Cal) (mo : Int) : AC Try.prog T tysN 3 [.int k, cals g h, .int mo] [] (.bool true) [] := by
  refine AC_intro hT Try.func3 rfl rfl (Nat.le_of_ble_eq_true rfl) ?_
  refine WP.seq ?_
  refine WP.reg hT hE [] rfl ?_ ?_
  · first | trivial | (simp [holdsC, under, slOk, slB, capEq] <;> grind)
  refine WP.seq ?_
  refine WP.reg hT hE [CG.pure (encR3 (linF k ahd h))] rfl ?_ ?_
  · exact linear_ac k g h
  refine WP.seq ?_
  refine WP.seq ?_
  refine WP.reg hT hE [CG.pure (.int (refCheck k h))] rfl ?_ ?_
  · have hr := refCheck_ac g k h
    simp [holdsC, under, CG.pure]
    exact hr
  refine WP.cond rfl (fun h2 => ?_) (fun h2 => ?_)
  · simp only [bor] at h2
    refine WP.seq ?_
    refine WP.reg hT hE [CG.pure (.int (refCheck k h)), CG.pure (.bool true)] rfl ?_ ?_
    · have hr := refCheck_ac g k h
      have hs := speaks_ac
      simp [holdsC, under, CG.pure]
      exact ⟨hr, fun _ => hs⟩
    refine WP.ret ?_
    change Fin _ _ _ _ _ _ _ _
    refine fin1 hT rfl ?_
    by_cases hok : okHist k h
    · simp [linF_ok hok, refCheck_zero.2 hok]
    · have : refCheck k h ≠ 0 := fun e => hok (refCheck_zero.1 e)
      simp [linF_bad hok, this]
  · simp only [bor, Bool.or_eq_false_iff, bne_eq_false_iff_eq, Bool.not_eq_false'] at h2
    have hok : okHist k h := refCheck_zero.1 h2.1
    have hl8 := hok.2.2.1
    have hfound : (firstF k ahd h).1.2 = true := by
      have := h2.2
      rw [linF_ok hok] at this
      exact this
    have hlaw := parts_law mo hok hfound
    refine WP.skip ?_
    refine WP.seq ?_
    refine WP.reg hT hE [] rfl ?_ ?_
    · first | trivial | (simp [holdsC, under, slOk, slB, capEq] <;> grind)
    refine WP.seq ?_
    refine WP.seq ?_
    refine WP.reg hT hE [] rfl ?_ ?_
    · first | trivial | (simp [holdsC, under, slOk, slB, capEq] <;> grind)
    refine WP.block ?_
    refine WP.loop (α := Nat) (fun i => mkSt [(0, .int k), (1, cals g h), (2, .int mo), (9, .int 0), (10, ownC (.s 65 0) (partTo h mo i)), (11, .int i)] [(.s 65 0, obC (partTo h mo i))]) (fun i => i ≤ h.length) (fun i => h.length - i) ?_ ?_
    · refine ⟨0, ?_, ?_⟩
      · exact Nat.zero_le _
      · refine Ent.mk hT [] trivial ⟨⟨rfl, _, rfl, by first | exact conv_eq rfl | (refine conv_eq ?_; rw [wrap_id (by omega) (by omega)]; simp; done) | (refine conv_eq ?_; simp; done)⟩, ⟨rfl, _, rfl, by first | exact conv_eq rfl | (refine conv_eq ?_; rw [wrap_id (by omega) (by omega)]; simp; done) | (refine conv_eq ?_; simp; done)⟩, ⟨rfl, _, rfl, by first | exact conv_eq rfl | (refine conv_eq ?_; rw [wrap_id (by omega) (by omega)]; simp; done) | (refine conv_eq ?_; simp; done)⟩, ⟨rfl, _, rfl, conv_eq (by rw [linF_ok hok])⟩, ⟨rfl, _, rfl, conv_nil_own⟩, ⟨rfl, _, rfl, by first | exact conv_eq rfl | (refine conv_eq ?_; rw [wrap_id (by omega) (by omega)]; simp; done) | (refine conv_eq ?_; simp; done)⟩, trivial⟩ ⟨⟨okO_C _ _, .inr ⟨rfl, 30, _, rfl, by decide⟩⟩, trivial⟩ rfl
    · rintro i hi
      refine WP.seq ?_
      refine WP.seq ?_
      refine WP.reg hT hE [] rfl ?_ ?_
      · first | trivial | (simp [holdsC, under, slOk, slB, capEq] <;> grind)
      refine WP.cond rfl (fun h6 => ?_) (fun h6 => ?_)
      · have hil : i < h.length := by simpa using h6
        have hpl : (partTo h mo i).length ≤ i := by
          have := List.length_filter_le (fun i => decide ((calAt h i).bgn ≤ mo)) (List.range i)
          simpa [partTo, idxTo] using this
        refine WP.skip ?_
        refine WP.seq ?_
        refine WP.block ?_
        refine WP.seq ?_
        refine WP.reg hT hE [] rfl ?_ ?_
        · first | trivial | (simp [holdsC, under, slOk, slB, capEq] <;> grind)
        refine WP.seq ?_
        refine WP.seq ?_
        refine WP.reg hT hE [] rfl ?_ ?_
        · first | trivial | (simp [holdsC, under, slOk, slB, capEq] <;> grind)
        refine WP.cond rfl (fun h9 => ?_) (fun h9 => ?_)
        · have hgt : ¬ (calAt h i).bgn ≤ mo := by simp at h9; show ¬ (h.getD i cal0).bgn ≤ mo; simp; omega
          have hps : partTo h mo (i + 1) = partTo h mo i := by rw [part_succ, if_neg hgt]
          refine WP.exit ?_
          refine WP.reg hT hE [] rfl ?_ ?_
          · first | trivial | (simp [holdsC, under, slOk, slB, capEq] <;> grind)
          refine ⟨i + 1, ?_, ?_, ?_⟩
          · exact hil
          · rw [hps]
            refine Ent.mk hT [] trivial ⟨⟨rfl, _, rfl, by first | exact conv_eq rfl | (refine conv_eq ?_; rw [wrap_id (by omega) (by omega)]; simp; done) | (refine conv_eq ?_; simp; done)⟩, ⟨rfl, _, rfl, by first | exact conv_eq rfl | (refine conv_eq ?_; rw [wrap_id (by omega) (by omega)]; simp; done) | (refine conv_eq ?_; simp; done)⟩, ⟨rfl, _, rfl, by first | exact conv_eq rfl | (refine conv_eq ?_; rw [wrap_id (by omega) (by omega)]; simp; done) | (refine conv_eq ?_; simp; done)⟩, ⟨rfl, _, rfl, by first | exact conv_eq rfl | (refine conv_eq ?_; rw [wrap_id (by omega) (by omega)]; simp; done) | (refine conv_eq ?_; simp; done)⟩, ⟨rfl, _, rfl, by first | exact conv_eq rfl | (refine conv_eq ?_; rw [wrap_id (by omega) (by omega)]; simp; done) | (refine conv_eq ?_; simp; done)⟩, ⟨rfl, _, rfl, by first | exact conv_eq rfl | (refine conv_eq ?_; rw [wrap_id (by omega) (by omega)]; simp; done) | (refine conv_eq ?_; simp; done)⟩, trivial⟩ ⟨ob_list (okIds_cal _) rfl rfl rfl rfl rfl (fun q hq => rfl), trivial⟩ rfl
          · (try simp only []); first | omega | grind
        · have hle : (calAt h i).bgn ≤ mo := by simp at h9; show (h.getD i cal0).bgn ≤ mo; simp; omega
          have hps : partTo h mo (i + 1) = partTo h mo i ++ [cutC mo (calAt h i)] := by rw [part_succ, if_pos hle]
          refine WP.skip ?_
          refine WP.seq ?_
          refine WP.seq ?_
          refine WP.reg hT hE [] rfl ?_ ?_
          · first | trivial | (simp [holdsC, under, slOk, slB, capEq] <;> grind)
          refine WP.cond rfl (fun h10 => ?_) (fun h10 => ?_)
          · have hcut : encCal (cutC mo (calAt h i)) = (((encCal (calAt h i)).put [6] (.int (-1))).put [3] (.int 0)).put [4] (.bool false) := by
              rw [cut_put]
              have : (calAt h i).fin > mo := by simp at h10; show (h.getD i cal0).fin > mo; simp; omega
              rw [cutC, if_pos this]
            refine WP.seq ?_
            refine WP.reg hT hE [] rfl ?_ ?_
            · first | trivial | (simp [holdsC, under, slOk, slB, capEq] <;> grind)
            refine WP.seq ?_
            refine WP.reg hT hE [] rfl ?_ ?_
            · first | trivial | (simp [holdsC, under, slOk, slB, capEq] <;> grind)
            refine WP.reg hT hE [] rfl ?_ ?_
            · first | trivial | (simp [holdsC, under, slOk, slB, capEq] <;> grind)
            refine WP.reg hT hE [] rfl ?_ ?_
            · have hb : (T 30).bytes = 56 := rfl
              simp [holdsC, under, hb, cellsL]; omega
            refine WP.reg hT hE [] rfl ?_ ?_
            · first | trivial | (simp [holdsC, under, slOk, slB, capEq] <;> grind)
            refine ⟨i + 1, ?_, ?_, ?_⟩
            · exact hil
            · rw [hps]
              refine Ent.mk hT [] trivial ⟨⟨rfl, _, rfl, by first | exact conv_eq rfl | (refine conv_eq ?_; rw [wrap_id (by omega) (by omega)]; simp; done) | (refine conv_eq ?_; simp; done)⟩, ⟨rfl, _, rfl, by first | exact conv_eq rfl | (refine conv_eq ?_; rw [wrap_id (by omega) (by omega)]; simp; done) | (refine conv_eq ?_; simp; done)⟩, ⟨rfl, _, rfl, by first | exact conv_eq rfl | (refine conv_eq ?_; rw [wrap_id (by omega) (by omega)]; simp; done) | (refine conv_eq ?_; simp; done)⟩, ⟨rfl, _, rfl, by first | exact conv_eq rfl | (refine conv_eq ?_; rw [wrap_id (by omega) (by omega)]; simp; done) | (refine conv_eq ?_; simp; done)⟩, ⟨rfl, _, rfl, conv_eq (by simp only [ownC, List.length_append, List.length_singleton])⟩, ⟨rfl, _, rfl, by first | exact conv_eq rfl | (refine conv_eq ?_; rw [wrap_id (by omega) (by omega)]; simp; done) | (refine conv_eq ?_; simp; done)⟩, trivial⟩ ⟨ob_list (okIds_cal _) rfl rfl (by simp only [List.length_append, List.length_singleton]) rfl rfl (appL (l := partTo h mo i) (x := cutC mo (calAt h i)) (z := (T 30).zero) rfl hcut.symm (fun q hq => rfl)), trivial⟩ rfl
            · (try simp only []); first | omega | grind
          · have hcut : encCal (cutC mo (calAt h i)) = encCal (calAt h i) := by
              have : ¬ (calAt h i).fin > mo := by simp at h10; show ¬ (h.getD i cal0).fin > mo; simp; omega
              rw [cutC, if_neg this]
            refine WP.skip ?_
            refine WP.reg hT hE [] rfl ?_ ?_
            · have hb : (T 30).bytes = 56 := rfl
              simp [holdsC, under, hb, cellsL]; omega
            refine WP.reg hT hE [] rfl ?_ ?_
            · first | trivial | (simp [holdsC, under, slOk, slB, capEq] <;> grind)
            refine ⟨i + 1, ?_, ?_, ?_⟩
            · exact hil
            · rw [hps]
              refine Ent.mk hT [] trivial ⟨⟨rfl, _, rfl, by first | exact conv_eq rfl | (refine conv_eq ?_; rw [wrap_id (by omega) (by omega)]; simp; done) | (refine conv_eq ?_; simp; done)⟩, ⟨rfl, _, rfl, by first | exact conv_eq rfl | (refine conv_eq ?_; rw [wrap_id (by omega) (by omega)]; simp; done) | (refine conv_eq ?_; simp; done)⟩, ⟨rfl, _, rfl, by first | exact conv_eq rfl | (refine conv_eq ?_; rw [wrap_id (by omega) (by omega)]; simp; done) | (refine conv_eq ?_; simp; done)⟩, ⟨rfl, _, rfl, by first | exact conv_eq rfl | (refine conv_eq ?_; rw [wrap_id (by omega) (by omega)]; simp; done) | (refine conv_eq ?_; simp; done)⟩, ⟨rfl, _, rfl, conv_eq (by simp only [ownC, List.length_append, List.length_singleton])⟩, ⟨rfl, _, rfl, by first | exact conv_eq rfl | (refine conv_eq ?_; rw [wrap_id (by omega) (by omega)]; simp; done) | (refine conv_eq ?_; simp; done)⟩, trivial⟩ ⟨ob_list (okIds_cal _) rfl rfl (by simp only [List.length_append, List.length_singleton]) rfl rfl (appL (l := partTo h mo i) (x := cutC mo (calAt h i)) (z := (T 30).zero) rfl hcut.symm (fun q hq => rfl)), trivial⟩ rfl
            · (try simp only []); first | omega | grind
      · have hil : i = h.length := by simp at h6; omega
        subst hil
        refine WP.exit ?_
        refine WP.seq ?_
        refine WP.ent (st' := mkSt [(0, .int k), (9, .int 0), (10, cals false (partF h mo))] []) ?_ ?_
        · refine Ent.mk hT [(.s 65 0, (partF h mo).length)] ⟨⟨_, rfl, Nat.le_refl _⟩, trivial⟩ ⟨⟨rfl, _, rfl, by first | exact conv_eq rfl | (refine conv_eq ?_; rw [wrap_id (by omega) (by omega)]; simp; done) | (refine conv_eq ?_; simp; done)⟩, ⟨rfl, _, rfl, by first | exact conv_eq rfl | (refine conv_eq ?_; rw [wrap_id (by omega) (by omega)]; simp; done) | (refine conv_eq ?_; simp; done)⟩, ⟨rfl, _, rfl, conv_row rfl rfl rfl (fun h => by cases h) (by simp [lookF, idbeq_self]) (fun j hj => ⟨noIds_cal _, .of_eq (by simp)⟩)⟩, trivial⟩ trivial rfl
        refine WP.reg hT hE [CG.pure (encR3 ((firstF k ahd (partF h mo)).1.1, true, 0))] rfl ?_ ?_
        · have hlin := linear_ac k false (partF h mo)
          rw [linF_ok hlaw.1, hlaw.2] at hlin
          exact hlin
        refine WP.seq ?_
        refine WP.reg hT hE [CG.pure (.bool true)] rfl ?_ ?_
        · have hs := speaks_ac
          simp [holdsC, under, CG.pure]
          exact hs
        refine WP.ret ?_
        change Fin _ _ _ _ _ _ _ _
        exact fin1 hT rfl rfl
end Go.Ab


/- linear.Noted. -/
set_option autoImplicit false
set_option maxRecDepth 20000
set_option linter.unusedSimpArgs false
set_option linter.unusedVariables false
namespace Go.Ab
open Go.Proofs
def encN (r : List Cal × Int) : AV := .tup [cals false r.1, .int r.2]
theorem chk_right {t : List Evt} (e : chkE t = 0) : t.length ≤ 256 ∧ ∀ i, i < t.length → 0 ≤ (eAt t i).go ∧ (eAt t i).go < 6 := by
  unfold chkE at e
  by_cases h1 : t.length > 256
  · rw [if_pos h1] at e; cases e
  · rw [if_neg h1] at e
    by_cases h2 : t.any badE = true
    · rw [if_pos h2] at e; cases e
    · refine ⟨by omega, fun i hi => ?_⟩
      have h3 : badE (eAt t i) = false := by
        cases hz : badE (eAt t i) with
        | false => rfl
        | true => exact absurd (anyE_yes hi hz) h2
      simp only [badE, Bool.not_eq_false', rightE, Bool.and_eq_true, decide_eq_true_eq] at h3
      omega
theorem fin_n {nt : Nat} {st : St} {r : List Cal × Int} {y : AV} (F : List (Id × Nat)) (hF : entF st F) (h2 : st.t 2 = some (.always, y)) (hy : Conv st.m (fun id => lookF id F) T y (cals false r.1)) (h3 : st.t 3 = some (.always, .int r.2)) : Fin T tysN nt 0 [.tmp 2, .tmp 3] (encN r) [] st :=
  fin_mk hT F (ts := [(2, cals false r.1), (3, .int r.2)]) (l := [cals false r.1, .int r.2]) (B' := []) hF ⟨⟨rfl, _, h2, hy⟩, ⟨rfl, _, h3, conv_eq rfl⟩, trivial⟩ trivial rfl (by rfl) (by rfl)
def midC (i : Nat) (e : Evt) (c : Cal) : Cal := { c with fin := 2 * (i : Int), empty := e.tag == 53 }
theorem skip_no {e : Evt} (h : skipE e = false) : e.op = 65 ∧ 11 ≤ e.tag ∧ e.tag ≤ 53 ∧ e.tag.tdiv 10 = e.tag / 10 ∧ e.tag.tmod 10 = e.tag % 10 ∧ 1 ≤ e.tag % 10 ∧ e.tag % 10 ≤ 3 ∧ (e.tag % 10 = 3 → e.tag = 53) := by
  simp only [skipE, Bool.or_eq_false_iff, bne_eq_false_iff_eq, decide_eq_false_iff_not, Bool.and_eq_false_iff, beq_eq_false_iff_ne] at h
  obtain ⟨⟨⟨⟨⟨h1, h2⟩, h3⟩, h4⟩, h5⟩, h6⟩ := h
  have hd : e.tag.tdiv 10 = e.tag / 10 := Int.tdiv_eq_ediv_of_nonneg (by omega)
  have hm : e.tag.tmod 10 = e.tag % 10 := Int.tmod_eq_emod_of_nonneg (by omega)
  rw [hm] at h4 h5 h6
  refine ⟨h1, by omega, by omega, hd, hm, by omega, by omega, fun h => ?_⟩
  rcases h6 with h6 | h6
  · exact absurd h h6
  · exact h6
theorem mid_built {h : List Cal} {K k : Nat} {w : Int} {b : Bool} {c : Cal} (hK : K = k) (hc : c = { calAt h k with fin := w, empty := b }) : (bif Nat.beq K K then (encCal (h.getD K cal0)).put [6] (.v (.int .i64 w)) else encCal (h.getD K cal0)).put [4] (.v (.bool b)) = encCal c := by
  subst hK hc
  rw [Nat.beq_refl, cond_true]
  exact agg_ext (fun j => by match j with | 0 | 1 | 2 | 3 | 4 | 5 | 6 => rfl | j + 7 => rfl)
theorem set2_list {h : List Cal} {K k : Nat} {c : Cal} {Y1 Y2 : AV} (hK : K = k) (hk : k < h.length) (hY : Y2 = encCal c) (q : Nat) : (bif Nat.beq q K then Y2 else bif Nat.beq q K then Y1 else encCal (h.getD q cal0)) = encCal ((h.set k c).getD q cal0) := by
  subst hK
  by_cases e : q = K
  · subst e; rw [Nat.beq_refl, cond_true, hY]; simp [hk]
  · rw [nbeq_ne e, cond_false, cond_false]
    simp only [List.getD_eq_getElem?_getD]
    rw [List.getElem?_set_ne (Ne.symm e)]
theorem end_built {c c' : Cal} {v : Int} (hc : c' = { c with out := v }) : (encCal c).put [3] (.v (.int .i64 v)) = encCal c' := by
  subst hc
  exact agg_ext (fun j => by match j with | 0 | 1 | 2 | 3 | 4 | 5 | 6 => rfl | j + 7 => rfl)
theorem noted_ac (g : Bool) (t : List Evt) : AC Try.prog T tysN 23 [evts g t] [] (encN (notedF t)) [] := by
  refine AC_intro hT Try.func23 rfl rfl (Nat.le_of_ble_eq_true rfl) ?_
  refine WP.seq ?_
  refine WP.reg hT hE [] rfl ?_ ?_
  · first | trivial | (simp [holdsC, under, slOk, slB, capEq] <;> grind)
  refine WP.seq ?_
  refine WP.seq ?_
  refine WP.reg hT hE [CG.pure (.int (chkE t))] rfl ?_ ?_
  · exact dcheck_ac g t
  refine WP.seq ?_
  refine WP.reg hT hE [] rfl ?_ ?_
  · first | trivial | (simp [holdsC, under, slOk, slB, capEq] <;> grind)
  refine WP.cond rfl (fun h2 => ?_) (fun h2 => ?_)
  · have hbad : chkE t ≠ 0 := by simpa using h2
    refine WP.seq ?_
    refine WP.reg hT hE [] rfl ?_ ?_
    · first | trivial | (simp [holdsC, under, slOk, slB, capEq] <;> grind)
    refine WP.ret ?_
    change Fin _ _ _ _ _ _ _ _
    rw [show notedF t = ([], chkE t) from if_pos hbad]
    exact fin_n [] trivial (by rfl) (by exact conv_nil_row (by decide)) (by rfl)
  · have hz : chkE t = 0 := by simpa using h2
    obtain ⟨h256, hgo⟩ := chk_right hz
    refine WP.skip ?_
    refine WP.seq ?_
    refine WP.reg hT hE [] rfl ?_ ?_
    · first | trivial | (simp [holdsC, under, slOk, slB, capEq] <;> grind)
    refine WP.seq ?_
    refine WP.reg hT hE [] rfl ?_ ?_
    · first | trivial | (simp [holdsC, under, slOk, slB, capEq] <;> grind)
    refine WP.seq ?_
    refine WP.seq ?_
    refine WP.reg hT hE [] rfl ?_ ?_
    · first | trivial | (simp [holdsC, under, slOk, slB, capEq] <;> grind)
    refine WP.block ?_
    refine WP.loop (α := Nat × List Cal) (fun (⟨i, h⟩ : Nat × List Cal) => mkSt [(5, ownC (.s 95 0) h), (6, .ptr (.s 6 0) 1 0 []), (17, evts g t), (18, .int t.length), (19, .int i)] [(.s 6 0, .cells ⟨86, 1, fun _ => arrI 86 6 .i64 (arrO h), 0⟩), (.s 95 0, obC h)]) (fun (⟨i, h⟩ : Nat × List Cal) => i ≤ t.length ∧ notedTo t i = some h ∧ h.length ≤ 8 ∧ OneOpen h) (fun (⟨i, h⟩ : Nat × List Cal) => t.length - i) ?_ ?_
    · refine ⟨(0, []), ?_, ?_⟩
      · exact ⟨Nat.zero_le _, rfl, by simp, fun g a b ha => by simp at ha⟩
      · refine Ent.mk hT [] trivial ⟨⟨rfl, _, rfl, conv_nil_own⟩, ⟨rfl, _, rfl, by first | exact conv_eq rfl | (refine conv_eq ?_; rw [wrap_id (by omega) (by omega)]; simp; done) | (refine conv_eq ?_; simp; done)⟩, ⟨rfl, _, rfl, by first | exact conv_eq rfl | (refine conv_eq ?_; rw [wrap_id (by omega) (by omega)]; simp; done) | (refine conv_eq ?_; simp; done)⟩, ⟨rfl, _, rfl, by first | exact conv_eq rfl | (refine conv_eq ?_; rw [wrap_id (by omega) (by omega)]; simp; done) | (refine conv_eq ?_; simp; done)⟩, ⟨rfl, _, rfl, by first | exact conv_eq rfl | (refine conv_eq ?_; rw [wrap_id (by omega) (by omega)]; simp; done) | (refine conv_eq ?_; simp; done)⟩, trivial⟩ ⟨⟨fun _ _ => rfl, .inl ⟨_, rfl, _, _, rfl, Nat.le_refl _, Nat.zero_le _, Nat.zero_le _, fun q hq => conv_eq (agg_ext (fun i => by match i with | 0 | 1 | 2 | 3 | 4 | 5 => rfl | i + 6 => rfl))⟩⟩, ⟨okO_C _ _, .inr ⟨rfl, 30, _, rfl, by decide⟩⟩, trivial⟩ rfl
    · rintro ⟨i, h⟩ ⟨hi, hto, hlen, hone⟩
      refine WP.seq ?_
      refine WP.reg hT hE [] rfl ?_ ?_
      · first | trivial | (simp [holdsC, under, slOk, slB, capEq] <;> grind)
      refine WP.seq ?_
      refine WP.cond rfl (fun h7 => ?_) (fun h7 => ?_)
      · have hil : i < t.length := by simpa using h7
        have h2i : IntKind.i64.wrap (2 * (i : Int)) = 2 * (i : Int) := wrap_id (by omega) (by omega)
        have hg := hgo i hil
        have hget : (arrO h).getD (eAt t i).go.toNat 0 = openI h (eAt t i).go + 1 := by rw [arrO_get (by omega), Int.toNat_of_nonneg hg.1]
        have hop : openI h (eAt t i).go ≠ -1 → ∃ k : Nat, k < h.length ∧ openI h (eAt t i).go = k ∧ (calAt h k).go = (eAt t i).go ∧ (calAt h k).fin = -1 := open_at
        refine WP.skip ?_
        refine WP.seq ?_
        refine WP.block ?_
        refine WP.seq ?_
        refine WP.reg hT hE [] rfl ?_ ?_
        · first | trivial | (simp [holdsC, under, slOk, slB, capEq] <;> grind)
        refine WP.seq ?_
        refine WP.reg hT hE [] rfl ?_ ?_
        · first | trivial | (simp [holdsC, under, slOk, slB, capEq] <;> grind)
        refine WP.seq ?_
        refine WP.seq ?_
        refine WP.reg hT hE [] rfl ?_ ?_
        · first | trivial | (simp [holdsC, under, slOk, slB, capEq] <;> grind)
        refine WP.cond rfl (fun h10 => ?_) (fun h10 => ?_)
        · have hsk : skipE (eAt t i) = true := by
            simp only [bor, band] at h10
            exact h10
          refine WP.exit ?_
          refine WP.reg hT hE [] rfl ?_ ?_
          · first | trivial | (simp [holdsC, under, slOk, slB, capEq] <;> grind)
          refine ⟨(i + 1, h), ?_, ?_, ?_⟩
          · exact ⟨hil, by rw [notedTo, hto]; simp [stepN, hsk], hlen, hone⟩
          · refine Ent.mk hT [] trivial ⟨⟨rfl, _, rfl, by first | exact conv_eq rfl | (refine conv_eq ?_; rw [wrap_id (by omega) (by omega)]; simp; done) | (refine conv_eq ?_; simp; done)⟩, ⟨rfl, _, rfl, by first | exact conv_eq rfl | (refine conv_eq ?_; rw [wrap_id (by omega) (by omega)]; simp; done) | (refine conv_eq ?_; simp; done)⟩, ⟨rfl, _, rfl, by first | exact conv_eq rfl | (refine conv_eq ?_; rw [wrap_id (by omega) (by omega)]; simp; done) | (refine conv_eq ?_; simp; done)⟩, ⟨rfl, _, rfl, by first | exact conv_eq rfl | (refine conv_eq ?_; rw [wrap_id (by omega) (by omega)]; simp; done) | (refine conv_eq ?_; simp; done)⟩, ⟨rfl, _, rfl, by first | exact conv_eq rfl | (refine conv_eq ?_; rw [wrap_id (by omega) (by omega)]; simp; done) | (refine conv_eq ?_; simp; done)⟩, trivial⟩ ⟨⟨fun _ _ => rfl, .inl ⟨_, rfl, _, _, rfl, Nat.le_refl _, Nat.zero_le _, Nat.zero_le _, fun q hq => conv_eq rfl⟩⟩, ob_list (okIds_cal _) rfl rfl rfl rfl rfl (fun q hq => rfl), trivial⟩ rfl
          · (try simp only []); first | omega | grind
        · have hsk : skipE (eAt t i) = false := by
            simp only [bor, band] at h10
            exact h10
          obtain ⟨s1, s2, s3, s4, s5, s6, s7, s8⟩ := skip_no hsk
          have hdo : IntKind.i64.wrap ((eAt t i).tag.tdiv 10) = (eAt t i).tag.tdiv 10 := wrap_id (by omega) (by omega)
          refine WP.skip ?_
          refine WP.seq ?_
          refine WP.seq ?_
          refine WP.reg hT hE [] rfl ?_ ?_
          · first | trivial | (simp [holdsC, under, slOk, slB, capEq] <;> grind)
          refine WP.cond rfl (fun h11 => ?_) (fun h11 => ?_)
          · have hw1 : (eAt t i).tag.tmod 10 = 1 := by simpa [eAt] using h11
            refine WP.seq ?_
            refine WP.reg hT hE [] rfl ?_ ?_
            · first | trivial | (simp [holdsC, under, slOk, slB, capEq] <;> grind)
            refine WP.seq ?_
            refine WP.seq ?_
            refine WP.reg hT hE [] rfl ?_ ?_
            · first | trivial | (simp [holdsC, under, slOk, slB, capEq] <;> grind)
            refine WP.cond rfl (fun h13 => ?_) (fun h13 => ?_)
            · have hin : (eAt t i).tag.tdiv 10 ≠ 1 ∧ (eAt t i).tag.tdiv 10 ≠ 5 := by
                have e : (bif IntKind.i64.wrap ((eAt t i).tag.tdiv 10) != 1 then IntKind.i64.wrap ((eAt t i).tag.tdiv 10) != 5 else false) = true := h13
                rw [hdo] at e
                simpa [band] using e
              refine WP.reg hT hE [] rfl ?_ ?_
              · first | trivial | (simp [holdsC, under, slOk, slB, capEq] <;> grind)
              refine WP.seq ?_
              refine WP.seq ?_
              refine WP.reg hT hE [] rfl ?_ ?_
              · simp [holdsC, under]
                exact hg
              refine WP.cond rfl (fun h15 => ?_) (fun h15 => ?_)
              · simp only [bor] at h15
                refine WP.seq ?_
                refine WP.reg hT hE [] rfl ?_ ?_
                · first | trivial | (simp [holdsC, under, slOk, slB, capEq] <;> grind)
                refine WP.ret ?_
                change Fin _ _ _ _ _ _ _ _
                have hbad : notedTo t (i + 1) = none := by
                  rw [notedTo, hto]
                  have e : (decide ((arrO h).getD (eAt t i).go.toNat 0 > 0) || ((h.length : Int) == 8)) = true := h15
                  rw [hget] at e
                  simp only [Bool.or_eq_true, decide_eq_true_eq, beq_iff_eq] at e
                  simp [stepN, hsk, hw1]
                  omega
                rw [show notedF t = ([], 260) by rw [notedF, if_neg (by simp [hz]), noted_none hbad _ hil]]
                exact fin_n [] trivial (by rfl) (by exact conv_nil_row (by decide)) (by rfl)
              · simp only [bor] at h15
                have hno : openI h (eAt t i).go = -1 ∧ h.length ≠ 8 := by
                  have e : (decide ((arrO h).getD (eAt t i).go.toNat 0 > 0) || ((h.length : Int) == 8)) = false := h15
                  rw [hget] at e
                  simp only [Bool.or_eq_false_iff, decide_eq_false_iff_not, beq_eq_false_iff_ne] at e
                  refine ⟨Classical.byContradiction fun h0 => ?_, by omega⟩
                  obtain ⟨k, k1, k2, _⟩ := hop h0
                  omega
                have hnew : (arrO h).set (eAt t i).go.toNat ((h.length + 1 : Nat) : Int) = arrO (h ++ [newC i (eAt t i)]) := by
                  have := arrO_app (h := h) (c := newC i (eAt t i)) (g := (eAt t i).go.toNat) rfl (by rw [Int.toNat_of_nonneg hg.1]; rfl)
                  rw [← this]; simp
                refine WP.skip ?_
                refine WP.seq ?_
                refine WP.reg hT hE [] rfl ?_ ?_
                · have hb : (T 30).bytes = 56 := rfl
                  simp [holdsC, under, hb]
                  omega
                refine WP.seq ?_
                refine WP.reg hT hE [] rfl ?_ ?_
                · simp [holdsC, under]
                  exact hg
                refine WP.exit ?_
                refine WP.reg hT hE [] rfl ?_ ?_
                · first | trivial | (simp [holdsC, under, slOk, slB, capEq] <;> grind)
                refine ⟨(i + 1, h ++ [newC i (eAt t i)]), ?_, ?_, ?_⟩
                · refine ⟨hil, ?_, by simp; omega, one_app hone hno.1⟩
                  rw [notedTo, hto]
                  simp [stepN, hsk, hw1, hno.1, hno.2]
                · refine Ent.mk hT [] trivial ⟨⟨rfl, _, rfl, conv_eq (by simp only [ownC, List.length_append, List.length_singleton])⟩, ⟨rfl, _, rfl, by first | exact conv_eq rfl | (refine conv_eq ?_; rw [wrap_id (by omega) (by omega)]; simp; done) | (refine conv_eq ?_; simp; done)⟩, ⟨rfl, _, rfl, by first | exact conv_eq rfl | (refine conv_eq ?_; rw [wrap_id (by omega) (by omega)]; simp; done) | (refine conv_eq ?_; simp; done)⟩, ⟨rfl, _, rfl, by first | exact conv_eq rfl | (refine conv_eq ?_; rw [wrap_id (by omega) (by omega)]; simp; done) | (refine conv_eq ?_; simp; done)⟩, ⟨rfl, _, rfl, by first | exact conv_eq rfl | (refine conv_eq ?_; rw [wrap_id (by omega) (by omega)]; simp; done) | (refine conv_eq ?_; simp; done)⟩, trivial⟩ ⟨⟨fun _ _ => rfl, .inl ⟨_, rfl, _, _, rfl, Nat.le_refl _, Nat.zero_le _, Nat.zero_le _, fun q hq => by (obtain rfl : q = 0 := (by simp at hq; exact hq)); exact conv_eq ((arrI_put (l := arrO h) (i := (eAt t i).go.toNat) (by rw [arrO_len]; omega)).trans (congrArg (arrI 86 6 .i64) (hnew)))⟩⟩, ob_list (okIds_cal _) rfl rfl (by simp only [List.length_append, List.length_singleton]) rfl rfl (appL (l := h) (x := newC i (eAt t i)) (z := (T 30).zero) rfl (by exact agg_ext (fun j => by match j with | 0 => rfl | 1 => exact congrArg AV.int hdo | 2 => exact congrArg AV.int (if_pos hin).symm | 3 => rfl | 4 => rfl | 5 => exact congrArg AV.int h2i | 6 => rfl | j + 7 => rfl)) (fun q hq => rfl)), trivial⟩ rfl
                · (try simp only []); first | omega | grind
            · have hin : ¬ ((eAt t i).tag.tdiv 10 ≠ 1 ∧ (eAt t i).tag.tdiv 10 ≠ 5) := by
                have e : (bif IntKind.i64.wrap ((eAt t i).tag.tdiv 10) != 1 then IntKind.i64.wrap ((eAt t i).tag.tdiv 10) != 5 else false) = false := h13
                rw [hdo, band, Bool.and_eq_false_iff] at e
                intro h0
                simp [h0.1, h0.2] at e
              refine WP.skip ?_
              refine WP.seq ?_
              refine WP.seq ?_
              refine WP.reg hT hE [] rfl ?_ ?_
              · simp [holdsC, under]
                exact hg
              refine WP.cond rfl (fun h15 => ?_) (fun h15 => ?_)
              · simp only [bor] at h15
                refine WP.seq ?_
                refine WP.reg hT hE [] rfl ?_ ?_
                · first | trivial | (simp [holdsC, under, slOk, slB, capEq] <;> grind)
                refine WP.ret ?_
                change Fin _ _ _ _ _ _ _ _
                have hbad : notedTo t (i + 1) = none := by
                  rw [notedTo, hto]
                  have e : (decide ((arrO h).getD (eAt t i).go.toNat 0 > 0) || ((h.length : Int) == 8)) = true := h15
                  rw [hget] at e
                  simp only [Bool.or_eq_true, decide_eq_true_eq, beq_iff_eq] at e
                  simp [stepN, hsk, hw1]
                  omega
                rw [show notedF t = ([], 260) by rw [notedF, if_neg (by simp [hz]), noted_none hbad _ hil]]
                exact fin_n [] trivial (by rfl) (by exact conv_nil_row (by decide)) (by rfl)
              · simp only [bor] at h15
                have hno : openI h (eAt t i).go = -1 ∧ h.length ≠ 8 := by
                  have e : (decide ((arrO h).getD (eAt t i).go.toNat 0 > 0) || ((h.length : Int) == 8)) = false := h15
                  rw [hget] at e
                  simp only [Bool.or_eq_false_iff, decide_eq_false_iff_not, beq_eq_false_iff_ne] at e
                  refine ⟨Classical.byContradiction fun h0 => ?_, by omega⟩
                  obtain ⟨k, k1, k2, _⟩ := hop h0
                  omega
                have hnew : (arrO h).set (eAt t i).go.toNat ((h.length + 1 : Nat) : Int) = arrO (h ++ [newC i (eAt t i)]) := by
                  have := arrO_app (h := h) (c := newC i (eAt t i)) (g := (eAt t i).go.toNat) rfl (by rw [Int.toNat_of_nonneg hg.1]; rfl)
                  rw [← this]; simp
                refine WP.skip ?_
                refine WP.seq ?_
                refine WP.reg hT hE [] rfl ?_ ?_
                · have hb : (T 30).bytes = 56 := rfl
                  simp [holdsC, under, hb]
                  omega
                refine WP.seq ?_
                refine WP.reg hT hE [] rfl ?_ ?_
                · simp [holdsC, under]
                  exact hg
                refine WP.exit ?_
                refine WP.reg hT hE [] rfl ?_ ?_
                · first | trivial | (simp [holdsC, under, slOk, slB, capEq] <;> grind)
                refine ⟨(i + 1, h ++ [newC i (eAt t i)]), ?_, ?_, ?_⟩
                · refine ⟨hil, ?_, by simp; omega, one_app hone hno.1⟩
                  rw [notedTo, hto]
                  simp [stepN, hsk, hw1, hno.1, hno.2]
                · refine Ent.mk hT [] trivial ⟨⟨rfl, _, rfl, conv_eq (by simp only [ownC, List.length_append, List.length_singleton])⟩, ⟨rfl, _, rfl, by first | exact conv_eq rfl | (refine conv_eq ?_; rw [wrap_id (by omega) (by omega)]; simp; done) | (refine conv_eq ?_; simp; done)⟩, ⟨rfl, _, rfl, by first | exact conv_eq rfl | (refine conv_eq ?_; rw [wrap_id (by omega) (by omega)]; simp; done) | (refine conv_eq ?_; simp; done)⟩, ⟨rfl, _, rfl, by first | exact conv_eq rfl | (refine conv_eq ?_; rw [wrap_id (by omega) (by omega)]; simp; done) | (refine conv_eq ?_; simp; done)⟩, ⟨rfl, _, rfl, by first | exact conv_eq rfl | (refine conv_eq ?_; rw [wrap_id (by omega) (by omega)]; simp; done) | (refine conv_eq ?_; simp; done)⟩, trivial⟩ ⟨⟨fun _ _ => rfl, .inl ⟨_, rfl, _, _, rfl, Nat.le_refl _, Nat.zero_le _, Nat.zero_le _, fun q hq => by (obtain rfl : q = 0 := (by simp at hq; exact hq)); exact conv_eq ((arrI_put (l := arrO h) (i := (eAt t i).go.toNat) (by rw [arrO_len]; omega)).trans (congrArg (arrI 86 6 .i64) (hnew)))⟩⟩, ob_list (okIds_cal _) rfl rfl (by simp only [List.length_append, List.length_singleton]) rfl rfl (appL (l := h) (x := newC i (eAt t i)) (z := (T 30).zero) rfl (by exact agg_ext (fun j => by match j with | 0 => rfl | 1 => exact congrArg AV.int hdo | 2 => exact congrArg AV.int (if_neg hin).symm | 3 => rfl | 4 => rfl | 5 => exact congrArg AV.int h2i | 6 => rfl | j + 7 => rfl)) (fun q hq => rfl)), trivial⟩ rfl
                · (try simp only []); first | omega | grind
          · have hw1 : ¬ (eAt t i).tag.tmod 10 = 1 := by simpa [eAt] using h11
            refine WP.skip ?_
            refine WP.seq ?_
            refine WP.seq ?_
            refine WP.reg hT hE [] rfl ?_ ?_
            · have hk19 : ¬ openI h (eAt t i).go = -1 → 0 ≤ IntKind.i64.wrap ((arrO h).getD (eAt t i).go.toNat 0 - 1) ∧ IntKind.i64.wrap ((arrO h).getD (eAt t i).go.toNat 0 - 1) < (h.length : Int) := fun h0 => by
                obtain ⟨k, k1, k2, _⟩ := hop h0
                rw [hget, wrap_id (by omega) (by omega)]
                omega
              simp [holdsC, under]
              exact ⟨⟨hg, fun _ => hg⟩, fun h0 => hk19 (fun e => h0 (by have := hget; rw [e] at this; exact this))⟩
            refine WP.cond rfl (fun h19 => ?_) (fun h19 => ?_)
            · have hbad : notedTo t (i + 1) = none := by
                rw [notedTo, hto]
                have e : (bif ((arrO h).getD (eAt t i).go.toNat 0 == 0) then true else ((calAt h (IntKind.i64.wrap ((arrO h).getD (eAt t i).go.toNat 0 - 1)).toNat).act != IntKind.i64.wrap ((eAt t i).tag.tdiv 10))) = true := h19
                rw [hget, hdo] at e
                by_cases h0 : openI h (eAt t i).go = -1
                · simp [stepN, hsk, hw1, h0]
                · obtain ⟨k, k1, k2, _⟩ := hop h0
                  have hkk : ((k : Int) + 1 - 1).toNat = k := by omega
                  have e3 : ((k : Int) + 1 == 0) = false := by simp; omega
                  rw [k2, wrap_id (by omega) (by omega), hkk, e3, cond_false, bne_iff_ne] at e
                  simp [stepN, hsk, hw1, k2, e]
              refine WP.seq ?_
              refine WP.reg hT hE [] rfl ?_ ?_
              · first | trivial | (simp [holdsC, under, slOk, slB, capEq] <;> grind)
              refine WP.ret ?_
              change Fin _ _ _ _ _ _ _ _
              rw [show notedF t = ([], 260) by rw [notedF, if_neg (by simp [hz]), noted_none hbad _ hil]]
              exact fin_n [] trivial (by rfl) (by exact conv_nil_row (by decide)) (by rfl)
            · have hne : openI h (eAt t i).go ≠ -1 := fun e => by
                have e2 : (arrO h).getD (t.getD (i : Int).toNat evt0).go.toNat 0 = 0 := by have := hget; rw [e] at this; exact this
                rw [e2] at h19
                simp at h19
              obtain ⟨k, k1, k2, k3, k4⟩ := hop hne
              have hact : (calAt h k).act = (eAt t i).tag.tdiv 10 := by
                have e : (bif ((arrO h).getD (eAt t i).go.toNat 0 == 0) then true else ((calAt h (IntKind.i64.wrap ((arrO h).getD (eAt t i).go.toNat 0 - 1)).toNat).act != IntKind.i64.wrap ((eAt t i).tag.tdiv 10))) = false := h19
                have hkk : ((k : Int) + 1 - 1).toNat = k := by omega
                have e3 : ((k : Int) + 1 == 0) = false := by simp; omega
                rw [hget, hdo, k2, wrap_id (by omega) (by omega), hkk, e3, cond_false] at e
                simpa using e
              have hset : (arrO h).set (eAt t i).go.toNat 0 = arrO (h.set k (endC i (eAt t i) (calAt h k))) := arrO_set hone k1 (by rw [k3, Int.toNat_of_nonneg hg.1]) k4 (by simp only [endC]; omega)
              have hstep : notedTo t (i + 1) = some (h.set k (endC i (eAt t i) (calAt h k))) := by
                rw [notedTo, hto]
                simp [stepN, hsk, hw1, hne, k2, hact]
              have hmid : (h.set k (midC i (eAt t i) (calAt h k))).getD k cal0 = midC i (eAt t i) (calAt h k) := (calAt_set k1).trans (if_pos rfl)
              have hwk : IntKind.i64.wrap ((arrO h).getD (eAt t i).go.toNat 0 - 1) = k := by rw [hget, wrap_id (by omega) (by omega)]; omega
              refine WP.skip ?_
              refine WP.seq ?_
              refine WP.reg hT hE [] rfl ?_ ?_
              · have hk21 : 0 ≤ IntKind.i64.wrap ((arrO h).getD (eAt t i).go.toNat 0 - 1) ∧ IntKind.i64.wrap ((arrO h).getD (eAt t i).go.toNat 0 - 1) < (h.length : Int) := by rw [hwk]; omega
                simp [holdsC, under]
                exact ⟨hg, hk21⟩
              refine WP.seq ?_
              refine WP.reg hT hE [] rfl ?_ ?_
              · first | trivial | (simp [holdsC, under, slOk, slB, capEq] <;> grind)
              refine WP.seq ?_
              refine WP.reg hT hE [] rfl ?_ ?_
              · first | trivial | (simp [holdsC, under, slOk, slB, capEq] <;> grind)
              refine WP.seq ?_
              refine WP.seq ?_
              refine WP.ent (st' := mkSt [(5, ownC (.s 95 0) h), (6, .ptr (.s 6 0) 1 0 []), (8, .ptr (.s 8 0) 1 0 []), (9, .int ((eAt t i).tag.tdiv 10)), (11, .ptr (.s 95 0) h.length k []), (17, evts g t), (18, .int t.length), (19, .int i)] [(.s 6 0, .cells ⟨86, 1, fun _ => arrI 86 6 .i64 (arrO h), 0⟩), (.s 8 0, .cells ⟨92, 1, fun _ => encE (eAt t i), 0⟩), (.s 95 0, obC (h.set k (midC i (eAt t i) (calAt h k))))]) ?_ ?_
              · refine Ent.mk hT [] trivial ⟨⟨rfl, _, rfl, by first | exact conv_eq rfl | (refine conv_eq ?_; rw [wrap_id (by omega) (by omega)]; simp; done) | (refine conv_eq ?_; simp; done)⟩, ⟨rfl, _, rfl, by first | exact conv_eq rfl | (refine conv_eq ?_; rw [wrap_id (by omega) (by omega)]; simp; done) | (refine conv_eq ?_; simp; done)⟩, ⟨rfl, _, rfl, by first | exact conv_eq rfl | (refine conv_eq ?_; rw [wrap_id (by omega) (by omega)]; simp; done) | (refine conv_eq ?_; simp; done)⟩, ⟨rfl, _, rfl, conv_eq (congrArg AV.int hdo)⟩, ⟨rfl, _, rfl, conv_eq (congrArg (fun x => AV.ptr (.s 95 0) h.length x []) (show (IntKind.i64.wrap ((arrO h).getD (eAt t i).go.toNat 0 - 1)).toNat = k by rw [hwk]; rfl))⟩, ⟨rfl, _, rfl, by first | exact conv_eq rfl | (refine conv_eq ?_; rw [wrap_id (by omega) (by omega)]; simp; done) | (refine conv_eq ?_; simp; done)⟩, ⟨rfl, _, rfl, by first | exact conv_eq rfl | (refine conv_eq ?_; rw [wrap_id (by omega) (by omega)]; simp; done) | (refine conv_eq ?_; simp; done)⟩, ⟨rfl, _, rfl, by first | exact conv_eq rfl | (refine conv_eq ?_; rw [wrap_id (by omega) (by omega)]; simp; done) | (refine conv_eq ?_; simp; done)⟩, trivial⟩ ⟨⟨fun _ _ => rfl, .inl ⟨_, rfl, _, _, rfl, Nat.le_refl _, Nat.zero_le _, by first | exact Nat.zero_le _ | omega, fun q hq => by first | exact conv_eq rfl | (obtain rfl : q = 0 := (by simp at hq; exact hq); exact conv_eq rfl)⟩⟩, ⟨fun _ _ => rfl, .inl ⟨_, rfl, _, _, rfl, Nat.le_refl _, Nat.zero_le _, by first | exact Nat.zero_le _ | omega, fun q hq => by first | exact conv_eq rfl | (obtain rfl : q = 0 := (by simp at hq; exact hq); exact conv_eq rfl)⟩⟩, ob_list (okIds_cal _) rfl rfl (by simp) rfl rfl (fun q hq => set2_list (show (IntKind.i64.wrap ((arrO h).getD (eAt t i).go.toNat 0 - 1)).toNat = k by rw [hwk]; rfl) k1 (mid_built (show (IntKind.i64.wrap ((arrO h).getD (eAt t i).go.toNat 0 - 1)).toNat = k by rw [hwk]; rfl) (by rw [h2i]; rfl)) q), trivial⟩ rfl
              refine WP.reg hT hE [] rfl ?_ ?_
              · first | trivial | (simp [holdsC, under, slOk, slB, capEq] <;> grind)
              refine WP.cond rfl (fun h24 => ?_) (fun h24 => ?_)
              · have hout : ((eAt t i).tag.tdiv 10 = 1 ∨ (eAt t i).tag.tdiv 10 = 5) ∧ (eAt t i).tag ≠ 53 := by
                  have e : (bif (bif (eAt t i).tag.tdiv 10 == 1 then true else (eAt t i).tag.tdiv 10 == 5) then !((h.set k (midC i (eAt t i) (calAt h k))).getD k cal0).empty else false) = true := h24
                  rw [hmid] at e
                  simpa [band, bor, midC] using e
                refine WP.reg hT hE [] rfl ?_ ?_
                · first | trivial | (simp [holdsC, under, slOk, slB, capEq] <;> grind)
                refine WP.reg hT hE [] rfl ?_ ?_
                · simp [holdsC, under]
                  exact hg
                refine WP.reg hT hE [] rfl ?_ ?_
                · first | trivial | (simp [holdsC, under, slOk, slB, capEq] <;> grind)
                refine ⟨(i + 1, h.set k (endC i (eAt t i) (calAt h k))), ?_, ?_, ?_⟩
                · exact ⟨hil, hstep, by simpa using hlen, one_set hone k1 (by simp only [endC]; omega)⟩
                · refine Ent.mk hT [] trivial ⟨⟨rfl, _, rfl, conv_eq (by simp only [ownC, List.length_set])⟩, ⟨rfl, _, rfl, by first | exact conv_eq rfl | (refine conv_eq ?_; rw [wrap_id (by omega) (by omega)]; simp; done) | (refine conv_eq ?_; simp; done)⟩, ⟨rfl, _, rfl, by first | exact conv_eq rfl | (refine conv_eq ?_; rw [wrap_id (by omega) (by omega)]; simp; done) | (refine conv_eq ?_; simp; done)⟩, ⟨rfl, _, rfl, by first | exact conv_eq rfl | (refine conv_eq ?_; rw [wrap_id (by omega) (by omega)]; simp; done) | (refine conv_eq ?_; simp; done)⟩, ⟨rfl, _, rfl, by first | exact conv_eq rfl | (refine conv_eq ?_; rw [wrap_id (by omega) (by omega)]; simp; done) | (refine conv_eq ?_; simp; done)⟩, trivial⟩ ⟨⟨fun _ _ => rfl, .inl ⟨_, rfl, _, _, rfl, Nat.le_refl _, Nat.zero_le _, Nat.zero_le _, fun q hq => by (obtain rfl : q = 0 := (by simp at hq; exact hq)); exact conv_eq ((arrI_put (l := arrO h) (i := (eAt t i).go.toNat) (by rw [arrO_len]; omega)).trans (congrArg (arrI 86 6 .i64) hset))⟩⟩, ob_list (okIds_cal _) rfl rfl (by simp) rfl rfl (fun q hq => (set_list (l := h.set k (midC i (eAt t i) (calAt h k))) (i := k) (x := endC i (eAt t i) (calAt h k)) (by simpa using k1) (show (encCal ((h.set k (midC i (eAt t i) (calAt h k))).getD k cal0)).put [3] (.v (.int .i64 (eAt t i).val)) = encCal (endC i (eAt t i) (calAt h k)) from by rw [hmid]; exact end_built (by simp only [endC, midC, if_pos hout])) q).trans (by rw [List.set_set])), trivial⟩ rfl
                · (try simp only []); first | omega | grind
              · have hout : ¬ (((eAt t i).tag.tdiv 10 = 1 ∨ (eAt t i).tag.tdiv 10 = 5) ∧ (eAt t i).tag ≠ 53) := by
                  have e : (bif (bif (eAt t i).tag.tdiv 10 == 1 then true else (eAt t i).tag.tdiv 10 == 5) then !((h.set k (midC i (eAt t i) (calAt h k))).getD k cal0).empty else false) = false := h24
                  rw [hmid] at e
                  simpa [band, bor, midC] using e
                refine WP.skip ?_
                refine WP.reg hT hE [] rfl ?_ ?_
                · simp [holdsC, under]
                  exact hg
                refine WP.reg hT hE [] rfl ?_ ?_
                · first | trivial | (simp [holdsC, under, slOk, slB, capEq] <;> grind)
                refine ⟨(i + 1, h.set k (endC i (eAt t i) (calAt h k))), ?_, ?_, ?_⟩
                · exact ⟨hil, hstep, by simpa using hlen, one_set hone k1 (by simp only [endC]; omega)⟩
                · refine Ent.mk hT [] trivial ⟨⟨rfl, _, rfl, conv_eq (by simp only [ownC, List.length_set])⟩, ⟨rfl, _, rfl, by first | exact conv_eq rfl | (refine conv_eq ?_; rw [wrap_id (by omega) (by omega)]; simp; done) | (refine conv_eq ?_; simp; done)⟩, ⟨rfl, _, rfl, by first | exact conv_eq rfl | (refine conv_eq ?_; rw [wrap_id (by omega) (by omega)]; simp; done) | (refine conv_eq ?_; simp; done)⟩, ⟨rfl, _, rfl, by first | exact conv_eq rfl | (refine conv_eq ?_; rw [wrap_id (by omega) (by omega)]; simp; done) | (refine conv_eq ?_; simp; done)⟩, ⟨rfl, _, rfl, by first | exact conv_eq rfl | (refine conv_eq ?_; rw [wrap_id (by omega) (by omega)]; simp; done) | (refine conv_eq ?_; simp; done)⟩, trivial⟩ ⟨⟨fun _ _ => rfl, .inl ⟨_, rfl, _, _, rfl, Nat.le_refl _, Nat.zero_le _, Nat.zero_le _, fun q hq => by (obtain rfl : q = 0 := (by simp at hq; exact hq)); exact conv_eq ((arrI_put (l := arrO h) (i := (eAt t i).go.toNat) (by rw [arrO_len]; omega)).trans (congrArg (arrI 86 6 .i64) hset))⟩⟩, ob_list (okIds_cal _) rfl rfl (by simp) rfl rfl (fun q hq => by rw [show endC i (eAt t i) (calAt h k) = midC i (eAt t i) (calAt h k) by simp only [endC, midC, if_neg hout]]), trivial⟩ rfl
                · (try simp only []); first | omega | grind
      · have hil : i = t.length := by simp at h7; omega
        subst hil
        refine WP.exit ?_
        refine WP.seq ?_
        refine WP.reg hT hE [] rfl ?_ ?_
        · first | trivial | (simp [holdsC, under, slOk, slB, capEq] <;> grind)
        refine WP.ret ?_
        change Fin _ _ _ _ _ _ _ _
        rw [show notedF t = (h, 0) by simp [notedF, hz, hto]]
        exact fin_n [(.s 95 0, h.length)] ⟨⟨_, by rfl, Nat.le_refl _⟩, trivial⟩ (by rfl) (by exact conv_row rfl rfl rfl (fun h => by cases h) (by simp [lookF, idbeq_self]) (fun j hj => by rw [Nat.zero_add]; exact ⟨noIds_cal _, AEq.refl _⟩)) (by rfl)
end Go.Ab


/- The reference's Noted. -/
set_option autoImplicit false
set_option maxRecDepth 20000
set_option linter.unusedSimpArgs false
set_option linter.unusedVariables false
namespace Go.Ab
open Go.Proofs
theorem tmod_neg {n : Int} (h : n < 0) : n.tmod 10 = -((-n) % 10) := by
  rw [← Int.tmod_eq_emod_of_nonneg (by omega), Int.neg_tmod, Int.neg_neg]
theorem tdiv_neg {n : Int} (h : n < 0) : n.tdiv 10 = -((-n) / 10) := by
  rw [← Int.tdiv_eq_ediv_of_nonneg (by omega), Int.neg_tdiv, Int.neg_neg]
theorem tdiv_rng {n : Int} (h : -9223372036854775808 ≤ n ∧ n < 9223372036854775808) : IntKind.i64.wrap (n.tdiv 10) = n.tdiv 10 := by
  rcases Int.lt_or_le n 0 with h1 | h1
  · rw [tdiv_neg h1]; exact wrap_id (by omega) (by omega)
  · rw [Int.tdiv_eq_ediv_of_nonneg h1]; exact wrap_id (by omega) (by omega)
theorem skip_ref (e : Evt) : (e.op != 65 || decide (e.tag.tdiv 10 < 1) || decide (e.tag.tdiv 10 > 5) || decide (e.tag.tmod 10 < 1) || decide (e.tag.tmod 10 > 3) || (e.tag.tmod 10 == 3 && e.tag.tdiv 10 != 5)) = skipE e := by
  rw [skipE]
  rcases Int.lt_or_le e.tag 0 with h1 | h1
  · have h2 : e.tag.tmod 10 < 1 := by rw [tmod_neg h1]; omega
    simp [h2]
  · rw [Int.tdiv_eq_ediv_of_nonneg h1, Int.tmod_eq_emod_of_nonneg h1, Bool.eq_iff_iff]
    simp
    omega
theorem rnoted_ac (g : Bool) (t : List Evt) (hr : ∀ i, i < t.length → -9223372036854775808 ≤ (eAt t i).tag ∧ (eAt t i).tag < 9223372036854775808) : AC Try.prog T tysN 24 [evts g t] [] (encN (notedF t)) [] := by
  refine AC_intro hT Try.func24 rfl rfl (Nat.le_of_ble_eq_true rfl) ?_
  refine WP.seq ?_
  refine WP.reg hT hE [] rfl ?_ ?_
  · first | trivial | (simp [holdsC, under, slOk, slB, capEq] <;> grind)
  refine WP.seq ?_
  refine WP.reg hT hE [CG.pure (.int (chkE t))] rfl ?_ ?_
  · exact rcheck_ac g t
  refine WP.seq ?_
  refine WP.seq ?_
  refine WP.reg hT hE [] rfl ?_ ?_
  · first | trivial | (simp [holdsC, under, slOk, slB, capEq] <;> grind)
  refine WP.cond rfl (fun h2 => ?_) (fun h2 => ?_)
  · have hbad : chkE t ≠ 0 := by simpa using h2
    refine WP.seq ?_
    refine WP.reg hT hE [] rfl ?_ ?_
    · first | trivial | (simp [holdsC, under, slOk, slB, capEq] <;> grind)
    refine WP.ret ?_
    change Fin _ _ _ _ _ _ _ _
    rw [show notedF t = ([], chkE t) from if_pos hbad]
    exact fin_n [] trivial (by rfl) (by exact conv_nil_row (by decide)) (by rfl)
  · have hz : chkE t = 0 := by simpa using h2
    obtain ⟨h256, hgo⟩ := chk_right hz
    refine WP.skip ?_
    refine WP.seq ?_
    refine WP.reg hT hE [] rfl ?_ ?_
    · first | trivial | (simp [holdsC, under, slOk, slB, capEq] <;> grind)
    refine WP.seq ?_
    refine WP.seq ?_
    refine WP.reg hT hE [] rfl ?_ ?_
    · first | trivial | (simp [holdsC, under, slOk, slB, capEq] <;> grind)
    refine WP.block ?_
    refine WP.loop (α := Nat × List Cal) (fun (⟨i, h⟩ : Nat × List Cal) => mkSt [(0, evts g t), (5, ownC (.s 132 0) h), (6, .int i)] [(.s 132 0, obC h)]) (fun (⟨i, h⟩ : Nat × List Cal) => i ≤ t.length ∧ notedTo t i = some h ∧ h.length ≤ 8 ∧ OneOpen h) (fun (⟨i, h⟩ : Nat × List Cal) => t.length - i) ?_ ?_
    · refine ⟨(0, []), ?_, ?_⟩
      · exact ⟨Nat.zero_le _, rfl, by simp, fun g a b ha => by simp at ha⟩
      · refine Ent.mk hT [] trivial ⟨⟨rfl, _, rfl, by first | exact conv_eq rfl | (refine conv_eq ?_; rw [wrap_id (by omega) (by omega)]; simp; done) | (refine conv_eq ?_; simp; done)⟩, ⟨rfl, _, rfl, conv_nil_own⟩, ⟨rfl, _, rfl, by first | exact conv_eq rfl | (refine conv_eq ?_; rw [wrap_id (by omega) (by omega)]; simp; done) | (refine conv_eq ?_; simp; done)⟩, trivial⟩ ⟨⟨okO_C _ _, .inr ⟨rfl, 30, _, rfl, by decide⟩⟩, trivial⟩ rfl
    · rintro ⟨i, h⟩ ⟨hi, hto, hlen, hone⟩
      refine WP.seq ?_
      refine WP.seq ?_
      refine WP.reg hT hE [] rfl ?_ ?_
      · first | trivial | (simp [holdsC, under, slOk, slB, capEq] <;> grind)
      refine WP.cond rfl (fun h6 => ?_) (fun h6 => ?_)
      · have hil : i < t.length := by simpa using h6
        have h2i : IntKind.i64.wrap (2 * (i : Int)) = 2 * (i : Int) := wrap_id (by omega) (by omega)
        have hg := hgo i hil
        have hdo : IntKind.i64.wrap ((eAt t i).tag.tdiv 10) = (eAt t i).tag.tdiv 10 := tdiv_rng (hr i hil)
        refine WP.skip ?_
        refine WP.seq ?_
        refine WP.block ?_
        refine WP.seq ?_
        refine WP.reg hT hE [] rfl ?_ ?_
        · first | trivial | (simp [holdsC, under, slOk, slB, capEq] <;> grind)
        refine WP.seq ?_
        refine WP.reg hT hE [] rfl ?_ ?_
        · first | trivial | (simp [holdsC, under, slOk, slB, capEq] <;> grind)
        refine WP.seq ?_
        refine WP.seq ?_
        refine WP.reg hT hE [] rfl ?_ ?_
        · first | trivial | (simp [holdsC, under, slOk, slB, capEq] <;> grind)
        refine WP.cond rfl (fun h10 => ?_) (fun h10 => ?_)
        · have hsk : skipE (eAt t i) = true := by
            have e : (bif (bif (bif (bif (bif (eAt t i).op != 65 then true else decide (IntKind.i64.wrap ((eAt t i).tag.tdiv 10) < 1)) then true else decide (IntKind.i64.wrap ((eAt t i).tag.tdiv 10) > 5)) then true else decide ((eAt t i).tag.tmod 10 < 1)) then true else decide ((eAt t i).tag.tmod 10 > 3)) then true else bif (eAt t i).tag.tmod 10 == 3 then IntKind.i64.wrap ((eAt t i).tag.tdiv 10) != 5 else false) = true := h10
            rw [hdo] at e
            simp only [bor, band] at e
            rw [← skip_ref]; exact e
          refine WP.exit ?_
          refine WP.reg hT hE [] rfl ?_ ?_
          · first | trivial | (simp [holdsC, under, slOk, slB, capEq] <;> grind)
          refine ⟨(i + 1, h), ?_, ?_, ?_⟩
          · exact ⟨hil, by rw [notedTo, hto]; simp [stepN, hsk], hlen, hone⟩
          · refine Ent.mk hT [] trivial ⟨⟨rfl, _, rfl, by first | exact conv_eq rfl | (refine conv_eq ?_; rw [wrap_id (by omega) (by omega)]; simp; done) | (refine conv_eq ?_; simp; done)⟩, ⟨rfl, _, rfl, by first | exact conv_eq rfl | (refine conv_eq ?_; rw [wrap_id (by omega) (by omega)]; simp; done) | (refine conv_eq ?_; simp; done)⟩, ⟨rfl, _, rfl, by first | exact conv_eq rfl | (refine conv_eq ?_; rw [wrap_id (by omega) (by omega)]; simp; done) | (refine conv_eq ?_; simp; done)⟩, trivial⟩ ⟨ob_list (okIds_cal _) rfl rfl rfl rfl rfl (fun q hq => rfl), trivial⟩ rfl
          · (try simp only []); first | omega | grind
        · have hsk : skipE (eAt t i) = false := by
            have e : (bif (bif (bif (bif (bif (eAt t i).op != 65 then true else decide (IntKind.i64.wrap ((eAt t i).tag.tdiv 10) < 1)) then true else decide (IntKind.i64.wrap ((eAt t i).tag.tdiv 10) > 5)) then true else decide ((eAt t i).tag.tmod 10 < 1)) then true else decide ((eAt t i).tag.tmod 10 > 3)) then true else bif (eAt t i).tag.tmod 10 == 3 then IntKind.i64.wrap ((eAt t i).tag.tdiv 10) != 5 else false) = false := h10
            rw [hdo] at e
            simp only [bor, band] at e
            rw [← skip_ref]; exact e
          obtain ⟨s1, s2, s3, s4, s5, s6, s7, s8⟩ := skip_no hsk
          refine WP.skip ?_
          refine WP.seq ?_
          refine WP.reg hT hE [] rfl ?_ ?_
          · first | trivial | (simp [holdsC, under, slOk, slB, capEq] <;> grind)
          refine WP.seq ?_
          refine WP.seq ?_
          refine WP.reg hT hE [] rfl ?_ ?_
          · first | trivial | (simp [holdsC, under, slOk, slB, capEq] <;> grind)
          refine WP.block ?_
          refine WP.loop (α := Nat) (fun k => mkSt [(0, evts g t), (5, ownC (.s 132 0) h), (6, .int i), (7, .int ((eAt t i).tag.tdiv 10)), (8, .int ((eAt t i).tag.tmod 10)), (9, .int (openJ h (eAt t i).go k)), (10, .int k)] [(.s 132 0, obC h)]) (fun k => k ≤ h.length) (fun k => h.length - k) ?_ ?_
          · refine ⟨0, ?_, ?_⟩
            · exact Nat.zero_le _
            · refine Ent.mk hT [] trivial ⟨⟨rfl, _, rfl, by first | exact conv_eq rfl | (refine conv_eq ?_; rw [wrap_id (by omega) (by omega)]; simp; done) | (refine conv_eq ?_; simp; done)⟩, ⟨rfl, _, rfl, by first | exact conv_eq rfl | (refine conv_eq ?_; rw [wrap_id (by omega) (by omega)]; simp; done) | (refine conv_eq ?_; simp; done)⟩, ⟨rfl, _, rfl, by first | exact conv_eq rfl | (refine conv_eq ?_; rw [wrap_id (by omega) (by omega)]; simp; done) | (refine conv_eq ?_; simp; done)⟩, ⟨rfl, _, rfl, conv_eq (congrArg AV.int hdo)⟩, ⟨rfl, _, rfl, by first | exact conv_eq rfl | (refine conv_eq ?_; rw [wrap_id (by omega) (by omega)]; simp; done) | (refine conv_eq ?_; simp; done)⟩, ⟨rfl, _, rfl, by first | exact conv_eq rfl | (refine conv_eq ?_; rw [wrap_id (by omega) (by omega)]; simp; done) | (refine conv_eq ?_; simp; done)⟩, ⟨rfl, _, rfl, by first | exact conv_eq rfl | (refine conv_eq ?_; rw [wrap_id (by omega) (by omega)]; simp; done) | (refine conv_eq ?_; simp; done)⟩, trivial⟩ ⟨ob_list (okIds_cal _) rfl rfl rfl rfl rfl (fun q hq => rfl), trivial⟩ rfl
          · rintro k hk
            refine WP.seq ?_
            refine WP.seq ?_
            refine WP.reg hT hE [] rfl ?_ ?_
            · first | trivial | (simp [holdsC, under, slOk, slB, capEq] <;> grind)
            refine WP.cond rfl (fun h13 => ?_) (fun h13 => ?_)
            · have hkl : k < h.length := by simpa using h13
              refine WP.skip ?_
              refine WP.seq ?_
              refine WP.block ?_
              refine WP.seq ?_
              refine WP.drw hT hE hM [] rfl ?_ ?_
              · simp [holdsC, under]
                omega
              refine WP.cond rfl (fun h15 => ?_) (fun h15 => ?_)
              · have hopn : isOpen h (eAt t i).go k = true := by
                  have e : (bif (calAt h k).go == (eAt t i).go then (calAt h k).fin == -1 else false) = true := h15
                  rw [band] at e
                  exact e
                refine WP.reg hT hE [] rfl ?_ ?_
                · first | trivial | (simp [holdsC, under, slOk, slB, capEq] <;> grind)
                refine WP.reg hT hE [] rfl ?_ ?_
                · first | trivial | (simp [holdsC, under, slOk, slB, capEq] <;> grind)
                refine ⟨k + 1, ?_, ?_, ?_⟩
                · exact hkl
                · refine Ent.mk hT [] trivial ⟨⟨rfl, _, rfl, by first | exact conv_eq rfl | (refine conv_eq ?_; rw [wrap_id (by omega) (by omega)]; simp; done) | (refine conv_eq ?_; simp; done)⟩, ⟨rfl, _, rfl, by first | exact conv_eq rfl | (refine conv_eq ?_; rw [wrap_id (by omega) (by omega)]; simp; done) | (refine conv_eq ?_; simp; done)⟩, ⟨rfl, _, rfl, by first | exact conv_eq rfl | (refine conv_eq ?_; rw [wrap_id (by omega) (by omega)]; simp; done) | (refine conv_eq ?_; simp; done)⟩, ⟨rfl, _, rfl, by first | exact conv_eq rfl | (refine conv_eq ?_; rw [wrap_id (by omega) (by omega)]; simp; done) | (refine conv_eq ?_; simp; done)⟩, ⟨rfl, _, rfl, by first | exact conv_eq rfl | (refine conv_eq ?_; rw [wrap_id (by omega) (by omega)]; simp; done) | (refine conv_eq ?_; simp; done)⟩, ⟨rfl, _, rfl, conv_eq (congrArg AV.int (by rw [openJ, hopn]; rfl))⟩, ⟨rfl, _, rfl, by first | exact conv_eq rfl | (refine conv_eq ?_; rw [wrap_id (by omega) (by omega)]; simp; done) | (refine conv_eq ?_; simp; done)⟩, trivial⟩ ⟨ob_list (okIds_cal _) rfl rfl rfl rfl rfl (fun q hq => rfl), trivial⟩ rfl
                · (try simp only []); first | omega | grind
              · have hopn : isOpen h (eAt t i).go k = false := by
                  have e : (bif (calAt h k).go == (eAt t i).go then (calAt h k).fin == -1 else false) = false := h15
                  rw [band] at e
                  exact e
                refine WP.skip ?_
                refine WP.reg hT hE [] rfl ?_ ?_
                · first | trivial | (simp [holdsC, under, slOk, slB, capEq] <;> grind)
                refine ⟨k + 1, ?_, ?_, ?_⟩
                · exact hkl
                · refine Ent.mk hT [] trivial ⟨⟨rfl, _, rfl, by first | exact conv_eq rfl | (refine conv_eq ?_; rw [wrap_id (by omega) (by omega)]; simp; done) | (refine conv_eq ?_; simp; done)⟩, ⟨rfl, _, rfl, by first | exact conv_eq rfl | (refine conv_eq ?_; rw [wrap_id (by omega) (by omega)]; simp; done) | (refine conv_eq ?_; simp; done)⟩, ⟨rfl, _, rfl, by first | exact conv_eq rfl | (refine conv_eq ?_; rw [wrap_id (by omega) (by omega)]; simp; done) | (refine conv_eq ?_; simp; done)⟩, ⟨rfl, _, rfl, by first | exact conv_eq rfl | (refine conv_eq ?_; rw [wrap_id (by omega) (by omega)]; simp; done) | (refine conv_eq ?_; simp; done)⟩, ⟨rfl, _, rfl, by first | exact conv_eq rfl | (refine conv_eq ?_; rw [wrap_id (by omega) (by omega)]; simp; done) | (refine conv_eq ?_; simp; done)⟩, ⟨rfl, _, rfl, conv_eq (congrArg AV.int (by rw [openJ, hopn]; rfl))⟩, ⟨rfl, _, rfl, by first | exact conv_eq rfl | (refine conv_eq ?_; rw [wrap_id (by omega) (by omega)]; simp; done) | (refine conv_eq ?_; simp; done)⟩, trivial⟩ ⟨ob_list (okIds_cal _) rfl rfl rfl rfl rfl (fun q hq => rfl), trivial⟩ rfl
                · (try simp only []); first | omega | grind
            · obtain rfl : k = h.length := by simp at h13; omega
              refine WP.exit ?_
              refine WP.seq ?_
              refine WP.seq ?_
              refine WP.reg hT hE [] rfl ?_ ?_
              · first | trivial | (simp [holdsC, under, slOk, slB, capEq] <;> grind)
              refine WP.cond rfl (fun h17 => ?_) (fun h17 => ?_)
              · have hw1 : (eAt t i).tag.tmod 10 = 1 := by simpa using h17
                refine WP.seq ?_
                refine WP.seq ?_
                refine WP.reg hT hE [] rfl ?_ ?_
                · first | trivial | (simp [holdsC, under, slOk, slB, capEq] <;> grind)
                refine WP.cond rfl (fun h18 => ?_) (fun h18 => ?_)
                · have hbad : notedTo t (i + 1) = none := by
                    rw [notedTo, hto]
                    have e : (bif decide (openI h (eAt t i).go ≥ 0) then true else decide ((h.length : Int) ≥ 8)) = true := h18
                    rw [bor, Bool.or_eq_true, decide_eq_true_eq, decide_eq_true_eq] at e
                    have e2 : openI h (eAt t i).go ≠ -1 ∨ h.length = 8 := by omega
                    simp [stepN, hsk, hw1, e2]
                  refine WP.seq ?_
                  refine WP.reg hT hE [] rfl ?_ ?_
                  · first | trivial | (simp [holdsC, under, slOk, slB, capEq] <;> grind)
                  refine WP.ret ?_
                  change Fin _ _ _ _ _ _ _ _
                  rw [show notedF t = ([], 260) by rw [notedF, if_neg (by simp [hz]), noted_none hbad _ hil]]
                  exact fin_n [] trivial (by rfl) (by exact conv_nil_row (by decide)) (by rfl)
                · have hno : openI h (eAt t i).go = -1 ∧ h.length ≠ 8 := by
                    have e : (bif decide (openI h (eAt t i).go ≥ 0) then true else decide ((h.length : Int) ≥ 8)) = false := h18
                    rw [bor, Bool.or_eq_false_iff, decide_eq_false_iff_not, decide_eq_false_iff_not] at e
                    refine ⟨Classical.byContradiction fun h0 => ?_, by omega⟩
                    obtain ⟨k, k1, k2, _⟩ := open_at h0
                    omega
                  refine WP.skip ?_
                  refine WP.seq ?_
                  refine WP.reg hT hE [] rfl ?_ ?_
                  · first | trivial | (simp [holdsC, under, slOk, slB, capEq] <;> grind)
                  refine WP.seq ?_
                  refine WP.seq ?_
                  refine WP.reg hT hE [] rfl ?_ ?_
                  · first | trivial | (simp [holdsC, under, slOk, slB, capEq] <;> grind)
                  refine WP.cond rfl (fun h21 => ?_) (fun h21 => ?_)
                  · have hin : (eAt t i).tag.tdiv 10 ≠ 1 ∧ (eAt t i).tag.tdiv 10 ≠ 5 := by
                      have e : (bif (bif (eAt t i).tag.tdiv 10 == 2 then true else (eAt t i).tag.tdiv 10 == 3) then true else (eAt t i).tag.tdiv 10 == 4) = true := h21
                      simp only [bor, Bool.or_eq_true, beq_iff_eq] at e
                      omega
                    refine WP.reg hT hE [] rfl ?_ ?_
                    · first | trivial | (simp [holdsC, under, slOk, slB, capEq] <;> grind)
                    refine WP.seq ?_
                    refine WP.reg hT hE [] rfl ?_ ?_
                    · have hb : (T 30).bytes = 56 := rfl
                      simp [holdsC, under, hb]
                      omega
                    refine WP.exit ?_
                    refine WP.reg hT hE [] rfl ?_ ?_
                    · first | trivial | (simp [holdsC, under, slOk, slB, capEq] <;> grind)
                    refine ⟨(i + 1, h ++ [newC i (eAt t i)]), ?_, ?_, ?_⟩
                    · refine ⟨hil, ?_, by simp; omega, one_app hone hno.1⟩
                      rw [notedTo, hto]
                      simp [stepN, hsk, hw1, hno.1, hno.2]
                    · refine Ent.mk hT [] trivial ⟨⟨rfl, _, rfl, by first | exact conv_eq rfl | (refine conv_eq ?_; rw [wrap_id (by omega) (by omega)]; simp; done) | (refine conv_eq ?_; simp; done)⟩, ⟨rfl, _, rfl, conv_eq (by simp only [ownC, List.length_append, List.length_singleton])⟩, ⟨rfl, _, rfl, by first | exact conv_eq rfl | (refine conv_eq ?_; rw [wrap_id (by omega) (by omega)]; simp; done) | (refine conv_eq ?_; simp; done)⟩, trivial⟩ ⟨ob_list (okIds_cal _) rfl rfl (by simp only [List.length_append, List.length_singleton]) rfl rfl (appL (l := h) (x := newC i (eAt t i)) (z := (T 30).zero) rfl (by exact agg_ext (fun j => by match j with | 0 => rfl | 1 => rfl | 2 => exact congrArg AV.int (if_pos hin).symm | 3 => rfl | 4 => rfl | 5 => exact congrArg AV.int h2i | 6 => rfl | j + 7 => rfl)) (fun q hq => rfl)), trivial⟩ rfl
                    · (try simp only []); first | omega | grind
                  · have hin : ¬ ((eAt t i).tag.tdiv 10 ≠ 1 ∧ (eAt t i).tag.tdiv 10 ≠ 5) := by
                      have e : (bif (bif (eAt t i).tag.tdiv 10 == 2 then true else (eAt t i).tag.tdiv 10 == 3) then true else (eAt t i).tag.tdiv 10 == 4) = false := h21
                      simp only [bor, Bool.or_eq_false_iff, beq_eq_false_iff_ne] at e
                      omega
                    refine WP.skip ?_
                    refine WP.seq ?_
                    refine WP.reg hT hE [] rfl ?_ ?_
                    · have hb : (T 30).bytes = 56 := rfl
                      simp [holdsC, under, hb]
                      omega
                    refine WP.exit ?_
                    refine WP.reg hT hE [] rfl ?_ ?_
                    · first | trivial | (simp [holdsC, under, slOk, slB, capEq] <;> grind)
                    refine ⟨(i + 1, h ++ [newC i (eAt t i)]), ?_, ?_, ?_⟩
                    · refine ⟨hil, ?_, by simp; omega, one_app hone hno.1⟩
                      rw [notedTo, hto]
                      simp [stepN, hsk, hw1, hno.1, hno.2]
                    · refine Ent.mk hT [] trivial ⟨⟨rfl, _, rfl, by first | exact conv_eq rfl | (refine conv_eq ?_; rw [wrap_id (by omega) (by omega)]; simp; done) | (refine conv_eq ?_; simp; done)⟩, ⟨rfl, _, rfl, conv_eq (by simp only [ownC, List.length_append, List.length_singleton])⟩, ⟨rfl, _, rfl, by first | exact conv_eq rfl | (refine conv_eq ?_; rw [wrap_id (by omega) (by omega)]; simp; done) | (refine conv_eq ?_; simp; done)⟩, trivial⟩ ⟨ob_list (okIds_cal _) rfl rfl (by simp only [List.length_append, List.length_singleton]) rfl rfl (appL (l := h) (x := newC i (eAt t i)) (z := (T 30).zero) rfl (by exact agg_ext (fun j => by match j with | 0 => rfl | 1 => rfl | 2 => exact congrArg AV.int (if_neg hin).symm | 3 => rfl | 4 => rfl | 5 => exact congrArg AV.int h2i | 6 => rfl | j + 7 => rfl)) (fun q hq => rfl)), trivial⟩ rfl
                    · (try simp only []); first | omega | grind
              · have hw1 : ¬ (eAt t i).tag.tmod 10 = 1 := by simpa using h17
                have hop : openI h (eAt t i).go ≠ -1 → ∃ k : Nat, k < h.length ∧ openI h (eAt t i).go = k ∧ (calAt h k).go = (eAt t i).go ∧ (calAt h k).fin = -1 := open_at
                have hm1 : openI h (eAt t i).go ≥ -1 := by
                  by_cases h0 : openI h (eAt t i).go = -1
                  · omega
                  · obtain ⟨k, k1, k2, _⟩ := hop h0
                    omega
                refine WP.skip ?_
                refine WP.seq ?_
                refine WP.seq ?_
                refine WP.reg hT hE [] rfl ?_ ?_
                · simp [holdsC, under]
                  intro h0
                  by_cases h1 : openI h (eAt t i).go = -1
                  · have h0' : 0 ≤ openI h (eAt t i).go := h0
                    omega
                  · obtain ⟨k, k1, k2, _⟩ := hop h1
                    exact ⟨h0, show openI h (eAt t i).go < h.length by omega⟩
                refine WP.cond rfl (fun h24 => ?_) (fun h24 => ?_)
                · have hbad : notedTo t (i + 1) = none := by
                    rw [notedTo, hto]
                    have e : (bif decide (openI h (eAt t i).go < 0) then true else (calAt h (openI h (eAt t i).go).toNat).act != (eAt t i).tag.tdiv 10) = true := h24
                    simp only [bor, Bool.or_eq_true, decide_eq_true_eq, bne_iff_ne] at e
                    by_cases h0 : openI h (eAt t i).go = -1
                    · simp [stepN, hsk, hw1, h0]
                    · have e2 := e.resolve_left (by omega)
                      simp [stepN, hsk, hw1, h0, e2]
                  refine WP.seq ?_
                  refine WP.reg hT hE [] rfl ?_ ?_
                  · first | trivial | (simp [holdsC, under, slOk, slB, capEq] <;> grind)
                  refine WP.ret ?_
                  change Fin _ _ _ _ _ _ _ _
                  rw [show notedF t = ([], 260) by rw [notedF, if_neg (by simp [hz]), noted_none hbad _ hil]]
                  exact fin_n [] trivial (by rfl) (by exact conv_nil_row (by decide)) (by rfl)
                · have hh : openI h (eAt t i).go ≠ -1 ∧ (calAt h (openI h (eAt t i).go).toNat).act = (eAt t i).tag.tdiv 10 := by
                    have e : (bif decide (openI h (eAt t i).go < 0) then true else (calAt h (openI h (eAt t i).go).toNat).act != (eAt t i).tag.tdiv 10) = false := h24
                    simp only [bor, Bool.or_eq_false_iff, decide_eq_false_iff_not, bne_eq_false_iff_eq] at e
                    exact ⟨by omega, e.2⟩
                  obtain ⟨hne, hact⟩ := hh
                  obtain ⟨k, k1, k2, k3, k4⟩ := hop hne
                  have hK : (openI h (eAt t i).go).toNat = k := by omega
                  have hstep : notedTo t (i + 1) = some (h.set (openI h (eAt t i).go).toNat (endC i (eAt t i) (calAt h (openI h (eAt t i).go).toNat))) := by
                    rw [notedTo, hto]
                    simp [stepN, hsk, hw1, hne, hact]
                  clear hop
                  refine WP.skip ?_
                  refine WP.seq ?_
                  refine WP.reg hT hE [] rfl ?_ ?_
                  · simp [holdsC, under]
                    exact ⟨show 0 ≤ openI h (eAt t i).go by omega, show openI h (eAt t i).go < h.length by omega⟩
                  refine WP.seq ?_
                  refine WP.reg hT hE [] rfl ?_ ?_
                  · first | trivial | (simp [holdsC, under, slOk, slB, capEq] <;> grind)
                  refine WP.seq ?_
                  refine WP.reg hT hE [] rfl ?_ ?_
                  · first | trivial | (simp [holdsC, under, slOk, slB, capEq] <;> grind)
                  refine WP.seq ?_
                  refine WP.seq ?_
                  have hemp : ((eAt t i).tag.tmod 10 == 3) = ((eAt t i).tag == 53) := by
                    rw [Bool.eq_iff_iff, beq_iff_eq, beq_iff_eq]
                    omega
                  refine WP.reg hT hE [] rfl ?_ ?_
                  · first | trivial | (simp [holdsC, under, slOk, slB, capEq] <;> grind)
                  refine WP.cond rfl (fun h29 => ?_) (fun h29 => ?_)
                  · have hout : ((eAt t i).tag.tdiv 10 = 1 ∨ (eAt t i).tag.tdiv 10 = 5) ∧ (eAt t i).tag ≠ 53 := by
                      have e : (bif (eAt t i).tag.tmod 10 == 2 then (bif (calAt h (openI h (eAt t i).go).toNat).act == 1 then true else (calAt h (openI h (eAt t i).go).toNat).act == 5) else false) = true := h29
                      rw [hact] at e
                      simp only [band, bor, Bool.and_eq_true, Bool.or_eq_true, beq_iff_eq] at e
                      exact ⟨e.2, by omega⟩
                    refine WP.reg hT hE [] rfl ?_ ?_
                    · first | trivial | (simp [holdsC, under, slOk, slB, capEq] <;> grind)
                    refine WP.reg hT hE [] rfl ?_ ?_
                    · simp [holdsC, under]
                      exact ⟨show 0 ≤ openI h (eAt t i).go by omega, show openI h (eAt t i).go < h.length by omega⟩
                    refine WP.reg hT hE [] rfl ?_ ?_
                    · first | trivial | (simp [holdsC, under, slOk, slB, capEq] <;> grind)
                    refine ⟨(i + 1, h.set (openI h (eAt t i).go).toNat (endC i (eAt t i) (calAt h (openI h (eAt t i).go).toNat))), ?_, ?_, ?_⟩
                    · exact ⟨hil, hstep, by simpa using hlen, one_set hone (by omega) (by simp only [endC]; omega)⟩
                    · refine Ent.mk hT [] trivial ⟨⟨rfl, _, rfl, by first | exact conv_eq rfl | (refine conv_eq ?_; rw [wrap_id (by omega) (by omega)]; simp; done) | (refine conv_eq ?_; simp; done)⟩, ⟨rfl, _, rfl, conv_eq (by simp only [ownC, List.length_set])⟩, ⟨rfl, _, rfl, by first | exact conv_eq rfl | (refine conv_eq ?_; rw [wrap_id (by omega) (by omega)]; simp; done) | (refine conv_eq ?_; simp; done)⟩, trivial⟩ ⟨ob_list (okIds_cal _) rfl rfl (by simp) rfl rfl (fun q hq => set_list (enc := encCal) (l := h) (i := (openI h (eAt t i).go).toNat) (x := endC i (eAt t i) (calAt h (openI h (eAt t i).go).toNat)) (by omega) (by exact agg_ext (fun j => by match j with | 0 => rfl | 1 => rfl | 2 => rfl | 3 => exact congrArg AV.int (if_pos hout).symm | 4 => exact congrArg AV.bool hemp | 5 => rfl | 6 => exact congrArg AV.int h2i | j + 7 => rfl)) q), trivial⟩ rfl
                    · (try simp only []); first | omega | grind
                  · have hout : ¬ (((eAt t i).tag.tdiv 10 = 1 ∨ (eAt t i).tag.tdiv 10 = 5) ∧ (eAt t i).tag ≠ 53) := by
                      have e : (bif (eAt t i).tag.tmod 10 == 2 then (bif (calAt h (openI h (eAt t i).go).toNat).act == 1 then true else (calAt h (openI h (eAt t i).go).toNat).act == 5) else false) = false := h29
                      rw [hact] at e
                      simp only [band, bor, Bool.and_eq_false_iff, Bool.or_eq_false_iff, beq_eq_false_iff_ne] at e
                      omega
                    refine WP.skip ?_
                    refine WP.reg hT hE [] rfl ?_ ?_
                    · simp [holdsC, under]
                      exact ⟨show 0 ≤ openI h (eAt t i).go by omega, show openI h (eAt t i).go < h.length by omega⟩
                    refine WP.reg hT hE [] rfl ?_ ?_
                    · first | trivial | (simp [holdsC, under, slOk, slB, capEq] <;> grind)
                    refine ⟨(i + 1, h.set (openI h (eAt t i).go).toNat (endC i (eAt t i) (calAt h (openI h (eAt t i).go).toNat))), ?_, ?_, ?_⟩
                    · exact ⟨hil, hstep, by simpa using hlen, one_set hone (by omega) (by simp only [endC]; omega)⟩
                    · refine Ent.mk hT [] trivial ⟨⟨rfl, _, rfl, by first | exact conv_eq rfl | (refine conv_eq ?_; rw [wrap_id (by omega) (by omega)]; simp; done) | (refine conv_eq ?_; simp; done)⟩, ⟨rfl, _, rfl, conv_eq (by simp only [ownC, List.length_set])⟩, ⟨rfl, _, rfl, by first | exact conv_eq rfl | (refine conv_eq ?_; rw [wrap_id (by omega) (by omega)]; simp; done) | (refine conv_eq ?_; simp; done)⟩, trivial⟩ ⟨ob_list (okIds_cal _) rfl rfl (by simp) rfl rfl (fun q hq => set_list (enc := encCal) (l := h) (i := (openI h (eAt t i).go).toNat) (x := endC i (eAt t i) (calAt h (openI h (eAt t i).go).toNat)) (by omega) (by exact agg_ext (fun j => by match j with | 0 => rfl | 1 => rfl | 2 => rfl | 3 => exact congrArg AV.int (if_neg hout).symm | 4 => exact congrArg AV.bool hemp | 5 => rfl | 6 => exact congrArg AV.int h2i | j + 7 => rfl)) q), trivial⟩ rfl
                    · (try simp only []); first | omega | grind
      · obtain rfl : i = t.length := by simp at h6; omega
        refine WP.exit ?_
        refine WP.seq ?_
        refine WP.reg hT hE [] rfl ?_ ?_
        · first | trivial | (simp [holdsC, under, slOk, slB, capEq] <;> grind)
        refine WP.ret ?_
        change Fin _ _ _ _ _ _ _ _
        rw [show notedF t = (h, 0) by simp [notedF, hz, hto]]
        exact fin_n [(.s 132 0, h.length)] ⟨⟨_, by rfl, Nat.le_refl _⟩, trivial⟩ (by rfl) (by exact conv_row rfl rfl rfl (fun h => by cases h) (by simp [lookF, idbeq_self]) (fun j hj => by rw [Nat.zero_add]; exact ⟨noIds_cal _, AEq.refl _⟩)) (by rfl)
end Go.Ab


/- LinearNotes: the walk. -/
set_option autoImplicit false
set_option maxRecDepth 20000
set_option linter.unusedSimpArgs false
set_option linter.unusedVariables false
namespace Go.Ab
open Go.Proofs
theorem notes_ac (g : Bool) (t : List Evt) (hr : ∀ i, i < t.length → -9223372036854775808 ≤ (eAt t i).tag ∧ (eAt t i).tag < 9223372036854775808) : AC Try.prog T tysN 8 [evts g t] [] (.bool true) [] := by
  refine AC_intro hT Try.func8 rfl rfl (Nat.le_of_ble_eq_true rfl) ?_
  refine WP.seq ?_
  refine WP.reg hT hE [] rfl ?_ ?_
  · first | trivial | (simp [holdsC, under, slOk, slB, capEq] <;> grind)
  refine WP.seq ?_
  refine WP.reg hT hE [CG.pure (encN (notedF t))] rfl ?_ ?_
  · exact noted_ac g t
  refine WP.seq ?_
  refine WP.reg hT hE [CG.pure (encN (notedF t))] rfl ?_ ?_
  · exact rnoted_ac g t hr
  refine WP.seq ?_
  refine WP.reg hT hE [CG.pure (.bool true), CG.pure (.bool true)] rfl ?_ ?_
  · have hs := speaks_ac
    have hh := sameH_ac false false (notedF t).1
    simp [holdsC, under, CG.pure]
    exact ⟨hh, hs⟩
  refine WP.ret ?_
  change Fin _ _ _ _ _ _ _ _
  refine fin1 hT rfl ?_
  simp
end Go.Ab


/- Ab, part 35: a law's row out of its contract. -/
set_option autoImplicit false
set_option linter.unusedVariables false
namespace Go.Ab
open Go.ChangeShapes Go.WideShapes Go.ChangeAt Go.RowKit
section
variable {P : Program} {T : Nat → TI} {N : Nat}
/-- What is read as a value of type t is some enc a. -/
def Dec (P : Program) (T : Nat → TI) (N : Nat) (t : Nat) {α : Type} (enc : α → AV) (Q : α → Prop) : Prop :=
  ∀ (H : Type) (eh : TypeId × Value → H) (w : World) (fuel : Nat) (cs : List Value) (d : DataW H) (ps : List MemPlace), DataW.trod eh P w 0 (fun _ => true) true fuel t cs = some (d, ps) → ∃ a, Q a ∧ Rep T N (memI w) noPl (enc a) cs ∧ fit T t (enc a) = true
theorem Dec.map {t : Nat} {α β : Type} {enc : α → AV} {enc' : β → AV} {Q : α → Prop} {Q' : β → Prop} (h : Dec P T N t enc Q) (f : α → β) (he : ∀ a, enc' (f a) = enc a) (hq : ∀ a, Q a → Q' (f a)) : Dec P T N t enc' Q' := fun H eh w fuel cs d ps hr => by
  obtain ⟨a, h1, h2, h3⟩ := h H eh w fuel cs d ps hr
  exact ⟨f a, hq a h1, by rw [he]; exact h2, by rw [he]; exact h3⟩
theorem Dec.int {t : Nat} {k : IntKind} (hu : P.underlying t = some (.int k)) (hk : (T t).kind.isAgg = false) : Dec P T N t (fun n : Int => .v (.int k n)) (fun n => k.min ≤ n ∧ n ≤ k.max) := by
  intro H eh w fuel cs d ps hr
  cases fuel with
  | zero => simp [DataW.trod] at hr
  | succ fuel =>
    unfold DataW.trod at hr
    rw [hu] at hr
    match cs, hr with
    | [.int k' n], hr =>
      simp only [Option.ite_none_right_eq_some] at hr
      obtain ⟨⟨rfl, hwf⟩, _⟩ := hr
      simp only [Lit.wf, Bool.and_eq_true, decide_eq_true_eq] at hwf
      exact ⟨n, hwf, .v rfl, by simp [fit, hk]⟩
theorem Dec.bool {t : Nat} (hu : P.underlying t = some .bool) (hk : (T t).kind.isAgg = false) : Dec P T N t (fun b : Bool => .v (.bool b)) (fun _ => True) := by
  intro H eh w fuel cs d ps hr
  cases fuel with
  | zero => simp [DataW.trod] at hr
  | succ fuel =>
    unfold DataW.trod at hr
    rw [hu] at hr
    match cs, hr with
    | [.bool b], hr => exact ⟨b, trivial, .v rfl, by simp [fit, hk]⟩
theorem mapM_at {α β : Type} {f : α → Option β} : ∀ {l : List α} {r : List β}, l.mapM f = some r → r.length = l.length ∧ ∀ (i : Nat) (x : α), l[i]? = some x → ∃ y, r[i]? = some y ∧ f x = some y
  | [], r, h => by
    simp at h
    subst h
    exact ⟨rfl, fun i x hi => by simp at hi⟩
  | a :: l, r, h => by
    rw [List.mapM_cons] at h
    simp only [Option.pure_def, Option.bind_eq_bind, Option.bind_eq_some_iff, Option.some.injEq] at h
    obtain ⟨y, h1, ys, h2, rfl⟩ := h
    obtain ⟨h3, h4⟩ := mapM_at h2
    refine ⟨by simp [h3], fun i x hi => ?_⟩
    cases i with
    | zero => simp at hi; subst hi; exact ⟨y, rfl, h1⟩
    | succ i => simpa using h4 i x (by simpa using hi)
theorem cells?_get {w : World} {base : Nat} {a : Addr} {n : Nat} {cs : List Value} (h : w.cells? base a n = some cs) : cs.length = n ∧ ∀ i, i < n → w.cell? (a.add i) = cs[i]? := by
  unfold World.cells? at h
  split at h
  · obtain ⟨h1, h2⟩ := mapM_at h
    refine ⟨by simpa using h1, fun i hi => ?_⟩
    obtain ⟨y, h3, h4⟩ := h2 i i (by simp [hi])
    rw [h3]; exact h4
  · cases h
theorem TOK.cellsOf (hT : TOK P T N) {t : Nat} (ht : t < N) : P.cellsOf t = (T t).size := by
  obtain ⟨i, h1, h2, _⟩ := hT.info t ht
  simp [Program.cellsOf, h1, h2]
/-- A row of what is read so. -/
def rowL {α : Type} (e : Nat) (enc : α → AV) (d : α) (f : Bool) (l : List α) : AV := .row e f l.length (fun i => enc (l.getD i d))
/-- A slice among the arguments. -/
theorem dec_slice (hT : TOK P T N) {t e : Nat} {α : Type} {enc : α → AV} {Q : α → Prop} (d0 : α) (hu : P.underlying t = some (.slice e)) (he : e < N) (hd : Dec P T N e enc Q) {H : Type} {eh : TypeId × Value → H} {w : World} {fuel base : Nat} {v : Value} {d : DataW H} {ps : List MemPlace}
    (hr : DataW.trod eh P w 0 (fun _ => true) true fuel t v.cells.toList = some (d, ps)) (hok : Value.okWide P w .any base t v) : ∃ l : List α, (∀ a ∈ l, Q a) ∧ RepV T N (memI w) noPl (rowL e enc d0 false l) v := by
  have hc : Cell.okWide P w .any base t v := by
    unfold Value.okWide at hok
    rw [hu] at hok
    exact hok
  unfold Cell.okWide Cell.ok at hc
  rw [hu] at hc
  cases fuel with
  | zero => simp [DataW.trod] at hr
  | succ fuel =>
  cases v <;> simp only at hc <;> try exact absurd hc id
  rename_i a len cap
  cases a with
  | none =>
    have h0 : len = 0 ∧ cap = 0 := by
      cases len <;> cases cap <;> simp_all
    obtain ⟨rfl, rfl⟩ := h0
    exact ⟨[], fun a ha => by simp at ha, .one ⟨[_], .row0 he, rfl⟩⟩
  | some a =>
    have hhas : len ≤ cap ∧ (cap : Int) ≤ IntKind.i64.max ∧ w.has P .any base a e cap := by
      simpa using hc
    obtain ⟨h1, h2, h3⟩ := hhas
    have hspot := h3.2.1
    obtain ⟨b, off, spot⟩ := a
    simp only at hspot
    subst hspot
    have hcap : cap < 2 ^ 63 := by
      have : IntKind.i64.max = 9223372036854775807 := rfl
      omega
    unfold DataW.trod at hr
    rw [hu] at hr
    simp only [Value.cells, List.toList_toArray, Option.ite_none_right_eq_some, if_true, Option.bind_eq_some_iff, Option.map_eq_some_iff] at hr
    obtain ⟨_, elems, hel, _⟩ := hr
    obtain ⟨hlen, hat⟩ := mapM_at hel
    have hsz := hT.cellsOf he
    have hpos := hT.size_pos he
    have hex : ∀ i, ∃ (a : α) (seg : List Value), i < len → Q a ∧ Rep T N (memI w) noPl (enc a) seg ∧ fit T e (enc a) = true ∧ seg.length = (T e).size ∧ ∀ o, o < (T e).size → memI w b (off + (i * (T e).size + o)) = seg[o]? := by
      intro i
      by_cases hi : i < len
      · obtain ⟨y, h5, h6⟩ := hat i i (by simp [hi])
        simp only [Option.bind_eq_some_iff] at h6
        obtain ⟨seg, h7, h8⟩ := h6
        obtain ⟨a, q1, q2, q3⟩ := hd H eh w fuel seg y.1 y.2 h8
        obtain ⟨c1, c2⟩ := cells?_get h7
        rw [hsz] at c1 c2
        refine ⟨a, seg, fun _ => ⟨q1, q2, q3, c1, fun o ho => ?_⟩⟩
        rw [← c2 o ho]
        simp only [memI, add_none, Nat.add_assoc]
      · exact ⟨d0, [], fun h => absurd h hi⟩
    have hch := fun i => Classical.choose_spec (Classical.choose_spec (hex i))
    generalize hA : (fun i => Classical.choose (hex i)) = A at hch
    have hA' : ∀ i, Classical.choose (hex i) = A i := fun i => congrFun hA i
    refine ⟨(List.range len).map A, fun a ha => ?_, .one ⟨[_], ?_, rfl⟩⟩
    · simp only [List.mem_map, List.mem_range] at ha
      obtain ⟨i, hi, rfl⟩ := ha
      have := (hch i hi).1
      rwa [hA'] at this
    · have hg : ∀ i, i < len → ((List.range len).map A).getD i d0 = A i := fun i hi => by simp [hi]
      have := Rep.row (T := T) (N := N) (I := memI w) (ρ := noPl) (e := e) (full := false) (len := ((List.range len).map A).length) (get := fun i => enc (((List.range len).map A).getD i d0)) b off cap (fun i => Classical.choose (Classical.choose_spec (hex i))) he (by simpa using h1) hcap (fun h => by cases h)
        (fun i hi => by have hi' : i < len := by simpa using hi
                        rw [hg i hi', ← hA']; exact (hch i hi').2.1)
        (fun i hi => by have hi' : i < len := by simpa using hi
                        rw [hg i hi', ← hA']; exact (hch i hi').2.2.1)
        (fun i hi => (hch i (by simpa using hi)).2.2.2.1)
        (fun i hi o ho => (hch i (by simpa using hi)).2.2.2.2 o ho)
      simpa [rowL] using this
/-- .. of each field. -/
def DecL (P : Program) (T : Nat → TI) (N : Nat) (fs : List Nat) {β : Type} (encL : β → List AV) (Q : β → Prop) : Prop :=
  ∀ (H : Type) (eh : TypeId × Value → H) (w : World) (fuel : Nat) (cs : Nat → List Value), (∀ (i u : Nat), fs[i]? = some u → ∃ y : DataW H × List MemPlace, DataW.trod eh P w 0 (fun _ => true) true fuel u (cs i) = some y) →
    ∃ b, Q b ∧ (encL b).length = fs.length ∧ ∀ (i u : Nat), fs[i]? = some u → Rep T N (memI w) noPl ((encL b).getD i .bad) (cs i) ∧ fit T u ((encL b).getD i .bad) = true
theorem DecL.nil : DecL P T N [] (fun _ : Unit => []) (fun _ => True) := fun H eh w fuel cs h => ⟨(), trivial, rfl, fun i u hi => by simp at hi⟩
theorem DecL.cons {t : Nat} {fs : List Nat} {α β : Type} {enc : α → AV} {encL : β → List AV} {Q : α → Prop} {R : β → Prop} (hd : Dec P T N t enc Q) (hl : DecL P T N fs encL R) : DecL P T N (t :: fs) (fun x : α × β => enc x.1 :: encL x.2) (fun x => Q x.1 ∧ R x.2) := by
  intro H eh w fuel cs h
  obtain ⟨y, hy⟩ := h 0 t rfl
  obtain ⟨a, q1, q2, q3⟩ := hd H eh w fuel (cs 0) y.1 y.2 hy
  obtain ⟨b, r1, r2, r3⟩ := hl H eh w fuel (fun i => cs (i + 1)) (fun i u hi => h (i + 1) u (by simpa using hi))
  refine ⟨(a, b), ⟨q1, r1⟩, by simp [r2], fun i u hi => ?_⟩
  cases i with
  | zero => simp at hi; subst hi; exact ⟨q2, q3⟩
  | succ i => simpa using r3 i u (by simpa using hi)
theorem Dec.struct (hT : TOK P T N) {t : Nat} {fs : List Nat} {β : Type} {encL : β → List AV} {Q : β → Prop} (hk : (T t).kind = .struct fs) (hl : DecL P T N fs encL Q) : Dec P T N t (fun b => stru t (encL b)) Q := by
  intro H eh w fuel cs d ps hr
  have htN := hT.lt (t := t) (by rw [hk]; simp)
  obtain ⟨dd, hd1, hd2, hd3⟩ := hT.und t htN
  rw [hk] at hd2
  cases dd <;> simp only [kindOf, reduceCtorEq, TK.struct.injEq] at hd2
  rename_i flds
  cases fuel with
  | zero => simp [DataW.trod] at hr
  | succ fuel =>
    unfold DataW.trod at hr
    rw [hd1] at hr
    simp only [Option.ite_none_right_eq_some, Option.map_eq_some_iff] at hr
    obtain ⟨hlen, xs, hxs, _⟩ := hr
    obtain ⟨_, hat⟩ := mapM_at hxs
    have hS := hT.struct t fs hk
    have hszt := hT.cellsOf htN
    have hfl : ∀ (i u : Nat), fs[i]? = some u → ∃ f, flds[i]? = some f ∧ f.type = u ∧ f.offset = foff T fs i := by
      intro i u hu
      have hu' := hu
      rw [← hd2] at hu
      simp only [List.getElem?_map, Option.map_eq_some_iff, Array.getElem?_toList] at hu
      obtain ⟨f, h1, h2⟩ := hu
      refine ⟨f, h1, h2, ?_⟩
      rw [← hd2]
      exact (hd3 flds rfl i f h1).1
    have hex : ∀ (i u : Nat), fs[i]? = some u → ∃ y : DataW H × List MemPlace, DataW.trod eh P w 0 (fun _ => true) true fuel u ((cs.drop (foff T fs i)).take ((fs.getD i 0 |> T).size)) = some y := by
      intro i u hu
      obtain ⟨f, h1, h2, h3⟩ := hfl i u hu
      obtain ⟨y, _, h4⟩ := hat i f (by simpa using h1)
      refine ⟨y, ?_⟩
      rw [h2, h3, hT.cellsOf (hS.1 u (List.mem_of_getElem? hu))] at h4
      rw [show fs.getD i 0 = u by simp [hu]]
      exact h4
    obtain ⟨b, q1, q2, q3⟩ := hl H eh w fuel (fun i => (cs.drop (foff T fs i)).take ((fs.getD i 0 |> T).size)) hex
    refine ⟨b, q1, ?_, by simp [fit, stru, hk, TK.isAgg]⟩
    have hcl : cs.length = foff T fs fs.length := by rw [hlen, hszt, hS.2]
    have hmono : ∀ k, k < fs.length → foff T fs (k + 1) = foff T fs k + (T (fs.getD k 0)).size := fun k hk' => by
      simp only [foff, offs]
      simp [hk']
    have hup : ∀ j k, k + j = fs.length → foff T fs k ≤ cs.length := by
      intro j
      induction j with
      | zero => intro k hkj; rw [hcl, ← hkj]; exact Nat.le_refl _
      | succ j ih =>
        intro k hkj
        have h1 := ih (k + 1) (by omega)
        rw [hmono k (by omega)] at h1
        omega
    have hle : ∀ k, k ≤ fs.length → foff T fs k ≤ cs.length ∧ (List.range k).flatMap (fun i => (cs.drop (foff T fs i)).take ((fs.getD i 0 |> T).size)) = cs.take (foff T fs k) := by
      intro k
      induction k with
      | zero => intro _; exact ⟨hup fs.length 0 (by omega), by simp [foff, offs]⟩
      | succ k ih =>
        intro hk'
        have h1 := ih (by omega)
        refine ⟨hup (fs.length - (k + 1)) (k + 1) (by omega), ?_⟩
        rw [List.range_succ, List.flatMap_append, h1.2, hmono k (by omega), List.take_add]
        simp
    have hflat := (hle fs.length (Nat.le_refl _)).2
    rw [← hcl, List.take_length] at hflat
    have := Rep.struct (T := T) (N := N) (I := memI w) (ρ := noPl) (t := t) (n := fs.length) (get := fun i => (encL b).getD i .bad) fs (fun i => (cs.drop (foff T fs i)).take ((fs.getD i 0 |> T).size)) hk rfl htN (fun i u hu => (q3 i u hu).1) (fun i u hu => (q3 i u hu).2) (fun i u hu => by
      have hi := (List.getElem?_eq_some_iff.1 hu).1
      have h1 := (hle (i + 1) (by omega)).1
      rw [hmono i hi] at h1
      rw [List.length_take, List.length_drop, show fs.getD i 0 = u by simp [hu]] at *
      omega)
    rw [hflat] at this
    simpa [stru, q2] using this
end
end Go.Ab

/- Ab, part 36: a law's row: what the call leaves. -/
set_option autoImplicit false
set_option linter.unusedVariables false
namespace Go.Ab
open Go.ChangeShapes Go.WideShapes Go.ChangeAt Go.RowKit
section
variable {P : Program} {T : Nat → TI} {N : Nat} {H : Type} {enc : TypeId × Value → H}
theorem trodAll_below (hl : laidOutB P = true) {W W' : World} (hb : Below W.heap.size W W') : ∀ {ts : List TypeId} {vs : List Value} {ds : List (DataW H)} {ps : List MemPlace}, (ts.all fun t => P.readableRec t && decide (t < P.types.size)) = true → DataW.TrodAll enc P W 0 (fun _ => true) true ts vs ds ps → (∀ y ∈ ps, y.block < W.heap.size) →
    DataW.TrodAll enc P W' 0 (fun b => decide (b < W.heap.size)) true ts vs ds ps
  | [], [], [], ps, _, h, _ => h
  | [], _ :: _, _, _, _, h, _ => h.elim
  | [], [], _ :: _, _, _, h, _ => h.elim
  | _ :: _, [], _, _, _, h, _ => h.elim
  | _ :: _, _ :: _, [], _, _, h, _ => h.elim
  | t :: ts, v :: vs, d :: ds, ps, ht, h, hlt => by
    obtain ⟨p, q, h1, h2, rfl⟩ := h
    simp only [List.all_cons, Bool.and_eq_true, decide_eq_true_eq] at ht
    exact ⟨p, q, Below.trod hl ht.1.1 ht.1.2 h1 hb (fun y hy => hlt y (List.mem_append_left _ hy)), trodAll_below hl hb ht.2 h2 (fun y hy => hlt y (List.mem_append_right _ hy)), rfl⟩
theorem trodAll_len {W : World} {base : Nat} {sp : Nat → Bool} {held : Bool} : ∀ {ts : List TypeId} {vs : List Value} {ds : List (DataW H)} {ps : List MemPlace}, DataW.TrodAll enc P W base sp held ts vs ds ps → vs.length = ts.length ∧ ds.length = ts.length
  | [], [], [], ps, h => ⟨rfl, rfl⟩
  | [], _ :: _, _, _, h => h.elim
  | [], [], _ :: _, _, h => h.elim
  | _ :: _, [], _, _, h => h.elim
  | _ :: _, _ :: _, [], _, h => h.elim
  | t :: ts, v :: vs, d :: ds, ps, h => by
    obtain ⟨p, q, h1, h2, rfl⟩ := h
    have := trodAll_len h2
    simp [this.1, this.2]
/-- A law that is true at what its arguments are read as. -/
theorem law_calls (hl : laidOutB P = true) {f : FuncId} {fn : Func} {tb : TypeId} {s : ChangeSpec} {W : World} {args : Array Value} {ds gs : List (DataW H)} {before : List MemPlace}
    (hrow : (fn.params.toList.all fun t => P.readableRec t && decide (t < P.types.size)) = true) (hres : fn.resultTypes.toList = [tb]) (hb : P.underlying tb = some .bool) (hvars : s.vars = [])
    (hspec : ∀ ds : List (DataW H), ds.length = fn.params.toList.length → s.fn H ds = { results := [.lit (.bool true)], args := ds })
    (hW : DataW.Whole enc P fn.params.toList s.vars false W args.toList ds gs before) {avs : List AV} (hac : AC P T N f avs [] (.bool true) []) (hlen : avs.length = args.toList.length)
    (hrep : ∀ (i : Nat) (a : AV) (v : Value), avs[i]? = some a → args.toList[i]? = some v → RepV T N (memI W) noPl a v) :
    Calls P f args W fun e W' => ∃ v, e = .returned v ∧ s.post enc P fn false true false false W args v W' := by
  have hcall := hac.2 (memI W) noPl W args.toList hlen.symm (fun i a v h1 h2 => hrep i a v h1 h2) (wrep_none (fun b o y h => h))
  rw [Array.toArray_toList] at hcall
  refine hcall.mono ?_
  rintro e W' ⟨v, I', ρ', rfl, hev, hv, _⟩
  have hbelow : Below W.heap.size W W' := ⟨hev.os, hev.tape, hev.output, hev.size, fun k hk => hev.frame k hk (fun id p hp => by simp [noPl] at hp)⟩
  have hW' := hW
  obtain ⟨p, q, hA, hV, rfl, _, _⟩ := hW
  rw [hvars] at hV
  obtain ⟨rfl, rfl⟩ := trodVars_none hV
  have hlt : ∀ y ∈ p, y.block < W.heap.size := fun y hy => hW'.lt y (List.mem_append_left _ hy)
  have hA' := trodAll_below hl hbelow hrow hA hlt
  obtain ⟨rfl, _⟩ := (hv.rep1 (fun _ => by simp)).v
  have hsz : fn.resultTypes.size = 1 := by
    have := congrArg List.length hres
    simpa using this
  refine ⟨_, rfl, ds, [], p ++ [], [], p, [], hW', ?_, ?_, ?_, hbelow.frame _, fun h => by cases h⟩
  · rw [List.append_nil, hspec ds (trodAll_len hA).2, hres, hsz]
    exact trodAll_mk1 (shut_bool hb true)
  · rw [List.append_nil, hspec ds (trodAll_len hA).2]
    exact hA'
  · rw [List.append_nil, hspec ds (trodAll_len hA).2, hvars]
    rfl
end
end Go.Ab

/- What a history reads as; the program's facts for rows. -/
set_option autoImplicit false
set_option maxRecDepth 20000
set_option linter.unusedVariables false
namespace Go.Ab
open Go.Proofs Go.ChangeShapes Go.WideShapes Go.ChangeAt Go.RowKit
theorem tryOwn : ownKnob Try.prog.godebug = none := by kernel_rfl
theorem tryLaid : laidOutB Try.prog = true := by kernel_rfl
theorem u2 : Try.prog.underlying 2 = some (.int .i64) := by kernel_rfl
theorem u3 : Try.prog.underlying 3 = some (.int .i64) := by kernel_rfl
theorem u4 : Try.prog.underlying 4 = some .bool := by kernel_rfl
theorem u22 : Try.prog.underlying 22 = some (.slice 30) := by kernel_rfl
theorem u23 : Try.prog.underlying 23 = some (.slice 3) := by kernel_rfl
theorem decI3 : Dec Try.prog T tysN 3 (fun n : Int => .int n) (fun n => IntKind.i64.min ≤ n ∧ n ≤ IntKind.i64.max) := Dec.int u3 rfl
theorem decI2 : Dec Try.prog T tysN 2 (fun n : Int => .int n) (fun n => IntKind.i64.min ≤ n ∧ n ≤ IntKind.i64.max) := Dec.int u2 rfl
theorem decB4 : Dec Try.prog T tysN 4 (fun b : Bool => .bool b) (fun _ => True) := Dec.bool u4 rfl
theorem decCal : Dec Try.prog T tysN 30 encCal (fun _ => True) :=
  (Dec.struct (t := 30) hT (show (T 30).kind = .struct [3, 3, 2, 2, 4, 3, 3] from rfl) (DecL.cons decI3 (DecL.cons decI3 (DecL.cons decI2 (DecL.cons decI2 (DecL.cons decB4 (DecL.cons decI3 (DecL.cons decI3 DecL.nil)))))))).map (fun x => ⟨x.1, x.2.1, x.2.2.1, x.2.2.2.1, x.2.2.2.2.1, x.2.2.2.2.2.1, x.2.2.2.2.2.2.1⟩) (fun _ => rfl) (fun _ _ => trivial)
theorem arg_int {H : Type} {eh : TypeId × Value → H} {W : World} {base : Nat} {v : Value} {d : DataW H} {p : List MemPlace} (h : DataW.Trod eh Try.prog W 0 (fun _ => true) true 3 v d p) (hok : Value.okWide Try.prog W .any base 3 v) : ∃ n : Int, (IntKind.i64.min ≤ n ∧ n ≤ IntKind.i64.max) ∧ RepV T tysN (memI W) noPl (.int n) v := by
  obtain ⟨n, rfl, rfl, rfl, wn⟩ := open_int u3 hok h
  simp only [Lit.wf, Bool.and_eq_true, decide_eq_true_eq] at wn
  exact ⟨n, wn, .one ⟨[_], .v rfl, rfl⟩⟩
theorem arg_cals {H : Type} {eh : TypeId × Value → H} {W : World} {base : Nat} {v : Value} {d : DataW H} {p : List MemPlace} (h : DataW.Trod eh Try.prog W 0 (fun _ => true) true 22 v d p) (hok : Value.okWide Try.prog W .any base 22 v) : ∃ l : List Cal, RepV T tysN (memI W) noPl (cals false l) v := by
  obtain ⟨fuel, h⟩ := h
  obtain ⟨l, _, hl⟩ := dec_slice hT cal0 u22 (Nat.le_of_ble_eq_true rfl) decCal h hok
  exact ⟨l, hl⟩
/-- Arguments by their places. -/
theorem reps3 {W : World} {a b c : AV} {v0 v1 v2 : Value} (h0 : RepV T tysN (memI W) noPl a v0) (h1 : RepV T tysN (memI W) noPl b v1) (h2 : RepV T tysN (memI W) noPl c v2) :
    ∀ (i : Nat) (x : AV) (v : Value), [a, b, c][i]? = some x → (#[v0, v1, v2] : Array Value).toList[i]? = some v → RepV T tysN (memI W) noPl x v := by
  intro i x v hx hv
  match i with
  | 0 => simp at hx hv; subst hx hv; exact h0
  | 1 => simp at hx hv; subst hx hv; exact h1
  | 2 => simp at hx hv; subst hx hv; exact h2
  | i + 3 => simp at hx
theorem reps2 {W : World} {a b : AV} {v0 v1 : Value} (h0 : RepV T tysN (memI W) noPl a v0) (h1 : RepV T tysN (memI W) noPl b v1) :
    ∀ (i : Nat) (x : AV) (v : Value), [a, b][i]? = some x → (#[v0, v1] : Array Value).toList[i]? = some v → RepV T tysN (memI W) noPl x v := by
  intro i x v hx hv
  match i with
  | 0 => simp at hx hv; subst hx hv; exact h0
  | 1 => simp at hx hv; subst hx hv; exact h1
  | i + 2 => simp at hx
end Go.Ab

/- Ab, part 37: what an array reads as. -/
set_option autoImplicit false
set_option linter.unusedVariables false
namespace Go.Ab
open Go.ChangeShapes Go.WideShapes Go.ChangeAt Go.RowKit
section
variable {P : Program} {T : Nat → TI} {N : Nat}
theorem flat_chunks {cs : List Value} {s n : Nat} (h : cs.length = n * s) : ∀ k, k ≤ n → (List.range k).flatMap (fun i => (cs.drop (i * s)).take s) = cs.take (k * s)
  | 0, _ => by simp
  | k + 1, hk => by
    rw [List.range_succ, List.flatMap_append, flat_chunks h k (by omega), Nat.succ_mul, List.take_add]
    simp
theorem Dec.array (hT : TOK P T N) {t n e : Nat} {α : Type} {enc : α → AV} {Q : α → Prop} (d0 : α) (hk : (T t).kind = .array n e) (hd : Dec P T N e enc Q) : Dec P T N t (fun l : List α => .agg t n (fun i => enc (l.getD i d0))) (fun l => l.length = n ∧ ∀ a ∈ l, Q a) := by
  intro H eh w fuel cs d ps hr
  have htN := hT.lt (t := t) (by rw [hk]; simp)
  obtain ⟨dd, hd1, hd2, hd3⟩ := hT.und t htN
  rw [hk] at hd2
  cases dd <;> simp only [kindOf, reduceCtorEq, TK.array.injEq] at hd2
  rename_i n' e'
  obtain ⟨rfl, rfl⟩ := hd2
  obtain ⟨he, hsz⟩ := hT.array t n' e' hk
  cases fuel with
  | zero => simp [DataW.trod] at hr
  | succ fuel =>
    unfold DataW.trod at hr
    rw [hd1] at hr
    simp only [Option.ite_none_right_eq_some, Option.map_eq_some_iff] at hr
    obtain ⟨hlen, xs, hxs, _⟩ := hr
    obtain ⟨_, hat⟩ := mapM_at hxs
    rw [hT.cellsOf htN, hsz] at hlen
    have hce := hT.cellsOf he
    have hex : ∀ i, ∃ a : α, i < n' → Q a ∧ Rep T N (memI w) noPl (enc a) ((cs.drop (i * (T e').size)).take (T e').size) ∧ fit T e' (enc a) = true := by
      intro i
      by_cases hi : i < n'
      · obtain ⟨y, _, h2⟩ := hat i i (by simp [hi])
        rw [hce] at h2
        obtain ⟨a, q1, q2, q3⟩ := hd H eh w fuel _ y.1 y.2 h2
        exact ⟨a, fun _ => ⟨q1, q2, q3⟩⟩
      · exact ⟨d0, fun h => absurd h hi⟩
    have hch := fun i => Classical.choose_spec (hex i)
    generalize hA : (fun i => Classical.choose (hex i)) = A at hch
    have hA' : ∀ i, Classical.choose (hex i) = A i := fun i => congrFun hA i
    have hg : ∀ i, i < n' → ((List.range n').map A).getD i d0 = A i := fun i hi => by simp [hi]
    refine ⟨(List.range n').map A, ⟨by simp, fun a ha => ?_⟩, ?_, by simp [fit, hk, TK.isAgg]⟩
    · simp only [List.mem_map, List.mem_range] at ha
      obtain ⟨i, hi, rfl⟩ := ha
      have := (hch i hi).1
      rwa [hA'] at this
    · have := Rep.array (T := T) (N := N) (I := memI w) (ρ := noPl) (t := t) (n := n') (get := fun i => enc (((List.range n').map A).getD i d0)) e' (fun i => (cs.drop (i * (T e').size)).take (T e').size) hk htN
        (fun i hi => by rw [hg i hi, ← hA']; exact (hch i hi).2.1)
        (fun i hi => by rw [hg i hi, ← hA']; exact (hch i hi).2.2)
        (fun i hi => by
          rw [List.length_take, List.length_drop, hlen]
          have : (i + 1) * (T e').size ≤ n' * (T e').size := Nat.mul_le_mul_right _ hi
          rw [Nat.succ_mul] at this
          omega)
      rw [flat_chunks hlen n' (Nat.le_refl _), ← hlen, List.take_length] at this
      exact this
end
end Go.Ab

/- LinearNotes: the row. -/
set_option autoImplicit false
set_option maxRecDepth 20000
set_option linter.unusedVariables false
namespace Go.Ab
open Go.Proofs Go.ChangeShapes Go.WideShapes Go.ChangeAt Go.RowKit
theorem u48 : Try.prog.underlying 48 = some (.slice 92) := by kernel_rfl
theorem u87 : Try.prog.underlying 87 = some (.int .i64) := by kernel_rfl
theorem decI87 : Dec Try.prog T tysN 87 (fun n : Int => .int n) (fun n => IntKind.i64.min ≤ n ∧ n ≤ IntKind.i64.max) := Dec.int u87 rfl
theorem decTch : Dec Try.prog T tysN 89 encTch (fun _ => True) :=
  (Dec.struct (t := 89) hT (show (T 89).kind = .struct [3, 3, 4] from rfl) (DecL.cons decI3 (DecL.cons decI3 (DecL.cons decB4 DecL.nil)))).map (fun x => ⟨x.1, x.2.1, x.2.2.1⟩) (fun _ => rfl) (fun _ _ => trivial)
theorem decTs : Dec Try.prog T tysN 90 encTs (fun _ => True) :=
  (Dec.array hT tch0 (show (T 90).kind = .array 6 89 from rfl) decTch).map (fun l => l) (fun _ => rfl) (fun _ _ => trivial)
def Rng (n : Int) : Prop := IntKind.i64.min ≤ n ∧ n ≤ IntKind.i64.max
theorem decEvt : Dec Try.prog T tysN 92 encE (fun e => Rng e.tag) :=
  (Dec.struct (t := 92) hT (show (T 92).kind = .struct [3, 3, 3, 87, 3, 2, 2, 90, 3] from rfl) (DecL.cons decI3 (DecL.cons decI3 (DecL.cons decI3 (DecL.cons decI87 (DecL.cons decI3 (DecL.cons decI2 (DecL.cons decI2 (DecL.cons decTs (DecL.cons decI3 DecL.nil)))))))))).map (fun x => ⟨x.1, x.2.1, x.2.2.1, x.2.2.2.1, x.2.2.2.2.1, x.2.2.2.2.2.1, x.2.2.2.2.2.2.1, x.2.2.2.2.2.2.2.1, x.2.2.2.2.2.2.2.2.1⟩) (fun _ => rfl) (fun x hx => hx.2.2.2.2.2.2.1)
theorem arg_evts {H : Type} {eh : TypeId × Value → H} {W : World} {base : Nat} {v : Value} {d : DataW H} {p : List MemPlace} (h : DataW.Trod eh Try.prog W 0 (fun _ => true) true 48 v d p) (hok : Value.okWide Try.prog W .any base 48 v) : ∃ l : List Evt, (∀ e ∈ l, Rng e.tag) ∧ RepV T tysN (memI W) noPl (evts false l) v := by
  obtain ⟨fuel, h⟩ := h
  obtain ⟨l, hq, hl⟩ := dec_slice hT evt0 u48 (Nat.le_of_ble_eq_true rfl) decEvt h hok
  exact ⟨l, hq, hl⟩
theorem reps1 {W : World} {a : AV} {v0 : Value} (h0 : RepV T tysN (memI W) noPl a v0) :
    ∀ (i : Nat) (x : AV) (v : Value), [a][i]? = some x → (#[v0] : Array Value).toList[i]? = some v → RepV T tysN (memI W) noPl x v := by
  intro i x v hx hv
  match i with
  | 0 => simp at hx hv; subst hx hv; exact h0
  | i + 1 => simp at hx
end Go.Ab
namespace Go.Proofs.Ytaanljgonmhdiaa
open Go.Ab Go.ChangeShapes Go.WideShapes Go.ChangeAt Go.RowKit
set_option maxRecDepth 100000 in
theorem linearNotes_lifted (os : Os) (started : os.Started) (H : Type) (enc : TypeId × Value → H) :
    ReturnsInHanded {} Try.checked os 8 .any (Rows.linearNotesSpec.pre6 enc Try.prog Try.f8 Rows.linearNotesRow.domain false) (Rows.linearNotesSpec.post enc Try.prog Try.f8 false true false false) := by
  refine returnsInHanded_of_change_sized (C := Try.checked) tryOwn started (by kernel_rfl) Try.func8
    (ChangeSpec.witness6 (enc := enc) (C := Try.checked) false ⟨#[], #[.slice none 0 0], []⟩ 8 (by kernel_rfl) (by kernel_rfl) (by kernel_rfl) (by kernel_rfl)) ?_
  intro W base args ds gs before hval0 hW _ _ _
  have hval : ∀ (j : Nat) t v, Try.f8.params[j]? = some t → args[j]? = some v → Value.okWide Try.prog W .any base t v := hval0
  have hW' : DataW.Whole enc Try.prog Try.f8.params.toList Rows.linearNotesSpec.vars false W args.toList ds gs before := hW
  obtain ⟨p, q, hA0, hV, _, _, _⟩ := hW
  have hA : DataW.TrodAll enc Try.prog W 0 (fun _ => true) true Try.f8.params.toList args.toList ds p := hA0
  rw [Try.params8] at hA hval
  obtain ⟨v0, d0, rfl, rfl, h0⟩ := trodAll_one hA
  obtain ⟨t, ht, r0⟩ := arg_evts h0 (hval 0 48 v0 rfl rfl)
  exact law_calls (tb := 4) tryLaid (by kernel_rfl) (by rfl) u4 rfl (fun ds hd => by match ds, hd with | [x], _ => rfl) hW' (notes_ac false t (fun i hi => by
    have h1 : (IntKind.i64.min ≤ (eAt t i).tag ∧ (eAt t i).tag ≤ IntKind.i64.max) := ht _ (by rw [eAt, List.getD_eq_getElem?_getD, List.getElem?_eq_getElem hi]; exact List.getElem_mem hi)
    have h2 : IntKind.i64.min = -9223372036854775808 := rfl
    have h3 : IntKind.i64.max = 9223372036854775807 := rfl
    omega)) rfl (reps1 r0)
theorem linearNotes_holds : Rows.LinearNotesSaid :=
  OpenClaim.holds_of_wide 8 Try.f8 rfl rfl rfl rfl rfl rfl rfl ⟨rfl, rfl, rfl, rfl, rfl⟩ rfl rfl rfl rfl rfl (by kernel_rfl) Try.func8 (by kernel_rfl)
    (of_decide_eq_true (by kernel_rfl)) (by unfold Func.isWrapper; first | (rw [if_pos (by decide +kernel)]; kernel_rfl) | (rw [if_neg (by decide +kernel)]; exact ⟨rfl, rfl⟩))
    (fun os started H enc _ => linearNotes_lifted os started H enc)
end Go.Proofs.Ytaanljgonmhdiaa
