/- Part 16 of a proof of a statement about the given program: an abstract machine over the model, proved sound, and contracts of the functions that the statement reaches; the last part proves the statement, for every input, with no condition. -/
import Derived.Test.YtaanljgonmhdiaaX14
import Derived.Test.YtaanljgonmhdiaaX13
import Derived.Ground.NamesProg
import Derived.Shelf.Sort.Plain
import Derived.Shelf.Slices.In.SortNone
set_option linter.unusedSimpArgs false
set_option linter.unusedVariables false
set_option autoImplicit false
namespace Go.Ab
open Go.Proofs
structure Cal where
  go : Int
  act : Int
  inp : Int
  out : Int
  empty : Bool
  bgn : Int
  fin : Int
def encCal (c : Cal) : AV := stru 30 [.int c.go, .int c.act, .int c.inp, .int c.out, .bool c.empty, .int c.bgn, .int c.fin]
theorem ahead_ac (a b : Cal) : AC Try.prog T tysN 27 [encCal a, encCal b] [] (.bool (a.fin != -1 && decide (a.fin < b.bgn))) [] := by
  refine AC_intro hT Try.func27 rfl rfl (Nat.le_of_ble_eq_true rfl) ?_
  refine WP.seq (WP.reg hT hE [] rfl trivial ?_)
  refine WP.seq (WP.reg hT hE [] rfl ?_ ?_)
  · simp [holdsC, under]
  · refine WP.ret ?_
    refine ⟨[(4, .bool (a.fin != -1 && decide (a.fin < b.bgn)))], Ent.mk hT [] trivial ⟨⟨rfl, _, rfl, ?_⟩, trivial⟩ trivial rfl, _, rfl, trivial, rfl⟩
    exact .inl (by cases (a.fin != -1) <;> rfl)
end Go.Ab

/- does of the reference. -/
set_option autoImplicit false
namespace Go.Ab
open Go.Proofs
def doesB (k d : Int) : Bool := if k = 1 then d == 1 || d == 2 else if k = 2 then d == 1 || d == 3 else if k = 3 ∨ k = 4 then d == 4 || d == 5 else false
theorem does_ac (k d : Int) : AC Try.prog T tysN 46 [.int k, .int d] [] (.bool (doesB k d)) [] := by
  refine AC_intro hT Try.func46 rfl rfl (Nat.le_of_ble_eq_true rfl) ?_
  refine WP.seq (WP.reg hT hE [] rfl trivial ?_)
  dsimp only [thenP]
  refine WP.seq (WP.seq ?_)
  refine WP.reg hT hE [] rfl ?_ ?_
  · trivial
  refine WP.block ?_
  refine WP.seq ?_
  refine WP.reg hT hE [] rfl ?_ ?_
  · trivial
  refine WP.cond rfl (fun h1 => ?_) (fun h1 => ?_)
  · refine WP.seq ?_
    refine WP.reg hT hE [] rfl ?_ ?_
    · simp [holdsC, under]
    refine WP.ret (fin1 hT rfl ?_)
    have : k = 1 := by simpa using h1
    subst this
    simp only [doesB]
    cases (d == 1) <;> simp
  · refine WP.seq ?_
    refine WP.reg hT hE [] rfl ?_ ?_
    · trivial
    refine WP.cond rfl (fun h2 => ?_) (fun h2 => ?_)
    · refine WP.seq ?_
      refine WP.reg hT hE [] rfl ?_ ?_
      · simp [holdsC, under]
      refine WP.ret (fin1 hT rfl ?_)
      have : k = 2 := by simpa using h2
      subst this
      simp only [doesB]
      cases (d == 1) <;> simp
    · refine WP.seq (WP.seq ?_)
      refine WP.reg hT hE [] rfl ?_ ?_
      · trivial
      refine WP.ent (Ent.mk (ts := [(1, .int d), (5, .int k), (22, .bool (k == 3))]) (ms := []) hT [] trivial ⟨⟨rfl, _, rfl, conv_eq rfl⟩, ⟨rfl, _, rfl, conv_eq rfl⟩, ⟨rfl, _, rfl, conv_eq rfl⟩, trivial⟩ trivial rfl) ?_
      have hk1 : k ≠ 1 := by simpa using h1
      have hk2 : k ≠ 2 := by simpa using h2
      refine WP.cond rfl (fun h3 => ?_) (fun h3 => ?_)
      · refine WP.skip ?_
        refine WP.cond rfl (fun h4 => ?_) (fun h4 => ?_)
        · refine WP.seq ?_
          refine WP.reg hT hE [] rfl ?_ ?_
          · simp [holdsC, under]
          refine WP.ret (fin1 hT rfl ?_)
          have : k = 3 := by simpa using h3
          subst this
          simp only [doesB]
          cases (d == 4) <;> simp
        · rw [h3] at h4; cases h4
      · refine WP.reg hT hE [] rfl ?_ ?_
        · trivial
        refine WP.cond rfl (fun h4 => ?_) (fun h4 => ?_)
        · refine WP.seq ?_
          refine WP.reg hT hE [] rfl ?_ ?_
          · simp [holdsC, under]
          refine WP.ret (fin1 hT rfl ?_)
          have : k = 4 := by simpa using h4
          subst this
          simp only [doesB]
          cases (d == 4) <;> simp
        · refine WP.skip ?_
          refine WP.seq ?_
          refine WP.reg hT hE [] rfl ?_ ?_
          · trivial
          refine WP.ret (fin1 hT rfl ?_)
          have hk3 : k ≠ 3 := by simpa using h3
          have hk4 : k ≠ 4 := by simpa using h4
          simp [doesB, hk1, hk2, hk3, hk4]
end Go.Ab

/- fields of the reference. -/
set_option autoImplicit false
namespace Go.Ab
open Go.Proofs
def badHead (k : Int) (c : Cal) : Bool := c.go < 0 || c.go ≥ 6 || !doesB k c.act || c.bgn < 0 || c.bgn > 1000000
def badEnd (c : Cal) : Bool := c.fin != -1 && (c.fin ≤ c.bgn || c.fin > 1000000)
def gives (c : Cal) : Bool := c.act == 2 || c.act == 3 || c.act == 4
def tells (c : Cal) : Bool := c.act == 1 || c.act == 5 && !c.empty
def badVals (c : Cal) : Bool := c.inp != 0 && !gives c || c.out != 0 && (!tells c || c.fin == -1)
def okEmpty (c : Cal) : Bool := !c.empty || c.act == 5 && c.fin != -1
def fieldsB (k : Int) (c : Cal) : Bool := !badHead k c && !badEnd c && !badVals c && okEmpty c
theorem bor (a b : Bool) : (bif a then true else b) = (a || b) := by cases a <;> rfl
theorem band (a b : Bool) : (bif a then b else false) = (a && b) := by cases a <;> rfl
theorem fields_ac (k : Int) (c : Cal) : AC Try.prog T tysN 28 [.int k, encCal c] [] (.bool (fieldsB k c)) [] := by
  refine AC_intro hT Try.func28 rfl rfl (Nat.le_of_ble_eq_true rfl) ?_
  refine WP.seq (WP.reg hT hE [] rfl trivial ?_)
  refine WP.seq (WP.seq ?_)
  refine WP.reg hT hE [CG.pure (.bool (doesB k c.act))] rfl ?_ ?_
  · simp [holdsC, under, does_ac, CG.pure]
  refine WP.cond rfl (fun h1 => ?_) (fun h1 => ?_)
  · refine WP.seq (WP.reg hT hE [] rfl trivial ?_)
    refine WP.ret (fin1 hT rfl ?_)
    simp only [bor, band] at h1
    have : badHead k c = true := h1
    simp [fieldsB, this]
  · refine WP.skip ?_
    simp only [bor, band] at h1
    have g1 : badHead k c = false := h1
    refine WP.seq (WP.seq ?_)
    refine WP.reg hT hE [] rfl ?_ ?_
    · simp [holdsC, under] <;> grind
    refine WP.cond rfl (fun h2 => ?_) (fun h2 => ?_)
    · refine WP.seq (WP.reg hT hE [] rfl trivial ?_)
      refine WP.ret (fin1 hT rfl ?_)
      simp only [bor, band] at h2
      have : badEnd c = true := h2
      simp [fieldsB, this]
    · refine WP.skip ?_
      simp only [bor, band] at h2
      have g2 : badEnd c = false := h2
      refine WP.seq (WP.reg hT hE [] rfl ?_ ?_)
      · simp [holdsC, under] <;> grind
      refine WP.seq (WP.reg hT hE [] rfl ?_ ?_)
      · simp [holdsC, under] <;> grind
      refine WP.seq (WP.seq ?_)
      refine WP.reg hT hE [] rfl ?_ ?_
      · simp [holdsC, under] <;> grind
      refine WP.cond rfl (fun h3 => ?_) (fun h3 => ?_)
      · refine WP.seq (WP.reg hT hE [] rfl trivial ?_)
        refine WP.ret (fin1 hT rfl ?_)
        simp only [bor, band] at h3
        have : badVals c = true := h3
        simp [fieldsB, this]
      · refine WP.skip ?_
        simp only [bor, band] at h3
        have g3 : badVals c = false := h3
        refine WP.seq (WP.reg hT hE [] rfl ?_ ?_)
        · simp [holdsC, under] <;> grind
        refine WP.ret (fin1 hT rfl ?_)
        simp only [bor, band]
        simp [fieldsB, g1, g2, g3, okEmpty]
end Go.Ab

/- Small contracts of linear and of its reference. -/
set_option autoImplicit false
namespace Go.Ab
open Go.Proofs
theorem refAhead_ac (a b : Cal) : AC Try.prog T tysN 29 [encCal a, encCal b] [] (.bool (a.fin != -1 && decide (a.fin < b.bgn))) [] := by
  refine AC_intro hT Try.func29 rfl rfl (Nat.le_of_ble_eq_true rfl) ?_
  refine WP.seq (WP.reg hT hE [] rfl trivial ?_)
  refine WP.seq (WP.reg hT hE [] rfl ?_ ?_)
  · simp [holdsC, under]
  · refine WP.ret ?_
    refine ⟨[(4, .bool (a.fin != -1 && decide (a.fin < b.bgn)))], Ent.mk hT [] trivial ⟨⟨rfl, _, rfl, ?_⟩, trivial⟩ trivial rfl, _, rfl, trivial, rfl⟩
    exact .inl (by cases (a.fin != -1) <;> rfl)
theorem turns_ac (a b : Cal) : AC Try.prog T tysN 36 [encCal a, encCal b] [] (.bool (a.go == b.go && decide (a.bgn < b.bgn))) [] := by
  refine AC_intro hT Try.func36 rfl rfl (Nat.le_of_ble_eq_true rfl) ?_
  refine WP.seq (WP.reg hT hE [] rfl trivial ?_)
  refine WP.seq (WP.reg hT hE [] rfl ?_ ?_)
  · simp [holdsC, under]
  · refine WP.ret ?_
    refine ⟨[(4, .bool (a.go == b.go && decide (a.bgn < b.bgn)))], Ent.mk hT [] trivial ⟨⟨rfl, _, rfl, ?_⟩, trivial⟩ trivial rfl, _, rfl, trivial, rfl⟩
    exact .inl (by cases (a.go == b.go) <;> rfl)
end Go.Ab

/- Check of the reference. -/
set_option autoImplicit false
namespace Go.Ab
open Go.Proofs
def cal0 : Cal := ⟨0, 0, 0, 0, false, 0, 0⟩
def cals (f : Bool) (l : List Cal) : AV := .row 30 f l.length (fun i => encCal (l.getD i cal0))
def ahd (a b : Cal) : Bool := a.fin != -1 && decide (a.fin < b.bgn)
def clash (a b : Cal) : Bool := a.bgn == b.bgn || a.bgn == b.fin || a.fin == b.bgn || a.fin == b.fin && a.fin != -1
def cross (a b : Cal) : Bool := a.go == b.go && !ahd a b && !ahd b a
def okAt (k : Int) (h : List Cal) (i : Nat) : Prop := fieldsB k (h.getD i cal0) = true ∧ ∀ m, m < i → clash (h.getD i cal0) (h.getD m cal0) = false ∧ cross (h.getD i cal0) (h.getD m cal0) = false
def okHist (k : Int) (h : List Cal) : Prop := 1 ≤ k ∧ k ≤ 4 ∧ h.length ≤ 8 ∧ ∀ i, i < h.length → okAt k h i
open Classical in
noncomputable def refCheck (k : Int) (h : List Cal) : Int := if okHist k h then 0 else 260
theorem finI {P : Program} {T : Nat → TI} {N nt : Nat} (hT : TOK P T N) {t : Nat → Option (D × AV)} {m : Id → Option Ob} {k : Nat} {b r : Int} (h : t k = some (.always, .v (.int .i64 b))) (e : b = r) : Fin T N nt 0 [.tmp k] (.int r) [] ⟨t, m⟩ := by
  subst e
  refine ⟨[(k, .int b)], Ent.mk hT [] trivial ⟨⟨rfl, _, h, conv_eq rfl⟩, trivial⟩ trivial rfl, ([.int b], none), ?_, trivial, rfl⟩
  simp [resL, mkSt, lookN, notTup]
theorem refCheck_bad {k : Int} {h : List Cal} (e : ¬ okHist k h) : 260 = refCheck k h := by unfold refCheck; rw [if_neg e]
theorem refCheck_ac (f : Bool) (k : Int) (h : List Cal) : AC Try.prog T tysN 10 [.int k, cals f h] [] (.int (refCheck k h)) [] := by
  refine AC_intro hT Try.func10 rfl rfl (Nat.le_of_ble_eq_true rfl) ?_
  refine WP.seq (WP.reg hT hE [] rfl trivial ?_)
  refine WP.seq (WP.seq ?_)
  refine WP.reg hT hE [] rfl ?_ ?_
  · simp [holdsC, under] <;> grind
  refine WP.cond rfl (fun h1 => ?_) (fun h1 => ?_)
  · refine WP.seq (WP.reg hT hE [] rfl trivial ?_)
    refine WP.ret (finI hT rfl (refCheck_bad ?_))
    rintro ⟨g1, g2, g3, _⟩
    simp only [bor, band, Bool.or_eq_true, decide_eq_true_eq] at h1
    omega
  · refine WP.skip ?_
    simp only [bor, band, Bool.or_eq_false_iff, decide_eq_false_iff_not] at h1
    refine WP.seq (WP.seq ?_)
    refine WP.reg hT hE [] rfl ?_ ?_
    · trivial
    refine WP.block ?_
    refine WP.loop (α := Nat) (fun i => mkSt [(0, .int k), (1, cals f h), (5, .int i)] []) (fun i => i ≤ h.length ∧ ∀ j, j < i → okAt k h j) (fun i => h.length - i) ?_ ?_
    · refine ⟨0, ⟨Nat.zero_le _, fun j hj => by omega⟩, Ent.mk hT [] trivial ?_ trivial rfl⟩
      exact ⟨⟨rfl, _, rfl, conv_eq rfl⟩, ⟨rfl, _, rfl, conv_eq rfl⟩, ⟨rfl, _, rfl, conv_eq rfl⟩, trivial⟩
    · rintro i ⟨hi, hok⟩
      refine WP.seq (WP.seq ?_)
      refine WP.reg hT hE [] rfl ?_ ?_
      · trivial
      refine WP.cond rfl (fun h2 => ?_) (fun h2 => ?_)
      · refine WP.skip ?_
        have hil : i < h.length := by simpa using h2
        refine WP.seq (WP.block ?_)
        refine WP.seq (WP.seq ?_)
        refine WP.reg hT hE [CG.pure (.bool (fieldsB k (h.getD i cal0)))] rfl ?_ ?_
        · exact ⟨⟨by omega, by omega⟩, fields_ac k (h.getD i cal0)⟩
        refine WP.cond rfl (fun h3 => ?_) (fun h3 => ?_)
        · refine WP.seq (WP.reg hT hE [] rfl trivial ?_)
          refine WP.ret (finI hT rfl (refCheck_bad ?_))
          rintro ⟨_, _, _, g⟩
          have := (g i hil).1
          rw [this] at h3; cases h3
        · refine WP.skip ?_
          have hf : fieldsB k (h.getD i cal0) = true := by simpa using h3
          refine WP.seq (WP.reg hT hE [] rfl trivial ?_)
          refine WP.block ?_
          refine WP.loop (α := Nat) (fun m => mkSt [(0, .int k), (1, cals f h), (5, .int i), (6, .int m)] []) (fun m => m ≤ i ∧ ∀ q, q < m → clash (h.getD i cal0) (h.getD q cal0) = false ∧ cross (h.getD i cal0) (h.getD q cal0) = false) (fun m => i - m) ?_ ?_
          · refine ⟨0, ⟨Nat.zero_le _, fun j hj => by omega⟩, Ent.mk hT [] trivial ?_ trivial rfl⟩
            exact ⟨⟨rfl, _, rfl, conv_eq rfl⟩, ⟨rfl, _, rfl, conv_eq rfl⟩, ⟨rfl, _, rfl, conv_eq rfl⟩, ⟨rfl, _, rfl, conv_eq rfl⟩, trivial⟩
          · rintro m ⟨hm, hq⟩
            refine WP.seq (WP.seq ?_)
            refine WP.reg hT hE [] rfl ?_ ?_
            · trivial
            refine WP.cond rfl (fun h4 => ?_) (fun h4 => ?_)
            · refine WP.skip ?_
              have hmi : m < i := by simpa using h4
              refine WP.seq (WP.block ?_)
              refine WP.seq ?_
              refine WP.drw hT hE hM [] rfl ?_ ?_
              · simp [holdsC, under]; omega
              refine WP.ent (Ent.mk (ts := [(0, .int k), (1, cals f h), (5, .int i), (6, .int m), (7, .ptr (.s 7 0) 1 0 []), (8, .ptr (.s 8 0) 1 0 [])]) (ms := [(.s 7 0, .cells ⟨30, 1, fun _ => encCal (h.getD i cal0), 0⟩), (.s 8 0, .cells ⟨30, 1, fun _ => encCal (h.getD m cal0), 0⟩)]) hT [] trivial ⟨⟨rfl, _, rfl, conv_eq rfl⟩, ⟨rfl, _, rfl, conv_eq rfl⟩, ⟨rfl, _, rfl, conv_eq rfl⟩, ⟨rfl, _, rfl, conv_eq rfl⟩, ⟨rfl, _, rfl, conv_eq rfl⟩, ⟨rfl, _, rfl, conv_eq rfl⟩, trivial⟩ ?_ rfl) ?_
              · refine ⟨⟨fun _ _ => rfl, .inl ⟨_, rfl, _, _, rfl, Nat.le_refl _, Nat.le_refl _, Nat.zero_le _, fun q hq => ?_⟩⟩, ⟨fun _ _ => rfl, .inl ⟨_, rfl, _, _, rfl, Nat.le_refl _, Nat.le_refl _, Nat.zero_le _, fun q hq => ?_⟩⟩, trivial⟩
                · obtain rfl : q = 0 := by simp at hq; exact hq
                  exact conv_eq rfl
                · obtain rfl : q = 0 := by simp at hq; exact hq
                  exact conv_eq rfl
              refine WP.seq (WP.seq ?_)
              refine WP.reg hT hE [] rfl ?_ ?_
              · simp [holdsC, under] <;> grind
              have hneg : ∀ (c : Bool), c = true → (c = clash (h.getD i cal0) (h.getD m cal0) ∨ c = cross (h.getD i cal0) (h.getD m cal0)) → ¬ okHist k h := by
                rintro c rfl hc ⟨_, _, _, g⟩
                have := (g i hil).2 m hmi
                rw [this.1, this.2] at hc
                rcases hc with hc | hc <;> cases hc
              refine WP.cond rfl (fun h5 => ?_) (fun h5 => ?_)
              · refine WP.seq (WP.reg hT hE [] rfl trivial ?_)
                simp only [bor, band] at h5
                exact WP.ret (finI hT rfl (refCheck_bad (hneg _ h5 (.inl rfl))))
              · refine WP.skip ?_
                simp only [bor, band] at h5
                refine WP.seq ?_
                refine WP.reg hT hE [CG.pure (.bool (ahd (h.getD i cal0) (h.getD m cal0))), CG.pure (.bool (ahd (h.getD m cal0) (h.getD i cal0)))] rfl ?_ ?_
                · simp [holdsC, under, CG.pure]
                  exact ⟨fun _ => refAhead_ac (h[i]?.getD cal0) (h[m]?.getD cal0), fun _ _ => refAhead_ac (h[m]?.getD cal0) (h[i]?.getD cal0)⟩
                refine WP.cond rfl (fun h6 => ?_) (fun h6 => ?_)
                · refine WP.seq (WP.reg hT hE [] rfl trivial ?_)
                  simp only [bor, band] at h6
                  exact WP.ret (finI hT rfl (refCheck_bad (hneg _ h6 (.inr rfl))))
                · refine WP.skip ?_
                  simp only [bor, band] at h6
                  refine WP.reg hT hE [] rfl ?_ ?_
                  · trivial
                  refine ⟨m + 1, ⟨hmi, fun q hq' => ?_⟩, Ent.mk hT [] trivial ?_ trivial rfl, by omega⟩
                  · rcases Nat.lt_or_ge q m with hq2 | hq2
                    · exact hq q hq2
                    · have : q = m := by omega
                      subst this
                      exact ⟨h5, h6⟩
                  · refine ⟨⟨rfl, _, rfl, conv_eq rfl⟩, ⟨rfl, _, rfl, conv_eq rfl⟩, ⟨rfl, _, rfl, conv_eq rfl⟩, ⟨rfl, _, rfl, conv_eq ?_⟩, trivial⟩
                    rw [wrap_id (by omega) (by omega)]
                    simp
            · refine WP.exit ?_
              dsimp only [thenP, blkP]
              have hmi : m = i := by simp at h4; omega
              subst hmi
              refine WP.reg hT hE [] rfl ?_ ?_
              · trivial
              refine ⟨m + 1, ⟨hil, fun j hj => ?_⟩, Ent.mk hT [] trivial ?_ trivial rfl, by omega⟩
              · rcases Nat.lt_or_ge j m with hj2 | hj2
                · exact hok j hj2
                · have : j = m := by omega
                  subst this
                  exact ⟨hf, hq⟩
              · refine ⟨⟨rfl, _, rfl, conv_eq rfl⟩, ⟨rfl, _, rfl, conv_eq rfl⟩, ⟨rfl, _, rfl, conv_eq ?_⟩, trivial⟩
                rw [wrap_id (by omega) (by omega)]
                simp
      · refine WP.exit ?_
        dsimp only [thenP, blkP]
        have hil : i = h.length := by simp at h2; omega
        refine WP.seq (WP.reg hT hE [] rfl trivial ?_)
        refine WP.ret (finI hT rfl ?_)
        unfold refCheck
        rw [if_pos ⟨by omega, by omega, by omega, fun j hj => hok j (by omega)⟩]
end Go.Ab

/- SameInts. -/
set_option autoImplicit false
namespace Go.Ab
open Go.Proofs
def ints (f : Bool) (l : List Int) : AV := .row 3 f l.length (fun i => .int (l.getD i 0))
/-- Equal up to a place. -/
def eqTo (a b : List Int) (i : Nat) : Prop := ∀ j, j < i → a.getD j 0 = b.getD j 0
theorem sameInts_ac (f g : Bool) (a b : List Int) : AC Try.prog T tysN 16 [ints f a, ints g b] [] (.bool (decide (a = b))) [] := by
  refine AC_intro hT Try.func16 rfl rfl (Nat.le_of_ble_eq_true rfl) ?_
  refine WP.rowlen 0 rfl (fun hla => ?_)
  refine WP.seq (WP.reg hT hE [] rfl ?_ ?_)
  · trivial
  dsimp only [thenP]
  refine WP.seq (WP.seq ?_)
  refine WP.reg hT hE [] rfl ?_ ?_
  · trivial
  dsimp only [thenP]
  refine WP.cond rfl (fun h => ?_) (fun h => ?_)
  · refine WP.seq (WP.reg hT hE [] rfl ?_ ?_)
    · trivial
    refine WP.ret ?_
    refine ⟨[(4, .bool (decide (a = b)))], Ent.mk hT [] trivial ⟨⟨rfl, _, rfl, conv_eq ?_⟩, trivial⟩ trivial rfl, _, rfl, trivial, rfl⟩
    have : a ≠ b := by rintro rfl; simp at h
    simp [this]
  · refine WP.skip ?_
    dsimp only [thenP]
    have hlen : a.length = b.length := by simp at h; omega
    refine WP.seq (WP.seq ?_)
    refine WP.reg hT hE [] rfl ?_ ?_
    · trivial
    dsimp only [thenP]
    refine WP.block ?_
    refine WP.loop (α := Nat) (fun i => mkSt [(0, ints f a), (1, ints g b), (12, .int a.length), (13, .int i)] []) (fun i => i ≤ a.length ∧ eqTo a b i) (fun i => a.length - i) ?_ ?_
    · refine ⟨0, ⟨Nat.zero_le _, fun j hj => by omega⟩, Ent.mk hT [] trivial ?_ trivial rfl⟩
      exact ⟨⟨rfl, _, rfl, conv_eq rfl⟩, ⟨rfl, _, rfl, conv_eq rfl⟩, ⟨rfl, _, rfl, conv_eq rfl⟩, ⟨rfl, _, rfl, conv_eq rfl⟩, trivial⟩
    · rintro i ⟨hi, heq⟩
      refine WP.seq (WP.reg hT hE [] rfl ?_ ?_)
      · trivial
      dsimp only [thenP]
      refine WP.seq (WP.cond rfl (fun h => ?_) (fun h => ?_))
      · refine WP.skip ?_
        dsimp only [thenP]
        have hil : i < a.length := by simpa using h
        refine WP.seq (WP.block ?_)
        refine WP.seq (WP.reg hT hE [] rfl ?_ ?_)
        · trivial
        dsimp only [thenP]
        refine WP.seq (WP.drw hT hE hM [] rfl ?_ ?_)
        · simp only [holdsC, under]; omega
        dsimp only [thenP]
        refine WP.cond rfl (fun h => ?_) (fun h => ?_)
        · refine WP.seq (WP.reg hT hE [] rfl ?_ ?_)
          · trivial
          refine WP.ret ?_
          refine ⟨[(4, .bool (decide (a = b)))], Ent.mk hT [] trivial ⟨⟨rfl, _, rfl, conv_eq ?_⟩, trivial⟩ trivial rfl, _, rfl, trivial, rfl⟩
          have : a ≠ b := by rintro rfl; simp at h
          simp [this]
        · refine WP.skip ?_
          dsimp only [blkP, thenP]
          refine WP.reg hT hE [] rfl ?_ ?_
          · trivial
          dsimp only [thenP]
          refine ⟨i + 1, ⟨hil, fun j hj => ?_⟩, Ent.mk hT [] trivial ?_ trivial rfl, by omega⟩
          · rcases Nat.lt_or_ge j i with hj' | hj'
            · exact heq j hj'
            · have : j = i := by omega
              subst this
              simpa using h
          · refine ⟨⟨rfl, _, rfl, conv_eq rfl⟩, ⟨rfl, _, rfl, conv_eq rfl⟩, ⟨rfl, _, rfl, conv_eq rfl⟩, ⟨rfl, _, rfl, conv_eq ?_⟩, trivial⟩
            rw [wrap_id (by omega) (by omega)]
            simp
      · refine WP.exit ?_
        dsimp only [thenP, blkP]
        have hil : i = a.length := by simp at h; omega
        refine WP.seq (WP.reg hT hE [] rfl ?_ ?_)
        · trivial
        refine WP.ret ?_
        refine ⟨[(4, .bool (decide (a = b)))], Ent.mk hT [] trivial ⟨⟨rfl, _, rfl, conv_eq ?_⟩, trivial⟩ trivial rfl, _, rfl, trivial, rfl⟩
        have : a = b := by
          refine List.ext_getElem hlen (fun j h1 h2 => ?_)
          have := heq j (by omega)
          simpa [h1, h2] using this
        simp [this]
end Go.Ab

/- Ab, part 30: contracts at arguments alike; a slice's literal that is ours. -/
set_option autoImplicit false
set_option linter.unusedVariables false
namespace Go.Ab
section
variable {P : Program} {T : Nat → TI} {N : Nat}
/-- Arguments alike (a nil slice is a row of length 0). -/
theorem AC.args (hT : TOK P T N) {f : FuncId} {args args' : List AV} {B : List Ob} {r : AV} {B' : List Ob} (h : AC P T N f args' B r B') (hl : args.length = args'.length) (hc : ∀ (i : Nat) (x y : AV), args[i]? = some x → args'[i]? = some y → Conv (fun _ => none) (fun _ => 0) T x y) : AC P T N f args B r B' := by
  refine ⟨h.1, fun I ρ w vs hvl hvs hw => h.2 I ρ w vs (by rw [hvl, hl]) (fun i y v hy hv => ?_) hw⟩
  have hi : i < args.length := by rw [hl]; exact (List.getElem?_eq_some_iff.1 hy).1
  have hx := List.getElem?_eq_getElem hi
  have hr := hvs i _ v hx hv
  have hS := fz_leaf hT (wrep_none (N := N) (T := T) (I := I) (w := w) hw.imm) (I' := I) (ImLe.refl _) (F := fun _ => 0) (fun id B q cs h1 h2 => by simp [noPl] at h2)
  refine hr.conv (ImLe.refl _) ?_ (hc i _ y hx hy)
  intro ρ1 x1 y1 cs hρ hleaf hf hrep
  rcases hf with rfl | hf
  · exact ⟨hrep, fun t => rfl⟩
  · split at hf
    · obtain ⟨rfl, ⟨id, cap, rfl⟩ | ⟨e, f, g, rfl, hp⟩⟩ := hf
      · cases hrep; exact ⟨.own0, fun t => rfl⟩
      · cases hrep; exact ⟨.row0 (hT.lt_size hp), fun t => rfl⟩
    · obtain ⟨B, f, g', hm, _⟩ := hf; cases hm
    · obtain ⟨B, t, y', hm, _⟩ := hf; cases hm
    · exact hf.elim
end
end Go.Ab

/- Ab, part 31: small laws for walks: what is frozen, structs that are written, what a call leaves. -/
set_option autoImplicit false
set_option linter.unusedVariables false
namespace Go.Ab
section
variable {P : Program} {T : Nat → TI} {N nt nb : Nat}
theorem conv_rp {m : Id → Option Ob} {F : Id → Nat} {id : Id} {n i : Nat} {p : List Nat} {t : Nat} {y : AV} {B : Blk} (hm : m id = some (.cells B)) (hn : B.n = n) (hF : i < F id) (ht : pathTy T B.ty p = some t) (hno : noIds ((B.get i).at p) = true) (hy : AEq ((B.get i).at p) y) : Conv m F T (.ptr id n i p) (.rp t y) :=
  .inr ⟨B, t, y, hm, hn, rfl, hF, ht, hno, hy⟩
theorem conv_rpe {m : Id → Option Ob} {F : Id → Nat} {id : Id} {n i : Nat} {p : List Nat} {t : Nat} {y : AV} {B : Blk} (hm : m id = some (.cells B)) (hn : B.n = n) (hF : i < F id) (ht : pathTy T B.ty p = some t) (hy : (B.get i).at p = y) (hno : noIds y = true) : Conv m F T (.ptr id n i p) (.rp t y) :=
  conv_rp hm hn hF ht (by rw [hy]; exact hno) (.of_eq hy)
theorem conv_row {m : Id → Option Ob} {F : Id → Nat} {id : Id} {n i len : Nat} {cap : Option Nat} {e : Nat} {f : Bool} {g : Nat → AV} {B : Blk} (hm : m id = some (.cells B)) (hn : B.n = n) (he : B.ty = e) (hf : f = true → fullC len cap = true) (hF : i + len ≤ F id) (h : ∀ j, j < len → noIds (B.get (i + j)) = true ∧ AEq (B.get (i + j)) (g j)) : Conv m F T (.own id n i len cap) (.row e f len g) := by
  subst he
  exact .inr ⟨B, f, g, hm, hn, rfl, hf, hF, h⟩
theorem conv_nil_row {m : Id → Option Ob} {F : Id → Nat} {e : Nat} {f : Bool} {g : Nat → AV} (h : 0 < (T e).size) : Conv m F T (.v (.slice none 0 0)) (.row e f 0 g) := .inr ⟨rfl, .inr ⟨e, f, g, rfl, h⟩⟩
theorem conv_nil_own {m : Id → Option Ob} {F : Id → Nat} {id : Id} {cap : Option Nat} : Conv m F T (.v (.slice none 0 0)) (.own id 0 0 0 cap) := .inr ⟨rfl, .inl ⟨id, cap, rfl⟩⟩
theorem stru_put {t k : Nat} {l : List AV} {p : List Nat} {y : AV} (h : k < l.length) : (stru t l).put (k :: p) y = stru t (l.set k ((l.getD k .bad).put p y)) := by
  simp only [stru, AV.put, List.length_set, AV.agg.injEq, true_and]
  funext j
  by_cases hj : j = k
  · subst hj
    simp [h]
  · rw [nbeq_ne hj, cond_false]
    simp only [List.getD_eq_getElem?_getD]
    rw [List.getElem?_set_ne (Ne.symm hj)]
/-- An array of whole numbers of k, by a list. -/
def arrI (t n : Nat) (k : IntKind) (l : List Int) : AV := .agg t n (fun i => .v (.int k (l.getD i 0)))
theorem arrI_put {t n i : Nat} {k : IntKind} {l : List Int} {x : Int} (h : i < l.length) : (arrI t n k l).put [i] (.v (.int k x)) = arrI t n k (l.set i x) := by
  simp only [arrI, AV.put, AV.agg.injEq, true_and]
  funext j
  by_cases hj : j = i
  · subst hj
    simp [h]
  · rw [nbeq_ne hj, cond_false]
    simp only [List.getD_eq_getElem?_getD]
    rw [List.getElem?_set_ne (Ne.symm hj)]
theorem noIds_agg {t n : Nat} {g : Nat → AV} (h : ∀ i, i < n → noIds (g i) = true) : noIds (.agg t n g) = true := by
  simp only [noIds, List.all_eq_true, List.mem_range]
  exact h
theorem noIds_arrI {t n : Nat} {k : IntKind} {l : List Int} : noIds (arrI t n k l) = true := noIds_agg fun i _ => rfl
theorem okIds_agg {ids : List Id} {t n : Nat} {g : Nat → AV} (h : ∀ i, i < n → okIds ids (g i) = true) : okIds ids (.agg t n g) = true := by
  simp only [okIds, List.all_eq_true, List.mem_range]
  exact h
theorem WP.ownlen {post : Post} {st : St} {c : Code} (k : Nat) {id : Id} {n i len : Nat} {cap : Option Nat} {B : Blk} (h : st.t k = some (.always, .own id n i len cap)) (hm : st.m id = some (.cells B)) (hn : B.n = n) (hc : len < 2 ^ 63 → WP P T N nt nb c post st) : WP P T N nt nb c post st := fun en h1 h2 I ρ a w hs => by
  have hr := ((hs.tm k _ _ h).1 trivial).rep1 (fun _ => by simp)
  have hl : len < 2 ^ 63 := by
    rcases Rep.own_inv hr with ⟨_, _, _, h0⟩ | ⟨q, hq, _, hx⟩
    · omega
    · obtain ⟨q', cs, c1, c2, c3, _⟩ := hs.wr.cellsAt hm hq
      rw [hq] at c1; cases c1
      obtain ⟨c, _, g1, g2, _⟩ := hx (by rw [c3, hn])
      omega
  exact hc hl en h1 h2 I ρ a w hs
/-- Whole numbers in a block of ours. -/
def cellsI (t : Nat) (k : IntKind) (l : List Int) : Ob := .cells ⟨t, l.length, fun i => .v (.int k (l.getD i 0)), 0⟩
theorem ints_set {k : IntKind} {l : List Int} {i : Nat} {v : Int} (h : i < l.length) (j : Nat) : (bif Nat.beq j i then (AV.v (.int k v)) else AV.v (.int k (l.getD j 0))) = AV.v (.int k ((l.set i v).getD j 0)) := by
  by_cases hj : j = i
  · subst hj; simp [h]
  · rw [nbeq_ne hj, cond_false]
    simp only [List.getD_eq_getElem?_getD]
    rw [List.getElem?_set_ne (Ne.symm hj)]
/-- What a call leaves: what it holds at its end (ts), by what is frozen (F). -/
theorem fin_mk (hT : TOK P T N) (F : List (Id × Nat)) {ts : List (Nat × AV)} {rs : List ResultVar} {r : AV} {B' : List Ob} {st : St} {l : List AV} (hF : entF st F) (ht : entT T st F ((mkB 0 B').map (·.1)) ts) (hm : entM T st F ((mkB 0 B').map (·.1)) (mkB 0 B')) (hb : (bs nb).all (hasId ((mkB 0 B').map (·.1))) = true) (hl : resL T (mkSt ts (mkB 0 B')) rs = some (l, none)) (hr : r = resV l) : Fin T N nt nb rs r B' st :=
  ⟨ts, Ent.mk hT F hF ht hm hb, (l, none), hl, trivial, hr⟩
end
end Go.Ab

/- Contracts: slices' functions at ints; a thing's operations. -/
set_option autoImplicit false
namespace Go.Ab
open Go.Proofs
def idxI (l : List Int) (x : Int) : Int := if x ∈ l then l.idxOf x else -1
theorem idxI_none {l : List Int} {x : Int} (h : ∀ j, j < l.length → l.getD j 0 ≠ x) : -1 = idxI l x := by
  have : x ∉ l := by
    intro hx
    obtain ⟨i, hi, e⟩ := List.getElem_of_mem hx
    exact h i hi (by simp [hi, e])
  simp [idxI, this]
theorem idxI_some {l : List Int} {x : Int} {i : Nat} (hi : i < l.length) (hx : l.getD i 0 = x) (h : ∀ j, j < i → l.getD j 0 ≠ x) : (i : Int) = idxI l x := by
  have hm : x ∈ l := by
    have e : l[i] = x := by simpa [hi] using hx
    rw [← e]; exact List.getElem_mem hi
  simp only [idxI, if_pos hm]
  congr 1
  have h1 : l.idxOf x < l.length := List.idxOf_lt_length_iff.2 hm
  have h2 : l[l.idxOf x] = x := List.getElem_idxOf h1
  rcases Nat.lt_trichotomy i (l.idxOf x) with h3 | h3 | h3
  · have := List.not_of_lt_findIdx (p := (· == x)) (xs := l) (i := i) (by simpa [List.idxOf] using h3)
    have e : l[i] = x := by simpa [hi] using hx
    simp [e] at this
  · exact h3
  · have := h _ h3
    simp [h1, h2] at this
theorem idx_ac (f : Bool) (l : List Int) (x : Int) : AC Try.prog T tysN 62 [ints f l, .int x] [] (.int (idxI l x)) [] := by
  refine AC_intro hT Try.func62 rfl rfl (Nat.le_of_ble_eq_true rfl) ?_
  refine WP.rowlen 0 rfl (fun hl => ?_)
  refine WP.seq ?_
  refine WP.reg hT hE [] rfl ?_ ?_
  · first | trivial | (simp [holdsC, under, slOk, slB, capEq] <;> grind)
  refine WP.seq ?_
  refine WP.seq ?_
  refine WP.reg hT hE [] rfl ?_ ?_
  · first | trivial | (simp [holdsC, under, slOk, slB, capEq] <;> grind)
  refine WP.block ?_
  refine WP.loop (α := Nat) (fun i => mkSt [(0, ints f l), (1, .int x), (7, .int l.length), (8, .int i)] []) (fun i => i ≤ l.length ∧ ∀ j, j < i → l.getD j 0 ≠ x) (fun i => l.length - i) ?_ ?_
  · refine ⟨0, ?_, ?_⟩
    · exact ⟨Nat.zero_le _, fun j hj => by omega⟩
    · refine Ent.mk hT [] trivial ⟨⟨rfl, _, rfl, by first | exact conv_eq rfl | (refine conv_eq ?_; rw [wrap_id (by omega) (by omega)]; simp; done) | (refine conv_eq ?_; simp; done)⟩, ⟨rfl, _, rfl, by first | exact conv_eq rfl | (refine conv_eq ?_; rw [wrap_id (by omega) (by omega)]; simp; done) | (refine conv_eq ?_; simp; done)⟩, ⟨rfl, _, rfl, by first | exact conv_eq rfl | (refine conv_eq ?_; rw [wrap_id (by omega) (by omega)]; simp; done) | (refine conv_eq ?_; simp; done)⟩, ⟨rfl, _, rfl, by first | exact conv_eq rfl | (refine conv_eq ?_; rw [wrap_id (by omega) (by omega)]; simp; done) | (refine conv_eq ?_; simp; done)⟩, trivial⟩ trivial rfl
  · rintro i ⟨hi, hn⟩
    refine WP.seq ?_
    refine WP.reg hT hE [] rfl ?_ ?_
    · first | trivial | (simp [holdsC, under, slOk, slB, capEq] <;> grind)
    refine WP.seq ?_
    refine WP.cond rfl (fun h2 => ?_) (fun h2 => ?_)
    · have hil : i < l.length := by simpa using h2
      refine WP.skip ?_
      refine WP.seq ?_
      refine WP.block ?_
      refine WP.seq ?_
      refine WP.reg hT hE [] rfl ?_ ?_
      · first | trivial | (simp [holdsC, under, slOk, slB, capEq] <;> grind)
      refine WP.seq ?_
      refine WP.reg hT hE [] rfl ?_ ?_
      · simp [holdsC, under]; omega
      refine WP.cond rfl (fun h4 => ?_) (fun h4 => ?_)
      · have hx : l.getD i 0 = x := (by simpa using h4 : x = l.getD i 0).symm
        refine WP.seq ?_
        refine WP.reg hT hE [] rfl ?_ ?_
        · first | trivial | (simp [holdsC, under, slOk, slB, capEq] <;> grind)
        refine WP.ret ?_
        change Fin _ _ _ _ _ _ _ _
        exact finI hT rfl (idxI_some hil hx hn)
      · have hx : l.getD i 0 ≠ x := Ne.symm (by simpa using h4)
        refine WP.skip ?_
        refine WP.reg hT hE [] rfl ?_ ?_
        · first | trivial | (simp [holdsC, under, slOk, slB, capEq] <;> grind)
        refine ⟨i + 1, ?_, ?_, ?_⟩
        · refine ⟨hil, fun j hj => ?_⟩
          rcases Nat.lt_or_ge j i with h | h
          · exact hn j h
          · obtain rfl : j = i := by omega
            exact hx
        · refine Ent.mk hT [] trivial ⟨⟨rfl, _, rfl, by first | exact conv_eq rfl | (refine conv_eq ?_; rw [wrap_id (by omega) (by omega)]; simp; done) | (refine conv_eq ?_; simp; done)⟩, ⟨rfl, _, rfl, by first | exact conv_eq rfl | (refine conv_eq ?_; rw [wrap_id (by omega) (by omega)]; simp; done) | (refine conv_eq ?_; simp; done)⟩, ⟨rfl, _, rfl, by first | exact conv_eq rfl | (refine conv_eq ?_; rw [wrap_id (by omega) (by omega)]; simp; done) | (refine conv_eq ?_; simp; done)⟩, ⟨rfl, _, rfl, by first | exact conv_eq rfl | (refine conv_eq ?_; rw [wrap_id (by omega) (by omega)]; simp; done) | (refine conv_eq ?_; simp; done)⟩, trivial⟩ trivial rfl
        · (try simp only []); first | omega | grind
    · have hil : i = l.length := by simp at h2; omega
      subst hil
      refine WP.exit ?_
      refine WP.seq ?_
      refine WP.reg hT hE [] rfl ?_ ?_
      · first | trivial | (simp [holdsC, under, slOk, slB, capEq] <;> grind)
      refine WP.ret ?_
      change Fin _ _ _ _ _ _ _ _
      exact finI hT rfl (idxI_none hn)
theorem contains_ac (f : Bool) (l : List Int) (x : Int) : AC Try.prog T tysN 50 [ints f l, .int x] [] (.bool (decide (x ∈ l))) [] := by
  refine AC_intro hT Try.func50 rfl rfl (Nat.le_of_ble_eq_true rfl) ?_
  refine WP.seq ?_
  refine WP.reg hT hE [] rfl ?_ ?_
  · first | trivial | (simp [holdsC, under, slOk, slB, capEq] <;> grind)
  refine WP.seq ?_
  refine WP.reg hT hE [CG.pure (.int (idxI l x))] rfl ?_ ?_
  · exact idx_ac f l x
  refine WP.ret ?_
  change Fin _ _ _ _ _ _ _ _
  refine fin1 hT rfl ?_
  by_cases h : x ∈ l
  · simp [idxI, h]
  · simp [idxI, h]
end Go.Ab


/- Contracts: what is done to a thing. -/
set_option autoImplicit false
namespace Go.Ab
open Go.Proofs
structure Ct where
  n : Int
  v : List Int
  deriving DecidableEq
def encCt (x : Ct) : AV := stru 78 [.int x.n, arrI 76 8 .i64 x.v]
def zeros8 : List Int := [0, 0, 0, 0, 0, 0, 0, 0]
def beginF (k : Int) : Ct := ⟨if k = 1 ∨ k = 2 then 1 else 0, zeros8⟩
theorem noIds_ct (x : Ct) : noIds (encCt x) = true := by
  have : noIds (arrI 76 8 .i64 x.v) = true := noIds_arrI
  refine noIds_agg (fun i hi => ?_)
  match i, hi with
  | 0, _ => rfl
  | 1, _ => exact this
theorem ct_put {x : Ct} {i : Nat} {y : Int} (h : i < x.v.length) : (encCt x).put [1, i] (.int y) = encCt { x with v := x.v.set i y } := by
  have h1 := stru_put (t := 78) (k := 1) (l := [.int x.n, arrI 76 8 .i64 x.v]) (p := [i]) (y := .int y) (by simp)
  have h2 : (([.int x.n, arrI 76 8 .i64 x.v] : List AV).getD 1 .bad).put [i] (.int y) = arrI 76 8 .i64 (x.v.set i y) := arrI_put h
  rw [h2] at h1
  exact h1
theorem ct_putn {x : Ct} {y : Int} : (encCt x).put [0] (.int y) = encCt { x with n := y } :=
  stru_put (t := 78) (k := 0) (l := [.int x.n, arrI 76 8 .i64 x.v]) (p := []) (y := .int y) (by simp)
theorem zero_arr : (.agg 76 8 (fun _ => .int 0) : AV) = arrI 76 8 .i64 zeros8 := by
  simp only [arrI, AV.agg.injEq, true_and]
  funext i
  match i with
  | 0 | 1 | 2 | 3 | 4 | 5 | 6 | 7 => rfl
  | i + 8 => simp [zeros8]
theorem zero_ct {n : Int} : stru 78 [.int n, .agg 76 8 (fun _ => .int 0)] = encCt ⟨n, zeros8⟩ := by rw [zero_arr]; rfl
def cellF (x : Ct) (c : Cal) : Ct × Int × Bool :=
  if c.act = 1 then (x, x.v.getD 0 0, false)
  else if c.act = 2 then (⟨x.n, x.v.set 0 c.inp⟩, 0, false)
  else (⟨x.n, x.v.set 0 (IntKind.i64.wrap (x.v.getD 0 0 + c.inp))⟩, 0, false)
def encOut (r : Ct × Int × Bool) : AV := .tup [encCt r.1, .int r.2.1, .bool r.2.2]
theorem fin_out {P : Program} {N nt : Nat} (hT : TOK P T N) {a b c : Nat} {st : St} {B : Blk} {r : Ct × Int × Bool} (hab : a ≠ b) (hac : a ≠ c) (hbc : b ≠ c) (hta : st.t a = some (.always, .ptr (.s a 0) 1 0 [])) (hm : st.m (.s a 0) = some (.cells B)) (hty : B.ty = 78) (hn : B.n = 1) (hy : B.get 0 = encCt r.1)
    (htb : st.t b = some (.always, .int r.2.1)) (htc : st.t c = some (.always, .bool r.2.2)) : Fin T N nt 0 [.cell a 78, .tmp b, .tmp c] (encOut r) [] st := by
  refine ⟨[(a, .rp 78 (encCt r.1)), (b, .int r.2.1), (c, .bool r.2.2)], Ent.mk hT [(.s a 0, 1)] ⟨⟨B, hm, by omega⟩, trivial⟩ ⟨⟨rfl, _, hta, conv_rpe hm hn (by simp [lookF, idbeq_self]) (by rw [hty]; rfl) (by simpa [AV.at] using hy) (noIds_ct _)⟩, ⟨rfl, _, htb, conv_eq rfl⟩, ⟨rfl, _, htc, conv_eq rfl⟩, trivial⟩ trivial rfl, ([encCt r.1, .int r.2.1, .bool r.2.2], none), ?_, trivial, rfl⟩
  simp [resL, mkSt, lookN, ldA, nOf, andC, nbeq_ne hab.symm, nbeq_ne hac.symm, nbeq_ne hbc.symm, nbeq_ne hab, nbeq_ne hac, nbeq_ne hbc, notTup, encCt, stru]
theorem begin_ac (k : Int) : AC Try.prog T tysN 45 [.int k] [] (encCt (beginF k)) [] := by
  refine AC_intro hT Try.func45 rfl rfl (Nat.le_of_ble_eq_true rfl) ?_
  refine WP.seq ?_
  refine WP.reg hT hE [] rfl ?_ ?_
  · first | trivial | (simp [holdsC, under, slOk, slB, capEq] <;> grind)
  refine WP.seq ?_
  refine WP.seq ?_
  refine WP.reg hT hE [] rfl ?_ ?_
  · first | trivial | (simp [holdsC, under, slOk, slB, capEq] <;> grind)
  refine WP.cond rfl (fun h1 => ?_) (fun h1 => ?_)
  · refine WP.seq ?_
    refine WP.reg hT hE [] rfl ?_ ?_
    · first | trivial | (simp [holdsC, under, slOk, slB, capEq] <;> grind)
    refine WP.ret ?_
    change Fin _ _ _ _ _ _ _ _
    simp only [bor] at h1
    refine fin_mk hT [(.s 2 0, 1)] (ts := [(2, .rp 78 (encCt (beginF k)))]) ⟨⟨_, rfl, Nat.le_refl _⟩, trivial⟩ ⟨⟨rfl, _, rfl, conv_rpe rfl rfl (Nat.lt_succ_self 0) rfl ?_ (noIds_ct _)⟩, trivial⟩ trivial rfl rfl rfl
    have h : k = 1 ∨ k = 2 := by simpa using h1
    show (stru 78 [.int 0, .agg 76 8 (fun _ => .int 0)]).put [0] (.int 1) = _
    rw [zero_ct, ct_putn, beginF, if_pos h]
  · refine WP.skip ?_
    refine WP.seq ?_
    refine WP.reg hT hE [] rfl ?_ ?_
    · first | trivial | (simp [holdsC, under, slOk, slB, capEq] <;> grind)
    refine WP.ret ?_
    change Fin _ _ _ _ _ _ _ _
    simp only [bor] at h1
    refine fin_mk hT [(.s 2 0, 1)] (ts := [(2, .rp 78 (encCt (beginF k)))]) ⟨⟨_, rfl, Nat.le_refl _⟩, trivial⟩ ⟨⟨rfl, _, rfl, conv_rpe rfl rfl (Nat.lt_succ_self 0) rfl ?_ (noIds_ct _)⟩, trivial⟩ trivial rfl rfl rfl
    have h : ¬ (k = 1 ∨ k = 2) := by simpa using h1
    show stru 78 [.int 0, .agg 76 8 (fun _ => .int 0)] = _
    rw [zero_ct, beginF, if_neg h]
theorem cell_ac (x : Ct) (c : Cal) (hv : x.v.length = 8) : AC Try.prog T tysN 47 [encCt x, encCal c] [] (encOut (cellF x c)) [] := by
  refine AC_intro hT Try.func47 rfl rfl (Nat.le_of_ble_eq_true rfl) ?_
  refine WP.seq ?_
  refine WP.reg hT hE [] rfl ?_ ?_
  · first | trivial | (simp [holdsC, under, slOk, slB, capEq] <;> grind)
  refine WP.seq ?_
  refine WP.reg hT hE [] rfl ?_ ?_
  · first | trivial | (simp [holdsC, under, slOk, slB, capEq] <;> grind)
  refine WP.seq ?_
  refine WP.seq ?_
  refine WP.reg hT hE [] rfl ?_ ?_
  · first | trivial | (simp [holdsC, under, slOk, slB, capEq] <;> grind)
  refine WP.block ?_
  refine WP.seq ?_
  refine WP.reg hT hE [] rfl ?_ ?_
  · first | trivial | (simp [holdsC, under, slOk, slB, capEq] <;> grind)
  refine WP.cond rfl (fun h4 => ?_) (fun h4 => ?_)
  · obtain e1 : c.act = 1 := by simpa using h4
    rw [show cellF x c = (x, x.v.getD 0 0, false) by simp [cellF, e1]]
    refine WP.reg hT hE [] rfl ?_ ?_
    · first | trivial | (simp [holdsC, under, slOk, slB, capEq] <;> grind)
    refine WP.seq ?_
    refine WP.reg hT hE [] rfl ?_ ?_
    · first | trivial | (simp [holdsC, under, slOk, slB, capEq] <;> grind)
    refine WP.ret ?_
    change Fin _ _ _ _ _ _ _ _
    refine fin_out hT (by decide) (by decide) (by decide) rfl rfl rfl rfl ?_ rfl rfl
    rfl
  · have e1 : ¬ c.act = 1 := by simpa using h4
    refine WP.seq ?_
    refine WP.reg hT hE [] rfl ?_ ?_
    · first | trivial | (simp [holdsC, under, slOk, slB, capEq] <;> grind)
    refine WP.cond rfl (fun h6 => ?_) (fun h6 => ?_)
    · obtain e2 : c.act = 2 := by simpa using h6
      rw [show cellF x c = (⟨x.n, x.v.set 0 c.inp⟩, 0, false) by simp [cellF, e1, e2]]
      refine WP.reg hT hE [] rfl ?_ ?_
      · first | trivial | (simp [holdsC, under, slOk, slB, capEq] <;> grind)
      refine WP.seq ?_
      refine WP.reg hT hE [] rfl ?_ ?_
      · first | trivial | (simp [holdsC, under, slOk, slB, capEq] <;> grind)
      refine WP.ret ?_
      change Fin _ _ _ _ _ _ _ _
      refine fin_out hT (by decide) (by decide) (by decide) rfl rfl rfl rfl ?_ rfl rfl
      exact ct_put (by omega)
    · have e2 : ¬ c.act = 2 := by simpa using h6
      rw [show cellF x c = (⟨x.n, x.v.set 0 (IntKind.i64.wrap (x.v.getD 0 0 + c.inp))⟩, 0, false) by simp [cellF, e1, e2]]
      refine WP.reg hT hE [] rfl ?_ ?_
      · first | trivial | (simp [holdsC, under, slOk, slB, capEq] <;> grind)
      refine WP.seq ?_
      refine WP.reg hT hE [] rfl ?_ ?_
      · first | trivial | (simp [holdsC, under, slOk, slB, capEq] <;> grind)
      refine WP.ret ?_
      change Fin _ _ _ _ _ _ _ _
      refine fin_out hT (by decide) (by decide) (by decide) rfl rfl rfl rfl ?_ rfl rfl
      exact ct_put (by omega)
end Go.Ab


/- Contracts: lists; kinds of things. -/
set_option autoImplicit false
namespace Go.Ab
open Go.Proofs
def shiftL (v : List Int) : List Int := v.tail ++ [v.getD 7 0]
def listF (first : Bool) (x : Ct) (c : Cal) : Ct × Int × Bool :=
  if c.act = 4 then (⟨x.n + 1, x.v.set x.n.toNat c.inp⟩, 0, false)
  else if x.n = 0 then (x, 0, true)
  else (⟨x.n - 1, (if first then shiftL x.v else x.v).set (x.n - 1).toNat 0⟩, if first then x.v.getD 0 0 else x.v.getD (x.n - 1).toNat 0, false)
theorem shl_arr {v : List Int} (h : v.length = 8) : (.agg 76 8 (fun j => bif Nat.ble 0 j && Nat.blt j 7 then .int (v.getD (1 + (j - 0)) 0) else .int (v.getD j 0)) : AV) = arrI 76 8 .i64 (shiftL v) := by
  simp only [arrI, AV.agg.injEq, true_and]
  funext j
  match v, h with
  | [a0, a1, a2, a3, a4, a5, a6, a7], _ =>
    match j with
    | 0 | 1 | 2 | 3 | 4 | 5 | 6 | 7 => rfl
    | j + 8 =>
      have e : Nat.blt (j + 8) 7 = false := rfl
      simp [shiftL, e]
theorem ct_putv {x : Ct} {v : List Int} : (encCt x).put [1] (arrI 76 8 .i64 v) = encCt ⟨x.n, v⟩ :=
  stru_put (t := 78) (k := 1) (l := [.int x.n, arrI 76 8 .i64 x.v]) (p := []) (y := arrI 76 8 .i64 v) (by simp)
theorem list1_ac (first : Bool) (x : Ct) (c : Cal) (hv : x.v.length = 8) (h0 : 0 ≤ x.n) (h8 : x.n ≤ 8) (hp : c.act = 4 → x.n < 8) : AC Try.prog T tysN 61 [encCt x, encCal c, .rp 4 (.bool first)] [] (encOut (listF first x c)) [] := by
  refine AC_intro hT Try.func61 rfl rfl (Nat.le_of_ble_eq_true rfl) ?_
  refine WP.seq ?_
  refine WP.reg hT hE [] rfl ?_ ?_
  · first | trivial | (simp [holdsC, under, slOk, slB, capEq] <;> grind)
  refine WP.seq ?_
  refine WP.seq ?_
  refine WP.reg hT hE [] rfl ?_ ?_
  · first | trivial | (simp [holdsC, under, slOk, slB, capEq] <;> grind)
  refine WP.cond rfl (fun h1 => ?_) (fun h1 => ?_)
  · have e1 : c.act = 4 := by simpa using h1
    have hn := hp e1
    refine WP.seq ?_
    refine WP.reg hT hE [] rfl ?_ ?_
    · first | trivial | (simp [holdsC, under, slOk, slB, capEq] <;> grind)
    refine WP.seq ?_
    refine WP.reg hT hE [] rfl ?_ ?_
    · first | trivial | (simp [holdsC, under, slOk, slB, capEq] <;> grind)
    refine WP.seq ?_
    refine WP.reg hT hE [] rfl ?_ ?_
    · first | trivial | (simp [holdsC, under, slOk, slB, capEq] <;> grind)
    refine WP.ret ?_
    change Fin _ _ _ _ _ _ _ _
    rw [show listF first x c = (⟨x.n + 1, x.v.set x.n.toNat c.inp⟩, 0, false) by simp [listF, e1]]
    refine fin_out hT (by decide) (by decide) (by decide) rfl rfl rfl rfl ?_ rfl rfl
    show ((encCt x).put [1, x.n.toNat] (.int c.inp)).put [0] (.int (IntKind.i64.wrap (x.n + 1))) = _
    rw [ct_put (by omega), ct_putn, wrap_id (by omega) (by omega)]
  · have e1 : ¬ c.act = 4 := by simpa using h1
    have hw1 := wrap_id (n := x.n - 1) (by omega) (by omega)
    refine WP.skip ?_
    refine WP.seq ?_
    refine WP.seq ?_
    refine WP.reg hT hE [] rfl ?_ ?_
    · first | trivial | (simp [holdsC, under, slOk, slB, capEq] <;> grind)
    refine WP.cond rfl (fun h5 => ?_) (fun h5 => ?_)
    · have e2 : x.n = 0 := by simpa using h5
      refine WP.seq ?_
      refine WP.reg hT hE [] rfl ?_ ?_
      · first | trivial | (simp [holdsC, under, slOk, slB, capEq] <;> grind)
      refine WP.ret ?_
      change Fin _ _ _ _ _ _ _ _
      rw [show listF first x c = (x, 0, true) by simp [listF, e1, e2]]
      refine fin_out hT (by decide) (by decide) (by decide) rfl rfl rfl rfl ?_ rfl rfl
      rfl
    · have e2 : ¬ x.n = 0 := by simpa using h5
      refine WP.skip ?_
      refine WP.seq ?_
      have hx0 : x.n ≠ 0 := e2
      refine WP.reg hT hE [] rfl ?_ ?_
      · first | trivial | (simp [holdsC, under, slOk, slB, capEq] <;> grind)
      refine WP.seq ?_
      refine WP.reg hT hE [] rfl ?_ ?_
      · simp [holdsC, under, hw1] <;> omega
      refine WP.seq ?_
      refine WP.seq ?_
      refine WP.reg hT hE [] rfl ?_ ?_
      · first | trivial | (simp [holdsC, under, slOk, slB, capEq] <;> grind)
      refine WP.cond rfl (fun h9 => ?_) (fun h9 => ?_)
      · refine WP.seq ?_
        refine WP.reg hT hE [] rfl ?_ ?_
        · first | trivial | (simp [holdsC, under, slOk, slB, capEq] <;> grind)
        refine WP.drw hT hE hM [] rfl ?_ ?_
        · first | trivial | (simp [holdsC, under, slOk, slB, capEq] <;> grind)
        refine WP.seq ?_
        refine WP.reg hT hE [] rfl ?_ ?_
        · simp [holdsC, under, hw1] <;> omega
        refine WP.seq ?_
        refine WP.reg hT hE [] rfl ?_ ?_
        · first | trivial | (simp [holdsC, under, slOk, slB, capEq] <;> grind)
        refine WP.ret ?_
        change Fin _ _ _ _ _ _ _ _
        obtain rfl : first = true := h9
        rw [show listF true x c = (⟨x.n - 1, (shiftL x.v).set (x.n - 1).toNat 0⟩, x.v.getD 0 0, false) by simp [listF, e1, e2]]
        refine fin_out hT (by decide) (by decide) (by decide) rfl rfl rfl rfl ?_ rfl rfl
        show ((((encCt x).put [0] (.int (IntKind.i64.wrap (x.n - 1)))).put [1] (.agg 76 8 (fun j => bif Nat.ble 0 j && Nat.blt j 7 then .int (x.v.getD (1 + (j - 0)) 0) else .int (x.v.getD j 0)))).put [1, (IntKind.i64.wrap (x.n - 1)).toNat] (.int 0)) = _
        rw [shl_arr hv, ct_putn, ct_putv, hw1]
        exact ct_put (x := ⟨x.n - 1, shiftL x.v⟩) (by simp [shiftL]; omega)
      · refine WP.skip ?_
        refine WP.seq ?_
        refine WP.reg hT hE [] rfl ?_ ?_
        · simp [holdsC, under, hw1] <;> omega
        refine WP.seq ?_
        refine WP.reg hT hE [] rfl ?_ ?_
        · first | trivial | (simp [holdsC, under, slOk, slB, capEq] <;> grind)
        refine WP.ret ?_
        change Fin _ _ _ _ _ _ _ _
        obtain rfl : first = false := h9
        rw [show listF false x c = (⟨x.n - 1, x.v.set (x.n - 1).toNat 0⟩, x.v.getD (x.n - 1).toNat 0, false) by simp [listF, e1, e2]]
        refine fin_out hT (by decide) (by decide) (by decide) rfl rfl rfl rfl ?_ ?_ rfl
        · show ((encCt x).put [0] (.int (IntKind.i64.wrap (x.n - 1)))).put [1, (IntKind.i64.wrap (x.n - 1)).toNat] (.int 0) = _
          rw [ct_putn, hw1]
          exact ct_put (x := ⟨x.n - 1, x.v⟩) (by simp only; omega)
        · show some (D.always, AV.int (x.v.getD (IntKind.i64.wrap (x.n - 1)).toNat 0)) = _
          rw [hw1]
end Go.Ab


/- Contracts: kinds of things; what is right by itself. -/
set_option autoImplicit false
namespace Go.Ab
open Go.Proofs
def mayOf (k : Int) : List Int := if k = 1 then [1, 2] else if k = 2 then [1, 3] else [4, 5]
def encTh (may : List Int) (f : Nat) (caps : List AV) : AV := stru 60 [ints true may, .clo f caps]
def fnOf (k : Int) : Nat := if k = 1 ∨ k = 2 then 47 else 61
def capsOf (k : Int) : List AV := if k = 1 ∨ k = 2 then [] else [.rp 4 (.bool (decide (k = 3)))]
def thOf (k : Int) : AV := encTh (mayOf k) (fnOf k) (capsOf k)
theorem th_built (may : List Int) (f : Nat) (caps : List AV) : ((stru 60 [.nils, .v .nilFunc]).put [0] (ints true may)).put [1] (.clo f caps) = encTh may f caps := by
  rw [stru_put (by simp)]
  exact stru_put (by simp)
def rawTh (a b : Int) (f : Nat) (caps : List AV) : AV := ((stru 60 [.nils, .v .nilFunc]).put [0] (.row 3 true 2 (partG [(0, .int a), (1, .int b)] (.int 0)))).put [1] (.clo f caps)
theorem th_lit (a b : Int) (f : Nat) (caps : List AV) : rawTh a b f caps = encTh [a, b] f caps := by
  have e : (partG [(0, .int a), (1, .int b)] (.int 0) : Nat → AV) = fun i => .int ([a, b].getD i 0) := by
    funext j
    match j with
    | 0 | 1 => rfl
    | j + 2 => rfl
  rw [rawTh, e]
  exact th_built [a, b] f caps
def esOf (n : Nat) : List (AV × AV) := [(.int 1, thOf 1), (.int 2, thOf 2), (.int 3, thOf 3), (.int 4, thOf 4)].take n
def mapG (n : Nat) : CG := ⟨true, [], .bad, [.map (esOf n)]⟩
theorem putMap {n : Nat} {k : Int} {a b : Int} {f : Nat} {caps : List AV} (h : mapPut T 3 (esOf n) (.int k) (encTh [a, b] f caps) = some (esOf (n + 1))) : mapPut T 3 (esOf n) (.int k) (rawTh a b f caps) = some (esOf (n + 1)) := by
  rw [th_lit]; exact h
theorem list_ac (b : Bool) : AC Try.prog T tysN 48 [.bool b] [] (.clo 61 [.rp 4 (.bool b)]) [] := by
  refine AC_intro hT Try.func48 rfl rfl (Nat.le_of_ble_eq_true rfl) ?_
  refine WP.seq ?_
  refine WP.reg hT hE [] rfl ?_ ?_
  · first | trivial | (simp [holdsC, under, slOk, slB, capEq] <;> grind)
  refine WP.seq ?_
  refine WP.reg hT hE [] rfl ?_ ?_
  · first | trivial | (simp [holdsC, under, slOk, slB, capEq] <;> grind)
  refine WP.ret ?_
  change Fin _ _ _ _ _ _ _ _
  refine fin_mk hT [(.s 1 0, 1)] (ts := [(2, .clo 61 [.rp 4 (.bool b)])]) ⟨⟨_, rfl, Nat.le_refl _⟩, trivial⟩ ⟨⟨rfl, _, rfl, ⟨_, rfl, _, _, rfl, conv_rpe rfl rfl (Nat.lt_succ_self 0) rfl rfl rfl, rfl⟩⟩, trivial⟩ trivial rfl rfl rfl
def noTh : AV := stru 60 [.nils, .v .nilFunc]
theorem of_sides {r : AV} {k : Int} (h : mapRes T 3 60 (esOf 4) (.int k) true = some r) : ((((((mapPut T 3 (esOf 0) (.int 1) (rawTh 1 2 47 []) = some (esOf 1) ∧ mapPut T 3 (esOf 1) (.int 2) (rawTh 1 3 47 []) = some (esOf 2)) ∧ AC Try.prog T tysN 48 [.bool true] [] (.clo 61 [.rp 4 (.bool true)]) []) ∧
    mapPut T 3 (esOf 2) (.int 3) (rawTh 4 5 61 [.rp 4 (.bool true)]) = some (esOf 3)) ∧ AC Try.prog T tysN 48 [.bool false] [] (.clo 61 [.rp 4 (.bool false)]) []) ∧ mapPut T 3 (esOf 3) (.int 4) (rawTh 4 5 61 [.rp 4 (.bool false)]) = some (esOf 4)) ∧ mapRes T 3 60 (esOf 4) (.int k) true = some r) :=
  ⟨⟨⟨⟨⟨⟨putMap rfl, putMap rfl⟩, list_ac true⟩, putMap rfl⟩, list_ac false⟩, putMap rfl⟩, h⟩
theorem of_ac1  : AC Try.prog T tysN 30 [.int 1] [] (.tup [thOf 1, .bool true]) [] := by
  refine AC_intro hT Try.func30 rfl rfl (Nat.le_of_ble_eq_true rfl) ?_
  refine WP.seq ?_
  refine WP.reg hT hE [] rfl ?_ ?_
  · first | trivial | (simp [holdsC, under, slOk, slB, capEq] <;> grind)
  refine WP.seq ?_
  refine WP.reg hT hE [mapG 1, mapG 2, CG.pure (.clo 61 [.rp 4 (.bool true)]), mapG 3, CG.pure (.clo 61 [.rp 4 (.bool false)]), mapG 4, CG.pure (.tup [thOf 1, .bool true])] rfl ?_ ?_
  · exact ⟨of_sides (k := 1) (r := .tup [thOf 1, .bool true]) rfl, rfl, Nat.le_refl _⟩
  refine WP.seq ?_
  refine WP.reg hT hE [] rfl ?_ ?_
  · first | trivial | (simp [holdsC, under, slOk, slB, capEq] <;> grind)
  refine WP.ret ?_
  change Fin _ _ _ _ _ _ _ _
  refine fin_mk hT [(.s 2 0, 1)] (ts := [(2, .rp 60 (thOf 1)), (3, .bool true)]) ⟨⟨_, rfl, Nat.le_refl _⟩, trivial⟩ ⟨⟨rfl, _, rfl, conv_rpe rfl rfl (Nat.lt_succ_self 0) rfl rfl rfl⟩, ⟨rfl, _, rfl, conv_eq rfl⟩, trivial⟩ trivial rfl rfl rfl
theorem of_ac2  : AC Try.prog T tysN 30 [.int 2] [] (.tup [thOf 2, .bool true]) [] := by
  refine AC_intro hT Try.func30 rfl rfl (Nat.le_of_ble_eq_true rfl) ?_
  refine WP.seq ?_
  refine WP.reg hT hE [] rfl ?_ ?_
  · first | trivial | (simp [holdsC, under, slOk, slB, capEq] <;> grind)
  refine WP.seq ?_
  refine WP.reg hT hE [mapG 1, mapG 2, CG.pure (.clo 61 [.rp 4 (.bool true)]), mapG 3, CG.pure (.clo 61 [.rp 4 (.bool false)]), mapG 4, CG.pure (.tup [thOf 2, .bool true])] rfl ?_ ?_
  · exact ⟨of_sides (k := 2) (r := .tup [thOf 2, .bool true]) rfl, rfl, Nat.le_refl _⟩
  refine WP.seq ?_
  refine WP.reg hT hE [] rfl ?_ ?_
  · first | trivial | (simp [holdsC, under, slOk, slB, capEq] <;> grind)
  refine WP.ret ?_
  change Fin _ _ _ _ _ _ _ _
  refine fin_mk hT [(.s 2 0, 1)] (ts := [(2, .rp 60 (thOf 2)), (3, .bool true)]) ⟨⟨_, rfl, Nat.le_refl _⟩, trivial⟩ ⟨⟨rfl, _, rfl, conv_rpe rfl rfl (Nat.lt_succ_self 0) rfl rfl rfl⟩, ⟨rfl, _, rfl, conv_eq rfl⟩, trivial⟩ trivial rfl rfl rfl
theorem of_ac3  : AC Try.prog T tysN 30 [.int 3] [] (.tup [thOf 3, .bool true]) [] := by
  refine AC_intro hT Try.func30 rfl rfl (Nat.le_of_ble_eq_true rfl) ?_
  refine WP.seq ?_
  refine WP.reg hT hE [] rfl ?_ ?_
  · first | trivial | (simp [holdsC, under, slOk, slB, capEq] <;> grind)
  refine WP.seq ?_
  refine WP.reg hT hE [mapG 1, mapG 2, CG.pure (.clo 61 [.rp 4 (.bool true)]), mapG 3, CG.pure (.clo 61 [.rp 4 (.bool false)]), mapG 4, CG.pure (.tup [thOf 3, .bool true])] rfl ?_ ?_
  · exact ⟨of_sides (k := 3) (r := .tup [thOf 3, .bool true]) rfl, rfl, Nat.le_refl _⟩
  refine WP.seq ?_
  refine WP.reg hT hE [] rfl ?_ ?_
  · first | trivial | (simp [holdsC, under, slOk, slB, capEq] <;> grind)
  refine WP.ret ?_
  change Fin _ _ _ _ _ _ _ _
  refine fin_mk hT [(.s 2 0, 1)] (ts := [(2, .rp 60 (thOf 3)), (3, .bool true)]) ⟨⟨_, rfl, Nat.le_refl _⟩, trivial⟩ ⟨⟨rfl, _, rfl, conv_rpe rfl rfl (Nat.lt_succ_self 0) rfl rfl rfl⟩, ⟨rfl, _, rfl, conv_eq rfl⟩, trivial⟩ trivial rfl rfl rfl
theorem of_ac4  : AC Try.prog T tysN 30 [.int 4] [] (.tup [thOf 4, .bool true]) [] := by
  refine AC_intro hT Try.func30 rfl rfl (Nat.le_of_ble_eq_true rfl) ?_
  refine WP.seq ?_
  refine WP.reg hT hE [] rfl ?_ ?_
  · first | trivial | (simp [holdsC, under, slOk, slB, capEq] <;> grind)
  refine WP.seq ?_
  refine WP.reg hT hE [mapG 1, mapG 2, CG.pure (.clo 61 [.rp 4 (.bool true)]), mapG 3, CG.pure (.clo 61 [.rp 4 (.bool false)]), mapG 4, CG.pure (.tup [thOf 4, .bool true])] rfl ?_ ?_
  · exact ⟨of_sides (k := 4) (r := .tup [thOf 4, .bool true]) rfl, rfl, Nat.le_refl _⟩
  refine WP.seq ?_
  refine WP.reg hT hE [] rfl ?_ ?_
  · first | trivial | (simp [holdsC, under, slOk, slB, capEq] <;> grind)
  refine WP.ret ?_
  change Fin _ _ _ _ _ _ _ _
  refine fin_mk hT [(.s 2 0, 1)] (ts := [(2, .rp 60 (thOf 4)), (3, .bool true)]) ⟨⟨_, rfl, Nat.le_refl _⟩, trivial⟩ ⟨⟨rfl, _, rfl, conv_rpe rfl rfl (Nat.lt_succ_self 0) rfl rfl rfl⟩, ⟨rfl, _, rfl, conv_eq rfl⟩, trivial⟩ trivial rfl rfl rfl
theorem of_ac {k : Int} (hk : k = 1 ∨ k = 2 ∨ k = 3 ∨ k = 4) : AC Try.prog T tysN 30 [.int k] [] (.tup [thOf k, .bool true]) [] := by
  rcases hk with rfl | rfl | rfl | rfl
  · exact of_ac1
  · exact of_ac2
  · exact of_ac3
  · exact of_ac4
theorem no_look {k : Int} (hk : ¬ (k = 1 ∨ k = 2 ∨ k = 3 ∨ k = 4)) : mapRes T 3 60 (esOf 4) (.int k) true = some (.tup [noTh, .bool false]) := by
  have h1 : k ≠ 1 := fun e => hk (.inl e)
  have h2 : k ≠ 2 := fun e => hk (.inr (.inl e))
  have h3 : k ≠ 3 := fun e => hk (.inr (.inr (.inl e)))
  have h4 : k ≠ 4 := fun e => hk (.inr (.inr (.inr e)))
  have f : ∀ n : Int, k ≠ n → flatEq T 40 3 (.int k) (.int n) = some false := fun n hn => by
    show some (k == n) = _
    simp [hn]
  simp only [mapRes, esOf, List.take, mapIdx, f 1 h1, f 2 h2, f 3 h3, f 4 h4]
  rfl
theorem of_none (k : Int) (hk : ¬ (k = 1 ∨ k = 2 ∨ k = 3 ∨ k = 4)) : AC Try.prog T tysN 30 [.int k] [] (.tup [noTh, .bool false]) [] := by
  refine AC_intro hT Try.func30 rfl rfl (Nat.le_of_ble_eq_true rfl) ?_
  refine WP.seq ?_
  refine WP.reg hT hE [] rfl ?_ ?_
  · first | trivial | (simp [holdsC, under, slOk, slB, capEq] <;> grind)
  refine WP.seq ?_
  refine WP.reg hT hE [mapG 1, mapG 2, CG.pure (.clo 61 [.rp 4 (.bool true)]), mapG 3, CG.pure (.clo 61 [.rp 4 (.bool false)]), mapG 4, CG.pure (.tup [noTh, .bool false])] rfl ?_ ?_
  · exact ⟨of_sides (no_look hk), rfl, Nat.le_refl _⟩
  refine WP.seq ?_
  refine WP.reg hT hE [] rfl ?_ ?_
  · first | trivial | (simp [holdsC, under, slOk, slB, capEq] <;> grind)
  refine WP.ret ?_
  change Fin _ _ _ _ _ _ _ _
  refine fin_mk hT [(.s 2 0, 1)] (ts := [(2, .rp 60 (noTh)), (3, .bool false)]) ⟨⟨_, rfl, Nat.le_refl _⟩, trivial⟩ ⟨⟨rfl, _, rfl, conv_rpe rfl rfl (Nat.lt_succ_self 0) rfl rfl rfl⟩, ⟨rfl, _, rfl, conv_eq rfl⟩, trivial⟩ trivial rfl rfl rfl
end Go.Ab


/- Contracts: what is right by itself. -/
set_option autoImplicit false
namespace Go.Ab
open Go.Proofs
def badHead' (may : List Int) (c : Cal) : Bool := c.go < 0 || c.go ≥ 6 || !decide (c.act ∈ may) || c.bgn < 0 || c.bgn > 1000000
def badVals' (c : Cal) : Bool := c.inp != 0 && !gives c || c.out != 0 && !tells c || c.empty && !(c.act == 5)
def rightB (may : List Int) (c : Cal) : Bool := !badHead' may c && !badEnd c && !badVals' c && (c.fin != -1 || c.out == 0 && !c.empty)
theorem right_eq {k : Int} (hk : k = 1 ∨ k = 2 ∨ k = 3 ∨ k = 4) (c : Cal) : rightB (mayOf k) c = fieldsB k c := by
  have e : badHead' (mayOf k) c = badHead k c := by
    simp only [badHead', badHead]
    congr 3
    rcases hk with rfl | rfl | rfl | rfl <;> simp [mayOf, doesB] <;> grind
  simp only [rightB, fieldsB, e]
  cases badHead k c <;> cases badEnd c <;> simp
  simp only [badVals', badVals, okEmpty, gives, tells]
  grind
theorem right_ac (may : List Int) (f : Nat) (caps : List AV) (c : Cal) : AC Try.prog T tysN 33 [encTh may f caps, encCal c] [] (.bool (rightB may c)) [] := by
  refine AC_intro hT Try.func33 rfl rfl (Nat.le_of_ble_eq_true rfl) ?_
  refine WP.seq ?_
  refine WP.reg hT hE [] rfl ?_ ?_
  · first | trivial | (simp [holdsC, under, slOk, slB, capEq] <;> grind)
  refine WP.seq ?_
  refine WP.seq ?_
  refine WP.reg hT hE [CG.pure (.bool (decide (c.act ∈ may)))] rfl ?_ ?_
  · simp [holdsC, under, CG.pure]
    exact fun _ _ => contains_ac true may c.act
  refine WP.cond rfl (fun h1 => ?_) (fun h1 => ?_)
  · simp only [bor, band] at h1
    refine WP.seq ?_
    refine WP.reg hT hE [] rfl ?_ ?_
    · first | trivial | (simp [holdsC, under, slOk, slB, capEq] <;> grind)
    refine WP.ret ?_
    change Fin _ _ _ _ _ _ _ _
    refine fin1 hT rfl ?_
    have : badHead' may c = true := h1
    simp [rightB, this]
  · simp only [bor, band] at h1
    have g1 : badHead' may c = false := h1
    refine WP.skip ?_
    refine WP.seq ?_
    refine WP.seq ?_
    refine WP.reg hT hE [] rfl ?_ ?_
    · first | trivial | (simp [holdsC, under, slOk, slB, capEq] <;> grind)
    refine WP.cond rfl (fun h3 => ?_) (fun h3 => ?_)
    · simp only [bor, band] at h3
      refine WP.seq ?_
      refine WP.reg hT hE [] rfl ?_ ?_
      · first | trivial | (simp [holdsC, under, slOk, slB, capEq] <;> grind)
      refine WP.ret ?_
      change Fin _ _ _ _ _ _ _ _
      refine fin1 hT rfl ?_
      have : badEnd c = true := h3
      simp [rightB, this]
    · simp only [bor, band] at h3
      have g2 : badEnd c = false := h3
      refine WP.skip ?_
      refine WP.seq ?_
      refine WP.reg hT hE [] rfl ?_ ?_
      · first | trivial | (simp [holdsC, under, slOk, slB, capEq] <;> grind)
      refine WP.seq ?_
      refine WP.reg hT hE [] rfl ?_ ?_
      · first | trivial | (simp [holdsC, under, slOk, slB, capEq] <;> grind)
      refine WP.seq ?_
      refine WP.reg hT hE [] rfl ?_ ?_
      · first | trivial | (simp [holdsC, under, slOk, slB, capEq] <;> grind)
      refine WP.seq ?_
      refine WP.seq ?_
      refine WP.reg hT hE [] rfl ?_ ?_
      · first | trivial | (simp [holdsC, under, slOk, slB, capEq] <;> grind)
      refine WP.cond rfl (fun h8 => ?_) (fun h8 => ?_)
      · simp only [bor, band] at h8
        refine WP.seq ?_
        refine WP.reg hT hE [] rfl ?_ ?_
        · first | trivial | (simp [holdsC, under, slOk, slB, capEq] <;> grind)
        refine WP.ret ?_
        change Fin _ _ _ _ _ _ _ _
        refine fin1 hT rfl ?_
        have : badVals' c = true := h8
        simp [rightB, this]
      · simp only [bor, band] at h8
        have g3 : badVals' c = false := h8
        refine WP.skip ?_
        refine WP.seq ?_
        refine WP.reg hT hE [] rfl ?_ ?_
        · first | trivial | (simp [holdsC, under, slOk, slB, capEq] <;> grind)
        refine WP.ret ?_
        change Fin _ _ _ _ _ _ _ _
        refine fin1 hT rfl ?_
        simp only [bor, band]
        simp [rightB, g1, g2, g3]
theorem check1_ac (may : List Int) (f : Nat) (c : Cal) : AC Try.prog T tysN 32 [encCal c, .rp 60 (encTh may f [])] [] (.bool (!rightB may c)) [] := by
  refine AC_intro hT Try.func32 rfl rfl (Nat.le_of_ble_eq_true rfl) ?_
  refine WP.seq ?_
  refine WP.reg hT hE [] rfl ?_ ?_
  · first | trivial | (simp [holdsC, under, slOk, slB, capEq] <;> grind)
  refine WP.seq ?_
  refine WP.reg hT hE [CG.pure (.bool (rightB may c))] rfl ?_ ?_
  · exact ⟨rfl, right_ac may f [] c⟩
  refine WP.ret ?_
  change Fin _ _ _ _ _ _ _ _
  exact fin1 hT rfl rfl
theorem check1b_ac (may : List Int) (f : Nat) (b : Bool) (c : Cal) : AC Try.prog T tysN 32 [encCal c, .rp 60 (encTh may f [.rp 4 (.bool b)])] [] (.bool (!rightB may c)) [] := by
  refine AC_intro hT Try.func32 rfl rfl (Nat.le_of_ble_eq_true rfl) ?_
  refine WP.seq ?_
  refine WP.reg hT hE [] rfl ?_ ?_
  · first | trivial | (simp [holdsC, under, slOk, slB, capEq] <;> grind)
  refine WP.seq ?_
  refine WP.reg hT hE [CG.pure (.bool (rightB may c))] rfl ?_ ?_
  · exact ⟨rfl, right_ac may f [.rp 4 (.bool b)] c⟩
  refine WP.ret ?_
  change Fin _ _ _ _ _ _ _ _
  exact fin1 hT rfl rfl
def firstBad (p : Cal → Bool) (h : List Cal) : Int := if h.any p then h.findIdx p else -1
theorem firstBad_none {p : Cal → Bool} {h : List Cal} (hn : ∀ j, j < h.length → p (h.getD j cal0) = false) : -1 = firstBad p h := by
  have : h.any p = false := by
    rw [List.any_eq_false]
    intro x hx
    obtain ⟨i, hi, e⟩ := List.getElem_of_mem hx
    have := hn i hi
    simpa [hi, e] using this
  simp [firstBad, this]
theorem firstBad_some {p : Cal → Bool} {h : List Cal} {i : Nat} (hi : i < h.length) (hp : p (h.getD i cal0) = true) : 0 ≤ firstBad p h ∧ h.any p = true := by
  have : h.any p = true := by
    rw [List.any_eq_true]
    exact ⟨h[i], List.getElem_mem hi, by simpa [hi] using hp⟩
  simp [firstBad, this]
theorem firstBad_at {p : Cal → Bool} {h : List Cal} {i : Nat} (hi : i < h.length) (hp : p (h.getD i cal0) = true) (hn : ∀ j, j < i → p (h.getD j cal0) = false) : (i : Int) = firstBad p h := by
  have h1 := (firstBad_some hi hp).2
  simp only [firstBad, h1, if_true]
  congr 1
  symm
  rw [List.findIdx_eq hi]
  refine ⟨by simpa [hi] using hp, fun j hj => ?_⟩
  have := hn j hj
  have hj' : j < h.length := by omega
  simpa [hj'] using this
theorem idxf_ac (g : Bool) (h : List Cal) (may : List Int) (f : Nat) (caps : List AV) (hac : ∀ c, AC Try.prog T tysN 32 [encCal c, .rp 60 (encTh may f caps)] [] (.bool (!rightB may c)) []) : AC Try.prog T tysN 49 [cals g h, .clo 32 [.rp 60 (encTh may f caps)]] [] (.int (firstBad (fun c => !rightB may c) h)) [] := by
  refine AC_intro hT Try.func49 rfl rfl (Nat.le_of_ble_eq_true rfl) ?_
  refine WP.rowlen 0 rfl (fun hl => ?_)
  refine WP.seq ?_
  refine WP.reg hT hE [] rfl ?_ ?_
  · first | trivial | (simp [holdsC, under, slOk, slB, capEq] <;> grind)
  refine WP.seq ?_
  refine WP.seq ?_
  refine WP.reg hT hE [] rfl ?_ ?_
  · first | trivial | (simp [holdsC, under, slOk, slB, capEq] <;> grind)
  refine WP.block ?_
  refine WP.loop (α := Nat) (fun i => mkSt [(0, cals g h), (1, .clo 32 [.rp 60 (encTh may f caps)]), (7, .int h.length), (8, .int i)] []) (fun i => i ≤ h.length ∧ ∀ j, j < i → rightB may (h.getD j cal0) = true) (fun i => h.length - i) ?_ ?_
  · refine ⟨0, ?_, ?_⟩
    · exact ⟨Nat.zero_le _, fun j hj => by omega⟩
    · refine Ent.mk hT [] trivial ⟨⟨rfl, _, rfl, by first | exact conv_eq rfl | (refine conv_eq ?_; rw [wrap_id (by omega) (by omega)]; simp; done) | (refine conv_eq ?_; simp; done)⟩, ⟨rfl, _, rfl, by first | exact conv_eq rfl | (refine conv_eq ?_; rw [wrap_id (by omega) (by omega)]; simp; done) | (refine conv_eq ?_; simp; done)⟩, ⟨rfl, _, rfl, by first | exact conv_eq rfl | (refine conv_eq ?_; rw [wrap_id (by omega) (by omega)]; simp; done) | (refine conv_eq ?_; simp; done)⟩, ⟨rfl, _, rfl, by first | exact conv_eq rfl | (refine conv_eq ?_; rw [wrap_id (by omega) (by omega)]; simp; done) | (refine conv_eq ?_; simp; done)⟩, trivial⟩ trivial rfl
  · rintro i ⟨hi, hn⟩
    refine WP.seq ?_
    refine WP.reg hT hE [] rfl ?_ ?_
    · first | trivial | (simp [holdsC, under, slOk, slB, capEq] <;> grind)
    refine WP.seq ?_
    refine WP.cond rfl (fun h2 => ?_) (fun h2 => ?_)
    · have hil : i < h.length := by simpa using h2
      refine WP.skip ?_
      refine WP.seq ?_
      refine WP.block ?_
      refine WP.seq ?_
      refine WP.reg hT hE [] rfl ?_ ?_
      · first | trivial | (simp [holdsC, under, slOk, slB, capEq] <;> grind)
      refine WP.seq ?_
      refine WP.reg hT hE [CG.pure (.bool (!rightB may (h.getD i cal0)))] rfl ?_ ?_
      · exact ⟨⟨by omega, by omega⟩, hac _⟩
      refine WP.cond rfl (fun h4 => ?_) (fun h4 => ?_)
      · have hx : rightB may (h.getD i cal0) = false := by simpa using h4
        refine WP.seq ?_
        refine WP.reg hT hE [] rfl ?_ ?_
        · first | trivial | (simp [holdsC, under, slOk, slB, capEq] <;> grind)
        refine WP.ret ?_
        change Fin _ _ _ _ _ _ _ _
        exact finI hT rfl (firstBad_at (p := fun c => !rightB may c) hil (by simpa using hx) (fun j hj => by simpa using hn j hj))
      · have hx : rightB may (h.getD i cal0) = true := by simpa using h4
        refine WP.skip ?_
        refine WP.reg hT hE [] rfl ?_ ?_
        · first | trivial | (simp [holdsC, under, slOk, slB, capEq] <;> grind)
        refine ⟨i + 1, ?_, ?_, ?_⟩
        · refine ⟨hil, fun j hj => ?_⟩
          rcases Nat.lt_or_ge j i with h | h
          · exact hn j h
          · obtain rfl : j = i := by omega
            exact hx
        · refine Ent.mk hT [] trivial ⟨⟨rfl, _, rfl, by first | exact conv_eq rfl | (refine conv_eq ?_; rw [wrap_id (by omega) (by omega)]; simp; done) | (refine conv_eq ?_; simp; done)⟩, ⟨rfl, _, rfl, by first | exact conv_eq rfl | (refine conv_eq ?_; rw [wrap_id (by omega) (by omega)]; simp; done) | (refine conv_eq ?_; simp; done)⟩, ⟨rfl, _, rfl, by first | exact conv_eq rfl | (refine conv_eq ?_; rw [wrap_id (by omega) (by omega)]; simp; done) | (refine conv_eq ?_; simp; done)⟩, ⟨rfl, _, rfl, by first | exact conv_eq rfl | (refine conv_eq ?_; rw [wrap_id (by omega) (by omega)]; simp; done) | (refine conv_eq ?_; simp; done)⟩, trivial⟩ trivial rfl
        · (try simp only []); first | omega | grind
    · have hil : i = h.length := by simp at h2; omega
      subst hil
      refine WP.exit ?_
      refine WP.seq ?_
      refine WP.reg hT hE [] rfl ?_ ?_
      · first | trivial | (simp [holdsC, under, slOk, slB, capEq] <;> grind)
      refine WP.ret ?_
      change Fin _ _ _ _ _ _ _ _
      exact finI hT rfl (firstBad_none (p := fun c => !rightB may c) (fun j hj => by simpa using hn j hj))
theorem contf_ac (g : Bool) (h : List Cal) (may : List Int) (f : Nat) (caps : List AV) (hac : ∀ c, AC Try.prog T tysN 32 [encCal c, .rp 60 (encTh may f caps)] [] (.bool (!rightB may c)) []) : AC Try.prog T tysN 31 [cals g h, .clo 32 [.rp 60 (encTh may f caps)]] [] (.bool (h.any (fun c => !rightB may c))) [] := by
  refine AC_intro hT Try.func31 rfl rfl (Nat.le_of_ble_eq_true rfl) ?_
  refine WP.seq ?_
  refine WP.reg hT hE [] rfl ?_ ?_
  · first | trivial | (simp [holdsC, under, slOk, slB, capEq] <;> grind)
  refine WP.seq ?_
  refine WP.reg hT hE [CG.pure (.int (firstBad (fun c => !rightB may c) h))] rfl ?_ ?_
  · exact idxf_ac g h may f caps hac
  refine WP.ret ?_
  change Fin _ _ _ _ _ _ _ _
  refine fin1 hT rfl ?_
  by_cases h : h.any (fun c => !rightB may c) = true
  · simp only [firstBad, h, if_true]; simp
  · simp only [firstBad, h]; simp
end Go.Ab


/- slices.Compact at ints. -/
set_option autoImplicit false
namespace Go.Ab
open Go.Proofs
/-- Of equal neighbours the first, among the first k. -/
def dd (l : List Int) : Nat → List Int
  | 0 => []
  | k + 1 => if 0 < k ∧ l.getD k 0 = l.getD (k - 1) 0 then dd l k else dd l k ++ [l.getD k 0]
theorem dd_len (l : List Int) : ∀ k, (dd l k).length ≤ k
  | 0 => Nat.le_refl _
  | k + 1 => by
    have := dd_len l k
    simp only [dd]
    split
    · omega
    · simp; omega
theorem dd_pos (l : List Int) : ∀ k, 0 < k → 0 < (dd l k).length
  | 1, _ => by simp [dd]
  | k + 2, _ => by
    have := dd_pos l (k + 1) (by omega)
    rw [dd]
    split
    · exact this
    · simp
theorem dd_all (l : List Int) : ∀ k, k ≤ l.length → (∀ j, 0 < j → j < k → l.getD j 0 ≠ l.getD (j - 1) 0) → dd l k = l.take k
  | 0, _, _ => rfl
  | k + 1, hk, h => by
    rw [dd, if_neg (fun e => h k e.1 (by omega) e.2), dd_all l k (by omega) (fun j h1 h2 => h j h1 (by omega))]
    rw [List.take_add_one]
    have : k < l.length := by omega
    simp [this]
theorem dd_cut (l : List Int) (k j : Nat) : ((dd l k).getD j 0) = if j < (dd l k).length then (dd l k).getD j 0 else 0 := by
  split
  · rfl
  · rename_i h; simp [h]
theorem dd_skip {l : List Int} {k : Nat} (h0 : 0 < k) (h : l.getD k 0 = l.getD (k - 1) 0) : dd l (k + 1) = dd l k := by rw [dd, if_pos ⟨h0, h⟩]
theorem dd_more {l : List Int} {k : Nat} (h : l.getD k 0 ≠ l.getD (k - 1) 0) : dd l (k + 1) = dd l k ++ [l.getD k 0] := by rw [dd, if_neg (fun e => h e.2)]
theorem toNat_pred {i : Nat} (h : 1 ≤ i) (h2 : i < 2 ^ 63) : (IntKind.i64.wrap ((i : Int) - 1)).toNat = i - 1 := by rw [wrap_id (by omega) (by omega)]; omega
theorem cells_dd {l c : List Int} {i : Nat} (ht : c.take i = dd l l.length) (hi : i = (dd l l.length).length) (hl : i ≤ l.length) (q : Nat) (hq : q < l.length) :
    (bif Nat.ble i q && Nat.blt q (i + (l.length - i)) then AV.int 0 else .int (c.getD q 0)) = .int ((dd l l.length).getD q 0) := by
  by_cases h : i ≤ q
  · have e : (Nat.ble i q && Nat.blt q (i + (l.length - i))) = true := by simp [h, Nat.blt_eq]; omega
    rw [e, cond_true]
    simp [show (dd l l.length).length ≤ q by omega]
  · have e : (Nat.ble i q && Nat.blt q (i + (l.length - i))) = false := by simp; intro h'; omega
    rw [e, cond_false, ← ht]
    simp only [List.getD_eq_getElem?_getD, List.getElem?_take]
    rw [if_pos (by omega)]
theorem same_len {l : List Int} (h : ∀ j, 0 < j → j < l.length → l.getD j 0 ≠ l.getD (j - 1) 0) : dd l l.length = l := by
  rw [dd_all l l.length (Nat.le_refl _) h, List.take_length]
theorem compact_ac (l : List Int) : AC Try.prog T tysN 35 [.own (.b 0) l.length 0 l.length none] [cellsI 3 .i64 l] (.own (.b 0) l.length 0 (dd l l.length).length none) [.cells ⟨3, l.length, fun j => .int ((dd l l.length).getD j 0), 0⟩] := by
  refine AC_intro hT Try.func35 rfl rfl (Nat.le_of_ble_eq_true rfl) ?_
  refine WP.ownlen 0 rfl rfl rfl (fun hl => ?_)
  refine WP.seq ?_
  refine WP.reg hT hE [] rfl ?_ ?_
  · first | trivial | (simp [holdsC, under, slOk, slB, capEq] <;> grind)
  refine WP.seq ?_
  refine WP.seq ?_
  refine WP.reg hT hE [] rfl ?_ ?_
  · first | trivial | (simp [holdsC, under, slOk, slB, capEq] <;> grind)
  refine WP.cond rfl (fun h1 => ?_) (fun h1 => ?_)
  · refine WP.seq ?_
    refine WP.reg hT hE [] rfl ?_ ?_
    · first | trivial | (simp [holdsC, under, slOk, slB, capEq] <;> grind)
    refine WP.ret ?_
    change Fin _ _ _ _ _ _ _ _
    have e : dd l l.length = l := same_len (fun j h0 hj => by simp at h1; omega)
    rw [e]
    exact fin_mk hT [] (ts := [(2, .own (.b 0) l.length 0 l.length none)]) trivial ⟨⟨rfl, _, rfl, conv_eq rfl⟩, trivial⟩ ⟨⟨fun _ _ => rfl, .inl ⟨_, rfl, _, _, rfl, Nat.le_refl _, Nat.zero_le _, Nat.zero_le _, fun q hq => conv_eq rfl⟩⟩, trivial⟩ rfl rfl rfl
  · refine WP.skip ?_
    refine WP.seq ?_
    refine WP.seq ?_
    refine WP.reg hT hE [] rfl ?_ ?_
    · first | trivial | (simp [holdsC, under, slOk, slB, capEq] <;> grind)
    refine WP.block ?_
    refine WP.loop (α := Nat) (fun i => mkSt [(0, .own (.b 0) l.length 0 l.length none), (3, .int i)] [(.b 0, cellsI 3 .i64 l)]) (fun i => 1 ≤ i ∧ i ≤ l.length ∧ ∀ j, 0 < j → j < i → l.getD j 0 ≠ l.getD (j - 1) 0) (fun i => l.length - i) ?_ ?_
    · refine ⟨1, ?_, ?_⟩
      · exact ⟨Nat.le_refl _, by simp at h1; omega, fun j h1 h2 => by omega⟩
      · refine Ent.mk hT [] trivial ⟨⟨rfl, _, rfl, by first | exact conv_eq rfl | (refine conv_eq ?_; rw [wrap_id (by omega) (by omega)]; simp; done) | (refine conv_eq ?_; simp; done)⟩, ⟨rfl, _, rfl, by first | exact conv_eq rfl | (refine conv_eq ?_; rw [wrap_id (by omega) (by omega)]; simp; done) | (refine conv_eq ?_; simp; done)⟩, trivial⟩ ⟨⟨fun _ _ => rfl, .inl ⟨_, rfl, _, _, rfl, Nat.le_refl _, Nat.zero_le _, by first | exact Nat.zero_le _ | omega, fun q hq => by first | exact conv_eq rfl | (obtain rfl : q = 0 := (by simp at hq; exact hq); exact conv_eq rfl)⟩⟩, trivial⟩ rfl
    · rintro i ⟨h1i, hi, hn⟩
      refine WP.seq ?_
      refine WP.seq ?_
      refine WP.reg hT hE [] rfl ?_ ?_
      · first | trivial | (simp [holdsC, under, slOk, slB, capEq] <;> grind)
      refine WP.cond rfl (fun h4 => ?_) (fun h4 => ?_)
      · have hil : i < l.length := by simpa using h4
        have e1 := toNat_pred h1i (show i < 2 ^ 63 by omega)
        have e2 := wrap_id (n := (i : Int) - 1) (by omega) (by omega)
        refine WP.skip ?_
        refine WP.seq ?_
        refine WP.block ?_
        refine WP.seq ?_
        refine WP.drw hT hE hM [] rfl ?_ ?_
        · simp [holdsC, under, e2]; omega
        refine WP.cond rfl (fun h6 => ?_) (fun h6 => ?_)
        · have hdup : l.getD i 0 = l.getD (i - 1) 0 := by simp only [e1, Nat.zero_add, Int.toNat_natCast, beq_iff_eq] at h6; exact h6
          refine WP.seq ?_
          refine WP.reg hT hE [] rfl ?_ ?_
          · first | trivial | (simp [holdsC, under, slOk, slB, capEq] <;> grind)
          refine WP.seq ?_
          refine WP.seq ?_
          refine WP.reg hT hE [] rfl ?_ ?_
          · first | trivial | (simp [holdsC, under, slOk, slB, capEq] <;> grind)
          refine WP.block ?_
          refine WP.loop (α := List Int × Nat × Nat) (fun (⟨c, i2, k⟩ : List Int × Nat × Nat) => mkSt [(0, .own (.b 0) l.length 0 l.length none), (3, .int i2), (4, .own (.b 0) l.length i (l.length - i) none), (5, .int k)] [(.b 0, .cells ⟨3, l.length, fun j => .int (c.getD j 0), 0⟩)]) (fun (⟨c, i2, k⟩ : List Int × Nat × Nat) => c.length = l.length ∧ 1 ≤ k ∧ i + k ≤ l.length ∧ c.take i2 = dd l (i + k) ∧ i2 = (dd l (i + k)).length ∧ i2 < i + k ∧ ∀ j, i + k ≤ j + 1 → c.getD j 0 = l.getD j 0) (fun (⟨c, i2, k⟩ : List Int × Nat × Nat) => l.length - k) ?_ ?_
          · refine ⟨(l, i, 1), ?_, ?_⟩
            · have e := dd_skip (by omega) hdup
              have e' := dd_all l i (by omega) hn
              refine ⟨rfl, Nat.le_refl _, by omega, by rw [e, e'], by rw [e, e', List.length_take]; omega, by omega, fun j hj => rfl⟩
            · refine Ent.mk hT [] trivial ⟨⟨rfl, _, rfl, by first | exact conv_eq rfl | (refine conv_eq ?_; rw [wrap_id (by omega) (by omega)]; simp; done) | (refine conv_eq ?_; simp; done)⟩, ⟨rfl, _, rfl, by first | exact conv_eq rfl | (refine conv_eq ?_; rw [wrap_id (by omega) (by omega)]; simp; done) | (refine conv_eq ?_; simp; done)⟩, ⟨rfl, _, rfl, by first | exact conv_eq rfl | (refine conv_eq ?_; rw [wrap_id (by omega) (by omega)]; simp; done) | (refine conv_eq ?_; simp; done)⟩, ⟨rfl, _, rfl, by first | exact conv_eq rfl | (refine conv_eq ?_; rw [wrap_id (by omega) (by omega)]; simp; done) | (refine conv_eq ?_; simp; done)⟩, trivial⟩ ⟨⟨fun _ _ => rfl, .inl ⟨_, rfl, _, _, rfl, Nat.le_refl _, Nat.zero_le _, by first | exact Nat.zero_le _ | omega, fun q hq => by first | exact conv_eq rfl | (obtain rfl : q = 0 := (by simp at hq; exact hq); exact conv_eq rfl)⟩⟩, trivial⟩ rfl
          · rintro ⟨c, i2, k⟩ ⟨hc, hk1, hk, htk, hi2, hi2k, hrest⟩
            refine WP.seq ?_
            refine WP.seq ?_
            refine WP.reg hT hE [] rfl ?_ ?_
            · first | trivial | (simp [holdsC, under, slOk, slB, capEq] <;> grind)
            refine WP.cond rfl (fun h9 => ?_) (fun h9 => ?_)
            · have hkl : i + k < l.length := by simp at h9; omega
              have e3 := toNat_pred hk1 (show k < 2 ^ 63 by omega)
              have e4 := wrap_id (n := (k : Int) - 1) (by omega) (by omega)
              have r1 := hrest (i + k) (by omega)
              have r2 := hrest (i + k - 1) (by omega)
              have e5 : k - 1 + i = i + k - 1 := by omega
              have e6 : k + i = i + k := by omega
              have r1' : c.getD (k + i) 0 = l.getD (i + k) 0 := by rw [e6]; exact r1
              refine WP.skip ?_
              refine WP.seq ?_
              refine WP.block ?_
              refine WP.seq ?_
              refine WP.drw hT hE hM [] rfl ?_ ?_
              · simp [holdsC, under, e4]; omega
              refine WP.cond rfl (fun h11 => ?_) (fun h11 => ?_)
              · have hne : l.getD (i + k) 0 ≠ l.getD (i + k - 1) 0 := by simp only [e3, Int.toNat_natCast, bne_iff_ne, ne_eq, e5, e6, r1, r2] at h11; exact h11
                refine WP.seq ?_
                refine WP.reg hT hE [] rfl ?_ ?_
                · simp [holdsC, under]; omega
                refine WP.reg hT hE [] rfl ?_ ?_
                · first | trivial | (simp [holdsC, under, slOk, slB, capEq] <;> grind)
                refine WP.reg hT hE [] rfl ?_ ?_
                · first | trivial | (simp [holdsC, under, slOk, slB, capEq] <;> grind)
                refine ⟨(c.set i2 (c.getD (k + i) 0), i2 + 1, k + 1), ?_, ?_, ?_⟩
                · have em := dd_more hne
                  refine ⟨by simpa using hc, by omega, by omega, ?_, by rw [← Nat.add_assoc, em]; simp; omega, by omega, fun j hj => ?_⟩
                  · rw [← Nat.add_assoc, em, r1', ← htk]
                    have h2 : i2 < c.length := by omega
                    apply List.ext_getElem?
                    intro q
                    rw [List.getElem?_take, List.getElem?_append, List.length_take, Nat.min_eq_left (Nat.le_of_lt h2), List.getElem?_take]
                    rcases Nat.lt_trichotomy q i2 with h | h | h
                    · rw [if_pos (by omega), if_pos h, if_pos h, List.getElem?_set_ne (by omega)]
                    · subst h; simp [h2]
                    · rw [if_neg (by omega), if_neg (by omega)]
                      simp [show q - i2 ≠ 0 by omega]
                  · simp only [List.getD_eq_getElem?_getD]
                    rw [List.getElem?_set_ne (by omega)]
                    have := hrest j (by omega)
                    simpa using this
                · refine Ent.mk hT [] trivial ⟨⟨rfl, _, rfl, by first | exact conv_eq rfl | (refine conv_eq ?_; rw [wrap_id (by omega) (by omega)]; simp; done) | (refine conv_eq ?_; simp; done)⟩, ⟨rfl, _, rfl, by first | exact conv_eq rfl | (refine conv_eq ?_; rw [wrap_id (by omega) (by omega)]; simp; done) | (refine conv_eq ?_; simp; done)⟩, ⟨rfl, _, rfl, by first | exact conv_eq rfl | (refine conv_eq ?_; rw [wrap_id (by omega) (by omega)]; simp; done) | (refine conv_eq ?_; simp; done)⟩, ⟨rfl, _, rfl, by first | exact conv_eq rfl | (refine conv_eq ?_; rw [wrap_id (by omega) (by omega)]; simp; done) | (refine conv_eq ?_; simp; done)⟩, trivial⟩ ⟨⟨fun _ _ => rfl, .inl ⟨_, rfl, _, _, rfl, Nat.le_refl _, by first | exact Nat.zero_le _ | omega, by first | exact Nat.zero_le _ | omega, fun q hq => ?_⟩⟩, trivial⟩ rfl
                  · exact conv_eq (ints_set (l := c) (i := i2) (v := c.getD (k + i) 0) (by omega) q)
                · (try simp only []); first | omega | grind
              · have heq : l.getD (i + k) 0 = l.getD (i + k - 1) 0 := by simp only [e3, Int.toNat_natCast, bne_eq_false_iff_eq, e5, e6, r1, r2] at h11; exact h11
                refine WP.skip ?_
                refine WP.reg hT hE [] rfl ?_ ?_
                · first | trivial | (simp [holdsC, under, slOk, slB, capEq] <;> grind)
                refine ⟨(c, i2, k + 1), ?_, ?_, ?_⟩
                · have em := dd_skip (l := l) (k := i + k) (by omega) heq
                  exact ⟨hc, by omega, by omega, by rw [← Nat.add_assoc, em]; exact htk, by rw [← Nat.add_assoc, em]; exact hi2, by omega, fun j hj => hrest j (by omega)⟩
                · refine Ent.mk hT [] trivial ⟨⟨rfl, _, rfl, by first | exact conv_eq rfl | (refine conv_eq ?_; rw [wrap_id (by omega) (by omega)]; simp; done) | (refine conv_eq ?_; simp; done)⟩, ⟨rfl, _, rfl, by first | exact conv_eq rfl | (refine conv_eq ?_; rw [wrap_id (by omega) (by omega)]; simp; done) | (refine conv_eq ?_; simp; done)⟩, ⟨rfl, _, rfl, by first | exact conv_eq rfl | (refine conv_eq ?_; rw [wrap_id (by omega) (by omega)]; simp; done) | (refine conv_eq ?_; simp; done)⟩, ⟨rfl, _, rfl, by first | exact conv_eq rfl | (refine conv_eq ?_; rw [wrap_id (by omega) (by omega)]; simp; done) | (refine conv_eq ?_; simp; done)⟩, trivial⟩ ⟨⟨fun _ _ => rfl, .inl ⟨_, rfl, _, _, rfl, Nat.le_refl _, Nat.zero_le _, by first | exact Nat.zero_le _ | omega, fun q hq => by first | exact conv_eq rfl | (obtain rfl : q = 0 := (by simp at hq; exact hq); exact conv_eq rfl)⟩⟩, trivial⟩ rfl
                · (try simp only []); first | omega | grind
            · have hkl : i + k = l.length := by simp at h9; omega
              rw [hkl] at htk hi2 hi2k
              refine WP.exit ?_
              refine WP.seq ?_
              refine WP.reg hT hE [] rfl ?_ ?_
              · simp [holdsC, under, slOk, slB, capEq]; omega
              refine WP.seq ?_
              refine WP.reg hT hE [] rfl ?_ ?_
              · simp [holdsC, under, slOk, slB, capEq]; omega
              refine WP.ret ?_
              change Fin _ _ _ _ _ _ _ _
              refine fin_mk hT [] (ts := [(2, .own (.b 0) l.length 0 (dd l l.length).length none)]) trivial ⟨⟨rfl, _, rfl, conv_eq ?_⟩, trivial⟩ ⟨⟨fun _ _ => rfl, .inl ⟨_, rfl, _, _, rfl, Nat.le_refl _, Nat.zero_le _, Nat.zero_le _, fun q hq => conv_eq ?_⟩⟩, trivial⟩ rfl rfl rfl
              · rw [← hi2]; rfl
              · simp only [Nat.zero_add]
                exact cells_dd htk hi2 (by omega) q hq
        · have hne : l.getD i 0 ≠ l.getD (i - 1) 0 := by simp only [e1, Nat.zero_add, Int.toNat_natCast, beq_eq_false_iff_ne] at h6; exact h6
          refine WP.skip ?_
          refine WP.reg hT hE [] rfl ?_ ?_
          · first | trivial | (simp [holdsC, under, slOk, slB, capEq] <;> grind)
          refine ⟨i + 1, ?_, ?_, ?_⟩
          · refine ⟨by omega, hil, fun j h0 hj => ?_⟩
            rcases Nat.lt_or_ge j i with h | h
            · exact hn j h0 h
            · obtain rfl : j = i := by omega
              exact hne
          · refine Ent.mk hT [] trivial ⟨⟨rfl, _, rfl, by first | exact conv_eq rfl | (refine conv_eq ?_; rw [wrap_id (by omega) (by omega)]; simp; done) | (refine conv_eq ?_; simp; done)⟩, ⟨rfl, _, rfl, by first | exact conv_eq rfl | (refine conv_eq ?_; rw [wrap_id (by omega) (by omega)]; simp; done) | (refine conv_eq ?_; simp; done)⟩, trivial⟩ ⟨⟨fun _ _ => rfl, .inl ⟨_, rfl, _, _, rfl, Nat.le_refl _, Nat.zero_le _, by first | exact Nat.zero_le _ | omega, fun q hq => by first | exact conv_eq rfl | (obtain rfl : q = 0 := (by simp at hq; exact hq); exact conv_eq rfl)⟩⟩, trivial⟩ rfl
          · (try simp only []); first | omega | grind
      · refine WP.exit ?_
        refine WP.seq ?_
        refine WP.reg hT hE [] rfl ?_ ?_
        · first | trivial | (simp [holdsC, under, slOk, slB, capEq] <;> grind)
        refine WP.ret ?_
        change Fin _ _ _ _ _ _ _ _
        have hil : i = l.length := by simp at h4; omega
        subst hil
        have e : dd l l.length = l := same_len hn
        rw [e]
        exact fin_mk hT [] (ts := [(2, .own (.b 0) l.length 0 l.length none)]) trivial ⟨⟨rfl, _, rfl, conv_eq rfl⟩, trivial⟩ ⟨⟨fun _ _ => rfl, .inl ⟨_, rfl, _, _, rfl, Nat.le_refl _, Nat.zero_le _, Nat.zero_le _, fun q hq => conv_eq rfl⟩⟩, trivial⟩ rfl rfl rfl
end Go.Ab


/- slices.Sort at ints: out of the library's contract. -/
set_option autoImplicit false
set_option linter.unusedSimpArgs false
set_option linter.unusedVariables false
namespace Go.Proofs
open Go.Shelf
def Try.laysSort_ren : Go.Shelf.Ren := ⟨fun | 189 => 34 | 125 => 52 | 257 => 51 | 128 => 72 | 129 => 73 | 294 => 63 | 295 => 64 | 296 => 65 | 297 => 66 | 298 => 67 | 299 => 68 | 216 => 69 | 300 => 70 | 301 => 71 | 328 => 79 | 329 => 80 | 330 => 81 | 331 => 82 | 332 => 83 | 215 => 84 | 343 => 85 | n => n, fun | 28 => 23 | 3 => 3 | 46 => 110 | 0 => 0 | 51 => 129 | 53 => 131 | 4 => 4 | 183 => 122 | 182 => 121 | 131 => 126 | 5 => 5 | 9 => 9 | 218 => 135 | 222 => 139 | 228 => 141 | 229 => 142 | n => n, fun | n => n⟩
theorem Try.laysSort : Go.Proofs.Lays.n189 Try.prog Try.laysSort_ren := {
  mixed := by kernel_rfl
  f125 := Try.func52.trans (congrArg some (by kernel_rfl))
  f128 := Try.func72.trans (congrArg some (by kernel_rfl))
  f129 := Try.func73.trans (congrArg some (by kernel_rfl))
  f189 := Try.func34.trans (congrArg some (by kernel_rfl))
  f215 := Try.func84.trans (congrArg some (by kernel_rfl))
  f216 := Try.func69.trans (congrArg some (by kernel_rfl))
  f257 := Try.func51.trans (congrArg some (by kernel_rfl))
  f294 := Try.func63.trans (congrArg some (by kernel_rfl))
  f295 := Try.func64.trans (congrArg some (by kernel_rfl))
  f296 := Try.func65.trans (congrArg some (by kernel_rfl))
  f297 := Try.func66.trans (congrArg some (by kernel_rfl))
  f298 := Try.func67.trans (congrArg some (by kernel_rfl))
  f299 := Try.func68.trans (congrArg some (by kernel_rfl))
  f300 := Try.func70.trans (congrArg some (by kernel_rfl))
  f301 := Try.func71.trans (congrArg some (by kernel_rfl))
  f328 := Try.func79.trans (congrArg some (by kernel_rfl))
  f329 := Try.func80.trans (congrArg some (by kernel_rfl))
  f330 := Try.func81.trans (congrArg some (by kernel_rfl))
  f331 := Try.func82.trans (congrArg some (by kernel_rfl))
  f332 := Try.func83.trans (congrArg some (by kernel_rfl))
  f343 := Try.func85.trans (congrArg some (by kernel_rfl))
  t0 := Try.underlying0
  a0 := Try.isAgg0
  z0 := Try.sizeOf0
  v0 := Try.zeroValue0
  t3 := Try.underlying3
  a3 := Try.isAgg3
  z3 := Try.sizeOf3
  v3 := Try.zeroValue3
  t4 := Try.underlying4
  a4 := Try.isAgg4
  z4 := Try.sizeOf4
  v4 := Try.zeroValue4
  t5 := Try.underlying5
  a5 := Try.isAgg5
  z5 := Try.sizeOf5
  v5 := Try.zeroValue5
  t9 := Try.underlying9
  a9 := Try.isAgg9
  z9 := Try.sizeOf9
  v9 := Try.zeroValue9
  t28 := Try.underlying23
  a28 := Try.isAgg23
  z28 := Try.sizeOf23
  v28 := Try.zeroValue23
  t46 := Try.underlying110
  a46 := Try.isAgg110
  z46 := Try.sizeOf110
  v46 := Try.zeroValue110
  t51 := Try.underlying129
  a51 := Try.isAgg129
  z51 := Try.sizeOf129
  v51 := Try.zeroValue129
  t53 := Try.underlying131
  a53 := Try.isAgg131
  z53 := Try.sizeOf131
  v53 := Try.zeroValue131
  t131 := Try.underlying126
  a131 := Try.isAgg126
  z131 := Try.sizeOf126
  v131 := Try.zeroValue126
  t182 := Try.underlying121
  a182 := Try.isAgg121
  z182 := Try.sizeOf121
  v182 := Try.zeroValue121
  t183 := Try.underlying122
  a183 := Try.isAgg122
  z183 := Try.sizeOf122
  v183 := Try.zeroValue122
  t218 := Try.underlying135
  a218 := Try.isAgg135
  z218 := Try.sizeOf135
  v218 := Try.zeroValue135
  t222 := Try.underlying139
  a222 := Try.isAgg139
  z222 := Try.sizeOf139
  v222 := Try.zeroValue139
  t228 := Try.underlying141
  a228 := Try.isAgg141
  z228 := Try.sizeOf141
  v228 := Try.zeroValue141
  t229 := Try.underlying142
  a229 := Try.isAgg142
  z229 := Try.sizeOf142
  v229 := Try.zeroValue142 }
end Go.Proofs
namespace Go.Ab
open Go.Proofs Go.Sort
def sortI (l : List Int) : List Int := l.mergeSort fun x y => decide (x ≤ y)
theorem sort_len (l : List Int) : (sortI l).length = l.length := List.length_mergeSort l
theorem sort_calls (blk off cap : Nat) (zs : List Int) (w : World) (hH : Holds (Value.int .i64) w blk off zs.toArray) (hblk : blk < w.heap.size) (hsz : zs.length < 4611686018427387904) :
    Calls Try.prog 34 #[.slice (some ⟨blk, off, none⟩) zs.length cap] w fun e w' =>
      e = .returned (.tuple #[]) ∧ ∃ n os, w' = grow (putRow (Value.int .i64) (Sort.ahead w n) blk off (sortI zs).toArray) os :=
  Any.slices_Sort_int Try.laysSort blk off cap zs w hH hblk hsz
theorem sort_none (p : Option Addr) (cap : Nat) (w : World) : Calls Try.prog 34 #[.slice p 0 cap] w fun e w' => e = .returned (.tuple #[]) ∧ w' = w :=
  Any.slices_Sort_int_none Try.laysSort p cap w
theorem heap_put {α : Type} [Inhabited α] (enc : α → Value) (w : World) (n blk off : Nat) (d : Array α) (os : Array Obj) {r : Nat} (hr : r < w.heap.size) :
    (grow (putRow enc (Sort.ahead w n) blk off d) os).heap[r]? = if blk = r then (w.heap[r]?).map (onCells (putCells enc off d)) else w.heap[r]? := by
  have h1 : r < (putRow enc (Sort.ahead w n) blk off d).heap.size := by simpa [putRow, mapBlock, Sort.ahead] using hr
  rw [heap_grow_old _ _ h1]
  simp only [putRow, mapBlock, Sort.ahead, Array.getElem?_modify]
theorem sort_ac (l : List Int) (hl62 : l.length < 4611686018427387904) : AC Try.prog T tysN 34 [.own (.b 0) l.length 0 l.length none] [cellsI 3 .i64 l] (.tup []) [cellsI 3 .i64 (sortI l)] := by
  refine ⟨⟨_, Try.func34, rfl, rfl⟩, fun I ρ w vs hvl hvs hw => ?_⟩
  obtain ⟨v, rfl⟩ : ∃ v, vs = [v] := by
    match vs, hvl with
    | [v], _ => exact ⟨v, rfl⟩
  have hv := (hvs 0 _ v rfl rfl).rep1 (fun _ => by simp)
  have hm : ofB [cellsI 3 .i64 l] (.b 0) = some (cellsI 3 .i64 l) := rfl
  have hset : ofB [cellsI 3 .i64 (sortI l)] = setM (ofB [cellsI 3 .i64 l]) (.b 0) (cellsI 3 .i64 (sortI l)) := by
    funext a
    by_cases ha : a = .b 0
    · subst ha; rw [setM_self]; rfl
    · rw [setM_ne _ _ ha]
      cases a with
      | s _ _ => rfl
      | b j =>
        cases j with
        | zero => exact absurd rfl ha
        | succ j => rfl
  rcases Rep.own_inv hv with ⟨rfl, h0, _, _⟩ | ⟨q, hq, hqn, hx⟩
  · obtain rfl : l = [] := List.eq_nil_of_length_eq_zero h0
    refine (sort_none none 0 w).mono ?_
    rintro e w' ⟨rfl, rfl⟩
    exact ⟨_, I, ρ, rfl, Ev.refl _ _ _, .tup _ rfl (fun i c hi => by simp at hi), by rw [show sortI [] = [] by simp [sortI]]; exact hw⟩
  · obtain ⟨q', cs, c1, c2, c3, c4, c5, c6, c7, c8, c9, c10⟩ := hw.cellsAt hm hq
    rw [hq] at c1; cases c1
    obtain ⟨c, rfl, g1, g2, g3, g4, g5, g6⟩ := hx c3
    have hsz3 : (T 3).size = 1 := rfl
    simp only [cellsI, hsz3, Nat.mul_one] at c7 c8
    have hqt : (T q.ty).size = 1 := by rw [c2]; rfl
    have hcell : ∀ j, j < l.length → cs[j]? = some (.int .i64 (l.getD j 0)) := by
      intro j hj
      obtain ⟨seg, e1, e2, e3, e4⟩ := c8 j hj
      have := e4 0 (by omega)
      cases e1
      simpa using this
    have hlt := hw.place_lt hq
    have hH : Holds (Value.int .i64) w q.b 0 l.toArray := by
      intro j hj
      have hj' : j < l.length := by simpa using hj
      refine ⟨?_, ?_⟩
      · simp only [World.cell?, c5, Nat.zero_add]
        simp [hcell j hj', hj']
      · simp [World.frozen?, c5]
    have hcall := sort_calls q.b 0 c l w hH hlt (by omega)
    simp only [Nat.zero_mul]
    refine hcall.mono ?_
    rintro e w' ⟨rfl, n, os, rfl⟩
    have hput := fun r hr => heap_put (Value.int .i64) w n q.b 0 (sortI l).toArray os (r := r) hr
    have hcs' : ∀ j, (putCells (Value.int .i64) 0 (sortI l).toArray cs)[j]? = if j < l.length then some (.int .i64 ((sortI l).getD j 0)) else cs[j]? := by
      intro j
      simp only [putCells, Array.getElem?_mapIdx, Nat.zero_add, Nat.zero_le, true_and, List.size_toArray, sort_len, Nat.sub_zero]
      split
      · rename_i hj
        rw [hcell j hj]
        simp [sort_len, hj]
      · cases cs[j]? <;> rfl
    have hsw := seg_world (len := l.length) (i := 0) (h := fun j => .int ((sortI l).getD j 0)) (cs' := putCells (Value.int .i64) 0 (sortI l).toArray cs) (w' := grow (putRow (Value.int .i64) (Sort.ahead w n) q.b 0 (sortI l).toArray) os) hT hw hm hq (by simp) (Nat.zero_le _) c5 (by simp [putCells])
      (by rw [hput _ hlt, if_pos rfl, c5]; rfl) (fun b hb hne => by rw [hput _ hb, if_neg (Ne.symm hne)]) (by simp [putRow, mapBlock, Sort.ahead]) rfl rfl rfl
      (fun j hj => ⟨[.int .i64 ((sortI l).getD j 0)], .v rfl, rfl, rfl, fun o ho => by
        have ho' : o = 0 := by
          have : (T 3).size = 1 := rfl
          change o < (T 3).size at ho
          omega
        subst ho'
        show (putCells (Value.int .i64) 0 (sortI l).toArray cs)[(0 + j) * 1 + 0]? = _
        rw [hcs', if_pos (by omega)]
        simp⟩)
      (fun k hk => by
        have : (T 3).size = 1 := rfl
        change k < 0 * (T 3).size ∨ (0 + l.length) * (T 3).size ≤ k at hk
        rw [this] at hk
        rw [hcs', if_neg (by omega)])
    refine ⟨_, I, ρ, rfl, hsw.1, .tup _ rfl (fun i c hi => by simp at hi), ?_⟩
    rw [hset]
    have e2 : (Ob.cells { ty := 3, n := l.length, get := fun j => bif Nat.ble 0 j && Nat.blt j (0 + l.length) then .int ((sortI l).getD (j - 0) 0) else .int (l.getD j 0), fz := 0 } : Ob) = cellsI 3 .i64 (sortI l) := by
      simp only [cellsI, Ob.cells.injEq, Blk.mk.injEq, sort_len, true_and, and_true]
      funext j
      by_cases hj : j < l.length
      · have e : (Nat.ble 0 j && Nat.blt j (0 + l.length)) = true := by rw [Bool.and_eq_true]; exact ⟨by simp, by rw [Nat.blt_eq]; omega⟩
        rw [e]
        rfl
      · have e : (Nat.ble 0 j && Nat.blt j (0 + l.length)) = false := by
          cases hb : (Nat.ble 0 j && Nat.blt j (0 + l.length)) with
          | false => rfl
          | true => rw [Bool.and_eq_true, Nat.blt_eq] at hb; omega
        rw [e]
        simp [sort_len, show l.length ≤ j by omega]
    have := hsw.2
    rw [show ({ty := 3, n := l.length, get := fun i => AV.v (Value.int .i64 (l.getD i 0)), fz := 0} : Blk).n = l.length from rfl] at this
    refine Eq.mp ?_ this
    exact congrArg (fun o => WRep T tysN I ρ (setM (ofB [cellsI 3 .i64 l]) (.b 0) o) _) e2
end Go.Ab

/- The search: its state; bits. -/
set_option autoImplicit false
namespace Go.Ab
open Go.Proofs
theorem toNat_ofI {a : Nat} (h : a < 2 ^ 63) : (BitVec.ofInt IntKind.i64.bits (a : Int)).toNat = a := by
  show (BitVec.ofInt 64 (a : Int)).toNat = a
  rw [BitVec.toNat_ofInt]
  omega
theorem wrap_and {a b : Nat} (ha : a < 2 ^ 63) (hb : b < 2 ^ 63) : IntKind.i64.wrap ↑(BitVec.ofInt IntKind.i64.bits (a : Int) &&& BitVec.ofInt IntKind.i64.bits (b : Int)).toNat = ((a &&& b : Nat) : Int) := by
  rw [BitVec.toNat_and, toNat_ofI ha, toNat_ofI hb]
  have : a &&& b < 2 ^ 63 := Nat.and_lt_two_pow a hb
  exact wrap_id (by omega) (by omega)
theorem wrap_or {a b : Nat} (ha : a < 2 ^ 63) (hb : b < 2 ^ 63) : IntKind.i64.wrap ↑(BitVec.ofInt IntKind.i64.bits (a : Int) ||| BitVec.ofInt IntKind.i64.bits (b : Int)).toNat = ((a ||| b : Nat) : Int) := by
  rw [BitVec.toNat_or, toNat_ofI ha, toNat_ofI hb]
  have : a ||| b < 2 ^ 63 := Nat.or_lt_two_pow ha hb
  exact wrap_id (by omega) (by omega)
theorem fdiv_pow {m i : Nat} : ((m : Int).fdiv (2 ^ i)) = ((m >>> i : Nat) : Int) := by
  rw [Nat.shiftRight_eq_div_pow, Int.fdiv_eq_ediv_of_nonneg _ (by exact Int.pow_nonneg (by decide))]
  simp
theorem bit_test (m i : Nat) : ((m >>> i) &&& 1 = 0) = (m.testBit i = false) := by
  simp [Nat.testBit, Nat.and_comm]
def encKey (m : Nat) (x : Ct) : AV := stru 102 [.int m, encCt x]
theorem on1_ac (m i : Nat) (x : Ct) (hi : i < 64) (hm : m < 2 ^ 63) : AC Try.prog T tysN 60 [.int i, .rp 102 (encKey m x)] [] (.bool (!m.testBit i)) [] := by
  refine AC_intro hT Try.func60 rfl rfl (Nat.le_of_ble_eq_true rfl) ?_
  refine WP.seq ?_
  refine WP.reg hT hE [] rfl ?_ ?_
  · first | trivial | (simp [holdsC, under, slOk, slB, capEq] <;> grind)
  refine WP.seq ?_
  refine WP.reg hT hE [] rfl ?_ ?_
  · first | trivial | (simp [holdsC, under, slOk, slB, capEq] <;> grind)
  refine WP.ret ?_
  change Fin _ _ _ _ _ _ _ _
  refine fin1 hT rfl ?_
  have e1 : min ((i : Int).toNat) IntKind.i64.bits = i := by simp only [Int.toNat_natCast]; exact Nat.min_eq_left (by simp only [IntKind.bits]; omega)
  rw [e1, fdiv_pow]
  have h1 : m >>> i < 2 ^ 63 := Nat.lt_of_le_of_lt (Nat.shiftRight_le m i) hm
  have h2 := wrap_and (b := 1) h1 (by decide)
  rw [show ((1 : Nat) : Int) = 1 from rfl] at h2
  rw [h2]
  have := bit_test m i
  cases ht : m.testBit i with
  | false => rw [ht] at this; simp [this.mpr rfl]
  | true =>
    have h0 : ¬ ((m >>> i) &&& 1 = 0) := by rw [this, ht]; simp
    simp only [Bool.not_true, beq_eq_false_iff_ne, ne_eq]
    omega
end Go.Ab


/- Ab, part 32: maps whose keys are data. -/
set_option autoImplicit false
set_option linter.unusedVariables false
namespace Go.Ab
section
variable {T : Nat → TI} {α β : Type} [DecidableEq α]
def getK : List (α × β) → α → Option β
  | [], _ => none
  | (a, b) :: r, k => if a = k then some b else getK r k
def putK : List (α × β) → α → β → List (α × β)
  | [], k, v => [(k, v)]
  | (a, b) :: r, k, v => if a = k then (k, v) :: r else (a, b) :: putK r k v
def encM (ek : α → AV) (ev : β → AV) (L : List (α × β)) : List (AV × AV) := L.map fun p => (ek p.1, ev p.2)
/-- Keys that are held against each other as data. -/
def KeysOK (T : Nat → TI) (kt : Nat) (ek : α → AV) (k : α) (L : List (α × β)) : Prop := ∀ p ∈ L, flatEq T 40 kt (ek k) (ek p.1) = some (decide (p.1 = k))
theorem mapIdx_enc {kt : Nat} {ek : α → AV} {ev : β → AV} {k : α} : ∀ {L : List (α × β)} {i0 : Nat}, KeysOK T kt ek k L → 
    (∃ i b, mapIdx T kt (ek k) (encM ek ev L) i0 = some (some (i0 + i)) ∧ getK L k = some b ∧ L[i]? = some (k, b) ∧ ∀ v, putK L k v = L.set i (k, v)) ∨ (mapIdx T kt (ek k) (encM ek ev L) i0 = some none ∧ getK L k = none ∧ ∀ v, putK L k v = L ++ [(k, v)])
  | [], i0, _ => .inr ⟨rfl, rfl, fun _ => rfl⟩
  | (a, b) :: r, i0, h => by
    have h1 := h (a, b) (by simp)
    simp only [encM, List.map_cons, mapIdx, h1, getK, putK]
    by_cases e : a = k
    · subst e
      refine .inl ⟨0, b, ?_, ?_, rfl, fun v => ?_⟩ <;> simp
    · simp only [e, decide_false, if_false]
      rcases mapIdx_enc (ev := ev) (i0 := i0 + 1) (fun p hp => h p (List.mem_cons_of_mem _ hp)) with ⟨i, b', g1, g2, g3, g4⟩ | ⟨g1, g2, g3⟩
      · refine .inl ⟨i + 1, b', ?_, g2, by simpa using g3, fun v => by simp [g4 v]⟩
        rw [show i0 + (i + 1) = i0 + 1 + i by omega]
        exact g1
      · exact .inr ⟨g1, g2, fun v => by simp [g3 v]⟩
theorem mapRes_enc {kt vt : Nat} {ek : α → AV} {ev : β → AV} {k : α} {L : List (α × β)} (h : KeysOK T kt ek k L) : mapRes T kt vt (encM ek ev L) (ek k) false = some (match getK L k with | some b => ev b | none => (T vt).zero) := by
  rcases mapIdx_enc (ev := ev) (i0 := 0) h with ⟨i, b, g1, g2, g3, g4⟩ | ⟨g1, g2, g3⟩
  · simp only [mapRes, g1, g2, Option.bind_some, Nat.zero_add]
    simp [encM, g3]
  · simp only [mapRes, g1, g2, Option.bind_some]
    simp
theorem mapRes_enc2 {kt vt : Nat} {ek : α → AV} {ev : β → AV} {k : α} {L : List (α × β)} (h : KeysOK T kt ek k L) : mapRes T kt vt (encM ek ev L) (ek k) true = some (match getK L k with | some b => .tup [ev b, .bool true] | none => .tup [(T vt).zero, .bool false]) := by
  rcases mapIdx_enc (ev := ev) (i0 := 0) h with ⟨i, b, g1, g2, g3, g4⟩ | ⟨g1, g2, g3⟩
  · simp only [mapRes, g1, g2, Option.bind_some, Nat.zero_add]
    simp [encM, g3]
  · simp only [mapRes, g1, g2, Option.bind_some]
    simp
theorem mapPut_enc {kt : Nat} {ek : α → AV} {ev : β → AV} {k : α} {L : List (α × β)} (h : KeysOK T kt ek k L) (v : β) : mapPut T kt (encM ek ev L) (ek k) (ev v) = some (encM ek ev (putK L k v)) := by
  rcases mapIdx_enc (ev := ev) (i0 := 0) h with ⟨i, b, g1, g2, g3, g4⟩ | ⟨g1, g2, g3⟩
  · simp only [mapPut, g1, Option.bind_some, Nat.zero_add, g4]
    simp [encM, List.map_set]
  · simp only [mapPut, g1, Option.bind_some, g3]
    simp [encM]
theorem getK_put {k k' : α} {v : β} : ∀ {L : List (α × β)}, getK (putK L k v) k' = if k = k' then some v else getK L k'
  | [] => by simp [putK, getK]
  | (a, b) :: r => by
    simp only [putK]
    split
    · rename_i e; subst e
      simp only [getK]
      split <;> rfl
    · rename_i e
      simp only [getK, getK_put]
      by_cases h1 : a = k'
      · subst h1; simp [Ne.symm e]
      · simp [h1]
/-- All up to a place. -/
def allTo (p : Nat → Bool) : Nat → Bool
  | 0 => true
  | n + 1 => allTo p n && p n
theorem allTo_iff {p : Nat → Bool} : ∀ {n : Nat}, allTo p n = true ↔ ∀ i, i < n → p i = true
  | 0 => by simp [allTo]
  | n + 1 => by
    simp only [allTo, Bool.and_eq_true, allTo_iff]
    constructor
    · rintro ⟨h1, h2⟩ i hi
      rcases Nat.lt_or_ge i n with h | h
      · exact h1 i h
      · obtain rfl : i = n := by omega
        exact h2
    · exact fun h => ⟨fun i hi => h i (by omega), h n (by omega)⟩
end
end Go.Ab

/- The search: what it computes. -/
set_option autoImplicit false
set_option linter.unusedSimpArgs false
set_option linter.unusedVariables false
namespace Go.Ab
open Go.Proofs
def doF (k : Int) (x : Ct) (c : Cal) : Ct × Int × Bool := if k = 1 ∨ k = 2 then cellF x c else listF (decide (k = 3)) x c
theorem do_ac {k : Int} (hk : k = 1 ∨ k = 2 ∨ k = 3 ∨ k = 4) {x : Ct} {c : Cal} (hv : x.v.length = 8) (hp : ¬ (k = 1 ∨ k = 2) → 0 ≤ x.n ∧ x.n ≤ 8 ∧ (c.act = 4 → x.n < 8)) : AC Try.prog T tysN (fnOf k) ([encCt x, encCal c] ++ capsOf k) [] (encOut (doF k x c)) [] := by
  by_cases h : k = 1 ∨ k = 2
  · rw [show fnOf k = 47 from if_pos h, show capsOf k = [] from if_pos h, show doF k x c = cellF x c from if_pos h]
    exact cell_ac x c hv
  · obtain ⟨h1, h2, h3⟩ := hp h
    rw [show fnOf k = 61 from if_neg h, show capsOf k = [.rp 4 (.bool (decide (k = 3)))] from if_neg h, show doF k x c = listF (decide (k = 3)) x c from if_neg h]
    exact list1_ac (decide (k = 3)) x c hv h1 h2 h3
abbrev Key := Nat × Ct
abbrev Dead := List (Key × Unit)
def encK (p : Key) : AV := encKey p.1 p.2
def encD (d : Dead) : List (AV × AV) := encM encK (fun _ => .int 1) d
def okD (d : Dead) : Prop := ∀ p ∈ d, p.1.2.v.length = 8
theorem key_eq (p q : Key) (hp : p.2.v.length = 8) (hq : q.2.v.length = 8) : flatEq T 40 102 (encK p) (encK q) = some (decide (q = p)) := by
  obtain ⟨m, n, v⟩ := p
  obtain ⟨m', n', v'⟩ := q
  match v, v', hp, hq with
  | [a0, a1, a2, a3, a4, a5, a6, a7], [b0, b1, b2, b3, b4, b5, b6, b7], _, _ =>
    show some ((((m : Int) == (m' : Int))) && (((n == n') && (((((((((true && (a0 == b0)) && (a1 == b1)) && (a2 == b2)) && (a3 == b3)) && (a4 == b4)) && (a5 == b5)) && (a6 == b6)) && (a7 == b7)) && true)) && true)) = _
    congr 1
    rw [Bool.eq_iff_iff]
    simp only [Bool.and_eq_true, beq_iff_eq, decide_eq_true_eq, Prod.mk.injEq, Ct.mk.injEq, List.cons.injEq, Int.natCast_inj, true_and, and_true]
    grind
theorem okD_keys {d : Dead} (h : okD d) {p : Key} (hp : p.2.v.length = 8) : KeysOK T 102 encK p d := fun q hq => key_eq p q.1 hp (h q hq)
def inD (d : Dead) (p : Key) : Bool := (getK d p).isSome
theorem look_D {d : Dead} (h : okD d) {p : Key} (hp : p.2.v.length = 8) : mapRes T 102 3 (encD d) (encK p) false = some (.int (if inD d p then 1 else 0)) := by
  rw [encD, mapRes_enc (okD_keys h hp)]
  simp only [inD]
  split <;> rename_i e <;> simp only [e] <;> rfl
theorem put_D {d : Dead} (h : okD d) {p : Key} (hp : p.2.v.length = 8) : mapPut T 102 (encD d) (encK p) (.int 1) = some (encD (putK d p ())) := mapPut_enc (ev := fun _ => .int 1) (okD_keys h hp) ()
theorem okD_put {d : Dead} (h : okD d) {p : Key} (hp : p.2.v.length = 8) : okD (putK d p ()) := by
  induction d with
  | nil => intro q hq; simp [putK] at hq; subst hq; exact hp
  | cons a r ih =>
    obtain ⟨a, u⟩ := a
    intro q hq
    simp only [putK] at hq
    split at hq
    · rcases List.mem_cons.1 hq with e | e
      · subst e; exact hp
      · exact h q (List.mem_cons_of_mem _ e)
    · rcases List.mem_cons.1 hq with e | e
      · subst e; exact h _ (List.mem_cons_self ..)
      · exact ih (fun q hq => h q (List.mem_cons_of_mem _ hq)) q e

/-! what the search computes -/
abbrev Res := (List Int × Bool) × Dead
section
variable (k : Int) (fst : Cal → Cal → Bool) (h : List Cal)
def calAt (i : Nat) : Cal := h.getD i cal0
def wholeB (m : Nat) : Bool := allTo (fun i => (calAt h i).fin == -1 || !(!m.testBit i)) h.length
def mayB (m i : Nat) : Bool := allTo (fun j => !(j != i && !m.testBit j && fst (calAt h j) (calAt h i))) h.length
/-- Operation i does not come next. -/
def notNext (m i : Nat) (x : Ct) : Bool := !mayB fst h m i || ((calAt h i).fin != -1 && ((doF k x (calAt h i)).2.1 != (calAt h i).out || (doF k x (calAt h i)).2.2 != (calAt h i).empty))
def tryF (rec : Dead → Nat → Ct → List Int → Res) (m : Nat) (x : Ct) (o : List Int) : List Nat → Dead → Option (List Int) × Dead
  | [], d => (none, d)
  | i :: r, d => if m.testBit i then tryF rec m x o r d else if notNext k fst h m i x then tryF rec m x o r d else
    if (rec d (m ||| 1 <<< i) (doF k x (calAt h i)).1 (o ++ [(i : Int)])).1.2 then (some (rec d (m ||| 1 <<< i) (doF k x (calAt h i)).1 (o ++ [(i : Int)])).1.1, (rec d (m ||| 1 <<< i) (doF k x (calAt h i)).1 (o ++ [(i : Int)])).2)
    else tryF rec m x o r (rec d (m ||| 1 <<< i) (doF k x (calAt h i)).1 (o ++ [(i : Int)])).2
def onF : Nat → Dead → Nat → Ct → List Int → Res
  | 0, d, _, _, _ => (([], false), d)
  | n + 1, d, m, x, o => if inD d (m, x) then (([], false), d) else if wholeB h m then ((o, true), d) else
    match tryF k fst h (onF n) m x o (List.range' 0 h.length) d with
    | (some l, d') => ((l, true), d')
    | (none, d') => (([], false), putK d' (m, x) ())
end
/-- How many are open. -/
def openTo (m : Nat) : Nat → Nat
  | 0 => 0
  | n + 1 => openTo m n + if m.testBit n then 0 else 1
abbrev opens (h : List Cal) (m : Nat) : Nat := openTo m h.length
theorem openTo_le (m : Nat) : ∀ n, openTo m n ≤ n
  | 0 => Nat.le_refl _
  | n + 1 => by
    have := openTo_le m n
    simp only [openTo]
    split <;> omega
theorem bit_or (m i j : Nat) : (m ||| 1 <<< i).testBit j = (m.testBit j || decide (i = j)) := by
  rw [Nat.testBit_or, Nat.one_shiftLeft, Nat.testBit_two_pow]
theorem openTo_set {m i : Nat} (ht : m.testBit i = false) : ∀ n, openTo (m ||| 1 <<< i) n + (if i < n then 1 else 0) = openTo m n
  | 0 => by simp [openTo]
  | n + 1 => by
    have ih := openTo_set ht n
    simp only [openTo, bit_or]
    rcases Nat.lt_trichotomy i n with h | h | h
    · rw [if_pos h] at ih
      rw [if_pos (show i < n + 1 by omega)]
      simp only [show ¬ i = n by omega, decide_false, Bool.or_false]
      omega
    · subst h
      rw [if_neg (by omega)] at ih
      simp only [ht, decide_true, Bool.or_true, if_true]
      simp
      omega
    · rw [if_neg (by omega)] at ih
      rw [if_neg (show ¬ i < n + 1 by omega)]
      simp only [show ¬ i = n by omega, decide_false, Bool.or_false]
      omega
theorem opens_set {h : List Cal} {m i : Nat} (hi : i < h.length) (ht : m.testBit i = false) : opens h (m ||| 1 <<< i) + 1 = opens h m := by
  have := openTo_set ht h.length
  rwa [if_pos hi] at this
def okX (k : Int) (h : List Cal) (m : Nat) (x : Ct) : Prop := x.v.length = 8 ∧ (¬ (k = 1 ∨ k = 2) → 0 ≤ x.n ∧ x.n + opens h m ≤ 8)
theorem cellF_len {x : Ct} {c : Cal} (hv : x.v.length = 8) : (cellF x c).1.v.length = 8 := by
  simp only [cellF]
  split
  · exact hv
  · split <;> simpa using hv
theorem listF_len {b : Bool} {x : Ct} {c : Cal} (hv : x.v.length = 8) : (listF b x c).1.v.length = 8 := by
  simp only [listF]
  split
  · simpa using hv
  · split
    · exact hv
    · cases b <;> simp [shiftL, hv]
theorem doF_len {k : Int} {x : Ct} {c : Cal} (hv : x.v.length = 8) : (doF k x c).1.v.length = 8 := by
  simp only [doF]
  split
  · exact cellF_len hv
  · exact listF_len hv
theorem okX_step {k : Int} {h : List Cal} {m i : Nat} {x : Ct} {c : Cal} (hx : okX k h m x) (hi : i < h.length) (ht : m.testBit i = false) : okX k h (m ||| 1 <<< i) (doF k x c).1 := by
  refine ⟨doF_len hx.1, fun hk => ?_⟩
  have h1 := hx.2 hk
  have h2 := opens_set hi ht
  simp only [doF, if_neg hk, listF]
  split
  · simp only; omega
  · split
    · simp only; omega
    · simp only; omega
theorem okX_pre {k : Int} {h : List Cal} {m i : Nat} {x : Ct} {c : Cal} (hx : okX k h m x) (hi : i < h.length) (ht : m.testBit i = false) (hk : ¬ (k = 1 ∨ k = 2)) : 0 ≤ x.n ∧ x.n ≤ 8 ∧ (c.act = 4 → x.n < 8) := by
  have h1 := hx.2 hk
  have h2 := opens_set hi ht
  omega
theorem tryF_ok {k : Int} {fst : Cal → Cal → Bool} {h : List Cal} {rec : Dead → Nat → Ct → List Int → Res} {m : Nat} {x : Ct} {o : List Int} (hr : ∀ d m x o, okD d → x.v.length = 8 → okD (rec d m x o).2) (hx : x.v.length = 8) : ∀ (l : List Nat) (d : Dead), okD d → okD (tryF k fst h rec m x o l d).2
  | [], d, hd => hd
  | i :: r, d, hd => by
    have h1 := hr d (m ||| 1 <<< i) (doF k x (calAt h i)).1 (o ++ [(i : Int)]) hd (doF_len hx)
    simp only [tryF]
    split
    · exact tryF_ok hr hx r d hd
    · split
      · exact tryF_ok hr hx r d hd
      · split
        · exact h1
        · exact tryF_ok hr hx r _ h1
theorem onF_ok {k : Int} {fst : Cal → Cal → Bool} {h : List Cal} : ∀ (n : Nat) (d : Dead) (m : Nat) (x : Ct) (o : List Int), okD d → x.v.length = 8 → okD (onF k fst h n d m x o).2
  | 0, d, m, x, o, hd, hx => hd
  | n + 1, d, m, x, o, hd, hx => by
    simp only [onF]
    split
    · exact hd
    · split
      · exact hd
      · have h1 := tryF_ok (k := k) (fst := fst) (h := h) (m := m) (o := o) (fun d m x o hd hx => onF_ok (k := k) (fst := fst) (h := h) n d m x o hd hx) hx (List.range' 0 h.length) d hd
        split
        · rename_i e; rw [e] at h1; exact h1
        · rename_i e; rw [e] at h1; exact okD_put h1 hx
theorem set_bits {m i : Nat} (hm : m < 256) (hi : i < 8) : IntKind.i64.wrap ↑(BitVec.ofInt IntKind.i64.bits (m : Int) ||| BitVec.ofInt IntKind.i64.bits (IntKind.i64.wrap (1 * 2 ^ min ((i : Int).toNat) IntKind.i64.bits))).toNat = ((m ||| 1 <<< i : Nat) : Int) := by
  have e : IntKind.i64.wrap (1 * 2 ^ min ((i : Int).toNat) IntKind.i64.bits) = ((1 <<< i : Nat) : Int) := by
    match i, hi with
    | 0, _ | 1, _ | 2, _ | 3, _ | 4, _ | 5, _ | 6, _ | 7, _ => rfl
  have h1 : 1 <<< i < 2 ^ 63 := by
    rw [Nat.one_shiftLeft]
    exact Nat.pow_lt_pow_right (by decide) (by omega)
  rw [e, wrap_or (by omega) h1]
theorem set_lt {m i : Nat} (hm : m < 256) (hi : i < 8) : m ||| 1 <<< i < 256 := by
  have h1 : 1 <<< i < 2 ^ 8 := by
    rw [Nat.one_shiftLeft]
    exact Nat.pow_lt_pow_right (by decide) hi
  exact Nat.or_lt_two_pow (n := 8) hm h1
theorem key_built {v : Int} {y : AV} : ((stru 102 [.int 0, stru 78 [.int 0, .agg 76 8 fun _ => .int 0]]).put [0] (.int v)).put [1] y = stru 102 [.int v, y] := by
  rw [stru_put (by simp)]
  exact stru_put (by simp)
theorem ord_app {o : List Int} {i : Int} {j : Nat} (hj : j < o.length + 1) : joinG (((o.length : Int) - 0).toNat) 1 (fun j => .int (o.getD ((0 : Int).toNat + j) 0)) (partG [(0, .int i)] (.int 0)) j = .int ((o ++ [i]).getD j 0) := by
  have e : ((o.length : Int) - 0).toNat = o.length := by omega
  rw [e]
  rcases Nat.lt_or_ge j o.length with h | h
  · rw [joinG_lt h]
    simp only [List.getD_eq_getElem?_getD, List.getElem?_append_left h]
    simp
  · obtain rfl : j = o.length := by omega
    rw [joinG_ge (Nat.le_refl _) hj]
    simp [partG]
end Go.Ab


/- Moments: no two alike. -/
set_option autoImplicit false
set_option linter.unusedSimpArgs false
set_option linter.unusedVariables false
namespace Go.Ab
open Go.Proofs
theorem dd_full (l : List Int) : ∀ k, (dd l k).length = k ↔ ∀ j, 0 < j → j < k → l.getD j 0 ≠ l.getD (j - 1) 0
  | 0 => by simp [dd]
  | k + 1 => by
    have ih := dd_full l k
    have hle := dd_len l k
    rw [dd]
    split
    · rename_i e
      constructor
      · intro h; omega
      · intro h; exact absurd e.2 (h k e.1 (by omega))
    · rename_i e
      rw [List.length_append, List.length_singleton]
      constructor
      · intro h j h0 hj
        rcases Nat.lt_or_ge j k with h1 | h1
        · exact ih.1 (by omega) j h0 h1
        · obtain rfl : j = k := by omega
          exact fun h2 => e ⟨h0, h2⟩
      · intro h
        rw [ih.2 (fun j h0 hj => h j h0 (by omega))]
theorem sorted_nodup {s : List Int} (hs : s.Pairwise (· ≤ ·)) : (∀ j, 0 < j → j < s.length → s.getD j 0 ≠ s.getD (j - 1) 0) ↔ s.Nodup := by
  induction s with
  | nil => simp
  | cons a r ih =>
    rw [List.pairwise_cons] at hs
    have ih := ih hs.2
    rw [List.nodup_cons, ← ih]
    constructor
    · intro h
      refine ⟨fun ha => ?_, fun j h0 hj => ?_⟩
      · cases r with
        | nil => cases ha
        | cons b r =>
          have h1 := h 1 (by omega) (by simp)
          simp at h1
          have hab := hs.1 b (by simp)
          rcases List.mem_cons.1 ha with e | e
          · exact h1 e.symm
          · have := (List.pairwise_cons.1 hs.2).1 a e
            exact h1 (by omega)
      · have := h (j + 1) (by omega) (by simp; omega)
        obtain ⟨q, rfl⟩ : ∃ q, j = q + 1 := ⟨j - 1, by omega⟩
        simpa using this
    · rintro ⟨h1, h2⟩ j h0 hj
      match j, h0 with
      | 1, _ =>
        cases r with
        | nil => simp at hj
        | cons b r =>
          simp
          rintro rfl
          exact h1 (by simp)
      | j + 2, _ =>
        have := h2 (j + 1) (by omega) (by simp at hj; omega)
        simpa using this
theorem sortI_sorted (l : List Int) : (sortI l).Pairwise (· ≤ ·) := by
  have := List.pairwise_mergeSort (le := fun x y : Int => decide (x ≤ y)) (fun a b c h1 h2 => by simp at *; omega) (fun a b => by simp; omega) l
  simpa [sortI] using this
theorem distinct_iff (l : List Int) : (dd (sortI l) (sortI l).length).length = l.length ↔ l.Nodup := by
  rw [← sort_len l, dd_full, sorted_nodup (sortI_sorted l)]
  exact (List.mergeSort_perm l _).nodup_iff
/-- The moments of the first i operations. -/
def momTo (h : List Cal) : Nat → List Int
  | 0 => []
  | i + 1 => momTo h i ++ (calAt h i).bgn :: (if (calAt h i).fin = -1 then [] else [(calAt h i).fin])
theorem mem_mom {h : List Cal} {x : Int} : ∀ {i : Nat}, x ∈ momTo h i ↔ ∃ m, m < i ∧ (x = (calAt h m).bgn ∨ (calAt h m).fin ≠ -1 ∧ x = (calAt h m).fin)
  | 0 => by simp [momTo]
  | i + 1 => by
    simp only [momTo, List.mem_append, mem_mom, List.mem_cons]
    constructor
    · rintro (⟨m, h1, h2⟩ | e | e)
      · exact ⟨m, by omega, h2⟩
      · exact ⟨i, by omega, .inl e⟩
      · split at e
        · cases e
        · rename_i hf
          exact ⟨i, by omega, .inr ⟨hf, by simpa using e⟩⟩
    · rintro ⟨m, h1, h2⟩
      rcases Nat.lt_or_ge m i with h3 | h3
      · exact .inl ⟨m, h3, h2⟩
      · obtain rfl : m = i := by omega
        rcases h2 with e | ⟨h4, e⟩
        · exact .inr (.inl e)
        · exact .inr (.inr (by rw [if_neg h4]; simpa using e))
theorem fields_mom {k : Int} {c : Cal} (h : fieldsB k c = true) : 0 ≤ c.bgn ∧ (c.fin = -1 ∨ c.bgn < c.fin) := by
  simp only [fieldsB, badHead, badEnd, Bool.and_eq_true, Bool.not_eq_true', Bool.or_eq_false_iff, decide_eq_false_iff_not, Bool.and_eq_false_iff, bne_eq_false_iff_eq] at h
  omega
theorem mom_nodup {k : Int} {h : List Cal} : ∀ {i : Nat}, i ≤ h.length → (∀ j, j < h.length → fieldsB k (calAt h j) = true) → ((momTo h i).Nodup ↔ ∀ j, j < i → ∀ m, m < j → clash (calAt h j) (calAt h m) = false)
  | 0, _, _ => by simp [momTo]
  | i + 1, hi, hf => by
    have ih := mom_nodup (i := i) (by omega) hf
    have hfi := fields_mom (hf i (by omega))
    have key : (momTo h (i + 1)).Nodup ↔ (momTo h i).Nodup ∧ ∀ m, m < i → clash (calAt h i) (calAt h m) = false := by
      rw [momTo, List.nodup_append]
      have hm : ∀ m, m < i → 0 ≤ (calAt h m).bgn ∧ ((calAt h m).fin = -1 ∨ (calAt h m).bgn < (calAt h m).fin) := fun m hm => fields_mom (hf m (by omega))
      constructor
      · rintro ⟨h1, h2, h3⟩
        refine ⟨h1, fun m hmi => ?_⟩
        have a1 := h3 (calAt h m).bgn (mem_mom.2 ⟨m, hmi, .inl rfl⟩)
        have b1 := a1 (calAt h i).bgn (by simp)
        have := hm m hmi
        simp only [clash, Bool.or_eq_false_iff, beq_eq_false_iff_ne, ne_eq, Bool.and_eq_false_iff, bne_eq_false_iff_eq]
        by_cases f1 : (calAt h i).fin = -1 <;> by_cases f2 : (calAt h m).fin = -1
        · omega
        · have a2 := h3 (calAt h m).fin (mem_mom.2 ⟨m, hmi, .inr ⟨f2, rfl⟩⟩)
          have b2 := a2 (calAt h i).bgn (by simp)
          omega
        · have b3 := a1 (calAt h i).fin (by simp [f1])
          omega
        · have a2 := h3 (calAt h m).fin (mem_mom.2 ⟨m, hmi, .inr ⟨f2, rfl⟩⟩)
          have b2 := a2 (calAt h i).bgn (by simp)
          have b3 := a1 (calAt h i).fin (by simp [f1])
          have b4 := a2 (calAt h i).fin (by simp [f1])
          omega
      · rintro ⟨h1, h2⟩
        refine ⟨h1, ?_, ?_⟩
        · by_cases f1 : (calAt h i).fin = -1
          · simp [f1]
          · simp [f1]; omega
        · intro a ha b hb
          obtain ⟨m, hmi, e⟩ := mem_mom.1 ha
          have hc := h2 m hmi
          have := hm m hmi
          simp only [clash, Bool.or_eq_false_iff, beq_eq_false_iff_ne, ne_eq, Bool.and_eq_false_iff, bne_eq_false_iff_eq] at hc
          by_cases f1 : (calAt h i).fin = -1
          · simp only [f1, if_true, List.mem_cons, List.not_mem_nil, or_false] at hb
            omega
          · simp only [f1, if_false, List.mem_cons, List.not_mem_nil, or_false] at hb
            omega
    rw [key, ih]
    constructor
    · rintro ⟨h1, h2⟩ j hj m hm
      rcases Nat.lt_or_ge j i with h3 | h3
      · exact h1 j h3 m hm
      · obtain rfl : j = i := by omega
        exact h2 m hm
    · intro h1
      exact ⟨fun j hj m hm => h1 j (by omega) m hm, fun m hm => h1 i (by omega) m hm⟩
theorem mom_len (h : List Cal) : ∀ i, (momTo h i).length ≤ 2 * i
  | 0 => Nat.le_refl _
  | i + 1 => by
    have := mom_len h i
    simp only [momTo, List.length_append, List.length_cons]
    split <;> simp <;> omega
end Go.Ab

/- Ab, part 33: names anew. -/
set_option autoImplicit false
set_option linter.unusedVariables false
namespace Go.Ab
theorem ren_stru (σ : Id → Id) (t : Nat) (l : List AV) : ren σ (stru t l) = stru t (l.map (ren σ)) := by
  simp only [stru, ren, List.length_map, AV.agg.injEq, true_and]
  funext i
  simp only [List.getD_eq_getElem?_getD, List.getElem?_map]
  cases l[i]? <;> rfl
theorem ren_arrI (σ : Id → Id) (t n : Nat) (k : IntKind) (l : List Int) : ren σ (arrI t n k l) = arrI t n k l := rfl
theorem renO_cells1 (σ : Id → Id) (t n : Nat) (x : AV) (fz : Nat) : renO σ (.cells ⟨t, n, fun _ => x, fz⟩) = .cells ⟨t, n, fun _ => ren σ x, fz⟩ := rfl
theorem renO_encM {α β : Type} (σ : Id → Id) {ek : α → AV} {ev : β → AV} (hk : ∀ a, ren σ (ek a) = ek a) (hv : ∀ b, ren σ (ev b) = ev b) (L : List (α × β)) : renO σ (.map (encM ek ev L)) = .map (encM ek ev L) := by
  simp only [renO, encM, List.map_map]
  congr 1
  refine List.map_congr_left (fun p _ => ?_)
  simp [hk, hv]
section
variable {P : Program} {T : Nat → TI} {N : Nat}
theorem CVL_len {S : AV → AV → Prop} : ∀ {l l' : List AV}, CVL S l l' → l.length = l'.length ∧ ∀ (i : Nat) (x y : AV), l[i]? = some x → l'[i]? = some y → CV S x y
  | [], l', h => by cases (show l' = [] from h); exact ⟨rfl, fun i x y hi => by simp at hi⟩
  | x :: r, l', h => by
    obtain ⟨y, r', rfl, h1, h2⟩ := h
    obtain ⟨h3, h4⟩ := CVL_len h2
    refine ⟨by simp [h3], fun i a b ha hb => ?_⟩
    cases i with
    | zero => simp at ha hb; subst ha hb; exact h1
    | succ i => exact h4 i a b (by simpa using ha) (by simpa using hb)
/-- A contract at arguments alike. -/
theorem AC.conv (hT : TOK P T N) {f : FuncId} {args args' : List AV} {B : List Ob} {r : AV} {B' : List Ob} (h : AC P T N f args' B r B') (hc : CVL (Fz (fun _ => none) (fun _ => 0) T) args args') : AC P T N f args B r B' :=
  AC.args hT h (CVL_len hc).1 (CVL_len hc).2
end
theorem app1 {k : IntKind} {l : List Int} {g : Nat → AV} {x : Int} {z : AV} {n : Nat} (hn : n = l.length) (hg : ∀ q, q < l.length → g q = .v (.int k (l.getD q 0))) : ∀ q, q < (l ++ [x]).length → joinG n 1 g (partG [(0, .v (.int k x))] z) q = .v (.int k ((l ++ [x]).getD q 0)) := by
  subst hn
  intro q hq
  rw [List.length_append, List.length_singleton] at hq
  rcases Nat.lt_or_ge q l.length with h | h
  · rw [joinG_lt h, hg q h]
    simp only [List.getD_eq_getElem?_getD, List.getElem?_append_left h]
  · obtain rfl : q = l.length := by omega
    rw [joinG_ge (Nat.le_refl _) hq]
    simp [partG]
theorem ob_ints {T : Nat → TI} {m : Id → Option Ob} {F : Id → Nat} {keep : List Id} {id : Id} {B : Blk} {t : Nat} {k : IntKind} {l : List Int} {X : Prop} (hm : m id = some (.cells B)) (ht : B.ty = t) (hn : B.n = l.length) (hz : B.fz = 0) (hF : F id = 0) (hg : ∀ q, q < l.length → B.get q = .v (.int k (l.getD q 0))) :
    okO keep (cellsI t k l) ∧ ((∃ o', m id = some o' ∧ ObC m F T (F id) o' (cellsI t k l)) ∨ X) := by
  obtain ⟨ty, n, get, fz⟩ := B
  simp only at ht hn hz hg
  subst ht hn hz
  exact ⟨fun _ _ => rfl, .inl ⟨_, hm, _, _, rfl, Nat.le_refl _, by rw [hF]; exact Nat.le_refl _, Nat.zero_le _, fun q hq => conv_eq (hg q hq)⟩⟩
end Go.Ab

/- linear.Check. -/
set_option autoImplicit false
set_option maxRecDepth 20000
set_option linter.unusedSimpArgs false
set_option linter.unusedVariables false
namespace Go.Ab
open Go.Proofs
theorem noIds_th (may : List Int) (f : Nat) (caps : List AV) (h : noIdsL caps = true) : noIds (encTh may f caps) = true := by
  refine noIds_agg (fun i hi => ?_)
  match i, hi with
  | 0, _ => rfl
  | 1, _ => exact h
theorem any_right {k : Int} (hk : k = 1 ∨ k = 2 ∨ k = 3 ∨ k = 4) (h : List Cal) : h.any (fun c => !rightB (mayOf k) c) = false ↔ ∀ j, j < h.length → fieldsB k (calAt h j) = true := by
  rw [List.any_eq_false]
  constructor
  · intro g j hj
    have := g h[j] (List.getElem_mem hj)
    simpa [right_eq hk, calAt, hj] using this
  · intro g x hx
    obtain ⟨j, hj, rfl⟩ := List.getElem_of_mem hx
    have := g j hj
    simpa [right_eq hk, calAt, hj] using this
theorem hist_iff {k : Int} (hk : k = 1 ∨ k = 2 ∨ k = 3 ∨ k = 4) {h : List Cal} (hl : h.length ≤ 8) (hf : ∀ j, j < h.length → fieldsB k (calAt h j) = true) (hc : ∀ j, j < h.length → ∀ m, m < j → cross (calAt h j) (calAt h m) = false) :
    okHist k h ↔ (momTo h h.length).Nodup := by
  rw [mom_nodup (Nat.le_refl _) hf]
  constructor
  · rintro ⟨_, _, _, g⟩ j hj m hm
    exact ((g j hj).2 m hm).1
  · intro g
    exact ⟨by omega, by omega, hl, fun j hj => ⟨hf j hj, fun m hm => ⟨g j hj m hm, hc j hj m hm⟩⟩⟩
theorem mom_two {h : List Cal} {i : Nat} (hf : ((calAt h i).fin != -1) = true) : momTo h (i + 1) = (momTo h i ++ [(calAt h i).bgn]) ++ [(calAt h i).fin] := by
  have : (calAt h i).fin ≠ -1 := by simpa using hf
  simp [momTo, this]
theorem mom_one {h : List Cal} {i : Nat} (hf : ((calAt h i).fin != -1) = false) : momTo h (i + 1) = momTo h i ++ [(calAt h i).bgn] := by
  have : (calAt h i).fin = -1 := by simpa using hf
  simp [momTo, this]
abbrev momV (l : List Int) : AV := .own (.s 41 0) l.length 0 l.length none
theorem take_row {h : List Cal} {i : Nat} (hi : i < h.length) {m : Id → Option Ob} {F : Id → Nat} {f : Bool} : Conv m F T (.row 30 f ((i : Int) - 0).toNat (fun j => encCal (h.getD ((0 : Int).toNat + j) cal0))) (.row 30 false i (fun j => encCal (h.getD j cal0))) := by
  have e : ((i : Int) - 0).toNat = i := by omega
  rw [e]
  refine ⟨false, _, rfl, fun h => (by cases h), fun j hj => conv_eq ?_⟩
  show encCal (h.getD ((0 : Int).toNat + j) cal0) = _
  rw [show (0 : Int).toNat = 0 from rfl, Nat.zero_add]
theorem lcheck1_ac (k : Int) (hk : k = 1 ∨ k = 2 ∨ k = 3 ∨ k = 4)  (hcaps : capsOf k = []) (g : Bool) (h : List Cal) : AC Try.prog T tysN 12 [.int k, cals g h] [] (.int (refCheck k h)) [] := by
  refine AC_intro hT Try.func12 rfl rfl (Nat.le_of_ble_eq_true rfl) ?_
  have hof := of_ac hk
  have hcon := contf_ac g h (mayOf k) (fnOf k) [] (fun c => by first | exact check1_ac (mayOf k) (fnOf k) c | exact check1b_ac (mayOf k) (fnOf k) _ c)
  rw [thOf, hcaps] at hof
  refine WP.seq ?_
  refine WP.reg hT hE [] rfl ?_ ?_
  · first | trivial | (simp [holdsC, under, slOk, slB, capEq] <;> grind)
  refine WP.seq ?_
  refine WP.reg hT hE [CG.pure (.tup [encTh (mayOf k) (fnOf k) [], .bool true])] rfl ?_ ?_
  · exact ⟨hof, rfl, Nat.le_refl _⟩
  refine WP.seq ?_
  refine WP.seq ?_
  refine WP.ent (st' := mkSt [(1, cals g h), (5, .rp 60 (encTh (mayOf k) (fnOf k) [])), (6, .bool true)] []) ?_ ?_
  · refine Ent.mk hT [(.s 5 0, 1)] ⟨⟨_, rfl, Nat.le_refl _⟩, trivial⟩ ⟨⟨rfl, _, rfl, by first | exact conv_eq rfl | (refine conv_eq ?_; rw [wrap_id (by omega) (by omega)]; simp; done) | (refine conv_eq ?_; simp; done)⟩, ⟨rfl, _, rfl, conv_rpe rfl rfl (Nat.lt_succ_self 0) rfl rfl (noIds_th _ _ _ rfl)⟩, ⟨rfl, _, rfl, by first | exact conv_eq rfl | (refine conv_eq ?_; rw [wrap_id (by omega) (by omega)]; simp; done) | (refine conv_eq ?_; simp; done)⟩, trivial⟩ trivial rfl
  refine WP.reg hT hE [CG.pure (.bool (h.any (fun c => !rightB (mayOf k) c)))] rfl ?_ ?_
  · simp [holdsC, under, CG.pure]
    exact fun _ => hcon
  refine WP.cond rfl (fun h2 => ?_) (fun h2 => ?_)
  · simp only [bor, band] at h2
    refine WP.seq ?_
    refine WP.reg hT hE [] rfl ?_ ?_
    · first | trivial | (simp [holdsC, under, slOk, slB, capEq] <;> grind)
    refine WP.ret ?_
    change Fin _ _ _ _ _ _ _ _
    refine finI hT rfl (refCheck_bad ?_)
    rintro ⟨_, _, h8, hall⟩
    have := (any_right hk h).2 (fun j hj => (hall j hj).1)
    simp [this] at h2
    omega
  · simp only [bor, band] at h2
    have hl8 : h.length ≤ 8 := by simp at h2; omega
    have hfs : ∀ j, j < h.length → fieldsB k (calAt h j) = true := (any_right hk h).1 (by simp only [Bool.or_eq_false_iff] at h2; exact h2.2)
    refine WP.skip ?_
    refine WP.seq ?_
    refine WP.reg hT hE [] rfl ?_ ?_
    · first | trivial | (simp [holdsC, under, slOk, slB, capEq] <;> grind)
    refine WP.seq ?_
    refine WP.seq ?_
    refine WP.reg hT hE [] rfl ?_ ?_
    · first | trivial | (simp [holdsC, under, slOk, slB, capEq] <;> grind)
    refine WP.block ?_
    refine WP.loop (α := Nat) (fun i => mkSt [(1, cals g h), (7, momV (momTo h i)), (30, cals g h), (31, .int h.length), (32, .int i)] [(.s 41 0, cellsI 3 .i64 (momTo h i))]) (fun i => i ≤ h.length ∧ ∀ j, j < i → ∀ m, m < j → cross (calAt h j) (calAt h m) = false) (fun i => h.length - i) ?_ ?_
    · refine ⟨0, ?_, ?_⟩
      · exact ⟨Nat.zero_le _, fun j hj => by omega⟩
      · refine Ent.mk hT [] trivial ⟨⟨rfl, _, rfl, by first | exact conv_eq rfl | (refine conv_eq ?_; rw [wrap_id (by omega) (by omega)]; simp; done) | (refine conv_eq ?_; simp; done)⟩, ⟨rfl, _, rfl, conv_nil_own⟩, ⟨rfl, _, rfl, by first | exact conv_eq rfl | (refine conv_eq ?_; rw [wrap_id (by omega) (by omega)]; simp; done) | (refine conv_eq ?_; simp; done)⟩, ⟨rfl, _, rfl, by first | exact conv_eq rfl | (refine conv_eq ?_; rw [wrap_id (by omega) (by omega)]; simp; done) | (refine conv_eq ?_; simp; done)⟩, ⟨rfl, _, rfl, by first | exact conv_eq rfl | (refine conv_eq ?_; rw [wrap_id (by omega) (by omega)]; simp; done) | (refine conv_eq ?_; simp; done)⟩, trivial⟩ ⟨⟨fun _ _ => rfl, .inr ⟨rfl, 3, _, rfl, by decide⟩⟩, trivial⟩ rfl
    · rintro i ⟨hi, hcr⟩
      refine WP.seq ?_
      refine WP.reg hT hE [] rfl ?_ ?_
      · first | trivial | (simp [holdsC, under, slOk, slB, capEq] <;> grind)
      refine WP.seq ?_
      refine WP.cond rfl (fun h6 => ?_) (fun h6 => ?_)
      · have hil : i < h.length := by simpa using h6
        have hml := mom_len h i
        refine WP.skip ?_
        refine WP.seq ?_
        refine WP.block ?_
        refine WP.seq ?_
        refine WP.reg hT hE [] rfl ?_ ?_
        · first | trivial | (simp [holdsC, under, slOk, slB, capEq] <;> grind)
        refine WP.seq ?_
        refine WP.reg hT hE [] rfl ?_ ?_
        · have hb : (T 3).bytes = 8 := rfl
          simp [holdsC, under, hb]; omega
        refine WP.seqJ (α := Unit) (fun _ => mkSt [(1, cals g h), (7, momV (momTo h (i + 1))), (8, .int i), (9, .rp 30 (encCal (calAt h i))), (30, cals g h), (31, .int h.length), (32, .int i)] [(.s 41 0, cellsI 3 .i64 (momTo h (i + 1)))]) (fun _ => True) ?_ ?_
        · refine WP.seq ?_
          refine WP.reg hT hE [] rfl ?_ ?_
          · first | trivial | (simp [holdsC, under, slOk, slB, capEq] <;> grind)
          refine WP.cond rfl (fun h9 => ?_) (fun h9 => ?_)
          · refine WP.reg hT hE [] rfl ?_ ?_
            · have hb : (T 3).bytes = 8 := rfl
              simp [holdsC, under, hb]; omega
            refine ⟨(), ?_, ?_⟩
            · trivial
            · rw [mom_two (i := i) h9]
              refine Ent.mk hT [(.s 9 0, 1)] ⟨⟨_, rfl, Nat.le_refl _⟩, trivial⟩ ⟨⟨rfl, _, rfl, by first | exact conv_eq rfl | (refine conv_eq ?_; rw [wrap_id (by omega) (by omega)]; simp; done) | (refine conv_eq ?_; simp; done)⟩, ⟨rfl, _, rfl, conv_eq (by simp only [momV, List.length_append, List.length_singleton])⟩, ⟨rfl, _, rfl, by first | exact conv_eq rfl | (refine conv_eq ?_; rw [wrap_id (by omega) (by omega)]; simp; done) | (refine conv_eq ?_; simp; done)⟩, ⟨rfl, _, rfl, conv_rpe rfl rfl (Nat.lt_succ_self 0) rfl rfl rfl⟩, ⟨rfl, _, rfl, by first | exact conv_eq rfl | (refine conv_eq ?_; rw [wrap_id (by omega) (by omega)]; simp; done) | (refine conv_eq ?_; simp; done)⟩, ⟨rfl, _, rfl, by first | exact conv_eq rfl | (refine conv_eq ?_; rw [wrap_id (by omega) (by omega)]; simp; done) | (refine conv_eq ?_; simp; done)⟩, ⟨rfl, _, rfl, by first | exact conv_eq rfl | (refine conv_eq ?_; rw [wrap_id (by omega) (by omega)]; simp; done) | (refine conv_eq ?_; simp; done)⟩, trivial⟩ ⟨ob_ints rfl rfl (by simp only [List.length_append, List.length_singleton]) rfl rfl (app1 (l := momTo h i ++ [(calAt h i).bgn]) (x := (calAt h i).fin) (z := .int 0) (by simp only [List.length_append, List.length_singleton]) (app1 (l := momTo h i) (x := (calAt h i).bgn) (z := .int 0) rfl (fun q hq => rfl))), trivial⟩ rfl
          · refine WP.skip ?_
            refine ⟨(), ?_, ?_⟩
            · trivial
            · rw [mom_one (i := i) h9]
              refine Ent.mk hT [(.s 9 0, 1)] ⟨⟨_, rfl, Nat.le_refl _⟩, trivial⟩ ⟨⟨rfl, _, rfl, by first | exact conv_eq rfl | (refine conv_eq ?_; rw [wrap_id (by omega) (by omega)]; simp; done) | (refine conv_eq ?_; simp; done)⟩, ⟨rfl, _, rfl, conv_eq (by simp only [momV, List.length_append, List.length_singleton])⟩, ⟨rfl, _, rfl, by first | exact conv_eq rfl | (refine conv_eq ?_; rw [wrap_id (by omega) (by omega)]; simp; done) | (refine conv_eq ?_; simp; done)⟩, ⟨rfl, _, rfl, conv_rpe rfl rfl (Nat.lt_succ_self 0) rfl rfl rfl⟩, ⟨rfl, _, rfl, by first | exact conv_eq rfl | (refine conv_eq ?_; rw [wrap_id (by omega) (by omega)]; simp; done) | (refine conv_eq ?_; simp; done)⟩, ⟨rfl, _, rfl, by first | exact conv_eq rfl | (refine conv_eq ?_; rw [wrap_id (by omega) (by omega)]; simp; done) | (refine conv_eq ?_; simp; done)⟩, ⟨rfl, _, rfl, by first | exact conv_eq rfl | (refine conv_eq ?_; rw [wrap_id (by omega) (by omega)]; simp; done) | (refine conv_eq ?_; simp; done)⟩, trivial⟩ ⟨ob_ints rfl rfl (by simp only [List.length_append, List.length_singleton]) rfl rfl (app1 (l := momTo h i) (x := (calAt h i).bgn) (z := .int 0) rfl (fun q hq => rfl)), trivial⟩ rfl
        · rintro _ _
          refine WP.seq ?_
          refine WP.reg hT hE [] rfl ?_ ?_
          · simp [holdsC, under, slOk, slB, capEq]; omega
          refine WP.block ?_
          refine WP.loop (α := Nat) (fun m => mkSt [(1, cals g h), (7, momV (momTo h (i + 1))), (9, .rp 30 (encCal (calAt h i))), (30, cals g h), (31, .int h.length), (32, .int i), (52, .row 30 false i (fun j => encCal (h.getD j cal0))), (53, .int i), (54, .int m)] [(.s 41 0, cellsI 3 .i64 (momTo h (i + 1)))]) (fun m => m ≤ i ∧ ∀ q, q < m → cross (calAt h i) (calAt h q) = false) (fun m => i - m) ?_ ?_
          · refine ⟨0, ?_, ?_⟩
            · exact ⟨Nat.zero_le _, fun j hj => by omega⟩
            · refine Ent.mk hT [] trivial ⟨⟨rfl, _, rfl, by first | exact conv_eq rfl | (refine conv_eq ?_; rw [wrap_id (by omega) (by omega)]; simp; done) | (refine conv_eq ?_; simp; done)⟩, ⟨rfl, _, rfl, by first | exact conv_eq rfl | (refine conv_eq ?_; rw [wrap_id (by omega) (by omega)]; simp; done) | (refine conv_eq ?_; simp; done)⟩, ⟨rfl, _, rfl, by first | exact conv_eq rfl | (refine conv_eq ?_; rw [wrap_id (by omega) (by omega)]; simp; done) | (refine conv_eq ?_; simp; done)⟩, ⟨rfl, _, rfl, by first | exact conv_eq rfl | (refine conv_eq ?_; rw [wrap_id (by omega) (by omega)]; simp; done) | (refine conv_eq ?_; simp; done)⟩, ⟨rfl, _, rfl, by first | exact conv_eq rfl | (refine conv_eq ?_; rw [wrap_id (by omega) (by omega)]; simp; done) | (refine conv_eq ?_; simp; done)⟩, ⟨rfl, _, rfl, by first | exact conv_eq rfl | (refine conv_eq ?_; rw [wrap_id (by omega) (by omega)]; simp; done) | (refine conv_eq ?_; simp; done)⟩, ⟨rfl, _, rfl, take_row hil⟩, ⟨rfl, _, rfl, by first | exact conv_eq rfl | (refine conv_eq ?_; rw [wrap_id (by omega) (by omega)]; simp; done) | (refine conv_eq ?_; simp; done)⟩, ⟨rfl, _, rfl, by first | exact conv_eq rfl | (refine conv_eq ?_; rw [wrap_id (by omega) (by omega)]; simp; done) | (refine conv_eq ?_; simp; done)⟩, trivial⟩ ⟨⟨fun _ _ => rfl, .inl ⟨_, rfl, _, _, rfl, Nat.le_refl _, Nat.zero_le _, by first | exact Nat.zero_le _ | omega, fun q hq => by first | exact conv_eq rfl | (obtain rfl : q = 0 := (by simp at hq; exact hq); exact conv_eq rfl)⟩⟩, trivial⟩ rfl
          · rintro m ⟨hm, hq⟩
            refine WP.seq ?_
            refine WP.reg hT hE [] rfl ?_ ?_
            · first | trivial | (simp [holdsC, under, slOk, slB, capEq] <;> grind)
            refine WP.seq ?_
            refine WP.cond rfl (fun h12 => ?_) (fun h12 => ?_)
            · have hmi : m < i := by simpa using h12
              refine WP.skip ?_
              refine WP.seq ?_
              refine WP.block ?_
              refine WP.seq ?_
              refine WP.reg hT hE [] rfl ?_ ?_
              · first | trivial | (simp [holdsC, under, slOk, slB, capEq] <;> grind)
              refine WP.seq ?_
              refine WP.reg hT hE [CG.pure (.bool (ahd (calAt h i) (calAt h m))), CG.pure (.bool (ahd (calAt h m) (calAt h i)))] rfl ?_ ?_
              · have ha1 := ahead_ac (calAt h i) (calAt h m)
                have ha2 := ahead_ac (calAt h m) (calAt h i)
                simp [holdsC, under, CG.pure]
                exact ⟨fun _ => ha1, fun _ _ => ha2⟩
              refine WP.cond rfl (fun h14 => ?_) (fun h14 => ?_)
              · simp only [bor, band] at h14
                refine WP.seq ?_
                refine WP.reg hT hE [] rfl ?_ ?_
                · first | trivial | (simp [holdsC, under, slOk, slB, capEq] <;> grind)
                refine WP.ret ?_
                change Fin _ _ _ _ _ _ _ _
                refine finI hT rfl (refCheck_bad ?_)
                rintro ⟨_, _, h8, hall⟩
                have := ((hall i hil).2 m hmi).2
                rw [show cross (h.getD i cal0) (h.getD m cal0) = true from h14] at this
                cases this
              · simp only [bor, band] at h14
                refine WP.skip ?_
                refine WP.reg hT hE [] rfl ?_ ?_
                · first | trivial | (simp [holdsC, under, slOk, slB, capEq] <;> grind)
                refine ⟨m + 1, ?_, ?_, ?_⟩
                · refine ⟨hmi, fun q hq' => ?_⟩
                  rcases Nat.lt_or_ge q m with h3 | h3
                  · exact hq q h3
                  · obtain rfl : q = m := by omega
                    exact h14
                · refine Ent.mk hT [] trivial ⟨⟨rfl, _, rfl, by first | exact conv_eq rfl | (refine conv_eq ?_; rw [wrap_id (by omega) (by omega)]; simp; done) | (refine conv_eq ?_; simp; done)⟩, ⟨rfl, _, rfl, by first | exact conv_eq rfl | (refine conv_eq ?_; rw [wrap_id (by omega) (by omega)]; simp; done) | (refine conv_eq ?_; simp; done)⟩, ⟨rfl, _, rfl, by first | exact conv_eq rfl | (refine conv_eq ?_; rw [wrap_id (by omega) (by omega)]; simp; done) | (refine conv_eq ?_; simp; done)⟩, ⟨rfl, _, rfl, by first | exact conv_eq rfl | (refine conv_eq ?_; rw [wrap_id (by omega) (by omega)]; simp; done) | (refine conv_eq ?_; simp; done)⟩, ⟨rfl, _, rfl, by first | exact conv_eq rfl | (refine conv_eq ?_; rw [wrap_id (by omega) (by omega)]; simp; done) | (refine conv_eq ?_; simp; done)⟩, ⟨rfl, _, rfl, by first | exact conv_eq rfl | (refine conv_eq ?_; rw [wrap_id (by omega) (by omega)]; simp; done) | (refine conv_eq ?_; simp; done)⟩, ⟨rfl, _, rfl, by first | exact conv_eq rfl | (refine conv_eq ?_; rw [wrap_id (by omega) (by omega)]; simp; done) | (refine conv_eq ?_; simp; done)⟩, ⟨rfl, _, rfl, by first | exact conv_eq rfl | (refine conv_eq ?_; rw [wrap_id (by omega) (by omega)]; simp; done) | (refine conv_eq ?_; simp; done)⟩, ⟨rfl, _, rfl, by first | exact conv_eq rfl | (refine conv_eq ?_; rw [wrap_id (by omega) (by omega)]; simp; done) | (refine conv_eq ?_; simp; done)⟩, trivial⟩ ⟨⟨fun _ _ => rfl, .inl ⟨_, rfl, _, _, rfl, Nat.le_refl _, Nat.zero_le _, by first | exact Nat.zero_le _ | omega, fun q hq => by first | exact conv_eq rfl | (obtain rfl : q = 0 := (by simp at hq; exact hq); exact conv_eq rfl)⟩⟩, trivial⟩ rfl
                · (try simp only []); first | omega | grind
            · have hmi : m = i := by simp at h12; omega
              subst hmi
              refine WP.exit ?_
              refine WP.reg hT hE [] rfl ?_ ?_
              · first | trivial | (simp [holdsC, under, slOk, slB, capEq] <;> grind)
              refine ⟨m + 1, ?_, ?_, ?_⟩
              · refine ⟨hil, fun j hj => ?_⟩
                rcases Nat.lt_or_ge j m with h3 | h3
                · exact hcr j h3
                · obtain rfl : j = m := by omega
                  exact hq
              · refine Ent.mk hT [] trivial ⟨⟨rfl, _, rfl, by first | exact conv_eq rfl | (refine conv_eq ?_; rw [wrap_id (by omega) (by omega)]; simp; done) | (refine conv_eq ?_; simp; done)⟩, ⟨rfl, _, rfl, by first | exact conv_eq rfl | (refine conv_eq ?_; rw [wrap_id (by omega) (by omega)]; simp; done) | (refine conv_eq ?_; simp; done)⟩, ⟨rfl, _, rfl, by first | exact conv_eq rfl | (refine conv_eq ?_; rw [wrap_id (by omega) (by omega)]; simp; done) | (refine conv_eq ?_; simp; done)⟩, ⟨rfl, _, rfl, by first | exact conv_eq rfl | (refine conv_eq ?_; rw [wrap_id (by omega) (by omega)]; simp; done) | (refine conv_eq ?_; simp; done)⟩, ⟨rfl, _, rfl, by first | exact conv_eq rfl | (refine conv_eq ?_; rw [wrap_id (by omega) (by omega)]; simp; done) | (refine conv_eq ?_; simp; done)⟩, trivial⟩ ⟨⟨fun _ _ => rfl, .inl ⟨_, rfl, _, _, rfl, Nat.le_refl _, Nat.zero_le _, by first | exact Nat.zero_le _ | omega, fun q hq => by first | exact conv_eq rfl | (obtain rfl : q = 0 := (by simp at hq; exact hq); exact conv_eq rfl)⟩⟩, trivial⟩ rfl
              · (try simp only []); first | omega | grind
      · have hil : i = h.length := by simp at h6; omega
        subst hil
        have hml := mom_len h h.length
        generalize hmoms : momTo h h.length = ms at hml
        refine WP.exit ?_
        refine WP.seq ?_
        refine WP.reg hT hE [⟨true, [.s 41 0], .tup [], [cellsI 3 .i64 (sortI ms)]⟩] rfl ?_ ?_
        · have hs := sort_ac ms (by omega)
          exact ⟨⟨fun _ _ => rfl, trivial⟩, ⟨fun _ _ => rfl, trivial⟩, hs⟩
        refine WP.seq ?_
        refine WP.seq ?_
        refine WP.reg hT hE [] rfl ?_ ?_
        · simp [holdsC, under, nOf, nC, sort_len, cellsI]
        refine WP.seq ?_
        refine WP.reg hT hE [⟨true, [.s 41 0], .own (.b 0) ms.length 0 (dd (sortI ms) ms.length).length none, [.cells ⟨3, ms.length, fun j => .int ((dd (sortI ms) ms.length).getD j 0), 0⟩]⟩] rfl ?_ ?_
        · have hs := compact_ac (sortI ms)
          rw [sort_len] at hs
          exact ⟨⟨⟨fun _ _ => rfl, trivial⟩, ⟨fun _ _ => rfl, trivial⟩, hs⟩, rfl⟩
        refine WP.cond rfl (fun h20 => ?_) (fun h20 => ?_)
        · have hdis : ¬ ms.Nodup := by
            rw [← distinct_iff, sort_len]
            simp at h20
            omega
          refine WP.seq ?_
          refine WP.reg hT hE [] rfl ?_ ?_
          · first | trivial | (simp [holdsC, under, slOk, slB, capEq] <;> grind)
          refine WP.ret ?_
          change Fin _ _ _ _ _ _ _ _
          refine finI hT rfl (refCheck_bad ?_)
          rw [hist_iff hk hl8 hfs hcr, hmoms]
          exact hdis
        · have hdis : ms.Nodup := by
            rw [← distinct_iff, sort_len]
            simp at h20
            omega
          refine WP.skip ?_
          refine WP.seq ?_
          refine WP.reg hT hE [] rfl ?_ ?_
          · first | trivial | (simp [holdsC, under, slOk, slB, capEq] <;> grind)
          refine WP.ret ?_
          change Fin _ _ _ _ _ _ _ _
          refine finI hT rfl ?_
          unfold refCheck
          rw [if_pos ((hist_iff hk hl8 hfs hcr).2 (hmoms ▸ hdis))]
theorem lcheck2_ac (k : Int) (hk : k = 1 ∨ k = 2 ∨ k = 3 ∨ k = 4) (cb : Bool) (hcaps : capsOf k = [.rp 4 (.bool cb)]) (g : Bool) (h : List Cal) : AC Try.prog T tysN 12 [.int k, cals g h] [] (.int (refCheck k h)) [] := by
  refine AC_intro hT Try.func12 rfl rfl (Nat.le_of_ble_eq_true rfl) ?_
  have hof := of_ac hk
  have hcon := contf_ac g h (mayOf k) (fnOf k) [.rp 4 (.bool cb)] (fun c => by first | exact check1_ac (mayOf k) (fnOf k) c | exact check1b_ac (mayOf k) (fnOf k) _ c)
  rw [thOf, hcaps] at hof
  refine WP.seq ?_
  refine WP.reg hT hE [] rfl ?_ ?_
  · first | trivial | (simp [holdsC, under, slOk, slB, capEq] <;> grind)
  refine WP.seq ?_
  refine WP.reg hT hE [CG.pure (.tup [encTh (mayOf k) (fnOf k) [.rp 4 (.bool cb)], .bool true])] rfl ?_ ?_
  · exact ⟨hof, rfl, Nat.le_refl _⟩
  refine WP.seq ?_
  refine WP.seq ?_
  refine WP.ent (st' := mkSt [(1, cals g h), (5, .rp 60 (encTh (mayOf k) (fnOf k) [.rp 4 (.bool cb)])), (6, .bool true)] []) ?_ ?_
  · refine Ent.mk hT [(.s 5 0, 1)] ⟨⟨_, rfl, Nat.le_refl _⟩, trivial⟩ ⟨⟨rfl, _, rfl, by first | exact conv_eq rfl | (refine conv_eq ?_; rw [wrap_id (by omega) (by omega)]; simp; done) | (refine conv_eq ?_; simp; done)⟩, ⟨rfl, _, rfl, conv_rpe rfl rfl (Nat.lt_succ_self 0) rfl rfl (noIds_th _ _ _ rfl)⟩, ⟨rfl, _, rfl, by first | exact conv_eq rfl | (refine conv_eq ?_; rw [wrap_id (by omega) (by omega)]; simp; done) | (refine conv_eq ?_; simp; done)⟩, trivial⟩ trivial rfl
  refine WP.reg hT hE [CG.pure (.bool (h.any (fun c => !rightB (mayOf k) c)))] rfl ?_ ?_
  · simp [holdsC, under, CG.pure]
    exact fun _ => hcon
  refine WP.cond rfl (fun h2 => ?_) (fun h2 => ?_)
  · simp only [bor, band] at h2
    refine WP.seq ?_
    refine WP.reg hT hE [] rfl ?_ ?_
    · first | trivial | (simp [holdsC, under, slOk, slB, capEq] <;> grind)
    refine WP.ret ?_
    change Fin _ _ _ _ _ _ _ _
    refine finI hT rfl (refCheck_bad ?_)
    rintro ⟨_, _, h8, hall⟩
    have := (any_right hk h).2 (fun j hj => (hall j hj).1)
    simp [this] at h2
    omega
  · simp only [bor, band] at h2
    have hl8 : h.length ≤ 8 := by simp at h2; omega
    have hfs : ∀ j, j < h.length → fieldsB k (calAt h j) = true := (any_right hk h).1 (by simp only [Bool.or_eq_false_iff] at h2; exact h2.2)
    refine WP.skip ?_
    refine WP.seq ?_
    refine WP.reg hT hE [] rfl ?_ ?_
    · first | trivial | (simp [holdsC, under, slOk, slB, capEq] <;> grind)
    refine WP.seq ?_
    refine WP.seq ?_
    refine WP.reg hT hE [] rfl ?_ ?_
    · first | trivial | (simp [holdsC, under, slOk, slB, capEq] <;> grind)
    refine WP.block ?_
    refine WP.loop (α := Nat) (fun i => mkSt [(1, cals g h), (7, momV (momTo h i)), (30, cals g h), (31, .int h.length), (32, .int i)] [(.s 41 0, cellsI 3 .i64 (momTo h i))]) (fun i => i ≤ h.length ∧ ∀ j, j < i → ∀ m, m < j → cross (calAt h j) (calAt h m) = false) (fun i => h.length - i) ?_ ?_
    · refine ⟨0, ?_, ?_⟩
      · exact ⟨Nat.zero_le _, fun j hj => by omega⟩
      · refine Ent.mk hT [] trivial ⟨⟨rfl, _, rfl, by first | exact conv_eq rfl | (refine conv_eq ?_; rw [wrap_id (by omega) (by omega)]; simp; done) | (refine conv_eq ?_; simp; done)⟩, ⟨rfl, _, rfl, conv_nil_own⟩, ⟨rfl, _, rfl, by first | exact conv_eq rfl | (refine conv_eq ?_; rw [wrap_id (by omega) (by omega)]; simp; done) | (refine conv_eq ?_; simp; done)⟩, ⟨rfl, _, rfl, by first | exact conv_eq rfl | (refine conv_eq ?_; rw [wrap_id (by omega) (by omega)]; simp; done) | (refine conv_eq ?_; simp; done)⟩, ⟨rfl, _, rfl, by first | exact conv_eq rfl | (refine conv_eq ?_; rw [wrap_id (by omega) (by omega)]; simp; done) | (refine conv_eq ?_; simp; done)⟩, trivial⟩ ⟨⟨fun _ _ => rfl, .inr ⟨rfl, 3, _, rfl, by decide⟩⟩, trivial⟩ rfl
    · rintro i ⟨hi, hcr⟩
      refine WP.seq ?_
      refine WP.reg hT hE [] rfl ?_ ?_
      · first | trivial | (simp [holdsC, under, slOk, slB, capEq] <;> grind)
      refine WP.seq ?_
      refine WP.cond rfl (fun h6 => ?_) (fun h6 => ?_)
      · have hil : i < h.length := by simpa using h6
        have hml := mom_len h i
        refine WP.skip ?_
        refine WP.seq ?_
        refine WP.block ?_
        refine WP.seq ?_
        refine WP.reg hT hE [] rfl ?_ ?_
        · first | trivial | (simp [holdsC, under, slOk, slB, capEq] <;> grind)
        refine WP.seq ?_
        refine WP.reg hT hE [] rfl ?_ ?_
        · have hb : (T 3).bytes = 8 := rfl
          simp [holdsC, under, hb]; omega
        refine WP.seqJ (α := Unit) (fun _ => mkSt [(1, cals g h), (7, momV (momTo h (i + 1))), (8, .int i), (9, .rp 30 (encCal (calAt h i))), (30, cals g h), (31, .int h.length), (32, .int i)] [(.s 41 0, cellsI 3 .i64 (momTo h (i + 1)))]) (fun _ => True) ?_ ?_
        · refine WP.seq ?_
          refine WP.reg hT hE [] rfl ?_ ?_
          · first | trivial | (simp [holdsC, under, slOk, slB, capEq] <;> grind)
          refine WP.cond rfl (fun h9 => ?_) (fun h9 => ?_)
          · refine WP.reg hT hE [] rfl ?_ ?_
            · have hb : (T 3).bytes = 8 := rfl
              simp [holdsC, under, hb]; omega
            refine ⟨(), ?_, ?_⟩
            · trivial
            · rw [mom_two (i := i) h9]
              refine Ent.mk hT [(.s 9 0, 1)] ⟨⟨_, rfl, Nat.le_refl _⟩, trivial⟩ ⟨⟨rfl, _, rfl, by first | exact conv_eq rfl | (refine conv_eq ?_; rw [wrap_id (by omega) (by omega)]; simp; done) | (refine conv_eq ?_; simp; done)⟩, ⟨rfl, _, rfl, conv_eq (by simp only [momV, List.length_append, List.length_singleton])⟩, ⟨rfl, _, rfl, by first | exact conv_eq rfl | (refine conv_eq ?_; rw [wrap_id (by omega) (by omega)]; simp; done) | (refine conv_eq ?_; simp; done)⟩, ⟨rfl, _, rfl, conv_rpe rfl rfl (Nat.lt_succ_self 0) rfl rfl rfl⟩, ⟨rfl, _, rfl, by first | exact conv_eq rfl | (refine conv_eq ?_; rw [wrap_id (by omega) (by omega)]; simp; done) | (refine conv_eq ?_; simp; done)⟩, ⟨rfl, _, rfl, by first | exact conv_eq rfl | (refine conv_eq ?_; rw [wrap_id (by omega) (by omega)]; simp; done) | (refine conv_eq ?_; simp; done)⟩, ⟨rfl, _, rfl, by first | exact conv_eq rfl | (refine conv_eq ?_; rw [wrap_id (by omega) (by omega)]; simp; done) | (refine conv_eq ?_; simp; done)⟩, trivial⟩ ⟨ob_ints rfl rfl (by simp only [List.length_append, List.length_singleton]) rfl rfl (app1 (l := momTo h i ++ [(calAt h i).bgn]) (x := (calAt h i).fin) (z := .int 0) (by simp only [List.length_append, List.length_singleton]) (app1 (l := momTo h i) (x := (calAt h i).bgn) (z := .int 0) rfl (fun q hq => rfl))), trivial⟩ rfl
          · refine WP.skip ?_
            refine ⟨(), ?_, ?_⟩
            · trivial
            · rw [mom_one (i := i) h9]
              refine Ent.mk hT [(.s 9 0, 1)] ⟨⟨_, rfl, Nat.le_refl _⟩, trivial⟩ ⟨⟨rfl, _, rfl, by first | exact conv_eq rfl | (refine conv_eq ?_; rw [wrap_id (by omega) (by omega)]; simp; done) | (refine conv_eq ?_; simp; done)⟩, ⟨rfl, _, rfl, conv_eq (by simp only [momV, List.length_append, List.length_singleton])⟩, ⟨rfl, _, rfl, by first | exact conv_eq rfl | (refine conv_eq ?_; rw [wrap_id (by omega) (by omega)]; simp; done) | (refine conv_eq ?_; simp; done)⟩, ⟨rfl, _, rfl, conv_rpe rfl rfl (Nat.lt_succ_self 0) rfl rfl rfl⟩, ⟨rfl, _, rfl, by first | exact conv_eq rfl | (refine conv_eq ?_; rw [wrap_id (by omega) (by omega)]; simp; done) | (refine conv_eq ?_; simp; done)⟩, ⟨rfl, _, rfl, by first | exact conv_eq rfl | (refine conv_eq ?_; rw [wrap_id (by omega) (by omega)]; simp; done) | (refine conv_eq ?_; simp; done)⟩, ⟨rfl, _, rfl, by first | exact conv_eq rfl | (refine conv_eq ?_; rw [wrap_id (by omega) (by omega)]; simp; done) | (refine conv_eq ?_; simp; done)⟩, trivial⟩ ⟨ob_ints rfl rfl (by simp only [List.length_append, List.length_singleton]) rfl rfl (app1 (l := momTo h i) (x := (calAt h i).bgn) (z := .int 0) rfl (fun q hq => rfl)), trivial⟩ rfl
        · rintro _ _
          refine WP.seq ?_
          refine WP.reg hT hE [] rfl ?_ ?_
          · simp [holdsC, under, slOk, slB, capEq]; omega
          refine WP.block ?_
          refine WP.loop (α := Nat) (fun m => mkSt [(1, cals g h), (7, momV (momTo h (i + 1))), (9, .rp 30 (encCal (calAt h i))), (30, cals g h), (31, .int h.length), (32, .int i), (52, .row 30 false i (fun j => encCal (h.getD j cal0))), (53, .int i), (54, .int m)] [(.s 41 0, cellsI 3 .i64 (momTo h (i + 1)))]) (fun m => m ≤ i ∧ ∀ q, q < m → cross (calAt h i) (calAt h q) = false) (fun m => i - m) ?_ ?_
          · refine ⟨0, ?_, ?_⟩
            · exact ⟨Nat.zero_le _, fun j hj => by omega⟩
            · refine Ent.mk hT [] trivial ⟨⟨rfl, _, rfl, by first | exact conv_eq rfl | (refine conv_eq ?_; rw [wrap_id (by omega) (by omega)]; simp; done) | (refine conv_eq ?_; simp; done)⟩, ⟨rfl, _, rfl, by first | exact conv_eq rfl | (refine conv_eq ?_; rw [wrap_id (by omega) (by omega)]; simp; done) | (refine conv_eq ?_; simp; done)⟩, ⟨rfl, _, rfl, by first | exact conv_eq rfl | (refine conv_eq ?_; rw [wrap_id (by omega) (by omega)]; simp; done) | (refine conv_eq ?_; simp; done)⟩, ⟨rfl, _, rfl, by first | exact conv_eq rfl | (refine conv_eq ?_; rw [wrap_id (by omega) (by omega)]; simp; done) | (refine conv_eq ?_; simp; done)⟩, ⟨rfl, _, rfl, by first | exact conv_eq rfl | (refine conv_eq ?_; rw [wrap_id (by omega) (by omega)]; simp; done) | (refine conv_eq ?_; simp; done)⟩, ⟨rfl, _, rfl, by first | exact conv_eq rfl | (refine conv_eq ?_; rw [wrap_id (by omega) (by omega)]; simp; done) | (refine conv_eq ?_; simp; done)⟩, ⟨rfl, _, rfl, take_row hil⟩, ⟨rfl, _, rfl, by first | exact conv_eq rfl | (refine conv_eq ?_; rw [wrap_id (by omega) (by omega)]; simp; done) | (refine conv_eq ?_; simp; done)⟩, ⟨rfl, _, rfl, by first | exact conv_eq rfl | (refine conv_eq ?_; rw [wrap_id (by omega) (by omega)]; simp; done) | (refine conv_eq ?_; simp; done)⟩, trivial⟩ ⟨⟨fun _ _ => rfl, .inl ⟨_, rfl, _, _, rfl, Nat.le_refl _, Nat.zero_le _, by first | exact Nat.zero_le _ | omega, fun q hq => by first | exact conv_eq rfl | (obtain rfl : q = 0 := (by simp at hq; exact hq); exact conv_eq rfl)⟩⟩, trivial⟩ rfl
          · rintro m ⟨hm, hq⟩
            refine WP.seq ?_
            refine WP.reg hT hE [] rfl ?_ ?_
            · first | trivial | (simp [holdsC, under, slOk, slB, capEq] <;> grind)
            refine WP.seq ?_
            refine WP.cond rfl (fun h12 => ?_) (fun h12 => ?_)
            · have hmi : m < i := by simpa using h12
              refine WP.skip ?_
              refine WP.seq ?_
              refine WP.block ?_
              refine WP.seq ?_
              refine WP.reg hT hE [] rfl ?_ ?_
              · first | trivial | (simp [holdsC, under, slOk, slB, capEq] <;> grind)
              refine WP.seq ?_
              refine WP.reg hT hE [CG.pure (.bool (ahd (calAt h i) (calAt h m))), CG.pure (.bool (ahd (calAt h m) (calAt h i)))] rfl ?_ ?_
              · have ha1 := ahead_ac (calAt h i) (calAt h m)
                have ha2 := ahead_ac (calAt h m) (calAt h i)
                simp [holdsC, under, CG.pure]
                exact ⟨fun _ => ha1, fun _ _ => ha2⟩
              refine WP.cond rfl (fun h14 => ?_) (fun h14 => ?_)
              · simp only [bor, band] at h14
                refine WP.seq ?_
                refine WP.reg hT hE [] rfl ?_ ?_
                · first | trivial | (simp [holdsC, under, slOk, slB, capEq] <;> grind)
                refine WP.ret ?_
                change Fin _ _ _ _ _ _ _ _
                refine finI hT rfl (refCheck_bad ?_)
                rintro ⟨_, _, h8, hall⟩
                have := ((hall i hil).2 m hmi).2
                rw [show cross (h.getD i cal0) (h.getD m cal0) = true from h14] at this
                cases this
              · simp only [bor, band] at h14
                refine WP.skip ?_
                refine WP.reg hT hE [] rfl ?_ ?_
                · first | trivial | (simp [holdsC, under, slOk, slB, capEq] <;> grind)
                refine ⟨m + 1, ?_, ?_, ?_⟩
                · refine ⟨hmi, fun q hq' => ?_⟩
                  rcases Nat.lt_or_ge q m with h3 | h3
                  · exact hq q h3
                  · obtain rfl : q = m := by omega
                    exact h14
                · refine Ent.mk hT [] trivial ⟨⟨rfl, _, rfl, by first | exact conv_eq rfl | (refine conv_eq ?_; rw [wrap_id (by omega) (by omega)]; simp; done) | (refine conv_eq ?_; simp; done)⟩, ⟨rfl, _, rfl, by first | exact conv_eq rfl | (refine conv_eq ?_; rw [wrap_id (by omega) (by omega)]; simp; done) | (refine conv_eq ?_; simp; done)⟩, ⟨rfl, _, rfl, by first | exact conv_eq rfl | (refine conv_eq ?_; rw [wrap_id (by omega) (by omega)]; simp; done) | (refine conv_eq ?_; simp; done)⟩, ⟨rfl, _, rfl, by first | exact conv_eq rfl | (refine conv_eq ?_; rw [wrap_id (by omega) (by omega)]; simp; done) | (refine conv_eq ?_; simp; done)⟩, ⟨rfl, _, rfl, by first | exact conv_eq rfl | (refine conv_eq ?_; rw [wrap_id (by omega) (by omega)]; simp; done) | (refine conv_eq ?_; simp; done)⟩, ⟨rfl, _, rfl, by first | exact conv_eq rfl | (refine conv_eq ?_; rw [wrap_id (by omega) (by omega)]; simp; done) | (refine conv_eq ?_; simp; done)⟩, ⟨rfl, _, rfl, by first | exact conv_eq rfl | (refine conv_eq ?_; rw [wrap_id (by omega) (by omega)]; simp; done) | (refine conv_eq ?_; simp; done)⟩, ⟨rfl, _, rfl, by first | exact conv_eq rfl | (refine conv_eq ?_; rw [wrap_id (by omega) (by omega)]; simp; done) | (refine conv_eq ?_; simp; done)⟩, ⟨rfl, _, rfl, by first | exact conv_eq rfl | (refine conv_eq ?_; rw [wrap_id (by omega) (by omega)]; simp; done) | (refine conv_eq ?_; simp; done)⟩, trivial⟩ ⟨⟨fun _ _ => rfl, .inl ⟨_, rfl, _, _, rfl, Nat.le_refl _, Nat.zero_le _, by first | exact Nat.zero_le _ | omega, fun q hq => by first | exact conv_eq rfl | (obtain rfl : q = 0 := (by simp at hq; exact hq); exact conv_eq rfl)⟩⟩, trivial⟩ rfl
                · (try simp only []); first | omega | grind
            · have hmi : m = i := by simp at h12; omega
              subst hmi
              refine WP.exit ?_
              refine WP.reg hT hE [] rfl ?_ ?_
              · first | trivial | (simp [holdsC, under, slOk, slB, capEq] <;> grind)
              refine ⟨m + 1, ?_, ?_, ?_⟩
              · refine ⟨hil, fun j hj => ?_⟩
                rcases Nat.lt_or_ge j m with h3 | h3
                · exact hcr j h3
                · obtain rfl : j = m := by omega
                  exact hq
              · refine Ent.mk hT [] trivial ⟨⟨rfl, _, rfl, by first | exact conv_eq rfl | (refine conv_eq ?_; rw [wrap_id (by omega) (by omega)]; simp; done) | (refine conv_eq ?_; simp; done)⟩, ⟨rfl, _, rfl, by first | exact conv_eq rfl | (refine conv_eq ?_; rw [wrap_id (by omega) (by omega)]; simp; done) | (refine conv_eq ?_; simp; done)⟩, ⟨rfl, _, rfl, by first | exact conv_eq rfl | (refine conv_eq ?_; rw [wrap_id (by omega) (by omega)]; simp; done) | (refine conv_eq ?_; simp; done)⟩, ⟨rfl, _, rfl, by first | exact conv_eq rfl | (refine conv_eq ?_; rw [wrap_id (by omega) (by omega)]; simp; done) | (refine conv_eq ?_; simp; done)⟩, ⟨rfl, _, rfl, by first | exact conv_eq rfl | (refine conv_eq ?_; rw [wrap_id (by omega) (by omega)]; simp; done) | (refine conv_eq ?_; simp; done)⟩, trivial⟩ ⟨⟨fun _ _ => rfl, .inl ⟨_, rfl, _, _, rfl, Nat.le_refl _, Nat.zero_le _, by first | exact Nat.zero_le _ | omega, fun q hq => by first | exact conv_eq rfl | (obtain rfl : q = 0 := (by simp at hq; exact hq); exact conv_eq rfl)⟩⟩, trivial⟩ rfl
              · (try simp only []); first | omega | grind
      · have hil : i = h.length := by simp at h6; omega
        subst hil
        have hml := mom_len h h.length
        generalize hmoms : momTo h h.length = ms at hml
        refine WP.exit ?_
        refine WP.seq ?_
        refine WP.reg hT hE [⟨true, [.s 41 0], .tup [], [cellsI 3 .i64 (sortI ms)]⟩] rfl ?_ ?_
        · have hs := sort_ac ms (by omega)
          exact ⟨⟨fun _ _ => rfl, trivial⟩, ⟨fun _ _ => rfl, trivial⟩, hs⟩
        refine WP.seq ?_
        refine WP.seq ?_
        refine WP.reg hT hE [] rfl ?_ ?_
        · simp [holdsC, under, nOf, nC, sort_len, cellsI]
        refine WP.seq ?_
        refine WP.reg hT hE [⟨true, [.s 41 0], .own (.b 0) ms.length 0 (dd (sortI ms) ms.length).length none, [.cells ⟨3, ms.length, fun j => .int ((dd (sortI ms) ms.length).getD j 0), 0⟩]⟩] rfl ?_ ?_
        · have hs := compact_ac (sortI ms)
          rw [sort_len] at hs
          exact ⟨⟨⟨fun _ _ => rfl, trivial⟩, ⟨fun _ _ => rfl, trivial⟩, hs⟩, rfl⟩
        refine WP.cond rfl (fun h20 => ?_) (fun h20 => ?_)
        · have hdis : ¬ ms.Nodup := by
            rw [← distinct_iff, sort_len]
            simp at h20
            omega
          refine WP.seq ?_
          refine WP.reg hT hE [] rfl ?_ ?_
          · first | trivial | (simp [holdsC, under, slOk, slB, capEq] <;> grind)
          refine WP.ret ?_
          change Fin _ _ _ _ _ _ _ _
          refine finI hT rfl (refCheck_bad ?_)
          rw [hist_iff hk hl8 hfs hcr, hmoms]
          exact hdis
        · have hdis : ms.Nodup := by
            rw [← distinct_iff, sort_len]
            simp at h20
            omega
          refine WP.skip ?_
          refine WP.seq ?_
          refine WP.reg hT hE [] rfl ?_ ?_
          · first | trivial | (simp [holdsC, under, slOk, slB, capEq] <;> grind)
          refine WP.ret ?_
          change Fin _ _ _ _ _ _ _ _
          refine finI hT rfl ?_
          unfold refCheck
          rw [if_pos ((hist_iff hk hl8 hfs hcr).2 (hmoms ▸ hdis))]
theorem lcheck0_ac (k : Int) (hk : ¬ (k = 1 ∨ k = 2 ∨ k = 3 ∨ k = 4)) (g : Bool) (h : List Cal) : AC Try.prog T tysN 12 [.int k, cals g h] [] (.int (refCheck k h)) [] := by
  refine AC_intro hT Try.func12 rfl rfl (Nat.le_of_ble_eq_true rfl) ?_
  refine WP.seq ?_
  refine WP.reg hT hE [] rfl ?_ ?_
  · first | trivial | (simp [holdsC, under, slOk, slB, capEq] <;> grind)
  refine WP.seq ?_
  refine WP.reg hT hE [CG.pure (.tup [noTh, .bool false])] rfl ?_ ?_
  · exact ⟨of_none k hk, rfl, Nat.le_refl _⟩
  refine WP.seq ?_
  refine WP.seq ?_
  refine WP.ent (st' := mkSt [(1, cals g h), (5, .rp 60 noTh), (6, .bool false)] []) ?_ ?_
  · refine Ent.mk hT [(.s 5 0, 1)] ⟨⟨_, rfl, Nat.le_refl _⟩, trivial⟩ ⟨⟨rfl, _, rfl, by first | exact conv_eq rfl | (refine conv_eq ?_; rw [wrap_id (by omega) (by omega)]; simp; done) | (refine conv_eq ?_; simp; done)⟩, ⟨rfl, _, rfl, conv_rpe rfl rfl (Nat.lt_succ_self 0) rfl rfl rfl⟩, ⟨rfl, _, rfl, by first | exact conv_eq rfl | (refine conv_eq ?_; rw [wrap_id (by omega) (by omega)]; simp; done) | (refine conv_eq ?_; simp; done)⟩, trivial⟩ trivial rfl
  refine WP.reg hT hE [CG.pure (.bool true)] rfl ?_ ?_
  · simp [holdsC, under, CG.pure]
  refine WP.cond rfl (fun h2 => ?_) (fun h2 => ?_)
  · refine WP.seq ?_
    refine WP.reg hT hE [] rfl ?_ ?_
    · first | trivial | (simp [holdsC, under, slOk, slB, capEq] <;> grind)
    refine WP.ret ?_
    change Fin _ _ _ _ _ _ _ _
    refine finI hT rfl (refCheck_bad ?_)
    rintro ⟨h1, h4, _⟩
    omega
  · simp at h2
theorem lcheck_ac (k : Int) (g : Bool) (h : List Cal) : AC Try.prog T tysN 12 [.int k, cals g h] [] (.int (refCheck k h)) [] := by
  by_cases hk : k = 1 ∨ k = 2 ∨ k = 3 ∨ k = 4
  · by_cases h12 : k = 1 ∨ k = 2
    · exact lcheck1_ac k hk (if_pos h12) g h
    · exact lcheck2_ac k hk _ (if_neg h12) g h
  · exact lcheck0_ac k hk g h
end Go.Ab


/- Ab, part 34: lists of data in blocks of ours. -/
set_option autoImplicit false
set_option linter.unusedVariables false
namespace Go.Ab
section
variable {T : Nat → TI} {α : Type}
/-- A list in a block of ours. -/
def cellsL (t : Nat) (enc : α → AV) (d : α) (l : List α) : Ob := .cells ⟨t, l.length, fun i => enc (l.getD i d), 0⟩
theorem appL {enc : α → AV} {d : α} {l : List α} {g : Nat → AV} {x : α} {y z : AV} {n : Nat} (hn : n = l.length) (hy : y = enc x) (hg : ∀ q, q < l.length → g q = enc (l.getD q d)) : ∀ q, q < (l ++ [x]).length → joinG n 1 g (partG [(0, y)] z) q = enc ((l ++ [x]).getD q d) := by
  subst hn hy
  intro q hq
  rw [List.length_append, List.length_singleton] at hq
  rcases Nat.lt_or_ge q l.length with h | h
  · rw [joinG_lt h, hg q h]
    simp only [List.getD_eq_getElem?_getD, List.getElem?_append_left h]
  · obtain rfl : q = l.length := by omega
    rw [joinG_ge (Nat.le_refl _) hq]
    simp [partG]
theorem ob_list {m : Id → Option Ob} {F : Id → Nat} {keep : List Id} {id : Id} {B : Blk} {t : Nat} {enc : α → AV} {d : α} {l : List α} {X : Prop} (hok : ∀ a, okIds keep (enc a) = true) (hm : m id = some (.cells B)) (ht : B.ty = t) (hn : B.n = l.length) (hz : B.fz = 0) (hF : F id = 0) (hg : ∀ q, q < l.length → B.get q = enc (l.getD q d)) :
    okO keep (cellsL t enc d l) ∧ ((∃ o', m id = some o' ∧ ObC m F T (F id) o' (cellsL t enc d l)) ∨ X) := by
  obtain ⟨ty, n, get, fz⟩ := B
  simp only at ht hn hz hg
  subst ht hn hz
  exact ⟨fun _ _ => hok _, .inl ⟨_, hm, _, _, rfl, Nat.le_refl _, by rw [hF]; exact Nat.le_refl _, Nat.zero_le _, fun q hq => conv_eq (hg q hq)⟩⟩
theorem set_list {enc : α → AV} {d : α} {l : List α} {i : Nat} {y : AV} {x : α} (h : i < l.length) (hy : y = enc x) (j : Nat) : (bif Nat.beq j i then y else enc (l.getD j d)) = enc ((l.set i x).getD j d) := by
  by_cases hj : j = i
  · subst hj; simp [h, hy]
  · rw [nbeq_ne hj, cond_false]
    simp only [List.getD_eq_getElem?_getD]
    rw [List.getElem?_set_ne (Ne.symm hj)]
theorem renO_list {σ : Id → Id} {t : Nat} {enc : α → AV} {d : α} {l : List α} (h : ∀ a, ren σ (enc a) = enc a) : renO σ (cellsL t enc d l) = cellsL t enc d l := by
  simp only [cellsL, renO, Ob.cells.injEq, Blk.mk.injEq, true_and, and_true]
  exact funext fun i => h _
theorem agg_ext {t n : Nat} {g h : Nat → AV} (H : ∀ i, g i = h i) : AV.agg t n g = .agg t n h := by rw [show g = h from funext H]
/-- A slice of ours as a row, where it is as it was. -/
theorem conv_rowL {m : Id → Option Ob} {F : Id → Nat} {e len : Nat} {f f' : Bool} {g g' : Nat → AV} (hf : f' = true → f = true) (h : ∀ j, j < len → g j = g' j) : Conv m F T (.row e f len g) (.row e f' len g') := ⟨f', g', rfl, hf, fun j hj => conv_eq (h j hj)⟩
end
section
variable {P : Program} {T : Nat → TI} {N nt nb : Nat}
theorem Fin.ent {rs : List ResultVar} {r : AV} {B' : List Ob} {st st' : St} (h : Ent T N nt nb st st') (k : Fin T N nt nb rs r B' st') : Fin T N nt nb rs r B' st := by
  obtain ⟨ts, h1, h2⟩ := k
  exact ⟨ts, h.trans h1, h2⟩
end
end Go.Ab
