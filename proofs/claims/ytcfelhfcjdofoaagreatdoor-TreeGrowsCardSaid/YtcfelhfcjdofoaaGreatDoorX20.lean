/- Part 21 of a proof of a statement about the given program: an abstract machine over the model, proved sound, and contracts of the functions that the statement reaches; the last part proves the statement, for every input, with no condition. -/
import Derived.Test.YtcfelhfcjdofoaaGreatDoorX19
set_option linter.unusedSimpArgs false
set_option linter.unusedVariables false
/- The tree of runs: searched, All. -/
set_option autoImplicit false
set_option maxRecDepth 20000
set_option maxHeartbeats 4000000
set_option linter.unusedSimpArgs false
set_option linter.unusedVariables false
namespace Go.Ab
open Go.Proofs
theorem on_ih {p : PProg} {b : PBud} (hb : budP b) : ∀ k, onIH p b k
  | 0 => fun s picks t h1 h2 h3 => on_step p b hb 0 (fun _ e => by cases e) s picks t h1 h2 h3
  | k + 1 => fun s picks t h1 h2 h3 => on_step p b hb (k + 1) (fun j e => by cases e; exact on_ih hb k) s picks t h1 h2 h3
def ts0 : TS := ⟨[], [], false, false, false⟩
def treeT (p : PProg) (b : PBud) : TS := if fitsF p 0 b = 0 then onF p b b.steps.toNat (startF p b.fuel).1 [] ts0 else ts0
def wholeT (p : PProg) (b : PBud) : Bool := decide (fitsF p 0 b = 0) && !(treeT p b).over && !(treeT p b).short && !(treeT p b).spun
abbrev rowRun (l : List PRun) : AV := rowP 45 encRun run0 l
abbrev rowSt (l : List PSt) : AV := rowP 62 encS st0 l
def encFound (L : List PRun) (E : List PSt) : AV := stru 105 [rowRun L, rowSt E]
def encXi (i : Id) (p : PProg) (b : PBud) (t : TS) : AV := stru 206 [encProg p, encBud b, .clo 99 [.ptr i 1 0 [], .rp 28 (encBud b)], .bool t.spun, .bool t.short, .bool t.over]
theorem ren_Xi {σ : Id → Id} {i j : Id} (h1 : σ i = j) (p : PProg) (b : PBud) (t : TS) : ren σ (encXi i p b t) = encXi j p b t := agg_ext (fun q => by
  match q with
  | 0 => exact ren_prog σ p
  | 1 => exact ren_bud σ b
  | 2 => show AV.clo _ [.ptr (σ i) 1 0 [], .rp _ (encBud b)] = _; rw [h1]; rfl
  | 3 | 4 | 5 | q + 6 => rfl)
theorem on0_ac {p : PProg} {b : PBud} (hb : budP b) (ids : List Id) (s : PSt) (h2 : OkS s) {x f i j : Id} (hf : sig [x, f, i, j] 0 f = .b 1) (hi : sig [x, f, i, j] 0 i = .b 2) (hj : sig [x, f, i, j] 0 j = .b 3) : AC Tryz.prog T tysN 102 [.ptr (.b 0) 1 0 [], ren (sig [x, f, i, j] 0) (encS s), .v (.slice none 0 0)] [renO (sig [x, f, i, j] 0) (.cells ⟨206, 1, fun _ => encXi f p b ts0, 0⟩), renO (sig [x, f, i, j] 0) (foundO 0 0 i j), renO (sig [x, f, i, j] 0) (runsO []), renO (sig [x, f, i, j] 0) (endsO [])] (.tup []) [xO p b (onF p b b.steps.toNat s [] ts0), fO (onF p b b.steps.toNat s [] ts0), runsO (onF p b b.steps.toNat s [] ts0).runs, endsO (onF p b b.steps.toNat s [] ts0).ends] := by
  have e : renO (sig [x, f, i, j] 0) (.cells ⟨206, 1, fun _ => encXi f p b ts0, 0⟩) = xO p b ts0 := by
    show Ob.cells ⟨_, _, fun _ => ren _ (encXi f p b ts0), _⟩ = _
    rw [ren_Xi hf]; rfl
  rw [ren_S, e, renO_found hi hj, renO_list (ren_run _), renO_list (ren_S _)]
  refine AC.args hT (on_ih hb b.steps.toNat s [] ts0 (by simp) h2 rfl) rfl (fun i a c ha hc => ?_)
  match i, ha, hc with
  | 0, ha, hc => cases ha; cases hc; exact conv_eq rfl
  | 1, ha, hc => cases ha; cases hc; exact conv_eq rfl
  | 2, ha, hc => cases ha; cases hc; exact conv_nil_row (by decide)
theorem searched_ac (p : PProg) (b : PBud) : AC Tryz.prog T tysN 53 [encProg p, encBud b] [] (.tup [encFound (treeT p b).runs (treeT p b).ends, .bool (wholeT p b), .int (fitsF p 0 b)]) [] := by
 refine AC_intro hT Tryz.func53 rfl rfl (Nat.le_of_ble_eq_true rfl) ?_
 refine sq (rg [] rfl ?_)
 refine sq (sq ?_)
 refine WP.ent (st' := mkSt [(2, .rp 26 (encProg p)), (3, .rp 28 (encBud b)), (5, .bool false), (4, .ptr (.s 4 0) 1 0 [])] [(.s 4 0, .cells ⟨105, 1, fun _ => (T 105).zero, 0⟩)]) (em [(.s 2 0, 1), (.s 3 0, 1)] ⟨sF, sF, trivial⟩ ⟨⟨rfl, _, rfl, rpv⟩, ⟨rfl, _, rfl, rpv⟩, ⟨rfl, _, rfl, cvt⟩, ⟨rfl, _, rfl, cvt⟩, trivial⟩ ⟨obs rfl, trivial⟩) ?_
 refine rgs [CG.pure (.int (fitsF p 0 b))] rfl ?_ ?_
 ·have hq := begun_ac p b
  simp only [holdsC, under, CG.pure]
  repeat' with_reducible refine And.intro ?_ ?_
  all_goals (try with_reducible intros)
  all_goals (first | exact trivial | assumption | omega | exact hq | (simp; done) | grind)
 refine sq (rg [] rfl ?_)
 refine cd rfl (fun h2 => ?_) (fun h2 => ?_)
 ·have hf : fitsF p 0 b ≠ 0 := by simpa using h2
  refine sq (rg [] rfl ?_)
  refine WP.ret ?_
  change Fin ..
  rw [wholeT, treeT, if_neg hf, decide_eq_false hf]
  exact finC3 hT [] trivial rfl rfl rfl rfl ⟨_, rfl, fun i hi => by match i with | 0 => exact conv_nil_row (by decide) | 1 => exact conv_nil_row (by decide) | i + 2 => exact absurd hi (by simp)⟩ rfl rfl
 ·have hf : fitsF p 0 b = 0 := by simpa using h2
  have hb := (fits0 hf).2.2
  refine sk (sq (rg [] rfl ?_))
  refine sq (rg [] rfl ?_)
  refine sq (rgs [CG.pure (.tup [encS (startF p b.fuel).1, .int (startF p b.fuel).2])] rfl ?_ ?_)
  ·have hq := start_ac p b.fuel
   simp only [holdsC, under, CG.pure]
   repeat' with_reducible refine And.intro ?_ ?_
   all_goals (try with_reducible intros)
   all_goals (first | exact trivial | assumption | omega | exact hq | (simp; done) | grind)
  refine sq ?_
  refine WP.ent (st' := mkSt [(2, .rp 26 (encProg p)), (3, .rp 28 (encBud b)), (4, .ptr (.s 4 0) 1 0 []), (8, .ptr (.s 8 0) 1 0 []), (9, .ptr (.s 23 0) 1 0 []), (10, .rp 62 (encS (startF p b.fuel).1))] [(.s 4 0, .cells ⟨105, 1, fun _ => (T 105).zero, 0⟩), (.s 8 0, foundO 0 0 (.s 900 0) (.s 901 0)), (.s 23 0, .cells ⟨206, 1, fun _ => encXi (.s 8 0) p b ts0, 0⟩), (.s 900 0, runsO []), (.s 901 0, endsO [])]) ?_ ?_
  ·refine em [(.s 10 0, 1)] ⟨sF, trivial⟩ ⟨⟨rfl, _, rfl, cvt⟩, ⟨rfl, _, rfl, cvt⟩, ⟨rfl, _, rfl, cvt⟩, ⟨rfl, _, rfl, cvt⟩, ⟨rfl, _, rfl, cvt⟩, ⟨rfl, _, rfl, rpv⟩, trivial⟩ ⟨obs rfl, obs rfl (hg := q0 ⟨_, rfl, fun i hi => by match i with | 0 => exact conv_nil_own | 1 => exact conv_nil_own | i + 2 => exact absurd hi (by simp)⟩), obs rfl (hg := q0 (conv_eq (agg_ext fun q => by match q with | 0 | 1 | 2 | 3 | 4 | 5 | q + 6 => rfl))), ⟨fun _ _ => rfl, .inr ⟨rfl, 45, _, rfl, by decide⟩⟩, ⟨fun _ _ => rfl, .inr ⟨rfl, 62, _, rfl, by decide⟩⟩, trivial⟩
  refine rgs [⟨true, [.s 23 0, .s 8 0, .s 900 0, .s 901 0], .tup [], [xO p b (onF p b b.steps.toNat (startF p b.fuel).1 [] ts0), fO (onF p b b.steps.toNat (startF p b.fuel).1 [] ts0), runsO (onF p b b.steps.toNat (startF p b.fuel).1 [] ts0).runs, endsO (onF p b b.steps.toNat (startF p b.fuel).1 [] ts0).ends]⟩] rfl ?_ ?_
  ·have hq := on0_ac (p := p) hb [] (startF p b.fuel).1 start_ok (x := .s 23 0) (f := .s 8 0) (i := .s 900 0) (j := .s 901 0) rfl rfl rfl
   have hk1 : okOs [.s 23 0, .s 8 0, .s 900 0, .s 901 0] [.cells ⟨206, 1, fun _ => encXi (.s 8 0) p b ts0, 0⟩, foundO 0 0 (.s 900 0) (.s 901 0), runsO [], endsO []] := ⟨fun _ _ => rfl, fun _ _ => rfl, fun _ _ => rfl, fun _ _ => rfl, trivial⟩
   have hk2 : okOs (bs 4) [xO p b (onF p b b.steps.toNat (startF p b.fuel).1 [] ts0), fO (onF p b b.steps.toNat (startF p b.fuel).1 [] ts0), runsO (onF p b b.steps.toNat (startF p b.fuel).1 [] ts0).runs, endsO (onF p b b.steps.toNat (startF p b.fuel).1 [] ts0).ends] := okOs_x rfl rfl
   simp only [holdsC, under, CG.pure]
   repeat' with_reducible refine And.intro ?_ ?_
   all_goals (try with_reducible intros)
   all_goals (first | exact trivial | assumption | omega | exact hq | exact hk1 | exact hk2 | (simp; done) | grind)
  refine sq ?_
  obtain ⟨z, hz⟩ : ∃ z, onF p b b.steps.toNat (startF p b.fuel).1 [] ts0 = z := ⟨_, rfl⟩
  have hz0 : treeT p b = z := by rw [treeT, if_pos hf, hz]
  rw [hz]
  refine WP.ent (st' := mkSt [(4, .ptr (.s 4 0) 1 0 []), (8, .ptr (.s 8 0) 1 0 []), (9, .ptr (.s 23 0) 1 0 [])] [(.s 4 0, .cells ⟨105, 1, fun _ => (T 105).zero, 0⟩), (.s 8 0, foundO z.runs.length z.ends.length (.s 900 0) (.s 901 0)), (.s 23 0, .cells ⟨206, 1, fun _ => encXi (.s 8 0) p b z, 0⟩), (.s 900 0, runsO z.runs), (.s 901 0, endsO z.ends)]) ?_ ?_
  ·refine em [] trivial ⟨⟨rfl, _, rfl, cvt⟩, ⟨rfl, _, rfl, cvt⟩, ⟨rfl, _, rfl, cvt⟩, trivial⟩ ⟨obs rfl, obs rfl (hg := q0 (conv_eq (ren_found rfl rfl))), obs rfl (hg := q0 (conv_eq (ren_Xi (i := .b 1) rfl p b z))), obs rfl (hg := fun q hq => conv_eq (ren_run _ _)), obs rfl (hg := fun q hq => conv_eq (ren_S _ _)), trivial⟩
  refine dr [] rfl ?_
  refine WP.ret ?_
  change Fin ..
  rw [wholeT, hz0, hf]
  refine finC3 hT [(.s 900 0, z.runs.length), (.s 901 0, z.ends.length)] ⟨⟨_, rfl, Nat.le_refl _⟩, ⟨_, rfl, Nat.le_refl _⟩, trivial⟩ rfl rfl rfl rfl ⟨_, rfl, fun i hi => by match i with | 0 => exact conv_row rfl rfl rfl (fun h => by cases h) (by simp [lookF, idbeq_self]) (fun q hq => by rw [Nat.zero_add]; exact ⟨rfl, AEq.refl _⟩) | 1 => exact conv_row rfl rfl rfl (fun h => by cases h) (by rw [Nat.zero_add]; exact Nat.le_refl _) (fun q hq => by rw [Nat.zero_add]; exact ⟨rfl, AEq.refl _⟩) | i + 2 => exact absurd hi (by simp)⟩ ?_ rfl
  cases z.over <;> cases z.short <;> cases z.spun <;> rfl
theorem all_ac (p : PProg) (b : PBud) : AC Tryz.prog T tysN 16 [encProg p, encBud b] [] (.tup [stru 32 [rowRun (treeT p b).runs, .bool (wholeT p b)], .int (fitsF p 0 b)]) [] := by
 refine AC_intro hT Tryz.func16 rfl rfl (Nat.le_of_ble_eq_true rfl) ?_
 refine sq (rg [] rfl ?_)
 refine sq ?_
 refine WP.ent (st' := mkSt [(2, .rp 26 (encProg p)), (3, .rp 28 (encBud b)), (4, .ptr (.s 4 0) 1 0 [])] [(.s 4 0, .cells ⟨32, 1, fun _ => (T 32).zero, 0⟩)]) (em [(.s 2 0, 1), (.s 3 0, 1)] ⟨sF, sF, trivial⟩ ⟨⟨rfl, _, rfl, rpv⟩, ⟨rfl, _, rfl, rpv⟩, ⟨rfl, _, rfl, cvt⟩, trivial⟩ ⟨obs rfl, trivial⟩) ?_
 refine rgs [CG.pure (.tup [encFound (treeT p b).runs (treeT p b).ends, .bool (wholeT p b), .int (fitsF p 0 b)])] rfl ?_ ?_
 ·have hq := searched_ac p b
  simp only [holdsC, under, CG.pure]
  repeat' with_reducible refine And.intro ?_ ?_
  all_goals (try with_reducible intros)
  all_goals (first | exact trivial | assumption | omega | exact hq | (simp; done) | grind)
 refine sq (rg [] rfl ?_)
 refine WP.ret ?_
 change Fin ..
 exact finCT hT rfl rfl rfl (conv_eq (agg_ext fun q => by match q with | 0 | 1 | q + 2 => rfl)) rfl
end Go.Ab


/- The plain comparisons: SamePicks, SameRuns. -/
set_option autoImplicit false
set_option maxRecDepth 20000
set_option maxHeartbeats 4000000
set_option linter.unusedSimpArgs false
set_option linter.unusedVariables false
namespace Go.Ab
open Go.Proofs
theorem eqPk_v (a b : PPick) : (a == b) = (a.go == b.go && (a.alt == b.alt && true)) := by
  obtain ⟨x, y⟩ := a
  obtain ⟨z, w⟩ := b
  rw [Bool.eq_iff_iff]
  simp
theorem samePk_ac (a b : List PPick) : AC Tryz.prog T tysN 21 [rowPk a, rowPk b] [] (.bool (decide (a = b))) [] := by
 refine AC_intro hT Tryz.func21 rfl rfl (Nat.le_of_ble_eq_true rfl) ?_
 refine WP.rowlen 0 rfl (fun hla => ?_)
 refine sq (rg [] rfl ?_)
 refine sq (sq (rg [] rfl ?_))
 refine cd rfl (fun h1 => ?_) (fun h1 => ?_)
 ·have hne : a.length ≠ b.length := by simp at h1; omega
  refine sq (rg [] rfl ?_)
  refine WP.ret ?_
  change Fin ..
  exact fin1 hT (by rfl) (by simp; rintro rfl; exact hne rfl)
 ·have hlen : a.length = b.length := by simp at h1; omega
  refine sk (sq (sq (rg [] rfl ?_)))
  refine bk ?_
  refine WP.loop (α := Nat) (fun i => mkSt [(0, rowPk a), (1, rowPk b), (12, .int a.length), (13, .int i)] []) (fun i => i ≤ a.length ∧ ∀ j, j < i → a.getD j pick0 = b.getD j pick0) (fun i => a.length - i) ?_ ?_
  ·refine ⟨0, ?_, ?_⟩
   ·exact ⟨Nat.zero_le _, fun j hj => by omega⟩
   ·refine em [] trivial ⟨⟨rfl, _, rfl, cvt⟩, ⟨rfl, _, rfl, cvt⟩, ⟨rfl, _, rfl, cvt⟩, ⟨rfl, _, rfl, cvt⟩, trivial⟩ trivial
  ·rintro i ⟨hi, heq⟩
   refine sq (rg [] rfl ?_)
   refine sq ?_
   refine cd rfl (fun h4 => ?_) (fun h4 => ?_)
   ·have hil : i < a.length := by simpa using h4
    refine sk (sq (bk (sq (rg [] rfl ?_))))
    refine sq (drs [] rfl ?_ ?_)
    ·simp only [holdsC, under, CG.pure]
     repeat' with_reducible refine And.intro ?_ ?_
     all_goals (try with_reducible intros)
     all_goals (first | exact trivial | assumption | omega | (simp; done) | grind)
    refine cd rfl (fun h6 => ?_) (fun h6 => ?_)
    ·have hne : a.getD i pick0 ≠ b.getD i pick0 := by
       have e : (!(a.getD i pick0 == b.getD i pick0)) = true := (congrArg Bool.not (eqPk_v _ _)).trans h6
       simpa using e
     refine sq (rg [] rfl ?_)
     refine WP.ret ?_
     change Fin ..
     exact fin1 hT (by rfl) (by simp; rintro rfl; exact hne rfl)
    ·have he : a.getD i pick0 = b.getD i pick0 := by
       have e : (!(a.getD i pick0 == b.getD i pick0)) = false := (congrArg Bool.not (eqPk_v _ _)).trans h6
       simpa using e
     refine sk (rg [] rfl ?_)
     refine ⟨i + 1, ?_, ?_, ?_⟩
     ·refine ⟨hil, fun j hj => ?_⟩
      rcases Nat.lt_or_ge j i with h | h
      · exact heq j h
      · obtain rfl : j = i := by omega
        exact he
     ·refine em [] trivial ⟨⟨rfl, _, rfl, cvt⟩, ⟨rfl, _, rfl, cvt⟩, ⟨rfl, _, rfl, cvt⟩, ⟨rfl, _, rfl, cvt⟩, trivial⟩ trivial
     ·(try simp only []); first | omega | grind
   ·have hil : i = a.length := by simp at h4; omega
    subst hil
    refine xt (sq (rg [] rfl ?_))
    refine WP.ret ?_
    change Fin ..
    refine fin1 hT (by rfl) ?_
    symm
    simp only [decide_eq_true_eq]
    refine List.ext_getElem hlen (fun j h1 h2 => ?_)
    have := heq j h1
    simpa [h1, h2] using this
structure PRuns where
  all : List PRun
  whole : Bool
  deriving DecidableEq
def encRuns (x : PRuns) : AV := stru 32 [rowP 45 encRun run0 x.all, .bool x.whole]
def sameRs (a b : PRuns) : Bool := decide (a = b)
theorem sameRs_ac (x y : PRuns) : AC Tryz.prog T tysN 18 [encRuns x, encRuns y] [] (.bool (sameRs x y)) [] := by
 refine AC_intro hT Tryz.func18 rfl rfl (Nat.le_of_ble_eq_true rfl) ?_
 refine sq (rg [] rfl ?_)
 refine sq (sq ?_)
 refine WP.ent (st' := mkSt [(2, .rp 32 (encRuns x)), (3, .rp 32 (encRuns y))] []) (em [(.s 2 0, 1), (.s 3 0, 1)] ⟨sF, sF, trivial⟩ ⟨⟨rfl, _, rfl, rpv⟩, ⟨rfl, _, rfl, rpv⟩, trivial⟩ trivial) ?_
 refine rg [] rfl ?_
 refine cd rfl (fun h1 => ?_) (fun h1 => ?_)
 ·have hne : x ≠ y := by
    rintro rfl
    simp only [bor] at h1
    simp at h1
  refine sq (rg [] rfl ?_)
  refine WP.ret ?_
  change Fin ..
  exact fin1 hT (by rfl) (by simp [sameRs, hne])
 ·have hlen : x.all.length = y.all.length ∧ x.whole = y.whole := by
    cases hw : ((x.all.length : Int) != y.all.length) with
    | true => rw [hw] at h1; cases h1
    | false => rw [hw] at h1; exact ⟨Int.ofNat_inj.1 (bne_eq_false_iff_eq.1 hw), by simpa using h1⟩
  obtain ⟨hlen, hwh⟩ := hlen
  refine sk (sq (sq (rg [] rfl ?_)))
  refine WP.rowlen 23 rfl (fun hla => ?_)
  refine bk ?_
  refine WP.loop (α := Nat) (fun i => mkSt [(2, .rp 32 (encRuns x)), (3, .rp 32 (encRuns y)), (24, .int x.all.length), (25, .int i)] []) (fun i => i ≤ x.all.length ∧ ∀ j, j < i → x.all.getD j run0 = y.all.getD j run0) (fun i => x.all.length - i) ?_ ?_
  ·refine ⟨0, ?_, ?_⟩
   ·exact ⟨Nat.zero_le _, fun j hj => by omega⟩
   ·refine em [] trivial ⟨⟨rfl, _, rfl, cvt⟩, ⟨rfl, _, rfl, cvt⟩, ⟨rfl, _, rfl, cvt⟩, ⟨rfl, _, rfl, cvt⟩, trivial⟩ trivial
  ·rintro i ⟨hi, heq⟩
   refine sq (rg [] rfl ?_)
   refine sq ?_
   refine cd rfl (fun h4 => ?_) (fun h4 => ?_)
   ·have hil : i < x.all.length := by simpa using h4
    refine sk (sq (bk (sq (rg [] rfl ?_))))
    refine sq (rg [] rfl ?_)
    refine sq (rg [] rfl ?_)
    refine sq ?_
    refine WP.ent (st' := mkSt [(2, .rp 32 (encRuns x)), (3, .rp 32 (encRuns y)), (6, .rp 45 (encRun (x.all.getD i run0))), (7, .rp 45 (encRun (y.all.getD i run0))), (24, .int x.all.length), (25, .int i)] []) ?_ ?_
    ·refine em [(.s 6 0, 1), (.s 7 0, 1)] ⟨sF, sF, trivial⟩ ⟨⟨rfl, _, rfl, cvt⟩, ⟨rfl, _, rfl, cvt⟩, ⟨rfl, _, rfl, rpv⟩, ⟨rfl, _, rfl, rpv⟩, ⟨rfl, _, rfl, cvt⟩, ⟨rfl, _, rfl, cvt⟩, trivial⟩ trivial
    refine rgs [CG.pure (.bool (decide ((x.all.getD i run0).picks = (y.all.getD i run0).picks)))] rfl ?_ ?_
    ·have hq := samePk_ac (x.all.getD i run0).picks (y.all.getD i run0).picks
     simp only [holdsC, under, CG.pure]
     repeat' with_reducible refine And.intro ?_ ?_
     all_goals (try with_reducible intros)
     all_goals (first | exact trivial | assumption | omega | exact hq | (simp; done) | grind)
    refine cd rfl (fun h8 => ?_) (fun h8 => ?_)
    ·have hne : x.all.getD i run0 ≠ y.all.getD i run0 := by
       intro e
       simp only [bor] at h8
       rw [e] at h8
       simp at h8
     refine sq (rg [] rfl ?_)
     refine WP.ret ?_
     change Fin ..
     exact fin1 hT (by rfl) (by simp [sameRs]; rintro rfl; exact hne rfl)
    ·have he : x.all.getD i run0 = y.all.getD i run0 := by
       obtain ⟨a, ha⟩ : ∃ a, x.all.getD i run0 = a := ⟨_, rfl⟩
       obtain ⟨b, hb⟩ : ∃ b, y.all.getD i run0 = b := ⟨_, rfl⟩
       rw [ha, hb] at h8 ⊢
       obtain ⟨p1, c1, r1⟩ := a
       obtain ⟨p2, c2, r2⟩ := b
       simp only [bor] at h8
       simp at h8
       simp [h8]
     refine sk (rg [] rfl ?_)
     refine ⟨i + 1, ?_, ?_, ?_⟩
     ·refine ⟨hil, fun j hj => ?_⟩
      rcases Nat.lt_or_ge j i with h | h
      · exact heq j h
      · obtain rfl : j = i := by omega
        exact he
     ·refine em [] trivial ⟨⟨rfl, _, rfl, cvt⟩, ⟨rfl, _, rfl, cvt⟩, ⟨rfl, _, rfl, cvt⟩, ⟨rfl, _, rfl, cvt⟩, trivial⟩ trivial
     ·(try simp only []); first | omega | grind
   ·have hil : i = x.all.length := by simp at h4; omega
    subst hil
    refine xt (sq (rg [] rfl ?_))
    refine WP.ret ?_
    change Fin ..
    refine fin1 hT (by rfl) ?_
    symm
    simp only [sameRs, decide_eq_true_eq]
    obtain ⟨xa, xw⟩ := x
    obtain ⟨ya, yw⟩ := y
    simp only at hlen hwh heq
    simp only [PRuns.mk.injEq]
    refine ⟨List.ext_getElem hlen (fun j h1 h2 => ?_), hwh⟩
    have := heq j h1
    simpa [h1, h2] using this
end Go.Ab


/- The tree of runs: what is found; how it grows. -/
set_option autoImplicit false
set_option maxRecDepth 20000
set_option maxHeartbeats 4000000
set_option linter.unusedSimpArgs false
set_option linter.unusedVariables false
namespace Go.Ab
open Go.Proofs
def lvs (p : PProg) (n : Int) : Nat → PSt → List PPick → List (PRun × PSt)
  | 0, s, picks => [(⟨picks, !(readyL p s).isEmpty, false⟩, s)]
  | k + 1, s, picks => if readyL p s = [] then [(⟨picks, false, false⟩, s)] else (readyL p s).flatMap fun x => lvs p n k (doF p s x n).1 (picks ++ [x])
def spinB (s : PSt) : Bool := spunTo false s 6
def spn (p : PProg) (n : Int) : Nat → PSt → Bool
  | 0, s => spinB s
  | k + 1, s => spinB s || (readyL p s).any fun x => spn p n k (doF p s x n).1
theorem spunTo_or (z : Bool) (s : PSt) : ∀ k, spunTo z s k = (z || spunTo false s k)
  | 0 => by simp [spunTo]
  | k + 1 => by rw [spunTo, spunTo, spunTo_or z s k, Bool.or_assoc]
structure Rd (b : PBud) (t : TS) (L : List (PRun × PSt)) (sp : Bool) (r : TS) : Prop where
  runs : r.runs = (t.runs ++ L.map (·.1)).take b.runs.toNat
  ends : r.ends = (t.ends ++ L.map (·.2)).take b.runs.toNat
  over : r.over = decide (b.runs.toNat < t.runs.length + L.length)
  spun : r.over = false → r.spun = (t.spun || sp)
  short : r.over = false → r.short = (t.short || L.any fun x => x.1.cut)
structure TsOk (b : PBud) (t : TS) : Prop where
  len : t.runs.length ≤ b.runs.toNat
  even : t.ends.length = t.runs.length
theorem Rd.ok {b : PBud} {t : TS} {L : List (PRun × PSt)} {sp : Bool} {r : TS} (ht : TsOk b t) (h : Rd b t L sp r) : TsOk b r :=
  ⟨by rw [h.runs, List.length_take]; omega, by rw [h.runs, h.ends, List.length_take, List.length_take]; simp [ht.even]⟩
theorem Rd.comp {b : PBud} {t r1 r2 : TS} {L1 L2 : List (PRun × PSt)} {sp1 sp2 : Bool} (ht : TsOk b t) (h1 : Rd b t L1 sp1 r1) (ho : r1.over = true → r2 = r1) (h2 : r1.over = false → Rd b r1 L2 sp2 r2) : Rd b t (L1 ++ L2) (sp1 || sp2) r2 := by
  cases hov : r1.over with
  | true =>
    rw [ho hov]
    have hlt : b.runs.toNat < t.runs.length + L1.length := by have := h1.over; rw [hov] at this; exact of_decide_eq_true this.symm
    refine ⟨?_, ?_, ?_, fun h => (by rw [hov] at h; cases h), fun h => (by rw [hov] at h; cases h)⟩
    · rw [h1.runs, List.map_append, ← List.append_assoc, List.take_append_of_le_length (l₁ := t.runs ++ L1.map (·.1)) (by rw [List.length_append, List.length_map]; omega)]
    · rw [h1.ends, List.map_append, ← List.append_assoc, List.take_append_of_le_length (l₁ := t.ends ++ L1.map (·.2)) (by rw [List.length_append, List.length_map, ht.even]; omega)]
    · rw [hov, List.length_append]; symm; exact decide_eq_true (by omega)
  | false =>
    have h2 := h2 hov
    have hle : t.runs.length + L1.length ≤ b.runs.toNat := by have := h1.over; rw [hov] at this; have := of_decide_eq_false this.symm; omega
    have e1 : r1.runs = t.runs ++ L1.map (·.1) := by rw [h1.runs, List.take_of_length_le]; rw [List.length_append, List.length_map]; exact hle
    have e2 : r1.ends = t.ends ++ L1.map (·.2) := by rw [h1.ends, List.take_of_length_le]; rw [List.length_append, List.length_map, ht.even]; exact hle
    refine ⟨?_, ?_, ?_, fun h => ?_, fun h => ?_⟩
    · rw [h2.runs, e1, List.map_append, List.append_assoc]
    · rw [h2.ends, e2, List.map_append, List.append_assoc]
    · rw [h2.over, e1, List.length_append, List.length_append, List.length_map, Nat.add_assoc]
    · rw [h2.spun h, h1.spun hov, Bool.or_assoc]
    · rw [h2.short h, h1.short hov, List.any_append, Bool.or_assoc]
theorem leaf_rd {b : PBud} (hb : 0 ≤ b.runs) {s : PSt} {picks : List PPick} {c : Bool} {t : TS} (ht : TsOk b t) (ho : t.over = false) : Rd b t [(⟨picks, c, false⟩, s)] false (leafF b s picks c t) := by
  have h1 := ht.len
  have h2 := ht.even
  unfold leafF
  split
  · rename_i hb0
    have hge : t.runs.length = b.runs.toNat := by unfold tellB at hb0; have := of_decide_eq_false hb0; omega
    refine ⟨?_, ?_, ?_, fun h => (by cases h), fun h => (by cases h)⟩
    · show t.runs = _
      rw [List.take_append_of_le_length (by omega), List.take_of_length_le (by omega)]
    · show t.ends = _
      rw [List.take_append_of_le_length (by omega), List.take_of_length_le (by omega)]
    · show true = _
      symm; exact decide_eq_true (by simp; omega)
  · rename_i hb0
    have hlt : t.runs.length < b.runs.toNat := by unfold tellB at hb0; simp at hb0; omega
    refine ⟨?_, ?_, ?_, fun h => by simp, fun h => by simp⟩
    · rw [List.take_of_length_le (by simp; omega)]; rfl
    · rw [List.take_of_length_le (by simp; omega)]; rfl
    · show t.over = _
      rw [ho]; symm; exact decide_eq_false (by simp; omega)
theorem rd_spin {b : PBud} {t r : TS} {L : List (PRun × PSt)} {sp : Bool} {s : PSt} (h : Rd b (spinT t s 6) L sp r) : Rd b t L (spinB s || sp) r :=
  ⟨h.runs, h.ends, h.over, fun ho => by rw [h.spun ho]; show (spunTo t.spun s 6 || sp) = _; rw [spunTo_or, Bool.or_assoc]; rfl, h.short⟩
theorem fold_rd {b : PBud} {p : PProg} {k : Nat} {s : PSt} {picks : List PPick} (ih : ∀ (s : PSt) (picks : List PPick) (t : TS), TsOk b t → t.over = false → Rd b t (lvs p b.fuel k s picks) (spn p b.fuel k s) (onF p b k s picks t)) :
    ∀ (l : List PPick) (t : TS), TsOk b t → t.over = false → Rd b t (l.flatMap fun x => lvs p b.fuel k (doF p s x b.fuel).1 (picks ++ [x])) (l.any fun x => spn p b.fuel k (doF p s x b.fuel).1) (l.foldl (rndX p b k s picks) t)
  | [], t, ht, ho => ⟨by simp [List.take_of_length_le ht.len], by simp [List.take_of_length_le (show t.ends.length ≤ _ by rw [ht.even]; exact ht.len)], by rw [List.foldl_nil, ho]; symm; exact decide_eq_false (by have := ht.len; simp; omega), fun _ => by simp, fun _ => by simp⟩
  | x :: l, t, ht, ho => by
    have e : rndX p b k s picks t x = onF p b k (doF p s x b.fuel).1 (picks ++ [x]) t := if_neg (by rw [ho]; decide)
    have h1 := ih (doF p s x b.fuel).1 (picks ++ [x]) t ht ho
    rw [List.foldl_cons, e, List.flatMap_cons, List.any_cons]
    refine Rd.comp ht h1 (fun h => fold_over l _ h) (fun h => fold_rd ih l _ (h1.ok ht) h)
theorem on_rd {b : PBud} (hb : 0 ≤ b.runs) {p : PProg} : ∀ (k : Nat) (s : PSt) (picks : List PPick) (t : TS), TsOk b t → t.over = false → Rd b t (lvs p b.fuel k s picks) (spn p b.fuel k s) (onF p b k s picks t)
  | 0, s, picks, t, ht, ho => by
    have h := rd_spin (leaf_rd (s := s) (picks := picks) (c := !(readyL p s).isEmpty) hb (t := spinT t s 6) ⟨ht.len, ht.even⟩ ho)
    rw [Bool.or_false] at h
    exact h
  | k + 1, s, picks, t, ht, ho => by
    by_cases hz : readyL p s = []
    · have h := rd_spin (leaf_rd (s := s) (picks := picks) (c := false) hb (t := spinT t s 6) ⟨ht.len, ht.even⟩ ho)
      rw [onF, if_pos hz, lvs, if_pos hz, spn, hz]
      exact h
    · have h := rd_spin (fold_rd (on_rd hb (p := p) k) (s := s) (picks := picks) (readyL p s) (spinT t s 6) ⟨ht.len, ht.even⟩ ho)
      rw [on_fold hz, lvs, if_neg hz, spn]
      exact h
abbrev lvT (p : PProg) (b : PBud) : List (PRun × PSt) := lvs p b.fuel b.steps.toNat (startF p b.fuel).1 []
abbrev spT (p : PProg) (b : PBud) : Bool := spn p b.fuel b.steps.toNat (startF p b.fuel).1
theorem tree_rd {p : PProg} {b : PBud} (hf : fitsF p 0 b = 0) : Rd b ts0 (lvT p b) (spT p b) (treeT p b) := by
  rw [treeT, if_pos hf]
  exact on_rd (fits0 hf).2.2.2.2.1 _ _ _ _ ⟨Nat.zero_le _, rfl⟩ rfl
theorem tree_runs {p : PProg} {b : PBud} (hf : fitsF p 0 b = 0) : (treeT p b).runs = ((lvT p b).map (·.1)).take b.runs.toNat := (tree_rd hf).runs
theorem tree_whole {p : PProg} {b : PBud} (hf : fitsF p 0 b = 0) : wholeT p b = (decide ((lvT p b).length ≤ b.runs.toNat) && !((lvT p b).any fun x => x.1.cut) && !spT p b) := by
  have h := tree_rd hf
  have ho := h.over
  rw [wholeT, hf]
  cases hov : (treeT p b).over with
  | true =>
    rw [hov] at ho
    have := of_decide_eq_true ho.symm
    rw [show decide ((lvT p b).length ≤ b.runs.toNat) = false from decide_eq_false (by have h0 : ts0.runs.length = 0 := rfl; omega)]
    rfl
  | false =>
    rw [hov] at ho
    have := of_decide_eq_false ho.symm
    rw [show decide ((lvT p b).length ≤ b.runs.toNat) = true from decide_eq_true (by have h0 : ts0.runs.length = 0 := rfl; omega), h.spun hov, h.short hov]
    rfl
theorem lvs_more {p : PProg} {n : Int} : ∀ (k j : Nat) (s : PSt) (picks : List PPick), (∀ x ∈ lvs p n k s picks, x.1.cut = false) → lvs p n (k + j) s picks = lvs p n k s picks ∧ spn p n (k + j) s = spn p n k s
  | 0, j, s, picks, h => by
    have hc : (!(readyL p s).isEmpty) = false := h _ (List.mem_singleton.2 rfl)
    have hz : readyL p s = [] := by simpa using hc
    rw [Nat.zero_add]
    cases j with
    | zero => exact ⟨rfl, rfl⟩
    | succ j => exact ⟨by show (if readyL p s = [] then _ else _) = [(_, _)]; rw [if_pos hz, hz]; rfl, by show (spinB s || (readyL p s).any _) = spinB s; rw [hz]; simp⟩
  | k + 1, j, s, picks, h => by
    rw [show k + 1 + j = (k + j) + 1 by omega]
    by_cases hz : readyL p s = []
    · exact ⟨by rw [lvs, if_pos hz, lvs, if_pos hz], by rw [spn, spn, hz]; rfl⟩
    · rw [lvs, if_neg hz] at h
      have hx : ∀ x ∈ readyL p s, lvs p n (k + j) (doF p s x n).1 (picks ++ [x]) = lvs p n k (doF p s x n).1 (picks ++ [x]) ∧ spn p n (k + j) (doF p s x n).1 = spn p n k (doF p s x n).1 := fun x hx => lvs_more k j _ _ (fun y hy => h y (List.mem_flatMap.2 ⟨x, hx, hy⟩))
      refine ⟨?_, ?_⟩
      · rw [lvs, if_neg hz, lvs, if_neg hz]
        simp only [List.flatMap]
        rw [List.map_congr_left fun x h0 => (hx x h0).1]
      · rw [spn, spn]
        congr 1
        rw [Bool.eq_iff_iff, List.any_eq_true, List.any_eq_true]
        constructor
        · rintro ⟨x, h1, h2⟩; exact ⟨x, h1, by rw [← (hx x h1).2]; exact h2⟩
        · rintro ⟨x, h1, h2⟩; exact ⟨x, h1, by rw [(hx x h1).2]; exact h2⟩
theorem fits_more {p : PProg} {b : PBud} {m : Int} (h : 0 ≤ b.runs ∧ 0 ≤ m ∧ b.runs + m ≤ 65536) : fitsF p 0 { b with runs := b.runs + m } = fitsF p 0 b := by
  unfold fitsF budP
  have e : (0 ≤ b.runs + m ∧ b.runs + m ≤ 65536) ↔ (0 ≤ b.runs ∧ b.runs ≤ 65536) := by omega
  simp only [e]
theorem fits_steps {p : PProg} {b : PBud} {m : Int} (h : 0 ≤ b.steps ∧ 0 ≤ m ∧ b.steps + m ≤ 256) (hf : fitsF p 0 b = 0) : fitsF p 0 { b with steps := b.steps + m } = 0 := by
  have h1 := fits0 hf
  unfold fitsF
  rw [if_neg (by rw [h1.1]; decide), if_neg (by omega), if_neg]
  intro hn
  exact hn ⟨⟨by show 0 ≤ b.steps + m; omega, by show b.steps + m ≤ 256; omega⟩, h1.2.2.2⟩
abbrev allR (p : PProg) (b : PBud) : List PRun := (treeT p b).runs
theorem grow_len {p : PProg} {b : PBud} {m : Int} (h : 0 ≤ b.runs ∧ 0 ≤ m ∧ b.runs + m ≤ 65536) (hf : fitsF p 0 b = 0) : allR p b = (allR p { b with runs := b.runs + m }).take b.runs.toNat := by
  rw [allR, allR, tree_runs hf, tree_runs (b := { b with runs := b.runs + m }) (by rw [fits_more h]; exact hf), List.take_take]
  show List.take _ _ = List.take (min _ (b.runs + m).toNat) _
  rw [Nat.min_eq_left (by omega)]
theorem grow_full {p : PProg} {b : PBud} {m : Int} (h : 0 ≤ b.runs ∧ 0 ≤ m ∧ b.runs + m ≤ 65536) (hf : fitsF p 0 b = 0) : b.runs ≤ (allR p b).length ∨ (allR p { b with runs := b.runs + m }).length = (allR p b).length := by
  have e := congrArg List.length (grow_len h hf)
  rw [List.length_take] at e
  omega
theorem grow_same {p : PProg} {b : PBud} {m : Int} (h : 0 ≤ b.runs ∧ 0 ≤ m ∧ b.runs + m ≤ 65536) (hf : fitsF p 0 b = 0) (hw : wholeT p b = true) : allR p { b with runs := b.runs + m } = allR p b ∧ wholeT p { b with runs := b.runs + m } = true := by
  have hf2 : fitsF p 0 { b with runs := b.runs + m } = 0 := by rw [fits_more h]; exact hf
  rw [tree_whole hf] at hw
  simp only [Bool.and_eq_true, decide_eq_true_eq] at hw
  have hl : (lvT p b).length ≤ (b.runs + m).toNat := by omega
  refine ⟨?_, ?_⟩
  · rw [allR, allR, tree_runs hf, tree_runs hf2, List.take_of_length_le (by rw [List.length_map]; exact hl), List.take_of_length_le (by rw [List.length_map]; exact hw.1.1)]
  · rw [tree_whole hf2]
    simp only [Bool.and_eq_true, decide_eq_true_eq]
    exact ⟨⟨hl, hw.1.2⟩, hw.2⟩
theorem grow_steps {p : PProg} {b : PBud} {m : Int} (h : 0 ≤ b.steps ∧ 0 ≤ m ∧ b.steps + m ≤ 256) (hf : fitsF p 0 b = 0) (hw : wholeT p b = true) : allR p { b with steps := b.steps + m } = allR p b ∧ wholeT p { b with steps := b.steps + m } = true := by
  have hf2 : fitsF p 0 { b with steps := b.steps + m } = 0 := fits_steps h hf
  rw [tree_whole hf] at hw
  simp only [Bool.and_eq_true, decide_eq_true_eq] at hw
  have hc : ∀ x ∈ lvT p b, x.1.cut = false := by
    intro x hx
    have h1 := hw.1.2
    rw [Bool.not_eq_true', List.any_eq_false] at h1
    simpa using h1 x hx
  have hm := lvs_more (p := p) (n := b.fuel) b.steps.toNat m.toNat (startF p b.fuel).1 [] hc
  rw [show b.steps.toNat + m.toNat = (b.steps + m).toNat by omega] at hm
  have e1 : lvT p { b with steps := b.steps + m } = lvT p b := hm.1
  have e2 : spT p { b with steps := b.steps + m } = spT p b := hm.2
  refine ⟨?_, ?_⟩
  · rw [allR, allR, tree_runs hf, tree_runs hf2, e1]
  · rw [tree_whole hf2, e1, e2]
    simp only [Bool.and_eq_true, decide_eq_true_eq]
    exact hw
end Go.Ab


/- small: a little program. -/
set_option autoImplicit false
set_option maxRecDepth 20000
set_option maxHeartbeats 4000000
set_option linter.unusedSimpArgs false
set_option linter.unusedVariables false
namespace Go.Ab
open Go.Proofs
def smallF : PFun := ⟨0, 0, [⟨64, 0, 0, 0, 0⟩, ⟨45, 0, 0, 0, 0⟩], []⟩
def smallP : PProg := ⟨[], 0, [], [smallF]⟩
def allT (p : PProg) (b : PBud) : PRuns := ⟨(treeT p b).runs, wholeT p b⟩
def one1 : PRuns := ⟨[⟨[⟨0, 0⟩], false, false⟩], true⟩
def one0 : PRuns := ⟨[⟨[], true, false⟩], false⟩
set_option maxRecDepth 100000 in
theorem small1 : allT smallP ⟨1, 1, 1⟩ = one1 ∧ fitsF smallP 0 ⟨1, 1, 1⟩ = 0 := by decide +kernel
set_option maxRecDepth 100000 in
theorem small0 : allT smallP ⟨0, 1, 1⟩ = one0 ∧ fitsF smallP 0 ⟨0, 1, 1⟩ = 0 := by decide +kernel
theorem all_acB (p : PProg) (b : PBud) {x : AV} (hx : x = encBud b) : AC Tryz.prog T tysN 16 [encProg p, x] [] (.tup [encRuns (allT p b), .int (fitsF p 0 b)]) [] := by
  subst hx; exact all_ac p b
theorem all_s1 {x : AV} (hx : x = encBud ⟨1, 1, 1⟩) : AC Tryz.prog T tysN 16 [encProg smallP, x] [] (.tup [encRuns one1, .int 0]) [] := by
  have h := all_acB smallP ⟨1, 1, 1⟩ hx
  rw [small1.1, small1.2] at h; exact h
theorem all_s0 {x : AV} (hx : x = encBud ⟨0, 1, 1⟩) : AC Tryz.prog T tysN 16 [encProg smallP, x] [] (.tup [encRuns one0, .int 0]) [] := by
  have h := all_acB smallP ⟨0, 1, 1⟩ hx
  rw [small0.1, small0.2] at h; exact h
abbrev sp0 : AV := stru 26 [.v (.slice none 0 0), .int 0, .v (.slice none 0 0), .own (.s 10 0) 1 0 1 none]
theorem small_ac  : AC Tryz.prog T tysN 20 [] [] (.bool true) [] := by
 refine AC_intro hT Tryz.func20 rfl rfl (Nat.le_of_ble_eq_true rfl) ?_
 refine sq (rg [] rfl ?_)
 refine sq (rg [CG.mine, CG.mine] rfl ?_)
 refine sq ?_
 refine WP.ent (st' := mkSt [(1, .ptr (.s 1 0) 1 0 [])] [(.s 1 0, .cells ⟨26, 1, fun _ => sp0, 0⟩), (.s 10 0, cellsL 100 encFun fun0 [smallF])]) (em [(.s 8 0, 2)] ⟨⟨_, rfl, Nat.le_refl _⟩, trivial⟩ ⟨⟨rfl, _, rfl, cvt⟩, trivial⟩ ⟨obs rfl (hg := q0 (conv_eq (agg_ext fun q => by match q with | 0 | 1 | 2 | 3 | q + 4 => rfl))), obs rfl (hg := q0 ?_), trivial⟩) ?_
 · refine ⟨_, rfl, fun i hi => ?_⟩
   match i, hi with
   | 0, _ => exact conv_eq rfl
   | 1, _ => exact conv_eq rfl
   | 2, _ => exact conv_row rfl rfl rfl (fun h => by cases h) (Nat.le_refl _) (fun j hj => by match j, hj with | 0, _ => exact ⟨rfl, AEq.of_eq (agg_ext fun q => by match q with | 0 | 1 | 2 | 3 | 4 | q + 5 => rfl)⟩ | 1, _ => exact ⟨rfl, AEq.of_eq (agg_ext fun q => by match q with | 0 | 1 | 2 | 3 | 4 | q + 5 => rfl)⟩)
   | 3, _ => exact conv_nil_row (by decide)
 refine WP.ent (st' := mkSt [(1, .ptr (.s 1 0) 1 0 [])] [(.s 1 0, .cells ⟨26, 1, fun _ => encProg smallP, 0⟩)]) (em [(.s 10 0, 1)] ⟨⟨_, rfl, Nat.le_refl _⟩, trivial⟩ ⟨⟨rfl, _, rfl, cvt⟩, trivial⟩ ⟨obs rfl (hg := q0 ?_), trivial⟩) ?_
 · refine ⟨_, rfl, fun i hi => ?_⟩
   match i, hi with
   | 0, _ => exact conv_nil_row (by decide)
   | 1, _ => exact conv_eq rfl
   | 2, _ => exact conv_nil_row (by decide)
   | 3, _ => exact conv_row rfl rfl rfl (fun h => by cases h) (Nat.le_refl _) (fun j hj => by match j, hj with | 0, _ => exact ⟨rfl, AEq.refl _⟩)
 refine WP.ent (st' := mkSt [(1, .rp 26 (encProg smallP))] []) (em [(.s 1 0, 1)] ⟨sF, trivial⟩ ⟨⟨rfl, _, rfl, rpv⟩, trivial⟩ trivial) ?_
 refine rgs [CG.pure (.tup [encRuns one1, .int 0])] rfl ?_ ?_
 ·simp only [holdsC, under, CG.pure]
  refine ⟨all_s1 ?_, trivial, Nat.le_refl _⟩
  exact agg_ext fun q => by match q with | 0 | 1 | 2 | q + 3 => rfl
 refine sq ?_
 refine WP.ent (st' := mkSt [(1, .rp 26 (encProg smallP)), (2, .rp 32 (encRuns one1)), (3, .int 0)] []) ?_ ?_
 ·refine em [(.s 2 0, 1)] ⟨sF, trivial⟩ ⟨⟨rfl, _, rfl, cvt⟩, ⟨rfl, _, rfl, rpv⟩, ⟨rfl, _, rfl, cvt⟩, trivial⟩ trivial
 refine rgs [CG.pure (.tup [encRuns one0, .int 0])] rfl ?_ ?_
 ·simp only [holdsC, under, CG.pure]
  refine ⟨all_s0 ?_, trivial, Nat.le_refl _⟩
  exact agg_ext fun q => by match q with | 0 | 1 | 2 | q + 3 => rfl
 refine sq ?_
 refine WP.ent (st' := mkSt [(1, .rp 26 (encProg smallP)), (2, .rp 32 (encRuns one1)), (3, .int 0), (4, .rp 32 (encRuns one0)), (5, .int 0)] []) ?_ ?_
 ·refine em [(.s 4 0, 1)] ⟨sF, trivial⟩ ⟨⟨rfl, _, rfl, cvt⟩, ⟨rfl, _, rfl, cvt⟩, ⟨rfl, _, rfl, cvt⟩, ⟨rfl, _, rfl, rpv⟩, ⟨rfl, _, rfl, cvt⟩, trivial⟩ trivial
 refine rg [] rfl ?_
 refine WP.ret ?_
 change Fin ..
 exact fin1 hT (by rfl) rfl
end Go.Ab


/- TreeGrows. -/
set_option autoImplicit false
set_option maxRecDepth 20000
set_option maxHeartbeats 4000000
set_option linter.unusedSimpArgs false
set_option linter.unusedVariables false
namespace Go.Ab
open Go.Proofs
theorem putB_runs (b : PBud) (x : Int) : (encBud b).put [2] (.int x) = encBud { b with runs := x } := stru_put (Nat.le_of_ble_eq_true rfl)
theorem putB_steps (b : PBud) (x : Int) : (encBud b).put [0] (.int x) = encBud { b with steps := x } := stru_put (Nat.le_of_ble_eq_true rfl)
theorem grows_ac (p : PProg) (b0 : PBud) (more : Int) (hm0 : IntKind.i64.min ≤ more ∧ more ≤ IntKind.i64.max) : AC Tryz.prog T tysN 4 [encProg p, encBud b0, .int more] [] (.bool true) [] := by
 refine AC_intro hT Tryz.func4 rfl rfl (Nat.le_of_ble_eq_true rfl) ?_
 refine sq (rg [] rfl ?_)
 refine WP.seqJ (α := PBud) (fun b => mkSt [(2, .int more), (3, .rp 26 (encProg p)), (4, .rp 28 (encBud b)), (6, .bool false)] []) (fun b => True) ?_ ?_
 ·refine sq ?_
  refine WP.ent (st' := mkSt [(3, .rp 26 (encProg p)), (2, .int more), (6, .bool false), (4, .ptr (.s 4 0) 1 0 [])] [(.s 4 0, .cells ⟨28, 1, fun _ => encBud b0, 0⟩)]) (em [(.s 3 0, 1)] ⟨sF, trivial⟩ ⟨⟨rfl, _, rfl, rpv⟩, ⟨rfl, _, rfl, cvt⟩, ⟨rfl, _, rfl, cvt⟩, ⟨rfl, _, rfl, cvt⟩, trivial⟩ ⟨obs rfl, trivial⟩) ?_
  refine rg [] rfl ?_
  refine cd rfl (fun h1 => ?_) (fun h1 => ?_)
  ·refine rg [] rfl ?_
   refine ⟨{ b0 with runs := 300 }, ?_, ?_⟩
   ·trivial
   ·refine em [(.s 4 0, 1)] ⟨sF, trivial⟩ ⟨⟨rfl, _, rfl, cvt⟩, ⟨rfl, _, rfl, cvt⟩, ⟨rfl, _, rfl, conv_rpe rfl rfl (by decide) rfl (putB_runs b0 300) rfl⟩, ⟨rfl, _, rfl, cvt⟩, trivial⟩ trivial
  ·refine sk ?_
   refine ⟨b0, ?_, ?_⟩
   ·trivial
   ·refine em [(.s 4 0, 1)] ⟨sF, trivial⟩ ⟨⟨rfl, _, rfl, cvt⟩, ⟨rfl, _, rfl, cvt⟩, ⟨rfl, _, rfl, rpv⟩, ⟨rfl, _, rfl, cvt⟩, trivial⟩ trivial
 ·rintro b h_inv
  refine sq (sq (rg [] rfl ?_))
  refine cd rfl (fun h3 => ?_) (fun h3 => ?_)
  ·refine sq (rgs [CG.pure (.bool true)] rfl ?_ ?_)
   ·have hq := small_ac
    simp only [holdsC, under, CG.pure]
    repeat' with_reducible refine And.intro ?_ ?_
    all_goals (try with_reducible intros)
    all_goals (first | exact trivial | assumption | omega | exact hq | (simp; done) | grind)
   refine WP.ret ?_
   change Fin ..
   exact fin1 hT (by rfl) rfl
  ·have hh : ((0 ≤ b.runs ∧ 0 ≤ more) ∧ b.runs ≤ 65536) ∧ more ≤ IntKind.i64.wrap (65536 - b.runs) ∧ 0 ≤ b.steps ∧ b.steps ≤ 253 := by
     revert h3
     clear hm0
     generalize IntKind.i64.wrap (65536 - b.runs) = w
     intro h3
     simp only [bor] at h3
     by_cases e1 : b.runs < 0
     · simp [e1] at h3
     by_cases e2 : more < 0
     · simp [e2] at h3
     by_cases e3 : b.runs > 65536
     · simp [e3] at h3
     by_cases e4 : more > w
     · simp [e4] at h3
     by_cases e5 : b.steps < 0
     · simp [e5] at h3
     by_cases e6 : b.steps > 253
     · simp [e6] at h3
     omega
   obtain ⟨⟨⟨hr0, hmm⟩, hr1⟩, hmw, hs0, hs1⟩ := hh
   rw [wrap_id (by omega) (by omega)] at hmw
   clear h3
   have hw : IntKind.i64.wrap (b.runs + more) = b.runs + more := wrap_id (by omega) (by omega)
   have hgr : 0 ≤ b.runs ∧ 0 ≤ more ∧ b.runs + more ≤ 65536 := by omega
   obtain ⟨c, hc⟩ : ∃ c : PBud, c = { b with runs := b.runs + more } := ⟨_, rfl⟩
   have hfm : fitsF p 0 c = fitsF p 0 b := by rw [hc]; exact fits_more hgr
   refine sk (sq (rg [] rfl ?_))
   refine sq (rg [] rfl ?_)
   refine sq ?_
   refine WP.ent (st' := mkSt [(3, .rp 26 (encProg p)), (4, .rp 28 (encBud b)), (6, .bool false), (7, .ptr (.s 7 0) 1 0 [])] [(.s 7 0, .cells ⟨28, 1, fun _ => encBud c, 0⟩)]) ?_ ?_
   ·refine em [] trivial ⟨⟨rfl, _, rfl, cvt⟩, ⟨rfl, _, rfl, cvt⟩, ⟨rfl, _, rfl, cvt⟩, ⟨rfl, _, rfl, cvt⟩, trivial⟩ ⟨obs rfl (hg := q0 (conv_eq ((putB_runs b (IntKind.i64.wrap (b.runs + more))).trans (by rw [hw, hc])))), trivial⟩
   refine rgs [CG.pure (.tup [encRuns (allT p b), .int (fitsF p 0 b)])] rfl ?_ ?_
   ·have hq := all_acB p b rfl
    simp only [holdsC, under, CG.pure]
    repeat' with_reducible refine And.intro ?_ ?_
    all_goals (try with_reducible intros)
    all_goals (first | exact trivial | assumption | omega | exact hq | (simp; done) | grind)
   refine sq ?_
   refine WP.ent (st' := mkSt [(3, .rp 26 (encProg p)), (4, .rp 28 (encBud b)), (6, .bool false), (7, .ptr (.s 7 0) 1 0 []), (8, .rp 32 (encRuns (allT p b))), (9, .int (fitsF p 0 b))] [(.s 7 0, .cells ⟨28, 1, fun _ => encBud c, 0⟩)]) ?_ ?_
   ·refine em [(.s 8 0, 1)] ⟨sF, trivial⟩ ⟨⟨rfl, _, rfl, cvt⟩, ⟨rfl, _, rfl, cvt⟩, ⟨rfl, _, rfl, cvt⟩, ⟨rfl, _, rfl, cvt⟩, ⟨rfl, _, rfl, rpv⟩, ⟨rfl, _, rfl, cvt⟩, trivial⟩ ⟨obs rfl, trivial⟩
   refine rgs [CG.pure (.tup [encRuns (allT p c), .int (fitsF p 0 c)])] rfl ?_ ?_
   ·have hq := all_acB p c rfl
    simp only [holdsC, under, CG.pure]
    repeat' with_reducible refine And.intro ?_ ?_
    all_goals (try with_reducible intros)
    all_goals (first | exact trivial | assumption | omega | exact hq | (simp; done) | grind)
   refine sq (sq ?_)
   refine WP.ent (st' := mkSt [(3, .rp 26 (encProg p)), (4, .rp 28 (encBud b)), (6, .bool false), (7, .ptr (.s 7 0) 1 0 []), (8, .rp 32 (encRuns (allT p b))), (9, .int (fitsF p 0 b)), (10, .rp 32 (encRuns (allT p c))), (11, .int (fitsF p 0 c))] [(.s 7 0, .cells ⟨28, 1, fun _ => encBud c, 0⟩)]) ?_ ?_
   ·refine em [(.s 10 0, 1)] ⟨sF, trivial⟩ ⟨⟨rfl, _, rfl, cvt⟩, ⟨rfl, _, rfl, cvt⟩, ⟨rfl, _, rfl, cvt⟩, ⟨rfl, _, rfl, cvt⟩, ⟨rfl, _, rfl, cvt⟩, ⟨rfl, _, rfl, cvt⟩, ⟨rfl, _, rfl, rpv⟩, ⟨rfl, _, rfl, cvt⟩, trivial⟩ ⟨obs rfl, trivial⟩
   refine rg [] rfl ?_
   refine cd rfl (fun h9 => ?_) (fun h9 => ?_)
   ·refine sq (rgs [CG.pure (.bool true)] rfl ?_ ?_)
    ·have hq := small_ac
     simp only [holdsC, under, CG.pure]
     repeat' with_reducible refine And.intro ?_ ?_
     all_goals (try with_reducible intros)
     all_goals (first | exact trivial | assumption | omega | exact hq | (simp; done) | grind)
    refine WP.ret ?_
    change Fin ..
    exact fin1 hT (by rfl) (by rw [hfm]; simp)
   ·have hf : fitsF p 0 b = 0 := by
      rw [hfm] at h9
      simp only [bor] at h9
      simpa using h9
    have hfc : fitsF p 0 c = 0 := hfm.trans hf
    have hlen := congrArg List.length (grow_len hgr hf)
    rw [← hc, List.length_take] at hlen
    have hle : (allR p b).length ≤ (allR p c).length := by omega
    refine sk (sq (sq (rg [] rfl ?_)))
    refine cd rfl (fun h11 => ?_) (fun h11 => ?_)
    ·have h12 : ((allR p c).length : Int) < (allR p b).length := by simpa [allT] using h11
     omega
    ·refine sk (sq (sq (rg [] rfl ?_)))
     refine WP.rowlen 92 rfl (fun hla => ?_)
     refine bk ?_
     refine WP.loop (α := Nat) (fun i => mkSt [(3, .rp 26 (encProg p)), (4, .rp 28 (encBud b)), (6, .bool false), (7, .ptr (.s 7 0) 1 0 []), (8, .rp 32 (encRuns (allT p b))), (9, .int (fitsF p 0 b)), (10, .rp 32 (encRuns (allT p c))), (11, .int (fitsF p 0 c)), (93, .int (allR p b).length), (94, .int i)] [(.s 7 0, .cells ⟨28, 1, fun _ => encBud c, 0⟩)]) (fun i => i ≤ (allR p b).length) (fun i => (allR p b).length - i) ?_ ?_
     ·refine ⟨0, ?_, ?_⟩
      ·exact Nat.zero_le _
      ·refine em [] trivial ⟨⟨rfl, _, rfl, cvt⟩, ⟨rfl, _, rfl, cvt⟩, ⟨rfl, _, rfl, cvt⟩, ⟨rfl, _, rfl, cvt⟩, ⟨rfl, _, rfl, cvt⟩, ⟨rfl, _, rfl, cvt⟩, ⟨rfl, _, rfl, cvt⟩, ⟨rfl, _, rfl, cvt⟩, ⟨rfl, _, rfl, cvt⟩, ⟨rfl, _, rfl, cvt⟩, trivial⟩ ⟨obs rfl, trivial⟩
     ·rintro i hi
      refine sq (rg [] rfl ?_)
      refine sq ?_
      refine cd rfl (fun h14 => ?_) (fun h14 => ?_)
      ·have hil : i < (allR p b).length := by simpa using h14
       have hie : (allR p b).getD i run0 = (allR p c).getD i run0 := by
         have e := grow_len hgr hf
         rw [← hc] at e
         rw [e, List.getD_eq_getElem?_getD, List.getD_eq_getElem?_getD, List.getElem?_take, if_pos (by omega)]
       refine sk (sq (bk (sq (rg [] rfl ?_))))
       refine sq (drs [CG.pure (.bool (decide (((allR p b).getD i run0).picks = ((allR p c).getD i run0).picks)))] rfl ?_ ?_)
       ·have hq := samePk_ac ((allR p b).getD i run0).picks ((allR p c).getD i run0).picks
        have hj1 : i < (allT p b).all.length := hil
        have hj2 : i < (allT p c).all.length := by show i < (allR p c).length; omega
        simp only [holdsC, under, CG.pure]
        repeat' with_reducible refine And.intro ?_ ?_
        all_goals (try with_reducible intros)
        all_goals (first | exact trivial | assumption | omega | exact hq | (simp; done) | grind)
       refine cd rfl (fun h16 => ?_) (fun h16 => ?_)
       ·rw [hie] at h16
        simp at h16
       ·refine sk (rg [] rfl ?_)
        refine ⟨i + 1, ?_, ?_, ?_⟩
        ·exact hil
        ·refine em [] trivial ⟨⟨rfl, _, rfl, cvt⟩, ⟨rfl, _, rfl, cvt⟩, ⟨rfl, _, rfl, cvt⟩, ⟨rfl, _, rfl, cvt⟩, ⟨rfl, _, rfl, cvt⟩, ⟨rfl, _, rfl, cvt⟩, ⟨rfl, _, rfl, cvt⟩, ⟨rfl, _, rfl, cvt⟩, ⟨rfl, _, rfl, cvt⟩, ⟨rfl, _, rfl, cvt⟩, trivial⟩ ⟨obs rfl, trivial⟩
        ·(try simp only []); first | omega | grind
      ·obtain ⟨d, hd⟩ : ∃ d : PBud, d = { c with steps := b.steps + 3 } := ⟨_, rfl⟩
       have hcs : c.steps = b.steps := by rw [hc]
       have hd' : d = { c with steps := c.steps + 3 } := by rw [hd, hcs]
       have hws : IntKind.i64.wrap (b.steps + 3) = b.steps + 3 := wrap_id (by omega) (by omega)
       have hst : 0 ≤ c.steps ∧ (0 : Int) ≤ 3 ∧ c.steps + 3 ≤ 256 := by omega
       have hfd : fitsF p 0 d = 0 := by rw [hd']; exact fits_steps hst hfc
       have hsame : (allT p b).whole = true → allT p b = allT p c ∧ allT p b = allT p d := fun h => by
         have h1 := grow_same hgr hf h
         rw [← hc] at h1
         have h2 := grow_steps hst hfc h1.2
         rw [← hd'] at h2
         have h0 : wholeT p b = true := h
         refine ⟨?_, ?_⟩
         · unfold allT; rw [show (treeT p c).runs = (treeT p b).runs from h1.1, h1.2, h0]
         · unfold allT; rw [show (treeT p d).runs = (treeT p b).runs from h2.1.trans h1.1, h2.2, h0]
       refine xt (sq (rg [] rfl ?_))
       refine sq ?_
       refine WP.ent (st' := mkSt [(3, .rp 26 (encProg p)), (4, .rp 28 (encBud b)), (6, .bool false), (7, .ptr (.s 7 0) 1 0 []), (8, .rp 32 (encRuns (allT p b))), (9, .int (fitsF p 0 b)), (10, .rp 32 (encRuns (allT p c))), (11, .int (fitsF p 0 c))] [(.s 7 0, .cells ⟨28, 1, fun _ => encBud d, 0⟩)]) ?_ ?_
       ·refine em [] trivial ⟨⟨rfl, _, rfl, cvt⟩, ⟨rfl, _, rfl, cvt⟩, ⟨rfl, _, rfl, cvt⟩, ⟨rfl, _, rfl, cvt⟩, ⟨rfl, _, rfl, cvt⟩, ⟨rfl, _, rfl, cvt⟩, ⟨rfl, _, rfl, cvt⟩, ⟨rfl, _, rfl, cvt⟩, trivial⟩ ⟨obs rfl (hg := q0 (conv_eq ((putB_steps c (IntKind.i64.wrap (b.steps + 3))).trans (by rw [hws, hd])))), trivial⟩
       refine rgs [CG.pure (.tup [encRuns (allT p d), .int (fitsF p 0 d)])] rfl ?_ ?_
       ·have hq := all_acB p d rfl
        simp only [holdsC, under, CG.pure]
        repeat' with_reducible refine And.intro ?_ ?_
        all_goals (try with_reducible intros)
        all_goals (first | exact trivial | assumption | omega | exact hq | (simp; done) | grind)
       refine sq ?_
       refine WP.ent (st' := mkSt [(3, .rp 26 (encProg p)), (4, .rp 28 (encBud b)), (6, .bool false), (8, .rp 32 (encRuns (allT p b))), (10, .rp 32 (encRuns (allT p c))), (13, .rp 32 (encRuns (allT p d))), (14, .int (fitsF p 0 d))] []) ?_ ?_
       ·refine em [(.s 13 0, 1)] ⟨sF, trivial⟩ ⟨⟨rfl, _, rfl, cvt⟩, ⟨rfl, _, rfl, cvt⟩, ⟨rfl, _, rfl, cvt⟩, ⟨rfl, _, rfl, cvt⟩, ⟨rfl, _, rfl, cvt⟩, ⟨rfl, _, rfl, rpv⟩, ⟨rfl, _, rfl, cvt⟩, trivial⟩ trivial
       refine rgs [CG.pure (.bool (sameRs (allT p b) (allT p c))), CG.pure (.bool (sameRs (allT p b) (allT p d))), CG.pure (.bool true)] rfl ?_ ?_
       ·have hq1 := sameRs_ac (allT p b) (allT p c)
        have hq2 := sameRs_ac (allT p b) (allT p d)
        have hq3 := small_ac
        simp only [holdsC, under, CG.pure]
        repeat' with_reducible refine And.intro ?_ ?_
        all_goals (try with_reducible intros)
        all_goals (first | exact trivial | assumption | omega | exact hq1 | exact hq2 | exact hq3 | (simp; done) | grind)
       refine WP.ret ?_
       change Fin ..
       refine fin1 hT (by rfl) ?_
       have hx1 : (bif !(allT p b).whole then true else bif sameRs (allT p b) (allT p c) then sameRs (allT p b) (allT p d) else false) = true := by
         cases hwb : (allT p b).whole with
         | false => rfl
         | true =>
           obtain ⟨e1, e2⟩ := hsame hwb
           rw [← e1, ← e2]
           simp [sameRs]
       have hx2 : (bif decide (((allT p b).all.length : Int) ≥ b.runs) then true else ((allT p c).all.length : Int) == (allT p b).all.length) = true := by
         have h1 := grow_full hgr hf
         rw [← hc] at h1
         rcases h1 with h1 | h1
         · rw [show decide (((allT p b).all.length : Int) ≥ b.runs) = true from decide_eq_true h1]; rfl
         · rw [show (allT p c).all.length = (allT p b).all.length from h1]; simp
       rw [hx1, hx2, hfd]
       rfl
end Go.Ab

