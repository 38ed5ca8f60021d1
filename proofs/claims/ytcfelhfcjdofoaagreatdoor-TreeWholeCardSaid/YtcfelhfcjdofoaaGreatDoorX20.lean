/- Part 21 of a proof of a statement about the given program: an abstract machine over the model, proved sound, and contracts of the functions that the statement reaches; the last part proves the statement, for every input, with no condition. -/
import Derived.Test.YtcfelhfcjdofoaaGreatDoorX19
set_option linter.unusedSimpArgs false
set_option linter.unusedVariables false
/- The tree of runs: searched, All. -/
set_option autoImplicit false
set_option maxRecDepth 20000
set_option maxHeartbeats 4000000
set_option linter.unusedSimpArgs false
set_option linter.unusedVariables false
namespace Go.Ab
open Go.Proofs
theorem on_ih {p : PProg} {b : PBud} (hb : budP b) : ∀ k, onIH p b k
  | 0 => fun s picks t h1 h2 h3 => on_step p b hb 0 (fun _ e => by cases e) s picks t h1 h2 h3
  | k + 1 => fun s picks t h1 h2 h3 => on_step p b hb (k + 1) (fun j e => by cases e; exact on_ih hb k) s picks t h1 h2 h3
def ts0 : TS := ⟨[], [], false, false, false⟩
def treeT (p : PProg) (b : PBud) : TS := if fitsF p 0 b = 0 then onF p b b.steps.toNat (startF p b.fuel).1 [] ts0 else ts0
def wholeT (p : PProg) (b : PBud) : Bool := decide (fitsF p 0 b = 0) && !(treeT p b).over && !(treeT p b).short && !(treeT p b).spun
abbrev rowRun (l : List PRun) : AV := rowP 45 encRun run0 l
abbrev rowSt (l : List PSt) : AV := rowP 62 encS st0 l
def encFound (L : List PRun) (E : List PSt) : AV := stru 105 [rowRun L, rowSt E]
def encXi (i : Id) (p : PProg) (b : PBud) (t : TS) : AV := stru 206 [encProg p, encBud b, .clo 99 [.ptr i 1 0 [], .rp 28 (encBud b)], .bool t.spun, .bool t.short, .bool t.over]
theorem ren_Xi {σ : Id → Id} {i j : Id} (h1 : σ i = j) (p : PProg) (b : PBud) (t : TS) : ren σ (encXi i p b t) = encXi j p b t := agg_ext (fun q => by
  match q with
  | 0 => exact ren_prog σ p
  | 1 => exact ren_bud σ b
  | 2 => show AV.clo _ [.ptr (σ i) 1 0 [], .rp _ (encBud b)] = _; rw [h1]; rfl
  | 3 | 4 | 5 | q + 6 => rfl)
theorem on0_ac {p : PProg} {b : PBud} (hb : budP b) (ids : List Id) (s : PSt) (h2 : OkS s) {x f i j : Id} (hf : sig [x, f, i, j] 0 f = .b 1) (hi : sig [x, f, i, j] 0 i = .b 2) (hj : sig [x, f, i, j] 0 j = .b 3) : AC Tryz.prog T tysN 102 [.ptr (.b 0) 1 0 [], ren (sig [x, f, i, j] 0) (encS s), .v (.slice none 0 0)] [renO (sig [x, f, i, j] 0) (.cells ⟨206, 1, fun _ => encXi f p b ts0, 0⟩), renO (sig [x, f, i, j] 0) (foundO 0 0 i j), renO (sig [x, f, i, j] 0) (runsO []), renO (sig [x, f, i, j] 0) (endsO [])] (.tup []) [xO p b (onF p b b.steps.toNat s [] ts0), fO (onF p b b.steps.toNat s [] ts0), runsO (onF p b b.steps.toNat s [] ts0).runs, endsO (onF p b b.steps.toNat s [] ts0).ends] := by
  have e : renO (sig [x, f, i, j] 0) (.cells ⟨206, 1, fun _ => encXi f p b ts0, 0⟩) = xO p b ts0 := by
    show Ob.cells ⟨_, _, fun _ => ren _ (encXi f p b ts0), _⟩ = _
    rw [ren_Xi hf]; rfl
  rw [ren_S, e, renO_found hi hj, renO_list (ren_run _), renO_list (ren_S _)]
  refine AC.args hT (on_ih hb b.steps.toNat s [] ts0 (by simp) h2 rfl) rfl (fun i a c ha hc => ?_)
  match i, ha, hc with
  | 0, ha, hc => cases ha; cases hc; exact conv_eq rfl
  | 1, ha, hc => cases ha; cases hc; exact conv_eq rfl
  | 2, ha, hc => cases ha; cases hc; exact conv_nil_row (by decide)
theorem searched_ac (p : PProg) (b : PBud) : AC Tryz.prog T tysN 53 [encProg p, encBud b] [] (.tup [encFound (treeT p b).runs (treeT p b).ends, .bool (wholeT p b), .int (fitsF p 0 b)]) [] := by
 refine AC_intro hT Tryz.func53 rfl rfl (Nat.le_of_ble_eq_true rfl) ?_
 refine sq (rg [] rfl ?_)
 refine sq (sq ?_)
 refine WP.ent (st' := mkSt [(2, .rp 26 (encProg p)), (3, .rp 28 (encBud b)), (5, .bool false), (4, .ptr (.s 4 0) 1 0 [])] [(.s 4 0, .cells ⟨105, 1, fun _ => (T 105).zero, 0⟩)]) (em [(.s 2 0, 1), (.s 3 0, 1)] ⟨sF, sF, trivial⟩ ⟨⟨rfl, _, rfl, rpv⟩, ⟨rfl, _, rfl, rpv⟩, ⟨rfl, _, rfl, cvt⟩, ⟨rfl, _, rfl, cvt⟩, trivial⟩ ⟨obs rfl, trivial⟩) ?_
 refine rgs [CG.pure (.int (fitsF p 0 b))] rfl ?_ ?_
 ·have hq := begun_ac p b
  simp only [holdsC, under, CG.pure]
  repeat' with_reducible refine And.intro ?_ ?_
  all_goals (try with_reducible intros)
  all_goals (first | exact trivial | assumption | omega | exact hq | (simp; done) | grind)
 refine sq (rg [] rfl ?_)
 refine cd rfl (fun h2 => ?_) (fun h2 => ?_)
 ·have hf : fitsF p 0 b ≠ 0 := by simpa using h2
  refine sq (rg [] rfl ?_)
  refine WP.ret ?_
  change Fin ..
  rw [wholeT, treeT, if_neg hf, decide_eq_false hf]
  exact finC3 hT [] trivial rfl rfl rfl rfl ⟨_, rfl, fun i hi => by match i with | 0 => exact conv_nil_row (by decide) | 1 => exact conv_nil_row (by decide) | i + 2 => exact absurd hi (by simp)⟩ rfl rfl
 ·have hf : fitsF p 0 b = 0 := by simpa using h2
  have hb := (fits0 hf).2.2
  refine sk (sq (rg [] rfl ?_))
  refine sq (rg [] rfl ?_)
  refine sq (rgs [CG.pure (.tup [encS (startF p b.fuel).1, .int (startF p b.fuel).2])] rfl ?_ ?_)
  ·have hq := start_ac p b.fuel
   simp only [holdsC, under, CG.pure]
   repeat' with_reducible refine And.intro ?_ ?_
   all_goals (try with_reducible intros)
   all_goals (first | exact trivial | assumption | omega | exact hq | (simp; done) | grind)
  refine sq ?_
  refine WP.ent (st' := mkSt [(2, .rp 26 (encProg p)), (3, .rp 28 (encBud b)), (4, .ptr (.s 4 0) 1 0 []), (8, .ptr (.s 8 0) 1 0 []), (9, .ptr (.s 23 0) 1 0 []), (10, .rp 62 (encS (startF p b.fuel).1))] [(.s 4 0, .cells ⟨105, 1, fun _ => (T 105).zero, 0⟩), (.s 8 0, foundO 0 0 (.s 900 0) (.s 901 0)), (.s 23 0, .cells ⟨206, 1, fun _ => encXi (.s 8 0) p b ts0, 0⟩), (.s 900 0, runsO []), (.s 901 0, endsO [])]) ?_ ?_
  ·refine em [(.s 10 0, 1)] ⟨sF, trivial⟩ ⟨⟨rfl, _, rfl, cvt⟩, ⟨rfl, _, rfl, cvt⟩, ⟨rfl, _, rfl, cvt⟩, ⟨rfl, _, rfl, cvt⟩, ⟨rfl, _, rfl, cvt⟩, ⟨rfl, _, rfl, rpv⟩, trivial⟩ ⟨obs rfl, obs rfl (hg := q0 ⟨_, rfl, fun i hi => by match i with | 0 => exact conv_nil_own | 1 => exact conv_nil_own | i + 2 => exact absurd hi (by simp)⟩), obs rfl (hg := q0 (conv_eq (agg_ext fun q => by match q with | 0 | 1 | 2 | 3 | 4 | 5 | q + 6 => rfl))), ⟨fun _ _ => rfl, .inr ⟨rfl, 45, _, rfl, by decide⟩⟩, ⟨fun _ _ => rfl, .inr ⟨rfl, 62, _, rfl, by decide⟩⟩, trivial⟩
  refine rgs [⟨true, [.s 23 0, .s 8 0, .s 900 0, .s 901 0], .tup [], [xO p b (onF p b b.steps.toNat (startF p b.fuel).1 [] ts0), fO (onF p b b.steps.toNat (startF p b.fuel).1 [] ts0), runsO (onF p b b.steps.toNat (startF p b.fuel).1 [] ts0).runs, endsO (onF p b b.steps.toNat (startF p b.fuel).1 [] ts0).ends]⟩] rfl ?_ ?_
  ·have hq := on0_ac (p := p) hb [] (startF p b.fuel).1 start_ok (x := .s 23 0) (f := .s 8 0) (i := .s 900 0) (j := .s 901 0) rfl rfl rfl
   have hk1 : okOs [.s 23 0, .s 8 0, .s 900 0, .s 901 0] [.cells ⟨206, 1, fun _ => encXi (.s 8 0) p b ts0, 0⟩, foundO 0 0 (.s 900 0) (.s 901 0), runsO [], endsO []] := ⟨fun _ _ => rfl, fun _ _ => rfl, fun _ _ => rfl, fun _ _ => rfl, trivial⟩
   have hk2 : okOs (bs 4) [xO p b (onF p b b.steps.toNat (startF p b.fuel).1 [] ts0), fO (onF p b b.steps.toNat (startF p b.fuel).1 [] ts0), runsO (onF p b b.steps.toNat (startF p b.fuel).1 [] ts0).runs, endsO (onF p b b.steps.toNat (startF p b.fuel).1 [] ts0).ends] := okOs_x rfl rfl
   simp only [holdsC, under, CG.pure]
   repeat' with_reducible refine And.intro ?_ ?_
   all_goals (try with_reducible intros)
   all_goals (first | exact trivial | assumption | omega | exact hq | exact hk1 | exact hk2 | (simp; done) | grind)
  refine sq ?_
  obtain ⟨z, hz⟩ : ∃ z, onF p b b.steps.toNat (startF p b.fuel).1 [] ts0 = z := ⟨_, rfl⟩
  have hz0 : treeT p b = z := by rw [treeT, if_pos hf, hz]
  rw [hz]
  refine WP.ent (st' := mkSt [(4, .ptr (.s 4 0) 1 0 []), (8, .ptr (.s 8 0) 1 0 []), (9, .ptr (.s 23 0) 1 0 [])] [(.s 4 0, .cells ⟨105, 1, fun _ => (T 105).zero, 0⟩), (.s 8 0, foundO z.runs.length z.ends.length (.s 900 0) (.s 901 0)), (.s 23 0, .cells ⟨206, 1, fun _ => encXi (.s 8 0) p b z, 0⟩), (.s 900 0, runsO z.runs), (.s 901 0, endsO z.ends)]) ?_ ?_
  ·refine em [] trivial ⟨⟨rfl, _, rfl, cvt⟩, ⟨rfl, _, rfl, cvt⟩, ⟨rfl, _, rfl, cvt⟩, trivial⟩ ⟨obs rfl, obs rfl (hg := q0 (conv_eq (ren_found rfl rfl))), obs rfl (hg := q0 (conv_eq (ren_Xi (i := .b 1) rfl p b z))), obs rfl (hg := fun q hq => conv_eq (ren_run _ _)), obs rfl (hg := fun q hq => conv_eq (ren_S _ _)), trivial⟩
  refine dr [] rfl ?_
  refine WP.ret ?_
  change Fin ..
  rw [wholeT, hz0, hf]
  refine finC3 hT [(.s 900 0, z.runs.length), (.s 901 0, z.ends.length)] ⟨⟨_, rfl, Nat.le_refl _⟩, ⟨_, rfl, Nat.le_refl _⟩, trivial⟩ rfl rfl rfl rfl ⟨_, rfl, fun i hi => by match i with | 0 => exact conv_row rfl rfl rfl (fun h => by cases h) (by simp [lookF, idbeq_self]) (fun q hq => by rw [Nat.zero_add]; exact ⟨rfl, AEq.refl _⟩) | 1 => exact conv_row rfl rfl rfl (fun h => by cases h) (by rw [Nat.zero_add]; exact Nat.le_refl _) (fun q hq => by rw [Nat.zero_add]; exact ⟨rfl, AEq.refl _⟩) | i + 2 => exact absurd hi (by simp)⟩ ?_ rfl
  cases z.over <;> cases z.short <;> cases z.spun <;> rfl
theorem all_ac (p : PProg) (b : PBud) : AC Tryz.prog T tysN 16 [encProg p, encBud b] [] (.tup [stru 32 [rowRun (treeT p b).runs, .bool (wholeT p b)], .int (fitsF p 0 b)]) [] := by
 refine AC_intro hT Tryz.func16 rfl rfl (Nat.le_of_ble_eq_true rfl) ?_
 refine sq (rg [] rfl ?_)
 refine sq ?_
 refine WP.ent (st' := mkSt [(2, .rp 26 (encProg p)), (3, .rp 28 (encBud b)), (4, .ptr (.s 4 0) 1 0 [])] [(.s 4 0, .cells ⟨32, 1, fun _ => (T 32).zero, 0⟩)]) (em [(.s 2 0, 1), (.s 3 0, 1)] ⟨sF, sF, trivial⟩ ⟨⟨rfl, _, rfl, rpv⟩, ⟨rfl, _, rfl, rpv⟩, ⟨rfl, _, rfl, cvt⟩, trivial⟩ ⟨obs rfl, trivial⟩) ?_
 refine rgs [CG.pure (.tup [encFound (treeT p b).runs (treeT p b).ends, .bool (wholeT p b), .int (fitsF p 0 b)])] rfl ?_ ?_
 ·have hq := searched_ac p b
  simp only [holdsC, under, CG.pure]
  repeat' with_reducible refine And.intro ?_ ?_
  all_goals (try with_reducible intros)
  all_goals (first | exact trivial | assumption | omega | exact hq | (simp; done) | grind)
 refine sq (rg [] rfl ?_)
 refine WP.ret ?_
 change Fin ..
 exact finCT hT rfl rfl rfl (conv_eq (agg_ext fun q => by match q with | 0 | 1 | q + 2 => rfl)) rfl
end Go.Ab


/- The plain comparisons: SamePicks, SameRuns. -/
set_option autoImplicit false
set_option maxRecDepth 20000
set_option maxHeartbeats 4000000
set_option linter.unusedSimpArgs false
set_option linter.unusedVariables false
namespace Go.Ab
open Go.Proofs
theorem eqPk_v (a b : PPick) : (a == b) = (a.go == b.go && (a.alt == b.alt && true)) := by
  obtain ⟨x, y⟩ := a
  obtain ⟨z, w⟩ := b
  rw [Bool.eq_iff_iff]
  simp
theorem samePk_ac (a b : List PPick) : AC Tryz.prog T tysN 21 [rowPk a, rowPk b] [] (.bool (decide (a = b))) [] := by
 refine AC_intro hT Tryz.func21 rfl rfl (Nat.le_of_ble_eq_true rfl) ?_
 refine WP.rowlen 0 rfl (fun hla => ?_)
 refine sq (rg [] rfl ?_)
 refine sq (sq (rg [] rfl ?_))
 refine cd rfl (fun h1 => ?_) (fun h1 => ?_)
 ·have hne : a.length ≠ b.length := by simp at h1; omega
  refine sq (rg [] rfl ?_)
  refine WP.ret ?_
  change Fin ..
  exact fin1 hT (by rfl) (by simp; rintro rfl; exact hne rfl)
 ·have hlen : a.length = b.length := by simp at h1; omega
  refine sk (sq (sq (rg [] rfl ?_)))
  refine bk ?_
  refine WP.loop (α := Nat) (fun i => mkSt [(0, rowPk a), (1, rowPk b), (12, .int a.length), (13, .int i)] []) (fun i => i ≤ a.length ∧ ∀ j, j < i → a.getD j pick0 = b.getD j pick0) (fun i => a.length - i) ?_ ?_
  ·refine ⟨0, ?_, ?_⟩
   ·exact ⟨Nat.zero_le _, fun j hj => by omega⟩
   ·refine em [] trivial ⟨⟨rfl, _, rfl, cvt⟩, ⟨rfl, _, rfl, cvt⟩, ⟨rfl, _, rfl, cvt⟩, ⟨rfl, _, rfl, cvt⟩, trivial⟩ trivial
  ·rintro i ⟨hi, heq⟩
   refine sq (rg [] rfl ?_)
   refine sq ?_
   refine cd rfl (fun h4 => ?_) (fun h4 => ?_)
   ·have hil : i < a.length := by simpa using h4
    refine sk (sq (bk (sq (rg [] rfl ?_))))
    refine sq (drs [] rfl ?_ ?_)
    ·simp only [holdsC, under, CG.pure]
     repeat' with_reducible refine And.intro ?_ ?_
     all_goals (try with_reducible intros)
     all_goals (first | exact trivial | assumption | omega | (simp; done) | grind)
    refine cd rfl (fun h6 => ?_) (fun h6 => ?_)
    ·have hne : a.getD i pick0 ≠ b.getD i pick0 := by
       have e : (!(a.getD i pick0 == b.getD i pick0)) = true := (congrArg Bool.not (eqPk_v _ _)).trans h6
       simpa using e
     refine sq (rg [] rfl ?_)
     refine WP.ret ?_
     change Fin ..
     exact fin1 hT (by rfl) (by simp; rintro rfl; exact hne rfl)
    ·have he : a.getD i pick0 = b.getD i pick0 := by
       have e : (!(a.getD i pick0 == b.getD i pick0)) = false := (congrArg Bool.not (eqPk_v _ _)).trans h6
       simpa using e
     refine sk (rg [] rfl ?_)
     refine ⟨i + 1, ?_, ?_, ?_⟩
     ·refine ⟨hil, fun j hj => ?_⟩
      rcases Nat.lt_or_ge j i with h | h
      · exact heq j h
      · obtain rfl : j = i := by omega
        exact he
     ·refine em [] trivial ⟨⟨rfl, _, rfl, cvt⟩, ⟨rfl, _, rfl, cvt⟩, ⟨rfl, _, rfl, cvt⟩, ⟨rfl, _, rfl, cvt⟩, trivial⟩ trivial
     ·(try simp only []); first | omega | grind
   ·have hil : i = a.length := by simp at h4; omega
    subst hil
    refine xt (sq (rg [] rfl ?_))
    refine WP.ret ?_
    change Fin ..
    refine fin1 hT (by rfl) ?_
    symm
    simp only [decide_eq_true_eq]
    refine List.ext_getElem hlen (fun j h1 h2 => ?_)
    have := heq j h1
    simpa [h1, h2] using this
structure PRuns where
  all : List PRun
  whole : Bool
  deriving DecidableEq
def encRuns (x : PRuns) : AV := stru 32 [rowP 45 encRun run0 x.all, .bool x.whole]
end Go.Ab


/- The tree of runs: what is found; how it grows. -/
set_option autoImplicit false
set_option maxRecDepth 20000
set_option maxHeartbeats 4000000
set_option linter.unusedSimpArgs false
set_option linter.unusedVariables false
namespace Go.Ab
open Go.Proofs
def lvs (p : PProg) (n : Int) : Nat → PSt → List PPick → List (PRun × PSt)
  | 0, s, picks => [(⟨picks, !(readyL p s).isEmpty, false⟩, s)]
  | k + 1, s, picks => if readyL p s = [] then [(⟨picks, false, false⟩, s)] else (readyL p s).flatMap fun x => lvs p n k (doF p s x n).1 (picks ++ [x])
def spinB (s : PSt) : Bool := spunTo false s 6
def spn (p : PProg) (n : Int) : Nat → PSt → Bool
  | 0, s => spinB s
  | k + 1, s => spinB s || (readyL p s).any fun x => spn p n k (doF p s x n).1
theorem spunTo_or (z : Bool) (s : PSt) : ∀ k, spunTo z s k = (z || spunTo false s k)
  | 0 => by simp [spunTo]
  | k + 1 => by rw [spunTo, spunTo, spunTo_or z s k, Bool.or_assoc]
structure Rd (b : PBud) (t : TS) (L : List (PRun × PSt)) (sp : Bool) (r : TS) : Prop where
  runs : r.runs = (t.runs ++ L.map (·.1)).take b.runs.toNat
  ends : r.ends = (t.ends ++ L.map (·.2)).take b.runs.toNat
  over : r.over = decide (b.runs.toNat < t.runs.length + L.length)
  spun : r.over = false → r.spun = (t.spun || sp)
  short : r.over = false → r.short = (t.short || L.any fun x => x.1.cut)
structure TsOk (b : PBud) (t : TS) : Prop where
  len : t.runs.length ≤ b.runs.toNat
  even : t.ends.length = t.runs.length
theorem Rd.ok {b : PBud} {t : TS} {L : List (PRun × PSt)} {sp : Bool} {r : TS} (ht : TsOk b t) (h : Rd b t L sp r) : TsOk b r :=
  ⟨by rw [h.runs, List.length_take]; omega, by rw [h.runs, h.ends, List.length_take, List.length_take]; simp [ht.even]⟩
theorem Rd.comp {b : PBud} {t r1 r2 : TS} {L1 L2 : List (PRun × PSt)} {sp1 sp2 : Bool} (ht : TsOk b t) (h1 : Rd b t L1 sp1 r1) (ho : r1.over = true → r2 = r1) (h2 : r1.over = false → Rd b r1 L2 sp2 r2) : Rd b t (L1 ++ L2) (sp1 || sp2) r2 := by
  cases hov : r1.over with
  | true =>
    rw [ho hov]
    have hlt : b.runs.toNat < t.runs.length + L1.length := by have := h1.over; rw [hov] at this; exact of_decide_eq_true this.symm
    refine ⟨?_, ?_, ?_, fun h => (by rw [hov] at h; cases h), fun h => (by rw [hov] at h; cases h)⟩
    · rw [h1.runs, List.map_append, ← List.append_assoc, List.take_append_of_le_length (l₁ := t.runs ++ L1.map (·.1)) (by rw [List.length_append, List.length_map]; omega)]
    · rw [h1.ends, List.map_append, ← List.append_assoc, List.take_append_of_le_length (l₁ := t.ends ++ L1.map (·.2)) (by rw [List.length_append, List.length_map, ht.even]; omega)]
    · rw [hov, List.length_append]; symm; exact decide_eq_true (by omega)
  | false =>
    have h2 := h2 hov
    have hle : t.runs.length + L1.length ≤ b.runs.toNat := by have := h1.over; rw [hov] at this; have := of_decide_eq_false this.symm; omega
    have e1 : r1.runs = t.runs ++ L1.map (·.1) := by rw [h1.runs, List.take_of_length_le]; rw [List.length_append, List.length_map]; exact hle
    have e2 : r1.ends = t.ends ++ L1.map (·.2) := by rw [h1.ends, List.take_of_length_le]; rw [List.length_append, List.length_map, ht.even]; exact hle
    refine ⟨?_, ?_, ?_, fun h => ?_, fun h => ?_⟩
    · rw [h2.runs, e1, List.map_append, List.append_assoc]
    · rw [h2.ends, e2, List.map_append, List.append_assoc]
    · rw [h2.over, e1, List.length_append, List.length_append, List.length_map, Nat.add_assoc]
    · rw [h2.spun h, h1.spun hov, Bool.or_assoc]
    · rw [h2.short h, h1.short hov, List.any_append, Bool.or_assoc]
theorem leaf_rd {b : PBud} (hb : 0 ≤ b.runs) {s : PSt} {picks : List PPick} {c : Bool} {t : TS} (ht : TsOk b t) (ho : t.over = false) : Rd b t [(⟨picks, c, false⟩, s)] false (leafF b s picks c t) := by
  have h1 := ht.len
  have h2 := ht.even
  unfold leafF
  split
  · rename_i hb0
    have hge : t.runs.length = b.runs.toNat := by unfold tellB at hb0; have := of_decide_eq_false hb0; omega
    refine ⟨?_, ?_, ?_, fun h => (by cases h), fun h => (by cases h)⟩
    · show t.runs = _
      rw [List.take_append_of_le_length (by omega), List.take_of_length_le (by omega)]
    · show t.ends = _
      rw [List.take_append_of_le_length (by omega), List.take_of_length_le (by omega)]
    · show true = _
      symm; exact decide_eq_true (by simp; omega)
  · rename_i hb0
    have hlt : t.runs.length < b.runs.toNat := by unfold tellB at hb0; simp at hb0; omega
    refine ⟨?_, ?_, ?_, fun h => by simp, fun h => by simp⟩
    · rw [List.take_of_length_le (by simp; omega)]; rfl
    · rw [List.take_of_length_le (by simp; omega)]; rfl
    · show t.over = _
      rw [ho]; symm; exact decide_eq_false (by simp; omega)
theorem rd_spin {b : PBud} {t r : TS} {L : List (PRun × PSt)} {sp : Bool} {s : PSt} (h : Rd b (spinT t s 6) L sp r) : Rd b t L (spinB s || sp) r :=
  ⟨h.runs, h.ends, h.over, fun ho => by rw [h.spun ho]; show (spunTo t.spun s 6 || sp) = _; rw [spunTo_or, Bool.or_assoc]; rfl, h.short⟩
theorem fold_rd {b : PBud} {p : PProg} {k : Nat} {s : PSt} {picks : List PPick} (ih : ∀ (s : PSt) (picks : List PPick) (t : TS), TsOk b t → t.over = false → Rd b t (lvs p b.fuel k s picks) (spn p b.fuel k s) (onF p b k s picks t)) :
    ∀ (l : List PPick) (t : TS), TsOk b t → t.over = false → Rd b t (l.flatMap fun x => lvs p b.fuel k (doF p s x b.fuel).1 (picks ++ [x])) (l.any fun x => spn p b.fuel k (doF p s x b.fuel).1) (l.foldl (rndX p b k s picks) t)
  | [], t, ht, ho => ⟨by simp [List.take_of_length_le ht.len], by simp [List.take_of_length_le (show t.ends.length ≤ _ by rw [ht.even]; exact ht.len)], by rw [List.foldl_nil, ho]; symm; exact decide_eq_false (by have := ht.len; simp; omega), fun _ => by simp, fun _ => by simp⟩
  | x :: l, t, ht, ho => by
    have e : rndX p b k s picks t x = onF p b k (doF p s x b.fuel).1 (picks ++ [x]) t := if_neg (by rw [ho]; decide)
    have h1 := ih (doF p s x b.fuel).1 (picks ++ [x]) t ht ho
    rw [List.foldl_cons, e, List.flatMap_cons, List.any_cons]
    refine Rd.comp ht h1 (fun h => fold_over l _ h) (fun h => fold_rd ih l _ (h1.ok ht) h)
theorem on_rd {b : PBud} (hb : 0 ≤ b.runs) {p : PProg} : ∀ (k : Nat) (s : PSt) (picks : List PPick) (t : TS), TsOk b t → t.over = false → Rd b t (lvs p b.fuel k s picks) (spn p b.fuel k s) (onF p b k s picks t)
  | 0, s, picks, t, ht, ho => by
    have h := rd_spin (leaf_rd (s := s) (picks := picks) (c := !(readyL p s).isEmpty) hb (t := spinT t s 6) ⟨ht.len, ht.even⟩ ho)
    rw [Bool.or_false] at h
    exact h
  | k + 1, s, picks, t, ht, ho => by
    by_cases hz : readyL p s = []
    · have h := rd_spin (leaf_rd (s := s) (picks := picks) (c := false) hb (t := spinT t s 6) ⟨ht.len, ht.even⟩ ho)
      rw [onF, if_pos hz, lvs, if_pos hz, spn, hz]
      exact h
    · have h := rd_spin (fold_rd (on_rd hb (p := p) k) (s := s) (picks := picks) (readyL p s) (spinT t s 6) ⟨ht.len, ht.even⟩ ho)
      rw [on_fold hz, lvs, if_neg hz, spn]
      exact h
abbrev lvT (p : PProg) (b : PBud) : List (PRun × PSt) := lvs p b.fuel b.steps.toNat (startF p b.fuel).1 []
abbrev spT (p : PProg) (b : PBud) : Bool := spn p b.fuel b.steps.toNat (startF p b.fuel).1
theorem tree_rd {p : PProg} {b : PBud} (hf : fitsF p 0 b = 0) : Rd b ts0 (lvT p b) (spT p b) (treeT p b) := by
  rw [treeT, if_pos hf]
  exact on_rd (fits0 hf).2.2.2.2.1 _ _ _ _ ⟨Nat.zero_le _, rfl⟩ rfl
theorem tree_runs {p : PProg} {b : PBud} (hf : fitsF p 0 b = 0) : (treeT p b).runs = ((lvT p b).map (·.1)).take b.runs.toNat := (tree_rd hf).runs
theorem tree_whole {p : PProg} {b : PBud} (hf : fitsF p 0 b = 0) : wholeT p b = (decide ((lvT p b).length ≤ b.runs.toNat) && !((lvT p b).any fun x => x.1.cut) && !spT p b) := by
  have h := tree_rd hf
  have ho := h.over
  rw [wholeT, hf]
  cases hov : (treeT p b).over with
  | true =>
    rw [hov] at ho
    have := of_decide_eq_true ho.symm
    rw [show decide ((lvT p b).length ≤ b.runs.toNat) = false from decide_eq_false (by have h0 : ts0.runs.length = 0 := rfl; omega)]
    rfl
  | false =>
    rw [hov] at ho
    have := of_decide_eq_false ho.symm
    rw [show decide ((lvT p b).length ≤ b.runs.toNat) = true from decide_eq_true (by have h0 : ts0.runs.length = 0 := rfl; omega), h.spun hov, h.short hov]
    rfl
end Go.Ab


/- small: a little program. -/
set_option autoImplicit false
set_option maxRecDepth 20000
set_option maxHeartbeats 4000000
set_option linter.unusedSimpArgs false
set_option linter.unusedVariables false
namespace Go.Ab
open Go.Proofs
def smallF : PFun := ⟨0, 0, [⟨64, 0, 0, 0, 0⟩, ⟨45, 0, 0, 0, 0⟩], []⟩
def smallP : PProg := ⟨[], 0, [], [smallF]⟩
def allT (p : PProg) (b : PBud) : PRuns := ⟨(treeT p b).runs, wholeT p b⟩
def one1 : PRuns := ⟨[⟨[⟨0, 0⟩], false, false⟩], true⟩
def one0 : PRuns := ⟨[⟨[], true, false⟩], false⟩
set_option maxRecDepth 100000 in
theorem small1 : allT smallP ⟨1, 1, 1⟩ = one1 ∧ fitsF smallP 0 ⟨1, 1, 1⟩ = 0 := by decide +kernel
set_option maxRecDepth 100000 in
theorem small0 : allT smallP ⟨0, 1, 1⟩ = one0 ∧ fitsF smallP 0 ⟨0, 1, 1⟩ = 0 := by decide +kernel
theorem all_acB (p : PProg) (b : PBud) {x : AV} (hx : x = encBud b) : AC Tryz.prog T tysN 16 [encProg p, x] [] (.tup [encRuns (allT p b), .int (fitsF p 0 b)]) [] := by
  subst hx; exact all_ac p b
theorem all_s1 {x : AV} (hx : x = encBud ⟨1, 1, 1⟩) : AC Tryz.prog T tysN 16 [encProg smallP, x] [] (.tup [encRuns one1, .int 0]) [] := by
  have h := all_acB smallP ⟨1, 1, 1⟩ hx
  rw [small1.1, small1.2] at h; exact h
theorem all_s0 {x : AV} (hx : x = encBud ⟨0, 1, 1⟩) : AC Tryz.prog T tysN 16 [encProg smallP, x] [] (.tup [encRuns one0, .int 0]) [] := by
  have h := all_acB smallP ⟨0, 1, 1⟩ hx
  rw [small0.1, small0.2] at h; exact h
abbrev sp0 : AV := stru 26 [.v (.slice none 0 0), .int 0, .v (.slice none 0 0), .own (.s 10 0) 1 0 1 none]
theorem small_ac  : AC Tryz.prog T tysN 20 [] [] (.bool true) [] := by
 refine AC_intro hT Tryz.func20 rfl rfl (Nat.le_of_ble_eq_true rfl) ?_
 refine sq (rg [] rfl ?_)
 refine sq (rg [CG.mine, CG.mine] rfl ?_)
 refine sq ?_
 refine WP.ent (st' := mkSt [(1, .ptr (.s 1 0) 1 0 [])] [(.s 1 0, .cells ⟨26, 1, fun _ => sp0, 0⟩), (.s 10 0, cellsL 100 encFun fun0 [smallF])]) (em [(.s 8 0, 2)] ⟨⟨_, rfl, Nat.le_refl _⟩, trivial⟩ ⟨⟨rfl, _, rfl, cvt⟩, trivial⟩ ⟨obs rfl (hg := q0 (conv_eq (agg_ext fun q => by match q with | 0 | 1 | 2 | 3 | q + 4 => rfl))), obs rfl (hg := q0 ?_), trivial⟩) ?_
 · refine ⟨_, rfl, fun i hi => ?_⟩
   match i, hi with
   | 0, _ => exact conv_eq rfl
   | 1, _ => exact conv_eq rfl
   | 2, _ => exact conv_row rfl rfl rfl (fun h => by cases h) (Nat.le_refl _) (fun j hj => by match j, hj with | 0, _ => exact ⟨rfl, AEq.of_eq (agg_ext fun q => by match q with | 0 | 1 | 2 | 3 | 4 | q + 5 => rfl)⟩ | 1, _ => exact ⟨rfl, AEq.of_eq (agg_ext fun q => by match q with | 0 | 1 | 2 | 3 | 4 | q + 5 => rfl)⟩)
   | 3, _ => exact conv_nil_row (by decide)
 refine WP.ent (st' := mkSt [(1, .ptr (.s 1 0) 1 0 [])] [(.s 1 0, .cells ⟨26, 1, fun _ => encProg smallP, 0⟩)]) (em [(.s 10 0, 1)] ⟨⟨_, rfl, Nat.le_refl _⟩, trivial⟩ ⟨⟨rfl, _, rfl, cvt⟩, trivial⟩ ⟨obs rfl (hg := q0 ?_), trivial⟩) ?_
 · refine ⟨_, rfl, fun i hi => ?_⟩
   match i, hi with
   | 0, _ => exact conv_nil_row (by decide)
   | 1, _ => exact conv_eq rfl
   | 2, _ => exact conv_nil_row (by decide)
   | 3, _ => exact conv_row rfl rfl rfl (fun h => by cases h) (Nat.le_refl _) (fun j hj => by match j, hj with | 0, _ => exact ⟨rfl, AEq.refl _⟩)
 refine WP.ent (st' := mkSt [(1, .rp 26 (encProg smallP))] []) (em [(.s 1 0, 1)] ⟨sF, trivial⟩ ⟨⟨rfl, _, rfl, rpv⟩, trivial⟩ trivial) ?_
 refine rgs [CG.pure (.tup [encRuns one1, .int 0])] rfl ?_ ?_
 ·simp only [holdsC, under, CG.pure]
  refine ⟨all_s1 ?_, trivial, Nat.le_refl _⟩
  exact agg_ext fun q => by match q with | 0 | 1 | 2 | q + 3 => rfl
 refine sq ?_
 refine WP.ent (st' := mkSt [(1, .rp 26 (encProg smallP)), (2, .rp 32 (encRuns one1)), (3, .int 0)] []) ?_ ?_
 ·refine em [(.s 2 0, 1)] ⟨sF, trivial⟩ ⟨⟨rfl, _, rfl, cvt⟩, ⟨rfl, _, rfl, rpv⟩, ⟨rfl, _, rfl, cvt⟩, trivial⟩ trivial
 refine rgs [CG.pure (.tup [encRuns one0, .int 0])] rfl ?_ ?_
 ·simp only [holdsC, under, CG.pure]
  refine ⟨all_s0 ?_, trivial, Nat.le_refl _⟩
  exact agg_ext fun q => by match q with | 0 | 1 | 2 | q + 3 => rfl
 refine sq ?_
 refine WP.ent (st' := mkSt [(1, .rp 26 (encProg smallP)), (2, .rp 32 (encRuns one1)), (3, .int 0), (4, .rp 32 (encRuns one0)), (5, .int 0)] []) ?_ ?_
 ·refine em [(.s 4 0, 1)] ⟨sF, trivial⟩ ⟨⟨rfl, _, rfl, cvt⟩, ⟨rfl, _, rfl, cvt⟩, ⟨rfl, _, rfl, cvt⟩, ⟨rfl, _, rfl, rpv⟩, ⟨rfl, _, rfl, cvt⟩, trivial⟩ trivial
 refine rg [] rfl ?_
 refine WP.ret ?_
 change Fin ..
 exact fin1 hT (by rfl) rfl
end Go.Ab


/- TreeGrows. -/
set_option autoImplicit false
set_option maxRecDepth 20000
set_option maxHeartbeats 4000000
set_option linter.unusedSimpArgs false
set_option linter.unusedVariables false
namespace Go.Ab
open Go.Proofs
theorem putB_runs (b : PBud) (x : Int) : (encBud b).put [2] (.int x) = encBud { b with runs := x } := stru_put (Nat.le_of_ble_eq_true rfl)
end Go.Ab


/- Schedules: walk, run, waiting, Maximal, Run. -/
set_option autoImplicit false
set_option maxRecDepth 20000
set_option maxHeartbeats 4000000
set_option linter.unusedSimpArgs false
set_option linter.unusedVariables false
namespace Go.Ab
open Go.Proofs
def wlk (p : PProg) (n : Int) : PSt → List PPick → PSt × Nat × List Evt
  | s, [] => (s, 0, [])
  | s, x :: r => if (doF p s x n).2.2 ≠ 0 then (s, 0, []) else ((wlk p n (doF p s x n).1 r).1, (wlk p n (doF p s x n).1 r).2.1 + 1, (doF p s x n).2.1 :: (wlk p n (doF p s x n).1 r).2.2)
theorem wlk_ok {p : PProg} {n : Int} : ∀ (l : List PPick) (s : PSt), OkS s → OkS (wlk p n s l).1
  | [], s, h => h
  | x :: r, s, h => by
    rw [wlk]
    split
    · exact h
    · exact wlk_ok r _ (do_ok h)
theorem waiting_ac (p : PProg) (s : PSt) (hs : OkS s) : AC Tryz.prog T tysN 64 [encProg p, encS s] [] (.bool (!(readyL p s).isEmpty)) [] := by
 refine AC_intro hT Tryz.func64 rfl rfl (Nat.le_of_ble_eq_true rfl) ?_
 refine sq (rg [] rfl ?_)
 refine sq ?_
 refine WP.ent (st' := mkSt [(2, .rp 26 (encProg p)), (3, .rp 62 (encS s)), (4, .bool false)] []) (em [(.s 2 0, 1), (.s 3 0, 1)] ⟨sF, sF, trivial⟩ ⟨⟨rfl, _, rfl, rpv⟩, ⟨rfl, _, rfl, rpv⟩, ⟨rfl, _, rfl, cvt⟩, trivial⟩ trivial) ?_
 refine rgs [CG.pure (.tup [rowPk (readyL p s), .int (askF p s)])] rfl ?_ ?_
 ·have hq := readyS_ac p s hs
  simp only [holdsC, under, CG.pure]
  repeat' with_reducible refine And.intro ?_ ?_
  all_goals (try with_reducible intros)
  all_goals (first | exact trivial | assumption | omega | exact hq | (simp; done) | grind)
 refine sq (rg [] rfl ?_)
 refine WP.ret ?_
 change Fin ..
 refine fin1 hT (by rfl) ?_
 cases (readyL p s) <;> simp
theorem max1_ac (s : PSt) (e : Evt) : AC Tryz.prog T tysN 65 [encS s, encE e] [] (.tup []) [] := by
 refine AC_intro hT Tryz.func65 rfl rfl (Nat.le_of_ble_eq_true rfl) ?_
 refine rg [] rfl ?_
 exact fin_mk hT [] (ts := []) (l := []) trivial trivial trivial rfl rfl rfl
theorem walkM_ac (p : PProg) (l : List PPick) (b : PBud) : AC Tryz.prog T tysN 110 [encProg p, rowPk l, encBud b, .clo 65 []] [] (.tup [encS (wlk p b.fuel (startF p b.fuel).1 l).1, .int (wlk p b.fuel (startF p b.fuel).1 l).2.1]) [] := by
 refine AC_intro hT Tryz.func110 rfl rfl (Nat.le_of_ble_eq_true rfl) ?_
 refine sq (rg [] rfl ?_)
 refine sq ?_
 refine WP.ent (st' := mkSt [(4, .rp 26 (encProg p)), (6, .rp 28 (encBud b)), (1, rowPk l), (3, .clo 65 []), (8, .ptr (.s 8 0) 1 0 [])] [(.s 8 0, .cells ⟨62, 1, fun _ => (T 62).zero, 0⟩)]) (em [(.s 4 0, 1), (.s 6 0, 1)] ⟨sF, sF, trivial⟩ ⟨⟨rfl, _, rfl, rpv⟩, ⟨rfl, _, rfl, rpv⟩, ⟨rfl, _, rfl, cvt⟩, ⟨rfl, _, rfl, cvt⟩, ⟨rfl, _, rfl, cvt⟩, trivial⟩ ⟨obs rfl, trivial⟩) ?_
 refine rgs [CG.pure (.tup [encS (startF p b.fuel).1, .int (startF p b.fuel).2])] rfl ?_ ?_
 ·have hq := start_ac p b.fuel
  simp only [holdsC, under, CG.pure]
  repeat' with_reducible refine And.intro ?_ ?_
  all_goals (try with_reducible intros)
  all_goals (first | exact trivial | assumption | omega | exact hq | (simp; done) | grind)
 refine sq (sq ?_)
 refine WP.rowlen 1 rfl (fun hl => ?_)
 refine rg [] rfl ?_
 refine bk ?_
 refine WP.loop (α := Nat × PSt) (fun (⟨i, s⟩ : Nat × PSt) => mkSt [(1, rowPk l), (3, .clo 65 []), (4, .rp 26 (encProg p)), (6, .rp 28 (encBud b)), (8, .ptr (.s 8 0) 1 0 []), (10, .ptr (.s 10 0) 1 0 []), (24, rowPk l), (25, .int l.length), (26, .int i)] [(.s 8 0, .cells ⟨62, 1, fun _ => (T 62).zero, 0⟩), (.s 10 0, .cells ⟨62, 1, fun _ => encS s, 0⟩)]) (fun (⟨i, s⟩ : Nat × PSt) => i ≤ l.length ∧ OkS s ∧ (wlk p b.fuel s (l.drop i)).1 = (wlk p b.fuel (startF p b.fuel).1 l).1 ∧ (wlk p b.fuel s (l.drop i)).2.1 + i = (wlk p b.fuel (startF p b.fuel).1 l).2.1) (fun (⟨i, s⟩ : Nat × PSt) => l.length - i) ?_ ?_
 ·refine ⟨⟨0, (startF p b.fuel).1⟩, ?_, ?_⟩
  ·exact ⟨Nat.zero_le _, start_ok, rfl, rfl⟩
  ·refine em [] trivial ⟨⟨rfl, _, rfl, cvt⟩, ⟨rfl, _, rfl, cvt⟩, ⟨rfl, _, rfl, cvt⟩, ⟨rfl, _, rfl, cvt⟩, ⟨rfl, _, rfl, cvt⟩, ⟨rfl, _, rfl, cvt⟩, ⟨rfl, _, rfl, cvt⟩, ⟨rfl, _, rfl, cvt⟩, ⟨rfl, _, rfl, cvt⟩, trivial⟩ ⟨obs rfl, obs rfl, trivial⟩
 ·rintro ⟨i, s⟩ ⟨hi, hs, hw1, hw2⟩
  refine sq (rg [] rfl ?_)
  refine sq ?_
  refine cd rfl (fun h3 => ?_) (fun h3 => ?_)
  ·have hil : i < l.length := by simp [-List.getD_eq_getElem?_getD] at h3; omega
   have hdr : l.drop i = l.getD i pick0 :: l.drop (i + 1) := by rw [List.drop_eq_getElem_cons hil]; simp [hil]
   obtain ⟨x, hx⟩ : ∃ x, l.getD i pick0 = x := ⟨_, rfl⟩
   rw [hdr, hx, wlk] at hw1 hw2
   refine sk (sq (bk (sq (rg [] rfl ?_))))
   refine sq ?_
   refine WP.ent (st' := mkSt [(1, rowPk l), (3, .clo 65 []), (4, .rp 26 (encProg p)), (6, .rp 28 (encBud b)), (8, .ptr (.s 8 0) 1 0 []), (10, .ptr (.s 10 0) 1 0 []), (12, .int i), (13, .rp 122 (encPick x)), (24, rowPk l), (25, .int l.length), (26, .int i)] [(.s 8 0, .cells ⟨62, 1, fun _ => (T 62).zero, 0⟩), (.s 10 0, .cells ⟨62, 1, fun _ => encS s, 0⟩)]) ?_ ?_
   ·refine em [(.s 13 0, 1)] ⟨sF, trivial⟩ ⟨⟨rfl, _, rfl, cvt⟩, ⟨rfl, _, rfl, cvt⟩, ⟨rfl, _, rfl, cvt⟩, ⟨rfl, _, rfl, cvt⟩, ⟨rfl, _, rfl, cvt⟩, ⟨rfl, _, rfl, cvt⟩, ⟨rfl, _, rfl, cvt⟩, ⟨rfl, _, rfl, conv_rpe rfl rfl (by decide) rfl (by rw [← hx]; rfl) rfl⟩, ⟨rfl, _, rfl, cvt⟩, ⟨rfl, _, rfl, cvt⟩, ⟨rfl, _, rfl, cvt⟩, trivial⟩ ⟨obs rfl, obs rfl, trivial⟩
   refine rgs [CG.pure (.tup [encS (doF p s x b.fuel).1, encE (doF p s x b.fuel).2.1, .int (doF p s x b.fuel).2.2])] rfl ?_ ?_
   ·have hq := do_ac p s x b.fuel hs
    simp only [holdsC, under, CG.pure]
    repeat' with_reducible refine And.intro ?_ ?_
    all_goals (try with_reducible intros)
    all_goals (first | exact trivial | assumption | omega | exact hq | (simp; done) | grind)
   refine sq (sq (rg [] rfl ?_))
   refine cd rfl (fun h6 => ?_) (fun h6 => ?_)
   ·have he : (doF p s x b.fuel).2.2 ≠ 0 := by simpa using h6
    refine sq (rg [] rfl ?_)
    refine WP.ret ?_
    change Fin ..
    rw [if_pos he] at hw1 hw2
    rw [← hw1, ← hw2]
    exact finCT hT rfl rfl rfl (conv_eq rfl) (by simp)
   ·have he : ¬ (doF p s x b.fuel).2.2 ≠ 0 := by simpa using h6
    refine sk (sq (rg [] rfl ?_))
    refine WP.ent (st' := mkSt [(1, rowPk l), (3, .clo 65 []), (4, .rp 26 (encProg p)), (6, .rp 28 (encBud b)), (8, .ptr (.s 8 0) 1 0 []), (10, .ptr (.s 10 0) 1 0 []), (15, .rp 137 (encE (doF p s x b.fuel).2.1)), (24, rowPk l), (25, .int l.length), (26, .int i)] [(.s 8 0, .cells ⟨62, 1, fun _ => (T 62).zero, 0⟩), (.s 10 0, .cells ⟨62, 1, fun _ => encS (doF p s x b.fuel).1, 0⟩)]) ?_ ?_
    ·refine em [(.s 15 0, 1)] ⟨sF, trivial⟩ ⟨⟨rfl, _, rfl, cvt⟩, ⟨rfl, _, rfl, cvt⟩, ⟨rfl, _, rfl, cvt⟩, ⟨rfl, _, rfl, cvt⟩, ⟨rfl, _, rfl, cvt⟩, ⟨rfl, _, rfl, cvt⟩, ⟨rfl, _, rfl, rpv⟩, ⟨rfl, _, rfl, cvt⟩, ⟨rfl, _, rfl, cvt⟩, ⟨rfl, _, rfl, cvt⟩, trivial⟩ ⟨obs rfl, obs rfl, trivial⟩
    refine rgs [CG.pure (.tup [])] rfl ?_ ?_
    ·have hq := max1_ac (doF p s x b.fuel).1 (doF p s x b.fuel).2.1
     simp only [holdsC, under, CG.pure]
     repeat' with_reducible refine And.intro ?_ ?_
     all_goals (try with_reducible intros)
     all_goals (first | exact trivial | assumption | omega | exact hq | (simp; done) | grind)
    refine rg [] rfl ?_
    refine ⟨⟨i + 1, (doF p s x b.fuel).1⟩, ?_, ?_, ?_⟩
    ·rw [if_neg he] at hw1 hw2
     exact ⟨hil, do_ok hs, hw1, by rw [← hw2]; show _ + (i + 1) = (_ + 1) + i; omega⟩
    ·refine em [] trivial ⟨⟨rfl, _, rfl, cvt⟩, ⟨rfl, _, rfl, cvt⟩, ⟨rfl, _, rfl, cvt⟩, ⟨rfl, _, rfl, cvt⟩, ⟨rfl, _, rfl, cvt⟩, ⟨rfl, _, rfl, cvt⟩, ⟨rfl, _, rfl, cvt⟩, ⟨rfl, _, rfl, cvt⟩, ⟨rfl, _, rfl, cvt⟩, trivial⟩ ⟨obs rfl, obs rfl, trivial⟩
    ·(try simp only []); first | omega | grind
  ·have hil : i = l.length := by simp [-List.getD_eq_getElem?_getD] at h3; omega
   refine xt (sq (rg [] rfl ?_))
   refine WP.ret ?_
   change Fin ..
   rw [hil, List.drop_length] at hw1 hw2
   have hw3 : s = _ := hw1
   have hw4 : 0 + l.length = _ := hw2
   rw [← hw3, ← hw4]
   exact finCT hT rfl rfl rfl (conv_eq rfl) (by simp)
end Go.Ab


/- Schedules: run, Maximal. -/
set_option autoImplicit false
set_option maxRecDepth 20000
set_option maxHeartbeats 4000000
set_option linter.unusedSimpArgs false
set_option linter.unusedVariables false
namespace Go.Ab
open Go.Proofs
def runF (p : PProg) (l : List PPick) (b : PBud) : PSt × Int × Int :=
  if fitsF p l.length b ≠ 0 then (st0, fitsF p l.length b, 0) else if b.steps < l.length then (st0, 2, b.steps) else
  if (wlk p b.fuel (startF p b.fuel).1 l).2.1 < l.length then (st0, 5, (wlk p b.fuel (startF p b.fuel).1 l).2.1) else ((wlk p b.fuel (startF p b.fuel).1 l).1, 0, 0)
theorem runF_ok {p : PProg} {l : List PPick} {b : PBud} : OkS (runF p l b).1 := by
  unfold runF
  split
  · exact ok_st0
  split
  · exact ok_st0
  split
  · exact ok_st0
  · exact wlk_ok _ _ start_ok
def maxF (p : PProg) (l : List PPick) (b : PBud) : Bool := decide ((runF p l b).2.1 = 0) && (readyL p (runF p l b).1).isEmpty
theorem runM_ac (p : PProg) (l : List PPick) (b : PBud) : AC Tryz.prog T tysN 62 [encProg p, rowPk l, encBud b, .clo 65 []] [] (.tup [encS (runF p l b).1, .int (runF p l b).2.1, .int (runF p l b).2.2]) [] := by
 refine AC_intro hT Tryz.func62 rfl rfl (Nat.le_of_ble_eq_true rfl) ?_
 refine sq (rg [] rfl ?_)
 refine sq (sq ?_)
 refine WP.ent (st' := mkSt [(4, .rp 26 (encProg p)), (6, .rp 28 (encBud b)), (1, rowPk l), (3, .clo 65 []), (8, .ptr (.s 8 0) 1 0 [])] [(.s 8 0, .cells ⟨62, 1, fun _ => (T 62).zero, 0⟩)]) (em [(.s 4 0, 1), (.s 6 0, 1)] ⟨sF, sF, trivial⟩ ⟨⟨rfl, _, rfl, rpv⟩, ⟨rfl, _, rfl, rpv⟩, ⟨rfl, _, rfl, cvt⟩, ⟨rfl, _, rfl, cvt⟩, ⟨rfl, _, rfl, cvt⟩, trivial⟩ ⟨obs rfl, trivial⟩) ?_
 refine rgs [CG.pure (.int (fitsF p l.length b))] rfl ?_ ?_
 ·have hq := sfit_ac p l.length b
  simp only [holdsC, under, CG.pure]
  repeat' with_reducible refine And.intro ?_ ?_
  all_goals (try with_reducible intros)
  all_goals (first | exact trivial | assumption | omega | exact hq | (simp; done) | grind)
 refine sq (rg [] rfl ?_)
 refine cd rfl (fun h2 => ?_) (fun h2 => ?_)
 ·have hf : fitsF p l.length b ≠ 0 := by simpa using h2
  refine sq (rg [] rfl ?_)
  refine WP.ret ?_
  change Fin ..
  have e : runF p l b = (st0, fitsF p l.length b, 0) := by rw [runF, if_pos hf]
  rw [e]
  exact finC3 hT [] trivial rfl rfl rfl rfl (conv_eq zeroS) rfl rfl
 ·have hf : fitsF p l.length b = 0 := by simpa using h2
  refine sk (sq (sq (rg [] rfl ?_)))
  refine cd rfl (fun h4 => ?_) (fun h4 => ?_)
  ·have hl : b.steps < l.length := by simpa using h4
   refine sq (dr [] rfl ?_)
   refine WP.ret ?_
   change Fin ..
   have e : runF p l b = (st0, 2, b.steps) := by rw [runF, if_neg (by omega), if_pos hl]
   rw [e]
   exact finC3 hT [] trivial rfl rfl rfl rfl (conv_eq zeroS) rfl rfl
  ·have hl : ¬ b.steps < l.length := by simp at h4; omega
   refine sk (sq (rgs [CG.pure (.tup [encS (wlk p b.fuel (startF p b.fuel).1 l).1, .int (wlk p b.fuel (startF p b.fuel).1 l).2.1])] rfl ?_ ?_))
   ·have hq := walkM_ac p l b
    simp only [holdsC, under, CG.pure]
    repeat' with_reducible refine And.intro ?_ ?_
    all_goals (try with_reducible intros)
    all_goals (first | exact trivial | assumption | omega | exact hq | (simp; done) | grind)
   refine sq (sq (rg [] rfl ?_))
   refine cd rfl (fun h7 => ?_) (fun h7 => ?_)
   ·have hw : (wlk p b.fuel (startF p b.fuel).1 l).2.1 < l.length := by simpa using h7
    refine sq (rg [] rfl ?_)
    refine WP.ret ?_
    change Fin ..
    have e : runF p l b = (st0, 5, ((wlk p b.fuel (startF p b.fuel).1 l).2.1 : Int)) := by rw [runF, if_neg (by omega), if_neg hl, if_pos hw]
    rw [e]
    exact finC3 hT [] trivial rfl rfl rfl rfl (conv_eq zeroS) rfl rfl
   ·have hw : ¬ (wlk p b.fuel (startF p b.fuel).1 l).2.1 < l.length := by simp at h7; omega
    refine sk (sq (rg [] rfl ?_))
    refine WP.ret ?_
    change Fin ..
    have e : runF p l b = ((wlk p b.fuel (startF p b.fuel).1 l).1, 0, 0) := by rw [runF, if_neg (by omega), if_neg hl, if_neg hw]
    rw [e]
    exact finC3 hT [] trivial rfl rfl rfl rfl (conv_eq rfl) rfl rfl
theorem maximal_ac (p : PProg) (l : List PPick) (b : PBud) : AC Tryz.prog T tysN 27 [encProg p, rowPk l, encBud b] [] (.tup [.bool (maxF p l b), .int (runF p l b).2.1]) [] := by
 refine AC_intro hT Tryz.func27 rfl rfl (Nat.le_of_ble_eq_true rfl) ?_
 refine sq (rg [] rfl ?_)
 refine sq ?_
 refine WP.ent (st' := mkSt [(3, .rp 26 (encProg p)), (5, .rp 28 (encBud b)), (1, rowPk l)] []) (em [(.s 3 0, 1), (.s 5 0, 1)] ⟨sF, sF, trivial⟩ ⟨⟨rfl, _, rfl, rpv⟩, ⟨rfl, _, rfl, rpv⟩, ⟨rfl, _, rfl, cvt⟩, trivial⟩ trivial) ?_
 refine rgs [CG.pure (.tup [encS (runF p l b).1, .int (runF p l b).2.1, .int (runF p l b).2.2])] rfl ?_ ?_
 ·have hq := runM_ac p l b
  simp only [holdsC, under, CG.pure]
  repeat' with_reducible refine And.intro ?_ ?_
  all_goals (try with_reducible intros)
  all_goals (first | exact trivial | assumption | omega | exact hq | (simp; done) | grind)
 refine sq (rgs [CG.pure (.bool (!(readyL p (runF p l b).1).isEmpty))] rfl ?_ ?_)
 ·have hq := waiting_ac p (runF p l b).1 runF_ok
  simp only [holdsC, under, CG.pure]
  repeat' with_reducible refine And.intro ?_ ?_
  all_goals (try with_reducible intros)
  all_goals (first | exact trivial | assumption | omega | exact hq | (simp; done) | grind)
 refine WP.ret ?_
 change Fin ..
 refine fin_mk hT [] (ts := [(6, .bool (maxF p l b)), (7, .int (runF p l b).2.1)]) (l := [.bool (maxF p l b), .int (runF p l b).2.1]) trivial ⟨⟨rfl, _, rfl, conv_eq ?_⟩, ⟨rfl, _, rfl, cvt⟩, trivial⟩ trivial rfl rfl rfl
 have e : ((runF p l b).2.1 == 0) = decide ((runF p l b).2.1 = 0) := by rw [Bool.eq_iff_iff]; simp
 rw [maxF, ← e]
 cases ((runF p l b).2.1 == 0) <;> cases (readyL p (runF p l b).1).isEmpty <;> rfl
end Go.Ab


/- The tree of runs: its leaves are the legal schedules that end. -/
set_option autoImplicit false
set_option maxRecDepth 20000
set_option maxHeartbeats 4000000
set_option linter.unusedSimpArgs false
set_option linter.unusedVariables false
namespace Go.Ab
open Go.Proofs
def legal (p : PProg) (n : Int) : PSt → List PPick → Prop
  | _, [] => True
  | s, x :: r => x ∈ readyL p s ∧ legal p n (doF p s x n).1 r
def endS (p : PProg) (n : Int) : PSt → List PPick → PSt
  | s, [] => s
  | s, x :: r => endS p n (doF p s x n).1 r
theorem do_err {p : PProg} {s : PSt} {x : PPick} {n : Int} (hn : 0 ≤ n ∧ n ≤ 4096) (h : x ∈ readyL p s) : (doF p s x n).2.2 = 0 := by
  obtain ⟨h1, h2, h3⟩ := ready_go h
  obtain ⟨j, g1, g2, g3⟩ := liveTo_mem.1 h1
  rw [doF, if_neg (by omega), if_neg (by omega), if_neg]
  intro hp
  exact hp ⟨by omega, by rw [goI, g2]; exact g3, h2⟩
theorem wlk_legal {p : PProg} {n : Int} (hn : 0 ≤ n ∧ n ≤ 4096) : ∀ (l : List PPick) (s : PSt), legal p n s l → (wlk p n s l).1 = endS p n s l ∧ (wlk p n s l).2.1 = l.length
  | [], s, _ => ⟨rfl, rfl⟩
  | x :: r, s, h => by
    obtain ⟨h1, h2⟩ := wlk_legal hn r _ h.2
    rw [wlk, if_neg (by rw [do_err hn h.1]; decide)]
    exact ⟨h1, congrArg (· + 1) h2⟩
structure LeafP (p : PProg) (n : Int) (k : Nat) (s : PSt) (picks : List PPick) (y : PRun × PSt) (l : List PPick) : Prop where
  picks : y.1.picks = picks ++ l
  legal : legal p n s l
  last : endS p n s l = y.2
  len : l.length ≤ k
  cut : y.1.cut = (decide (l.length = k) && !(readyL p y.2).isEmpty)
  fin : readyL p y.2 = [] ∨ l.length = k
  rep : y.1.rep = false
theorem leaf_path {p : PProg} {n : Int} : ∀ (k : Nat) (s : PSt) (picks : List PPick) (y : PRun × PSt), y ∈ lvs p n k s picks → ∃ l, LeafP p n k s picks y l
  | 0, s, picks, y, h => by
    obtain rfl := List.mem_singleton.1 h
    exact ⟨[], by simp, trivial, rfl, Nat.le_refl _, by simp, .inr rfl, rfl⟩
  | k + 1, s, picks, y, h => by
    rw [lvs] at h
    split at h
    · rename_i hz
      obtain rfl := List.mem_singleton.1 h
      exact ⟨[], by simp, trivial, rfl, Nat.zero_le _, by simp, .inl hz, rfl⟩
    · obtain ⟨x, hx, hy⟩ := List.mem_flatMap.1 h
      obtain ⟨l, hl⟩ := leaf_path k _ _ y hy
      refine ⟨x :: l, by rw [hl.picks]; simp, ⟨hx, hl.legal⟩, hl.last, Nat.succ_le_succ hl.len, by rw [hl.cut]; simp, hl.fin.imp id (congrArg (· + 1)), hl.rep⟩
theorem path_leaf {p : PProg} {n : Int} : ∀ (l : List PPick) (k : Nat) (s : PSt) (picks : List PPick), legal p n s l → l.length ≤ k → (readyL p (endS p n s l) = [] ∨ l.length = k) → ∃ y ∈ lvs p n k s picks, y.1.picks = picks ++ l
  | [], k, s, picks, _, _, h => by
    cases k with
    | zero => exact ⟨_, List.mem_singleton.2 rfl, by simp⟩
    | succ k =>
      have hz : readyL p s = [] := h.resolve_right (by simp)
      refine ⟨(⟨picks, false, false⟩, s), by rw [lvs, if_pos hz]; exact List.mem_singleton.2 rfl, by simp⟩
  | x :: r, 0, s, picks, _, h, _ => absurd h (by simp)
  | x :: r, k + 1, s, picks, hl, hk, h => by
    obtain ⟨y, hy, e⟩ := path_leaf r k (doF p s x n).1 (picks ++ [x]) hl.2 (Nat.le_of_succ_le_succ hk) (h.imp id (fun e => Nat.succ.inj e))
    have hz : readyL p s ≠ [] := List.ne_nil_of_mem hl.1
    exact ⟨y, by rw [lvs, if_neg hz]; exact List.mem_flatMap.2 ⟨x, hl.1, hy⟩, by rw [e]; simp⟩
theorem fits_len {p : PProg} {b : PBud} {m n : Int} (h : fitsF p m b = 0) (hn : n ≤ 256) : fitsF p n b = 0 := by
  have h1 := fits0 h
  unfold fitsF
  rw [if_neg (by rw [h1.1]; decide), if_neg (by omega), if_neg (fun hb => hb h1.2.2)]
theorem run_legal {p : PProg} {b : PBud} {l : List PPick} (hf : fitsF p 0 b = 0) (h : legal p b.fuel (startF p b.fuel).1 l) (hl : (l.length : Int) ≤ b.steps) : runF p l b = (endS p b.fuel (startF p b.fuel).1 l, 0, 0) := by
  have hb := (fits0 hf).2.2
  obtain ⟨w1, w2⟩ := wlk_legal hb.2.1 l _ h
  have hb1 := hb.1
  rw [runF, if_neg (by rw [fits_len (n := l.length) hf (by omega)]; decide), if_neg (by omega), if_neg (by rw [w2]; omega), w1]
end Go.Ab


/- Schedules: Choose. -/
set_option autoImplicit false
set_option maxRecDepth 20000
set_option maxHeartbeats 4000000
set_option linter.unusedSimpArgs false
set_option linter.unusedVariables false
namespace Go.Ab
open Go.Proofs
def chIx (L : List Int) (m len : Nat) : Int := if (L.getD m 0).tmod len < 0 then (L.getD m 0).tmod len + len else (L.getD m 0).tmod len
def chPk (L : List Int) (m : Nat) (r : List PPick) : PPick := r.getD (chIx L m r.length).toNat pick0
theorem chIx_bd (L : List Int) (m : Nat) {len : Nat} (h : 0 < len) : 0 ≤ chIx L m len ∧ chIx L m len < len := by
  have h1 := Int.tmod_lt_of_pos (L.getD m 0) (show (0 : Int) < len by omega)
  have h2 := Int.lt_tmod_of_pos (L.getD m 0) (show (0 : Int) < len by omega)
  unfold chIx
  split <;> omega
theorem chPk_mem {L : List Int} {m : Nat} {r : List PPick} (h : r ≠ []) : chPk L m r ∈ r := by
  have h0 := List.length_pos_iff.2 h
  have hb := chIx_bd L m h0
  have hl : (chIx L m r.length).toNat < r.length := by omega
  rw [chPk, List.getD_eq_getElem?_getD, List.getElem?_eq_getElem hl]
  exact List.getElem_mem _
def chRes (L : List Int) (m : Nat) (r : List PPick) : PPick × Bool := if L.length ≤ m then (pick0, false) else (chPk L m r, true)
theorem choose1_ac (m : Nat) (r : List PPick) (L : List Int) (hr : r ≠ []) : AC Tryz.prog T tysN 68 [.int m, rowPk r, .rp 23 (ints false L)] [] (.tup [encPick (chRes L m r).1, .bool (chRes L m r).2]) [] := by
 refine AC_intro hT Tryz.func68 rfl rfl (Nat.le_of_ble_eq_true rfl) ?_
 have h0 := List.length_pos_iff.2 hr
 have hb := chIx_bd L m h0
 have h1b := Int.tmod_lt_of_pos (L.getD m 0) (show (0 : Int) < r.length by omega)
 have h2b := Int.lt_tmod_of_pos (L.getD m 0) (show (0 : Int) < r.length by omega)
 refine WP.rowlen 1 rfl (fun hll => ?_)
 refine sq (rg [] rfl ?_)
 refine sq (sq (rg [] rfl ?_))
 refine cd rfl (fun h1 => ?_) (fun h1 => ?_)
 ·have hm : L.length ≤ m := by simp [-List.getD_eq_getElem?_getD] at h1; omega
  refine sq (rg [] rfl ?_)
  refine WP.ret ?_
  change Fin ..
  rw [chRes, if_pos hm]
  refine fin_mk hT [(.s 5 0, 1)] (ts := [(5, .rp 122 (encPick pick0)), (6, .bool false)]) (l := [encPick pick0, .bool false]) ⟨sF, trivial⟩ ⟨⟨rfl, _, rfl, rpv (hF := by simp [lookF, idbeq_self])⟩, ⟨rfl, _, rfl, cvt⟩, trivial⟩ trivial rfl rfl rfl
 ·have hm : ¬ L.length ≤ m := by simp [-List.getD_eq_getElem?_getD] at h1; omega
  rw [chRes, if_neg hm]
  refine sk (sq (rgs [] rfl ?_ ?_))
  ·have hm1 : ¬ (L.length : Int) ≤ m := by omega
   have hr0 : (r.length : Int) ≠ 0 := by omega
   simp only [holdsC, under, CG.pure]
   repeat' with_reducible refine And.intro ?_ ?_
   all_goals (try with_reducible intros)
   all_goals (first | exact trivial | assumption | omega | exact hm1 | exact hr0 | (simp; done) | grind)
  refine WP.seqJ (α := Int) (fun k => mkSt [(1, rowPk r), (5, .ptr (.s 5 0) 1 0 []), (7, .int k)] [(.s 5 0, .cells ⟨122, 1, fun _ => encPick pick0, 0⟩)]) (fun k => k = chIx L m r.length) ?_ ?_
  ·refine sq (rg [] rfl ?_)
   refine cd rfl (fun h4 => ?_) (fun h4 => ?_)
   ·have h8 : (L.getD m 0).tmod r.length < 0 := by simpa using h4
    have hw : IntKind.i64.wrap ((L.getD m 0).tmod r.length + r.length) = (L.getD m 0).tmod r.length + r.length := wrap_id (by omega) (by omega)
    refine rg [] rfl ?_
    refine ⟨chIx L m r.length, ?_, ?_⟩
    ·rfl
    ·refine em [] trivial ⟨⟨rfl, _, rfl, cvt⟩, ⟨rfl, _, rfl, cvt⟩, ⟨rfl, _, rfl, conv_eq (by rw [chIx, if_pos h8, ← hw]; rfl)⟩, trivial⟩ ⟨obs rfl, trivial⟩
   ·have h8 : ¬ (L.getD m 0).tmod r.length < 0 := by simp [-List.getD_eq_getElem?_getD] at h4; omega
    refine sk ?_
    refine ⟨chIx L m r.length, ?_, ?_⟩
    ·rfl
    ·refine em [] trivial ⟨⟨rfl, _, rfl, cvt⟩, ⟨rfl, _, rfl, cvt⟩, ⟨rfl, _, rfl, conv_eq (by rw [chIx, if_neg h8]; rfl)⟩, trivial⟩ ⟨obs rfl, trivial⟩
  ·rintro k hk
   refine sq (rgs [] rfl ?_ ?_)
   ·rw [hk]
    have hb1 : 0 ≤ chIx L m r.length ∧ chIx L m r.length < (r.length : Int) := hb
    simp only [holdsC, under, CG.pure]
    repeat' with_reducible refine And.intro ?_ ?_
    all_goals (try with_reducible intros)
    all_goals (first | exact trivial | assumption | omega | exact hb1 | exact hb1.1 | exact hb1.2 | (simp; done) | grind)
   refine WP.ret ?_
   change Fin ..
   rw [hk]
   refine fin_mk hT [(.s 5 0, 1)] (ts := [(5, .rp 122 (encPick (chPk L m r))), (6, .bool true)]) (l := [encPick (chPk L m r), .bool true]) ⟨sF, trivial⟩ ⟨⟨rfl, _, rfl, rpv (hF := by simp [lookF, idbeq_self])⟩, ⟨rfl, _, rfl, cvt⟩, trivial⟩ trivial rfl rfl rfl
end Go.Ab


/- Schedules: choices by numbers; Choose. -/
set_option autoImplicit false
set_option maxRecDepth 20000
set_option maxHeartbeats 4000000
set_option linter.unusedSimpArgs false
set_option linter.unusedVariables false
namespace Go.Ab
open Go.Proofs
def chR (p : PProg) (n : Int) (L : List Int) : Nat → PSt → Nat → List PPick
  | 0, s, m => []
  | k + 1, s, m => if readyL p s = [] then [] else if L.length ≤ m then [] else chPk L m (readyL p s) :: chR p n L k (doF p s (chPk L m (readyL p s)) n).1 (m + 1)
theorem chR_legal {p : PProg} {n : Int} {L : List Int} : ∀ (k : Nat) (s : PSt) (m : Nat), legal p n s (chR p n L k s m) ∧ (chR p n L k s m).length ≤ k
  | 0, s, m => ⟨trivial, Nat.le_refl _⟩
  | k + 1, s, m => by
    rw [chR]
    split
    · exact ⟨trivial, Nat.zero_le _⟩
    · rename_i hz
      split
      · exact ⟨trivial, Nat.zero_le _⟩
      · obtain ⟨h1, h2⟩ := chR_legal (p := p) (n := n) (L := L) k (doF p s (chPk L m (readyL p s)) n).1 (m + 1)
        exact ⟨⟨chPk_mem hz, h1⟩, Nat.succ_le_succ h2⟩
theorem choicesC_ac (p : PProg) (b : PBud) (L : List Int) (hb : 0 ≤ b.steps ∧ b.steps ≤ 256) : AC Tryz.prog T tysN 67 [encProg p, encBud b, .clo 68 [.rp 23 (ints false L)]] [] (rowPk (chR p b.fuel L b.steps.toNat (startF p b.fuel).1 0)) [] := by
 refine AC_intro hT Tryz.func67 rfl rfl (Nat.le_of_ble_eq_true rfl) ?_
 refine sq (rg [] rfl ?_)
 refine sq ?_
 refine WP.ent (st' := mkSt [(2, .clo 68 [.rp 23 (ints false L)]), (3, .rp 26 (encProg p)), (4, .rp 28 (encBud b))] []) ?_ ?_
 ·refine em [(.s 3 0, 1), (.s 4 0, 1)] ⟨sF, sF, trivial⟩ ⟨⟨rfl, _, rfl, cvt⟩, ⟨rfl, _, rfl, rpv⟩, ⟨rfl, _, rfl, rpv⟩, trivial⟩ trivial
 refine rgs [CG.pure (.tup [encS (startF p b.fuel).1, .int (startF p b.fuel).2])] rfl ?_ ?_
 ·have hq := start_ac p b.fuel
  simp only [holdsC, under, CG.pure]
  repeat' with_reducible refine And.intro ?_ ?_
  all_goals (try with_reducible intros)
  all_goals (first | exact trivial | assumption | omega | exact hq | (simp; done) | grind)
 refine sq (rg [] rfl ?_)
 refine sq (bk ?_)
 refine WP.loop (α := List PPick × PSt) (fun (⟨acc, s⟩ : List PPick × PSt) => mkSt [(2, .clo 68 [.rp 23 (ints false L)]), (3, .rp 26 (encProg p)), (4, .rp 28 (encBud b)), (7, .ptr (.s 7 0) 1 0 []), (9, .own (.s 58 0) acc.length 0 acc.length none)] [(.s 7 0, .cells ⟨62, 1, fun _ => encS s, 0⟩), (.s 58 0, cellsL 122 encPick pick0 acc)]) (fun (⟨acc, s⟩ : List PPick × PSt) => OkS s ∧ acc.length ≤ b.steps.toNat ∧ acc ++ chR p b.fuel L (b.steps.toNat - acc.length) s acc.length = chR p b.fuel L b.steps.toNat (startF p b.fuel).1 0) (fun (⟨acc, s⟩ : List PPick × PSt) => b.steps.toNat - acc.length) ?_ ?_
 ·refine ⟨⟨[], (startF p b.fuel).1⟩, ?_, ?_⟩
  ·exact ⟨start_ok, Nat.zero_le _, rfl⟩
  ·refine em [] trivial ⟨⟨rfl, _, rfl, cvt⟩, ⟨rfl, _, rfl, cvt⟩, ⟨rfl, _, rfl, cvt⟩, ⟨rfl, _, rfl, cvt⟩, ⟨rfl, _, rfl, conv_nil_own⟩, trivial⟩ ⟨obs rfl, ⟨fun _ _ => rfl, .inr ⟨rfl, 122, _, rfl, by decide⟩⟩, trivial⟩
 ·rintro ⟨acc, s⟩ ⟨hs, hal, hr1⟩
  refine sq (sq (rg [] rfl ?_))
  refine cd rfl (fun h3 => ?_) (fun h3 => ?_)
  ·have hlt : acc.length < b.steps.toNat := by simp [-List.getD_eq_getElem?_getD] at h3; omega
   have hk : b.steps.toNat - acc.length = (b.steps.toNat - (acc.length + 1)) + 1 := by omega
   refine sk (bk (sq (rgs [CG.pure (.tup [rowPk (readyL p s), .int (askF p s)])] rfl ?_ ?_)))
   ·have hq := readyS_ac p s hs
    simp only [holdsC, under, CG.pure]
    repeat' with_reducible refine And.intro ?_ ?_
    all_goals (try with_reducible intros)
    all_goals (first | exact trivial | assumption | omega | exact hq | (simp; done) | grind)
   refine sq (sq (rg [] rfl ?_))
   refine cd rfl (fun h5 => ?_) (fun h5 => ?_)
   ·have hz : readyL p s = [] := List.eq_nil_of_length_eq_zero (by simp [-List.getD_eq_getElem?_getD] at h5; simpa using h5)
    refine xt (sq (rg [] rfl ?_))
    refine WP.ret ?_
    change Fin ..
    rw [hk, chR, if_pos hz] at hr1
    simp only [List.append_nil] at hr1
    rw [← hr1]
    refine fin_mk hT [(.s 58 0, acc.length)] (ts := [(6, rowPk acc)]) (l := [rowPk acc]) ⟨⟨_, rfl, Nat.le_refl _⟩, trivial⟩ ⟨⟨rfl, _, rfl, ?_⟩, trivial⟩ trivial rfl rfl rfl
    exact conv_row rfl rfl rfl (fun h => by cases h) (by simp [lookF, idbeq_self]) (fun q hq => by rw [Nat.zero_add]; exact ⟨rfl, AEq.refl _⟩)
   ·have hz : ¬ readyL p s = [] := fun e => by rw [e] at h5; cases h5
    refine sk (sq (rgs [CG.pure (.tup [encPick (chRes L acc.length (readyL p s)).1, .bool (chRes L acc.length (readyL p s)).2])] rfl ?_ ?_))
    ·have hq := choose1_ac acc.length (readyL p s) L hz
     simp only [holdsC, under, CG.pure]
     repeat' with_reducible refine And.intro ?_ ?_
     all_goals (try with_reducible intros)
     all_goals (first | exact trivial | assumption | omega | exact hq | (simp; done) | grind)
    refine sq (sq (rg [] rfl ?_))
    refine cd rfl (fun h7 => ?_) (fun h7 => ?_)
    ·have hm : L.length ≤ acc.length := by
       rcases Nat.lt_or_ge acc.length L.length with h | h
       · rw [chRes, if_neg (by omega)] at h7; cases h7
       · exact h
     refine xt (sq (rg [] rfl ?_))
     refine WP.ret ?_
     change Fin ..
     rw [hk, chR, if_neg hz, if_pos hm] at hr1
     simp only [List.append_nil] at hr1
     rw [← hr1]
     refine fin_mk hT [(.s 58 0, acc.length)] (ts := [(6, rowPk acc)]) (l := [rowPk acc]) ⟨⟨_, rfl, Nat.le_refl _⟩, trivial⟩ ⟨⟨rfl, _, rfl, ?_⟩, trivial⟩ trivial rfl rfl rfl
     exact conv_row rfl rfl rfl (fun h => by cases h) (by simp [lookF, idbeq_self]) (fun q hq => by rw [Nat.zero_add]; exact ⟨rfl, AEq.refl _⟩)
    ·have hm : ¬ L.length ≤ acc.length := fun h => by rw [chRes, if_pos h] at h7; cases h7
     obtain ⟨x, hx⟩ : ∃ x, chPk L acc.length (readyL p s) = x := ⟨_, rfl⟩
     refine sk (sq ?_)
     refine WP.ent (st' := mkSt [(2, .clo 68 [.rp 23 (ints false L)]), (3, .rp 26 (encProg p)), (4, .rp 28 (encBud b)), (7, .ptr (.s 7 0) 1 0 []), (9, .own (.s 58 0) acc.length 0 acc.length none), (12, .rp 122 (encPick x))] [(.s 7 0, .cells ⟨62, 1, fun _ => encS s, 0⟩), (.s 58 0, cellsL 122 encPick pick0 acc)]) ?_ ?_
     ·refine em [(.s 12 0, 1)] ⟨sF, trivial⟩ ⟨⟨rfl, _, rfl, cvt⟩, ⟨rfl, _, rfl, cvt⟩, ⟨rfl, _, rfl, cvt⟩, ⟨rfl, _, rfl, cvt⟩, ⟨rfl, _, rfl, cvt⟩, ⟨rfl, _, rfl, conv_rpe rfl rfl (by decide) rfl (by rw [chRes, if_neg hm, hx]; rfl) rfl⟩, trivial⟩ ⟨obs rfl, obs rfl, trivial⟩
     refine rgs [CG.pure (.tup [encS (doF p s x b.fuel).1, encE (doF p s x b.fuel).2.1, .int (doF p s x b.fuel).2.2])] rfl ?_ ?_
     ·have hq := do_ac p s x b.fuel hs
      simp only [holdsC, under, CG.pure]
      repeat' with_reducible refine And.intro ?_ ?_
      all_goals (try with_reducible intros)
      all_goals (first | exact trivial | assumption | omega | exact hq | (simp; done) | grind)
     refine rgs [] rfl ?_ ?_
     ·have hbt : (T 122).bytes = 16 := rfl
      simp [holdsC, under, hbt]; omega
     refine ⟨⟨acc ++ [x], (doF p s x b.fuel).1⟩, ?_, ?_, ?_⟩
     ·rw [hk, chR, if_neg hz, if_neg hm, hx] at hr1
      refine ⟨do_ok hs, by rw [len_snc]; omega, ?_⟩
      rw [← hr1, len_snc, List.append_assoc]; rfl
     ·refine em [] trivial ⟨⟨rfl, _, rfl, cvt⟩, ⟨rfl, _, rfl, cvt⟩, ⟨rfl, _, rfl, cvt⟩, ⟨rfl, _, rfl, cvt⟩, ⟨rfl, _, rfl, conv_eq (by rw [len_snc])⟩, trivial⟩ ⟨obs rfl, ob_list (okIds_pick _) rfl rfl (by rw [len_snc]) rfl rfl (appL (z := (T 122).zero) rfl rfl (fun q hq => rfl)), trivial⟩
     ·(show b.steps.toNat - (acc ++ [x]).length < b.steps.toNat - acc.length; rw [len_snc]; omega)
  ·have hlt : acc.length = b.steps.toNat := by simp [-List.getD_eq_getElem?_getD] at h3; omega
   refine xt (sq (rg [] rfl ?_))
   refine WP.ret ?_
   change Fin ..
   rw [hlt, Nat.sub_self, chR] at hr1
   simp only [List.append_nil] at hr1
   rw [← hr1]
   refine fin_mk hT [(.s 58 0, acc.length)] (ts := [(6, rowPk acc)]) (l := [rowPk acc]) ⟨⟨_, rfl, Nat.le_refl _⟩, trivial⟩ ⟨⟨rfl, _, rfl, ?_⟩, trivial⟩ trivial rfl rfl rfl
   exact conv_row rfl rfl rfl (fun h => by cases h) (by simp [lookF, idbeq_self]) (fun q hq => by rw [Nat.zero_add]; exact ⟨rfl, AEq.refl _⟩)
def chosen (p : PProg) (L : List Int) (b : PBud) : List PPick := if fitsF p L.length b = 0 then chR p b.fuel L b.steps.toNat (startF p b.fuel).1 0 else []
theorem chooseS_ac (p : PProg) (L : List Int) (b : PBud) : AC Tryz.prog T tysN 29 [encProg p, ints false L, encBud b] [] (.tup [rowPk (chosen p L b), .int (fitsF p L.length b)]) [] := by
 refine AC_intro hT Tryz.func29 rfl rfl (Nat.le_of_ble_eq_true rfl) ?_
 refine sq (rg [] rfl ?_)
 refine sq (sq ?_)
 refine WP.ent (st' := mkSt [(3, .rp 26 (encProg p)), (4, .rp 23 (ints false L)), (5, .rp 28 (encBud b))] []) (em [(.s 3 0, 1), (.s 4 0, 1), (.s 5 0, 1)] ⟨sF, sF, sF, trivial⟩ ⟨⟨rfl, _, rfl, rpv⟩, ⟨rfl, _, rfl, rpv⟩, ⟨rfl, _, rfl, rpv⟩, trivial⟩ trivial) ?_
 refine rgs [CG.pure (.int (fitsF p L.length b))] rfl ?_ ?_
 ·have hq := sfit_ac p L.length b
  simp only [holdsC, under, CG.pure]
  repeat' with_reducible refine And.intro ?_ ?_
  all_goals (try with_reducible intros)
  all_goals (first | exact trivial | assumption | omega | exact hq | (simp; done) | grind)
 refine sq (rg [] rfl ?_)
 refine cd rfl (fun h2 => ?_) (fun h2 => ?_)
 ·have hz : fitsF p L.length b ≠ 0 := by simpa using h2
  refine sq (rg [] rfl ?_)
  refine WP.ret ?_
  change Fin ..
  refine fin_mk hT [] (ts := [(6, rowPk (chosen p L b)), (7, .int (fitsF p L.length b))]) (l := [rowPk (chosen p L b), .int (fitsF p L.length b)]) trivial ⟨⟨rfl, _, rfl, ?_⟩, ⟨rfl, _, rfl, cvt⟩, trivial⟩ trivial rfl rfl rfl
  rw [chosen, if_neg hz]
  exact conv_nil_row (by decide)
 ·have hz : fitsF p L.length b = 0 := by simpa using h2
  have hb := (fits0 hz).2.2
  refine sk (sq (rgs [CG.pure (rowPk (chosen p L b))] rfl ?_ ?_))
  ·have hq := choicesC_ac p b L hb.1
   have e : chosen p L b = chR p b.fuel L b.steps.toNat (startF p b.fuel).1 0 := by rw [chosen, if_pos hz]
   rw [← e] at hq
   simp only [holdsC, under, CG.pure]
   repeat' with_reducible refine And.intro ?_ ?_
   all_goals (try with_reducible intros)
   all_goals (first | exact trivial | assumption | omega | exact hq | (simp; done) | grind)
  refine WP.ret ?_
  change Fin ..
  exact fin_mk hT [] (ts := [(6, rowPk (chosen p L b)), (7, .int (fitsF p L.length b))]) (l := [rowPk (chosen p L b), .int (fitsF p L.length b)]) trivial ⟨⟨rfl, _, rfl, cvt⟩, ⟨rfl, _, rfl, conv_eq (by rw [hz])⟩, trivial⟩ trivial rfl rfl rfl
end Go.Ab


/- TreeWhole. -/
set_option autoImplicit false
set_option maxRecDepth 20000
set_option maxHeartbeats 4000000
set_option linter.unusedSimpArgs false
set_option linter.unusedVariables false
namespace Go.Ab
open Go.Proofs
theorem fits_long {p : PProg} {b : PBud} {m : Int} (hf : fitsF p 0 b = 0) (h : fitsF p m b ≠ 0) : 256 < m := by
  rcases Int.lt_or_le 256 m with h1 | h1
  · exact h1
  · exact absurd (fits_len hf h1) h
theorem whole_iff {p : PProg} {b : PBud} {l : List PPick} (hf : fitsF p 0 b = 0) (hw : wholeT p b = true) (h : legal p b.fuel (startF p b.fuel).1 l) (hl : l.length ≤ b.steps.toNat) : (∃ r ∈ (treeT p b).runs, r.picks = l) ↔ readyL p (endS p b.fuel (startF p b.fuel).1 l) = [] := by
  rw [tree_whole hf] at hw
  simp only [Bool.and_eq_true, decide_eq_true_eq, Bool.not_eq_true'] at hw
  obtain ⟨⟨hle, hc⟩, _⟩ := hw
  rw [List.any_eq_false] at hc
  rw [tree_runs hf, List.take_of_length_le (by rw [List.length_map]; exact hle)]
  constructor
  · rintro ⟨r, hr, e⟩
    obtain ⟨y, hy, rfl⟩ := List.mem_map.1 hr
    obtain ⟨l', hp⟩ := leaf_path _ _ _ y hy
    have e2 : l' = l := by rw [← e, hp.picks]; rfl
    subst e2
    have hcut := hc y hy
    rw [hp.cut] at hcut
    rcases hp.fin with h1 | h1
    · rw [hp.last]; exact h1
    · rw [hp.last]
      rw [h1] at hcut
      simpa using hcut
  · intro hz
    obtain ⟨y, hy, e⟩ := path_leaf l b.steps.toNat (startF p b.fuel).1 [] h hl (.inl hz)
    exact ⟨y.1, List.mem_map.2 ⟨y, hy, rfl⟩, by rw [e]; rfl⟩
def hasTo (R : List PRun) (l : List PPick) (k : Nat) : Bool := (R.take k).any fun r => decide (r.picks = l)
theorem hasTo_snc {R : List PRun} {l : List PPick} {k : Nat} (h : k < R.length) : hasTo R l (k + 1) = (hasTo R l k || decide ((R.getD k run0).picks = l)) := by
  rw [hasTo, hasTo, List.take_add_one, List.getElem?_eq_getElem h, List.any_append]
  simp [h]
theorem wholeL_ac (p : PProg) (L : List Int) (b0 : PBud) : AC Tryz.prog T tysN 7 [encProg p, ints false L, encBud b0] [] (.bool true) [] := by
 refine AC_intro hT Tryz.func7 rfl rfl (Nat.le_of_ble_eq_true rfl) ?_
 refine sq (rg [] rfl ?_)
 refine WP.seqJ (α := PBud) (fun b => mkSt [(1, ints false L), (3, .rp 26 (encProg p)), (5, .rp 28 (encBud b)), (6, .bool false)] []) (fun b => True) ?_ ?_
 ·refine sq ?_
  refine WP.ent (st' := mkSt [(3, .rp 26 (encProg p)), (1, ints false L), (6, .bool false), (5, .ptr (.s 5 0) 1 0 [])] [(.s 5 0, .cells ⟨28, 1, fun _ => encBud b0, 0⟩)]) (em [(.s 3 0, 1)] ⟨sF, trivial⟩ ⟨⟨rfl, _, rfl, rpv⟩, ⟨rfl, _, rfl, cvt⟩, ⟨rfl, _, rfl, cvt⟩, ⟨rfl, _, rfl, cvt⟩, trivial⟩ ⟨obs rfl, trivial⟩) ?_
  refine rg [] rfl ?_
  refine cd rfl (fun h1 => ?_) (fun h1 => ?_)
  ·refine rg [] rfl ?_
   refine ⟨{ b0 with runs := 300 }, ?_, ?_⟩
   ·trivial
   ·refine em [(.s 5 0, 1)] ⟨sF, trivial⟩ ⟨⟨rfl, _, rfl, cvt⟩, ⟨rfl, _, rfl, cvt⟩, ⟨rfl, _, rfl, conv_rpe rfl rfl (by decide) rfl (putB_runs b0 300) rfl⟩, ⟨rfl, _, rfl, cvt⟩, trivial⟩ trivial
  ·refine sk ?_
   refine ⟨b0, ?_, ?_⟩
   ·trivial
   ·refine em [(.s 5 0, 1)] ⟨sF, trivial⟩ ⟨⟨rfl, _, rfl, cvt⟩, ⟨rfl, _, rfl, cvt⟩, ⟨rfl, _, rfl, rpv⟩, ⟨rfl, _, rfl, cvt⟩, trivial⟩ trivial
 ·rintro b h_inv
  refine sq (rgs [CG.pure (.tup [encRuns (allT p b), .int (fitsF p 0 b)])] rfl ?_ ?_)
  ·have hq := all_acB p b rfl
   simp only [holdsC, under, CG.pure]
   repeat' with_reducible refine And.intro ?_ ?_
   all_goals (try with_reducible intros)
   all_goals (first | exact trivial | assumption | omega | exact hq | (simp; done) | grind)
  refine sq (sq ?_)
  refine WP.ent (st' := mkSt [(1, ints false L), (3, .rp 26 (encProg p)), (5, .rp 28 (encBud b)), (6, .bool false), (7, .rp 32 (encRuns (allT p b))), (8, .int (fitsF p 0 b))] []) ?_ ?_
  ·refine em [(.s 7 0, 1)] ⟨sF, trivial⟩ ⟨⟨rfl, _, rfl, cvt⟩, ⟨rfl, _, rfl, cvt⟩, ⟨rfl, _, rfl, cvt⟩, ⟨rfl, _, rfl, cvt⟩, ⟨rfl, _, rfl, rpv⟩, ⟨rfl, _, rfl, cvt⟩, trivial⟩ trivial
  refine rg [] rfl ?_
  refine cd rfl (fun h4 => ?_) (fun h4 => ?_)
  ·refine sq (rgs [CG.pure (.bool true)] rfl ?_ ?_)
   ·have hq := small_ac
    simp only [holdsC, under, CG.pure]
    repeat' with_reducible refine And.intro ?_ ?_
    all_goals (try with_reducible intros)
    all_goals (first | exact trivial | assumption | omega | exact hq | (simp; done) | grind)
   refine WP.ret ?_
   change Fin ..
   exact fin1 hT (by rfl) rfl
  ·have hf : fitsF p 0 b = 0 := by simpa using h4
   have hbd := (fits0 hf).2.2
   have hb1 := hbd.1
   refine sk (sq (rgs [CG.pure (.tup [rowPk (chosen p L b), .int (fitsF p L.length b)])] rfl ?_ ?_))
   ·have hq := chooseS_ac p L b
    simp only [holdsC, under, CG.pure]
    repeat' with_reducible refine And.intro ?_ ?_
    all_goals (try with_reducible intros)
    all_goals (first | exact trivial | assumption | omega | exact hq | (simp; done) | grind)
   refine sq (sq (rg [] rfl ?_))
   refine cd rfl (fun h7 => ?_) (fun h7 => ?_)
   ·have hz : fitsF p L.length b ≠ 0 := by simpa using h7
    refine sq (rg [] rfl ?_)
    refine WP.ret ?_
    change Fin ..
    have hl := fits_long hf hz
    exact fin1 hT (by rfl) (by simp [-List.getD_eq_getElem?_getD]; omega)
   ·have hz : fitsF p L.length b = 0 := by simpa using h7
    obtain ⟨l, hl⟩ : ∃ l, chosen p L b = l := ⟨_, rfl⟩
    have hc := chR_legal (p := p) (n := b.fuel) (L := L) b.steps.toNat (startF p b.fuel).1 0
    rw [show chR p b.fuel L b.steps.toNat (startF p b.fuel).1 0 = l by rw [← hl, chosen, if_pos hz]] at hc
    have hr := run_legal hf hc.1 (by omega)
    rw [hl]
    refine sk (sq (rgs [CG.pure (.tup [.bool (maxF p l b), .int 0])] rfl ?_ ?_))
    ·have hq := maximal_ac p l b
     rw [show (runF p l b).2.1 = 0 by rw [hr]] at hq
     simp only [holdsC, under, CG.pure]
     repeat' with_reducible refine And.intro ?_ ?_
     all_goals (try with_reducible intros)
     all_goals (first | exact trivial | assumption | omega | exact hq | (simp; done) | grind)
    refine sq (sq (rg [] rfl ?_))
    refine cd rfl (fun h10 => ?_) (fun h10 => ?_)
    ·cases h10
    ·refine sk (sq (rg [] rfl ?_))
     refine sq (sq (rg [] rfl ?_))
     refine WP.rowlen 56 rfl (fun hla => ?_)
     refine bk ?_
     refine WP.loop (α := Nat) (fun i => mkSt [(3, .rp 26 (encProg p)), (6, .bool false), (7, .rp 32 (encRuns (allT p b))), (9, rowPk l), (11, .bool (maxF p l b)), (13, .bool (hasTo (treeT p b).runs l i)), (56, rowRun (treeT p b).runs), (57, .int (treeT p b).runs.length), (58, .int i)] []) (fun i => i ≤ (treeT p b).runs.length) (fun i => (treeT p b).runs.length - i) ?_ ?_
     ·refine ⟨0, ?_, ?_⟩
      ·exact Nat.zero_le _
      ·refine em [] trivial ⟨⟨rfl, _, rfl, cvt⟩, ⟨rfl, _, rfl, cvt⟩, ⟨rfl, _, rfl, cvt⟩, ⟨rfl, _, rfl, cvt⟩, ⟨rfl, _, rfl, cvt⟩, ⟨rfl, _, rfl, cvt⟩, ⟨rfl, _, rfl, cvt⟩, ⟨rfl, _, rfl, cvt⟩, ⟨rfl, _, rfl, cvt⟩, trivial⟩ trivial
     ·rintro i hi
      refine sq (rg [] rfl ?_)
      refine sq ?_
      refine cd rfl (fun h14 => ?_) (fun h14 => ?_)
      ·have hil : i < (treeT p b).runs.length := by simp [-List.getD_eq_getElem?_getD] at h14; omega
       have hla2 : (treeT p b).runs.length < 2 ^ 63 := hla
       refine sk (sq (bk (sq (rg [] rfl ?_))))
       refine rgs [CG.pure (.bool (decide (((treeT p b).runs.getD i run0).picks = l)))] rfl ?_ ?_
       ·have hq := samePk_ac ((treeT p b).runs.getD i run0).picks l
        simp only [holdsC, under, CG.pure]
        repeat' with_reducible refine And.intro ?_ ?_
        all_goals (try with_reducible intros)
        all_goals (first | exact trivial | assumption | omega | exact hq | (simp; done) | grind)
       refine rg [] rfl ?_
       refine ⟨i + 1, ?_, ?_, ?_⟩
       ·exact hil
       ·refine em [] trivial ⟨⟨rfl, _, rfl, cvt⟩, ⟨rfl, _, rfl, cvt⟩, ⟨rfl, _, rfl, cvt⟩, ⟨rfl, _, rfl, cvt⟩, ⟨rfl, _, rfl, cvt⟩, ⟨rfl, _, rfl, conv_eq (by rw [hasTo_snc hil]; cases hasTo (treeT p b).runs l i <;> rfl)⟩, ⟨rfl, _, rfl, cvt⟩, ⟨rfl, _, rfl, cvt⟩, ⟨rfl, _, rfl, cvt⟩, trivial⟩ trivial
       ·(try simp only []); first | omega | grind
      ·have hil : i = (treeT p b).runs.length := by simp [-List.getD_eq_getElem?_getD] at h14; omega
       refine xt (sq (rgs [CG.pure (.bool true)] rfl ?_ ?_))
       ·have hq := small_ac
        simp only [holdsC, under, CG.pure]
        repeat' with_reducible refine And.intro ?_ ?_
        all_goals (try with_reducible intros)
        all_goals (first | exact trivial | assumption | omega | exact hq | (simp; done) | grind)
       refine WP.ret ?_
       change Fin ..
       refine fin1 hT (by rfl) ?_
       have hx : (bif !(allT p b).whole then true else (hasTo (treeT p b).runs l i == maxF p l b)) = true := by
         cases hwb : (allT p b).whole with
         | false => rfl
         | true =>
           have hi2 := whole_iff hf hwb hc.1 hc.2
           have e1 : hasTo (treeT p b).runs l i = true ↔ ∃ r ∈ (treeT p b).runs, r.picks = l := by
             rw [hil, hasTo, List.take_length, List.any_eq_true]; simp
           have e2 : maxF p l b = true ↔ readyL p (endS p b.fuel (startF p b.fuel).1 l) = [] := by
             rw [maxF, hr]; simp
           have e3 : hasTo (treeT p b).runs l i = maxF p l b := Bool.eq_iff_iff.2 (e1.trans (hi2.trans e2.symm))
           rw [e3]; simp
       rw [hx]
       rfl
end Go.Ab

