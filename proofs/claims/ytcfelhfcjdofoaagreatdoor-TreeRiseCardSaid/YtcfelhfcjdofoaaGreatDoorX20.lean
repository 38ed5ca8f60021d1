/- Part 21 of a proof of a statement about the given program: an abstract machine over the model, proved sound, and contracts of the functions that the statement reaches; the last part proves the statement, for every input, with no condition. -/
import Derived.Test.YtcfelhfcjdofoaaGreatDoorX19
set_option linter.unusedSimpArgs false
set_option linter.unusedVariables false
/- The tree of runs: searched, All. -/
set_option autoImplicit false
set_option maxRecDepth 20000
set_option maxHeartbeats 4000000
set_option linter.unusedSimpArgs false
set_option linter.unusedVariables false
namespace Go.Ab
open Go.Proofs
theorem on_ih {p : PProg} {b : PBud} (hb : budP b) : ∀ k, onIH p b k
  | 0 => fun s picks t h1 h2 h3 => on_step p b hb 0 (fun _ e => by cases e) s picks t h1 h2 h3
  | k + 1 => fun s picks t h1 h2 h3 => on_step p b hb (k + 1) (fun j e => by cases e; exact on_ih hb k) s picks t h1 h2 h3
def ts0 : TS := ⟨[], [], false, false, false⟩
def treeT (p : PProg) (b : PBud) : TS := if fitsF p 0 b = 0 then onF p b b.steps.toNat (startF p b.fuel).1 [] ts0 else ts0
def wholeT (p : PProg) (b : PBud) : Bool := decide (fitsF p 0 b = 0) && !(treeT p b).over && !(treeT p b).short && !(treeT p b).spun
abbrev rowRun (l : List PRun) : AV := rowP 45 encRun run0 l
abbrev rowSt (l : List PSt) : AV := rowP 62 encS st0 l
def encFound (L : List PRun) (E : List PSt) : AV := stru 105 [rowRun L, rowSt E]
def encXi (i : Id) (p : PProg) (b : PBud) (t : TS) : AV := stru 206 [encProg p, encBud b, .clo 99 [.ptr i 1 0 [], .rp 28 (encBud b)], .bool t.spun, .bool t.short, .bool t.over]
theorem ren_Xi {σ : Id → Id} {i j : Id} (h1 : σ i = j) (p : PProg) (b : PBud) (t : TS) : ren σ (encXi i p b t) = encXi j p b t := agg_ext (fun q => by
  match q with
  | 0 => exact ren_prog σ p
  | 1 => exact ren_bud σ b
  | 2 => show AV.clo _ [.ptr (σ i) 1 0 [], .rp _ (encBud b)] = _; rw [h1]; rfl
  | 3 | 4 | 5 | q + 6 => rfl)
theorem on0_ac {p : PProg} {b : PBud} (hb : budP b) (ids : List Id) (s : PSt) (h2 : OkS s) {x f i j : Id} (hf : sig [x, f, i, j] 0 f = .b 1) (hi : sig [x, f, i, j] 0 i = .b 2) (hj : sig [x, f, i, j] 0 j = .b 3) : AC Tryz.prog T tysN 102 [.ptr (.b 0) 1 0 [], ren (sig [x, f, i, j] 0) (encS s), .v (.slice none 0 0)] [renO (sig [x, f, i, j] 0) (.cells ⟨206, 1, fun _ => encXi f p b ts0, 0⟩), renO (sig [x, f, i, j] 0) (foundO 0 0 i j), renO (sig [x, f, i, j] 0) (runsO []), renO (sig [x, f, i, j] 0) (endsO [])] (.tup []) [xO p b (onF p b b.steps.toNat s [] ts0), fO (onF p b b.steps.toNat s [] ts0), runsO (onF p b b.steps.toNat s [] ts0).runs, endsO (onF p b b.steps.toNat s [] ts0).ends] := by
  have e : renO (sig [x, f, i, j] 0) (.cells ⟨206, 1, fun _ => encXi f p b ts0, 0⟩) = xO p b ts0 := by
    show Ob.cells ⟨_, _, fun _ => ren _ (encXi f p b ts0), _⟩ = _
    rw [ren_Xi hf]; rfl
  rw [ren_S, e, renO_found hi hj, renO_list (ren_run _), renO_list (ren_S _)]
  refine AC.args hT (on_ih hb b.steps.toNat s [] ts0 (by simp) h2 rfl) rfl (fun i a c ha hc => ?_)
  match i, ha, hc with
  | 0, ha, hc => cases ha; cases hc; exact conv_eq rfl
  | 1, ha, hc => cases ha; cases hc; exact conv_eq rfl
  | 2, ha, hc => cases ha; cases hc; exact conv_nil_row (by decide)
theorem searched_ac (p : PProg) (b : PBud) : AC Tryz.prog T tysN 53 [encProg p, encBud b] [] (.tup [encFound (treeT p b).runs (treeT p b).ends, .bool (wholeT p b), .int (fitsF p 0 b)]) [] := by
 refine AC_intro hT Tryz.func53 rfl rfl (Nat.le_of_ble_eq_true rfl) ?_
 refine sq (rg [] rfl ?_)
 refine sq (sq ?_)
 refine WP.ent (st' := mkSt [(2, .rp 26 (encProg p)), (3, .rp 28 (encBud b)), (5, .bool false), (4, .ptr (.s 4 0) 1 0 [])] [(.s 4 0, .cells ⟨105, 1, fun _ => (T 105).zero, 0⟩)]) (em [(.s 2 0, 1), (.s 3 0, 1)] ⟨sF, sF, trivial⟩ ⟨⟨rfl, _, rfl, rpv⟩, ⟨rfl, _, rfl, rpv⟩, ⟨rfl, _, rfl, cvt⟩, ⟨rfl, _, rfl, cvt⟩, trivial⟩ ⟨obs rfl, trivial⟩) ?_
 refine rgs [CG.pure (.int (fitsF p 0 b))] rfl ?_ ?_
 ·have hq := begun_ac p b
  simp only [holdsC, under, CG.pure]
  repeat' with_reducible refine And.intro ?_ ?_
  all_goals (try with_reducible intros)
  all_goals (first | exact trivial | assumption | omega | exact hq | (simp; done) | grind)
 refine sq (rg [] rfl ?_)
 refine cd rfl (fun h2 => ?_) (fun h2 => ?_)
 ·have hf : fitsF p 0 b ≠ 0 := by simpa using h2
  refine sq (rg [] rfl ?_)
  refine WP.ret ?_
  change Fin ..
  rw [wholeT, treeT, if_neg hf, decide_eq_false hf]
  exact finC3 hT [] trivial rfl rfl rfl rfl ⟨_, rfl, fun i hi => by match i with | 0 => exact conv_nil_row (by decide) | 1 => exact conv_nil_row (by decide) | i + 2 => exact absurd hi (by simp)⟩ rfl rfl
 ·have hf : fitsF p 0 b = 0 := by simpa using h2
  have hb := (fits0 hf).2.2
  refine sk (sq (rg [] rfl ?_))
  refine sq (rg [] rfl ?_)
  refine sq (rgs [CG.pure (.tup [encS (startF p b.fuel).1, .int (startF p b.fuel).2])] rfl ?_ ?_)
  ·have hq := start_ac p b.fuel
   simp only [holdsC, under, CG.pure]
   repeat' with_reducible refine And.intro ?_ ?_
   all_goals (try with_reducible intros)
   all_goals (first | exact trivial | assumption | omega | exact hq | (simp; done) | grind)
  refine sq ?_
  refine WP.ent (st' := mkSt [(2, .rp 26 (encProg p)), (3, .rp 28 (encBud b)), (4, .ptr (.s 4 0) 1 0 []), (8, .ptr (.s 8 0) 1 0 []), (9, .ptr (.s 23 0) 1 0 []), (10, .rp 62 (encS (startF p b.fuel).1))] [(.s 4 0, .cells ⟨105, 1, fun _ => (T 105).zero, 0⟩), (.s 8 0, foundO 0 0 (.s 900 0) (.s 901 0)), (.s 23 0, .cells ⟨206, 1, fun _ => encXi (.s 8 0) p b ts0, 0⟩), (.s 900 0, runsO []), (.s 901 0, endsO [])]) ?_ ?_
  ·refine em [(.s 10 0, 1)] ⟨sF, trivial⟩ ⟨⟨rfl, _, rfl, cvt⟩, ⟨rfl, _, rfl, cvt⟩, ⟨rfl, _, rfl, cvt⟩, ⟨rfl, _, rfl, cvt⟩, ⟨rfl, _, rfl, cvt⟩, ⟨rfl, _, rfl, rpv⟩, trivial⟩ ⟨obs rfl, obs rfl (hg := q0 ⟨_, rfl, fun i hi => by match i with | 0 => exact conv_nil_own | 1 => exact conv_nil_own | i + 2 => exact absurd hi (by simp)⟩), obs rfl (hg := q0 (conv_eq (agg_ext fun q => by match q with | 0 | 1 | 2 | 3 | 4 | 5 | q + 6 => rfl))), ⟨fun _ _ => rfl, .inr ⟨rfl, 45, _, rfl, by decide⟩⟩, ⟨fun _ _ => rfl, .inr ⟨rfl, 62, _, rfl, by decide⟩⟩, trivial⟩
  refine rgs [⟨true, [.s 23 0, .s 8 0, .s 900 0, .s 901 0], .tup [], [xO p b (onF p b b.steps.toNat (startF p b.fuel).1 [] ts0), fO (onF p b b.steps.toNat (startF p b.fuel).1 [] ts0), runsO (onF p b b.steps.toNat (startF p b.fuel).1 [] ts0).runs, endsO (onF p b b.steps.toNat (startF p b.fuel).1 [] ts0).ends]⟩] rfl ?_ ?_
  ·have hq := on0_ac (p := p) hb [] (startF p b.fuel).1 start_ok (x := .s 23 0) (f := .s 8 0) (i := .s 900 0) (j := .s 901 0) rfl rfl rfl
   have hk1 : okOs [.s 23 0, .s 8 0, .s 900 0, .s 901 0] [.cells ⟨206, 1, fun _ => encXi (.s 8 0) p b ts0, 0⟩, foundO 0 0 (.s 900 0) (.s 901 0), runsO [], endsO []] := ⟨fun _ _ => rfl, fun _ _ => rfl, fun _ _ => rfl, fun _ _ => rfl, trivial⟩
   have hk2 : okOs (bs 4) [xO p b (onF p b b.steps.toNat (startF p b.fuel).1 [] ts0), fO (onF p b b.steps.toNat (startF p b.fuel).1 [] ts0), runsO (onF p b b.steps.toNat (startF p b.fuel).1 [] ts0).runs, endsO (onF p b b.steps.toNat (startF p b.fuel).1 [] ts0).ends] := okOs_x rfl rfl
   simp only [holdsC, under, CG.pure]
   repeat' with_reducible refine And.intro ?_ ?_
   all_goals (try with_reducible intros)
   all_goals (first | exact trivial | assumption | omega | exact hq | exact hk1 | exact hk2 | (simp; done) | grind)
  refine sq ?_
  obtain ⟨z, hz⟩ : ∃ z, onF p b b.steps.toNat (startF p b.fuel).1 [] ts0 = z := ⟨_, rfl⟩
  have hz0 : treeT p b = z := by rw [treeT, if_pos hf, hz]
  rw [hz]
  refine WP.ent (st' := mkSt [(4, .ptr (.s 4 0) 1 0 []), (8, .ptr (.s 8 0) 1 0 []), (9, .ptr (.s 23 0) 1 0 [])] [(.s 4 0, .cells ⟨105, 1, fun _ => (T 105).zero, 0⟩), (.s 8 0, foundO z.runs.length z.ends.length (.s 900 0) (.s 901 0)), (.s 23 0, .cells ⟨206, 1, fun _ => encXi (.s 8 0) p b z, 0⟩), (.s 900 0, runsO z.runs), (.s 901 0, endsO z.ends)]) ?_ ?_
  ·refine em [] trivial ⟨⟨rfl, _, rfl, cvt⟩, ⟨rfl, _, rfl, cvt⟩, ⟨rfl, _, rfl, cvt⟩, trivial⟩ ⟨obs rfl, obs rfl (hg := q0 (conv_eq (ren_found rfl rfl))), obs rfl (hg := q0 (conv_eq (ren_Xi (i := .b 1) rfl p b z))), obs rfl (hg := fun q hq => conv_eq (ren_run _ _)), obs rfl (hg := fun q hq => conv_eq (ren_S _ _)), trivial⟩
  refine dr [] rfl ?_
  refine WP.ret ?_
  change Fin ..
  rw [wholeT, hz0, hf]
  refine finC3 hT [(.s 900 0, z.runs.length), (.s 901 0, z.ends.length)] ⟨⟨_, rfl, Nat.le_refl _⟩, ⟨_, rfl, Nat.le_refl _⟩, trivial⟩ rfl rfl rfl rfl ⟨_, rfl, fun i hi => by match i with | 0 => exact conv_row rfl rfl rfl (fun h => by cases h) (by simp [lookF, idbeq_self]) (fun q hq => by rw [Nat.zero_add]; exact ⟨rfl, AEq.refl _⟩) | 1 => exact conv_row rfl rfl rfl (fun h => by cases h) (by rw [Nat.zero_add]; exact Nat.le_refl _) (fun q hq => by rw [Nat.zero_add]; exact ⟨rfl, AEq.refl _⟩) | i + 2 => exact absurd hi (by simp)⟩ ?_ rfl
  cases z.over <;> cases z.short <;> cases z.spun <;> rfl
theorem all_ac (p : PProg) (b : PBud) : AC Tryz.prog T tysN 16 [encProg p, encBud b] [] (.tup [stru 32 [rowRun (treeT p b).runs, .bool (wholeT p b)], .int (fitsF p 0 b)]) [] := by
 refine AC_intro hT Tryz.func16 rfl rfl (Nat.le_of_ble_eq_true rfl) ?_
 refine sq (rg [] rfl ?_)
 refine sq ?_
 refine WP.ent (st' := mkSt [(2, .rp 26 (encProg p)), (3, .rp 28 (encBud b)), (4, .ptr (.s 4 0) 1 0 [])] [(.s 4 0, .cells ⟨32, 1, fun _ => (T 32).zero, 0⟩)]) (em [(.s 2 0, 1), (.s 3 0, 1)] ⟨sF, sF, trivial⟩ ⟨⟨rfl, _, rfl, rpv⟩, ⟨rfl, _, rfl, rpv⟩, ⟨rfl, _, rfl, cvt⟩, trivial⟩ ⟨obs rfl, trivial⟩) ?_
 refine rgs [CG.pure (.tup [encFound (treeT p b).runs (treeT p b).ends, .bool (wholeT p b), .int (fitsF p 0 b)])] rfl ?_ ?_
 ·have hq := searched_ac p b
  simp only [holdsC, under, CG.pure]
  repeat' with_reducible refine And.intro ?_ ?_
  all_goals (try with_reducible intros)
  all_goals (first | exact trivial | assumption | omega | exact hq | (simp; done) | grind)
 refine sq (rg [] rfl ?_)
 refine WP.ret ?_
 change Fin ..
 exact finCT hT rfl rfl rfl (conv_eq (agg_ext fun q => by match q with | 0 | 1 | q + 2 => rfl)) rfl
end Go.Ab


/- The plain comparisons: SamePicks, SameRuns. -/
set_option autoImplicit false
set_option maxRecDepth 20000
set_option maxHeartbeats 4000000
set_option linter.unusedSimpArgs false
set_option linter.unusedVariables false
namespace Go.Ab
open Go.Proofs
theorem eqPk_v (a b : PPick) : (a == b) = (a.go == b.go && (a.alt == b.alt && true)) := by
  obtain ⟨x, y⟩ := a
  obtain ⟨z, w⟩ := b
  rw [Bool.eq_iff_iff]
  simp
structure PRuns where
  all : List PRun
  whole : Bool
  deriving DecidableEq
def encRuns (x : PRuns) : AV := stru 32 [rowP 45 encRun run0 x.all, .bool x.whole]
end Go.Ab


/- The tree of runs: what is found; how it grows. -/
set_option autoImplicit false
set_option maxRecDepth 20000
set_option maxHeartbeats 4000000
set_option linter.unusedSimpArgs false
set_option linter.unusedVariables false
namespace Go.Ab
open Go.Proofs
def lvs (p : PProg) (n : Int) : Nat → PSt → List PPick → List (PRun × PSt)
  | 0, s, picks => [(⟨picks, !(readyL p s).isEmpty, false⟩, s)]
  | k + 1, s, picks => if readyL p s = [] then [(⟨picks, false, false⟩, s)] else (readyL p s).flatMap fun x => lvs p n k (doF p s x n).1 (picks ++ [x])
def spinB (s : PSt) : Bool := spunTo false s 6
def spn (p : PProg) (n : Int) : Nat → PSt → Bool
  | 0, s => spinB s
  | k + 1, s => spinB s || (readyL p s).any fun x => spn p n k (doF p s x n).1
theorem spunTo_or (z : Bool) (s : PSt) : ∀ k, spunTo z s k = (z || spunTo false s k)
  | 0 => by simp [spunTo]
  | k + 1 => by rw [spunTo, spunTo, spunTo_or z s k, Bool.or_assoc]
structure Rd (b : PBud) (t : TS) (L : List (PRun × PSt)) (sp : Bool) (r : TS) : Prop where
  runs : r.runs = (t.runs ++ L.map (·.1)).take b.runs.toNat
  ends : r.ends = (t.ends ++ L.map (·.2)).take b.runs.toNat
  over : r.over = decide (b.runs.toNat < t.runs.length + L.length)
  spun : r.over = false → r.spun = (t.spun || sp)
  short : r.over = false → r.short = (t.short || L.any fun x => x.1.cut)
structure TsOk (b : PBud) (t : TS) : Prop where
  len : t.runs.length ≤ b.runs.toNat
  even : t.ends.length = t.runs.length
theorem Rd.ok {b : PBud} {t : TS} {L : List (PRun × PSt)} {sp : Bool} {r : TS} (ht : TsOk b t) (h : Rd b t L sp r) : TsOk b r :=
  ⟨by rw [h.runs, List.length_take]; omega, by rw [h.runs, h.ends, List.length_take, List.length_take]; simp [ht.even]⟩
theorem Rd.comp {b : PBud} {t r1 r2 : TS} {L1 L2 : List (PRun × PSt)} {sp1 sp2 : Bool} (ht : TsOk b t) (h1 : Rd b t L1 sp1 r1) (ho : r1.over = true → r2 = r1) (h2 : r1.over = false → Rd b r1 L2 sp2 r2) : Rd b t (L1 ++ L2) (sp1 || sp2) r2 := by
  cases hov : r1.over with
  | true =>
    rw [ho hov]
    have hlt : b.runs.toNat < t.runs.length + L1.length := by have := h1.over; rw [hov] at this; exact of_decide_eq_true this.symm
    refine ⟨?_, ?_, ?_, fun h => (by rw [hov] at h; cases h), fun h => (by rw [hov] at h; cases h)⟩
    · rw [h1.runs, List.map_append, ← List.append_assoc, List.take_append_of_le_length (l₁ := t.runs ++ L1.map (·.1)) (by rw [List.length_append, List.length_map]; omega)]
    · rw [h1.ends, List.map_append, ← List.append_assoc, List.take_append_of_le_length (l₁ := t.ends ++ L1.map (·.2)) (by rw [List.length_append, List.length_map, ht.even]; omega)]
    · rw [hov, List.length_append]; symm; exact decide_eq_true (by omega)
  | false =>
    have h2 := h2 hov
    have hle : t.runs.length + L1.length ≤ b.runs.toNat := by have := h1.over; rw [hov] at this; have := of_decide_eq_false this.symm; omega
    have e1 : r1.runs = t.runs ++ L1.map (·.1) := by rw [h1.runs, List.take_of_length_le]; rw [List.length_append, List.length_map]; exact hle
    have e2 : r1.ends = t.ends ++ L1.map (·.2) := by rw [h1.ends, List.take_of_length_le]; rw [List.length_append, List.length_map, ht.even]; exact hle
    refine ⟨?_, ?_, ?_, fun h => ?_, fun h => ?_⟩
    · rw [h2.runs, e1, List.map_append, List.append_assoc]
    · rw [h2.ends, e2, List.map_append, List.append_assoc]
    · rw [h2.over, e1, List.length_append, List.length_append, List.length_map, Nat.add_assoc]
    · rw [h2.spun h, h1.spun hov, Bool.or_assoc]
    · rw [h2.short h, h1.short hov, List.any_append, Bool.or_assoc]
theorem leaf_rd {b : PBud} (hb : 0 ≤ b.runs) {s : PSt} {picks : List PPick} {c : Bool} {t : TS} (ht : TsOk b t) (ho : t.over = false) : Rd b t [(⟨picks, c, false⟩, s)] false (leafF b s picks c t) := by
  have h1 := ht.len
  have h2 := ht.even
  unfold leafF
  split
  · rename_i hb0
    have hge : t.runs.length = b.runs.toNat := by unfold tellB at hb0; have := of_decide_eq_false hb0; omega
    refine ⟨?_, ?_, ?_, fun h => (by cases h), fun h => (by cases h)⟩
    · show t.runs = _
      rw [List.take_append_of_le_length (by omega), List.take_of_length_le (by omega)]
    · show t.ends = _
      rw [List.take_append_of_le_length (by omega), List.take_of_length_le (by omega)]
    · show true = _
      symm; exact decide_eq_true (by simp; omega)
  · rename_i hb0
    have hlt : t.runs.length < b.runs.toNat := by unfold tellB at hb0; simp at hb0; omega
    refine ⟨?_, ?_, ?_, fun h => by simp, fun h => by simp⟩
    · rw [List.take_of_length_le (by simp; omega)]; rfl
    · rw [List.take_of_length_le (by simp; omega)]; rfl
    · show t.over = _
      rw [ho]; symm; exact decide_eq_false (by simp; omega)
theorem rd_spin {b : PBud} {t r : TS} {L : List (PRun × PSt)} {sp : Bool} {s : PSt} (h : Rd b (spinT t s 6) L sp r) : Rd b t L (spinB s || sp) r :=
  ⟨h.runs, h.ends, h.over, fun ho => by rw [h.spun ho]; show (spunTo t.spun s 6 || sp) = _; rw [spunTo_or, Bool.or_assoc]; rfl, h.short⟩
theorem fold_rd {b : PBud} {p : PProg} {k : Nat} {s : PSt} {picks : List PPick} (ih : ∀ (s : PSt) (picks : List PPick) (t : TS), TsOk b t → t.over = false → Rd b t (lvs p b.fuel k s picks) (spn p b.fuel k s) (onF p b k s picks t)) :
    ∀ (l : List PPick) (t : TS), TsOk b t → t.over = false → Rd b t (l.flatMap fun x => lvs p b.fuel k (doF p s x b.fuel).1 (picks ++ [x])) (l.any fun x => spn p b.fuel k (doF p s x b.fuel).1) (l.foldl (rndX p b k s picks) t)
  | [], t, ht, ho => ⟨by simp [List.take_of_length_le ht.len], by simp [List.take_of_length_le (show t.ends.length ≤ _ by rw [ht.even]; exact ht.len)], by rw [List.foldl_nil, ho]; symm; exact decide_eq_false (by have := ht.len; simp; omega), fun _ => by simp, fun _ => by simp⟩
  | x :: l, t, ht, ho => by
    have e : rndX p b k s picks t x = onF p b k (doF p s x b.fuel).1 (picks ++ [x]) t := if_neg (by rw [ho]; decide)
    have h1 := ih (doF p s x b.fuel).1 (picks ++ [x]) t ht ho
    rw [List.foldl_cons, e, List.flatMap_cons, List.any_cons]
    refine Rd.comp ht h1 (fun h => fold_over l _ h) (fun h => fold_rd ih l _ (h1.ok ht) h)
theorem on_rd {b : PBud} (hb : 0 ≤ b.runs) {p : PProg} : ∀ (k : Nat) (s : PSt) (picks : List PPick) (t : TS), TsOk b t → t.over = false → Rd b t (lvs p b.fuel k s picks) (spn p b.fuel k s) (onF p b k s picks t)
  | 0, s, picks, t, ht, ho => by
    have h := rd_spin (leaf_rd (s := s) (picks := picks) (c := !(readyL p s).isEmpty) hb (t := spinT t s 6) ⟨ht.len, ht.even⟩ ho)
    rw [Bool.or_false] at h
    exact h
  | k + 1, s, picks, t, ht, ho => by
    by_cases hz : readyL p s = []
    · have h := rd_spin (leaf_rd (s := s) (picks := picks) (c := false) hb (t := spinT t s 6) ⟨ht.len, ht.even⟩ ho)
      rw [onF, if_pos hz, lvs, if_pos hz, spn, hz]
      exact h
    · have h := rd_spin (fold_rd (on_rd hb (p := p) k) (s := s) (picks := picks) (readyL p s) (spinT t s 6) ⟨ht.len, ht.even⟩ ho)
      rw [on_fold hz, lvs, if_neg hz, spn]
      exact h
abbrev lvT (p : PProg) (b : PBud) : List (PRun × PSt) := lvs p b.fuel b.steps.toNat (startF p b.fuel).1 []
abbrev spT (p : PProg) (b : PBud) : Bool := spn p b.fuel b.steps.toNat (startF p b.fuel).1
theorem tree_rd {p : PProg} {b : PBud} (hf : fitsF p 0 b = 0) : Rd b ts0 (lvT p b) (spT p b) (treeT p b) := by
  rw [treeT, if_pos hf]
  exact on_rd (fits0 hf).2.2.2.2.1 _ _ _ _ ⟨Nat.zero_le _, rfl⟩ rfl
theorem tree_runs {p : PProg} {b : PBud} (hf : fitsF p 0 b = 0) : (treeT p b).runs = ((lvT p b).map (·.1)).take b.runs.toNat := (tree_rd hf).runs
theorem tree_whole {p : PProg} {b : PBud} (hf : fitsF p 0 b = 0) : wholeT p b = (decide ((lvT p b).length ≤ b.runs.toNat) && !((lvT p b).any fun x => x.1.cut) && !spT p b) := by
  have h := tree_rd hf
  have ho := h.over
  rw [wholeT, hf]
  cases hov : (treeT p b).over with
  | true =>
    rw [hov] at ho
    have := of_decide_eq_true ho.symm
    rw [show decide ((lvT p b).length ≤ b.runs.toNat) = false from decide_eq_false (by have h0 : ts0.runs.length = 0 := rfl; omega)]
    rfl
  | false =>
    rw [hov] at ho
    have := of_decide_eq_false ho.symm
    rw [show decide ((lvT p b).length ≤ b.runs.toNat) = true from decide_eq_true (by have h0 : ts0.runs.length = 0 := rfl; omega), h.spun hov, h.short hov]
    rfl
end Go.Ab


/- small: a little program. -/
set_option autoImplicit false
set_option maxRecDepth 20000
set_option maxHeartbeats 4000000
set_option linter.unusedSimpArgs false
set_option linter.unusedVariables false
namespace Go.Ab
open Go.Proofs
def smallF : PFun := ⟨0, 0, [⟨64, 0, 0, 0, 0⟩, ⟨45, 0, 0, 0, 0⟩], []⟩
def smallP : PProg := ⟨[], 0, [], [smallF]⟩
def allT (p : PProg) (b : PBud) : PRuns := ⟨(treeT p b).runs, wholeT p b⟩
def one1 : PRuns := ⟨[⟨[⟨0, 0⟩], false, false⟩], true⟩
def one0 : PRuns := ⟨[⟨[], true, false⟩], false⟩
set_option maxRecDepth 100000 in
theorem small1 : allT smallP ⟨1, 1, 1⟩ = one1 ∧ fitsF smallP 0 ⟨1, 1, 1⟩ = 0 := by decide +kernel
set_option maxRecDepth 100000 in
theorem small0 : allT smallP ⟨0, 1, 1⟩ = one0 ∧ fitsF smallP 0 ⟨0, 1, 1⟩ = 0 := by decide +kernel
theorem all_acB (p : PProg) (b : PBud) {x : AV} (hx : x = encBud b) : AC Tryz.prog T tysN 16 [encProg p, x] [] (.tup [encRuns (allT p b), .int (fitsF p 0 b)]) [] := by
  subst hx; exact all_ac p b
theorem all_s1 {x : AV} (hx : x = encBud ⟨1, 1, 1⟩) : AC Tryz.prog T tysN 16 [encProg smallP, x] [] (.tup [encRuns one1, .int 0]) [] := by
  have h := all_acB smallP ⟨1, 1, 1⟩ hx
  rw [small1.1, small1.2] at h; exact h
theorem all_s0 {x : AV} (hx : x = encBud ⟨0, 1, 1⟩) : AC Tryz.prog T tysN 16 [encProg smallP, x] [] (.tup [encRuns one0, .int 0]) [] := by
  have h := all_acB smallP ⟨0, 1, 1⟩ hx
  rw [small0.1, small0.2] at h; exact h
abbrev sp0 : AV := stru 26 [.v (.slice none 0 0), .int 0, .v (.slice none 0 0), .own (.s 10 0) 1 0 1 none]
theorem small_ac  : AC Tryz.prog T tysN 20 [] [] (.bool true) [] := by
 refine AC_intro hT Tryz.func20 rfl rfl (Nat.le_of_ble_eq_true rfl) ?_
 refine sq (rg [] rfl ?_)
 refine sq (rg [CG.mine, CG.mine] rfl ?_)
 refine sq ?_
 refine WP.ent (st' := mkSt [(1, .ptr (.s 1 0) 1 0 [])] [(.s 1 0, .cells ⟨26, 1, fun _ => sp0, 0⟩), (.s 10 0, cellsL 100 encFun fun0 [smallF])]) (em [(.s 8 0, 2)] ⟨⟨_, rfl, Nat.le_refl _⟩, trivial⟩ ⟨⟨rfl, _, rfl, cvt⟩, trivial⟩ ⟨obs rfl (hg := q0 (conv_eq (agg_ext fun q => by match q with | 0 | 1 | 2 | 3 | q + 4 => rfl))), obs rfl (hg := q0 ?_), trivial⟩) ?_
 · refine ⟨_, rfl, fun i hi => ?_⟩
   match i, hi with
   | 0, _ => exact conv_eq rfl
   | 1, _ => exact conv_eq rfl
   | 2, _ => exact conv_row rfl rfl rfl (fun h => by cases h) (Nat.le_refl _) (fun j hj => by match j, hj with | 0, _ => exact ⟨rfl, AEq.of_eq (agg_ext fun q => by match q with | 0 | 1 | 2 | 3 | 4 | q + 5 => rfl)⟩ | 1, _ => exact ⟨rfl, AEq.of_eq (agg_ext fun q => by match q with | 0 | 1 | 2 | 3 | 4 | q + 5 => rfl)⟩)
   | 3, _ => exact conv_nil_row (by decide)
 refine WP.ent (st' := mkSt [(1, .ptr (.s 1 0) 1 0 [])] [(.s 1 0, .cells ⟨26, 1, fun _ => encProg smallP, 0⟩)]) (em [(.s 10 0, 1)] ⟨⟨_, rfl, Nat.le_refl _⟩, trivial⟩ ⟨⟨rfl, _, rfl, cvt⟩, trivial⟩ ⟨obs rfl (hg := q0 ?_), trivial⟩) ?_
 · refine ⟨_, rfl, fun i hi => ?_⟩
   match i, hi with
   | 0, _ => exact conv_nil_row (by decide)
   | 1, _ => exact conv_eq rfl
   | 2, _ => exact conv_nil_row (by decide)
   | 3, _ => exact conv_row rfl rfl rfl (fun h => by cases h) (Nat.le_refl _) (fun j hj => by match j, hj with | 0, _ => exact ⟨rfl, AEq.refl _⟩)
 refine WP.ent (st' := mkSt [(1, .rp 26 (encProg smallP))] []) (em [(.s 1 0, 1)] ⟨sF, trivial⟩ ⟨⟨rfl, _, rfl, rpv⟩, trivial⟩ trivial) ?_
 refine rgs [CG.pure (.tup [encRuns one1, .int 0])] rfl ?_ ?_
 ·simp only [holdsC, under, CG.pure]
  refine ⟨all_s1 ?_, trivial, Nat.le_refl _⟩
  exact agg_ext fun q => by match q with | 0 | 1 | 2 | q + 3 => rfl
 refine sq ?_
 refine WP.ent (st' := mkSt [(1, .rp 26 (encProg smallP)), (2, .rp 32 (encRuns one1)), (3, .int 0)] []) ?_ ?_
 ·refine em [(.s 2 0, 1)] ⟨sF, trivial⟩ ⟨⟨rfl, _, rfl, cvt⟩, ⟨rfl, _, rfl, rpv⟩, ⟨rfl, _, rfl, cvt⟩, trivial⟩ trivial
 refine rgs [CG.pure (.tup [encRuns one0, .int 0])] rfl ?_ ?_
 ·simp only [holdsC, under, CG.pure]
  refine ⟨all_s0 ?_, trivial, Nat.le_refl _⟩
  exact agg_ext fun q => by match q with | 0 | 1 | 2 | q + 3 => rfl
 refine sq ?_
 refine WP.ent (st' := mkSt [(1, .rp 26 (encProg smallP)), (2, .rp 32 (encRuns one1)), (3, .int 0), (4, .rp 32 (encRuns one0)), (5, .int 0)] []) ?_ ?_
 ·refine em [(.s 4 0, 1)] ⟨sF, trivial⟩ ⟨⟨rfl, _, rfl, cvt⟩, ⟨rfl, _, rfl, cvt⟩, ⟨rfl, _, rfl, cvt⟩, ⟨rfl, _, rfl, rpv⟩, ⟨rfl, _, rfl, cvt⟩, trivial⟩ trivial
 refine rg [] rfl ?_
 refine WP.ret ?_
 change Fin ..
 exact fin1 hT (by rfl) rfl
end Go.Ab


/- TreeGrows. -/
set_option autoImplicit false
set_option maxRecDepth 20000
set_option maxHeartbeats 4000000
set_option linter.unusedSimpArgs false
set_option linter.unusedVariables false
namespace Go.Ab
open Go.Proofs
theorem putB_runs (b : PBud) (x : Int) : (encBud b).put [2] (.int x) = encBud { b with runs := x } := stru_put (Nat.le_of_ble_eq_true rfl)
end Go.Ab


/- Schedules: walk, run, waiting, Maximal, Run. -/
set_option autoImplicit false
set_option maxRecDepth 20000
set_option maxHeartbeats 4000000
set_option linter.unusedSimpArgs false
set_option linter.unusedVariables false
namespace Go.Ab
open Go.Proofs
def wlk (p : PProg) (n : Int) : PSt → List PPick → PSt × Nat × List Evt
  | s, [] => (s, 0, [])
  | s, x :: r => if (doF p s x n).2.2 ≠ 0 then (s, 0, []) else ((wlk p n (doF p s x n).1 r).1, (wlk p n (doF p s x n).1 r).2.1 + 1, (doF p s x n).2.1 :: (wlk p n (doF p s x n).1 r).2.2)
theorem wlk_ok {p : PProg} {n : Int} : ∀ (l : List PPick) (s : PSt), OkS s → OkS (wlk p n s l).1
  | [], s, h => h
  | x :: r, s, h => by
    rw [wlk]
    split
    · exact h
    · exact wlk_ok r _ (do_ok h)
def encTr (k : Nat) (s : PSt) (cut : Bool) : AV := stru 67 [.own (.b 1) k 0 k none, encS s, .bool cut]
abbrev evtO (l : List Evt) : Ob := cellsL 137 encE evt0 l
theorem waiting_ac (p : PProg) (s : PSt) (hs : OkS s) : AC Tryz.prog T tysN 64 [encProg p, encS s] [] (.bool (!(readyL p s).isEmpty)) [] := by
 refine AC_intro hT Tryz.func64 rfl rfl (Nat.le_of_ble_eq_true rfl) ?_
 refine sq (rg [] rfl ?_)
 refine sq ?_
 refine WP.ent (st' := mkSt [(2, .rp 26 (encProg p)), (3, .rp 62 (encS s)), (4, .bool false)] []) (em [(.s 2 0, 1), (.s 3 0, 1)] ⟨sF, sF, trivial⟩ ⟨⟨rfl, _, rfl, rpv⟩, ⟨rfl, _, rfl, rpv⟩, ⟨rfl, _, rfl, cvt⟩, trivial⟩ trivial) ?_
 refine rgs [CG.pure (.tup [rowPk (readyL p s), .int (askF p s)])] rfl ?_ ?_
 ·have hq := readyS_ac p s hs
  simp only [holdsC, under, CG.pure]
  repeat' with_reducible refine And.intro ?_ ?_
  all_goals (try with_reducible intros)
  all_goals (first | exact trivial | assumption | omega | exact hq | (simp; done) | grind)
 refine sq (rg [] rfl ?_)
 refine WP.ret ?_
 change Fin ..
 refine fin1 hT (by rfl) ?_
 cases (readyL p s) <;> simp
theorem max1_ac (s : PSt) (e : Evt) : AC Tryz.prog T tysN 65 [encS s, encE e] [] (.tup []) [] := by
 refine AC_intro hT Tryz.func65 rfl rfl (Nat.le_of_ble_eq_true rfl) ?_
 refine rg [] rfl ?_
 exact fin_mk hT [] (ts := []) (l := []) trivial trivial trivial rfl rfl rfl
theorem walkM_ac (p : PProg) (l : List PPick) (b : PBud) : AC Tryz.prog T tysN 110 [encProg p, rowPk l, encBud b, .clo 65 []] [] (.tup [encS (wlk p b.fuel (startF p b.fuel).1 l).1, .int (wlk p b.fuel (startF p b.fuel).1 l).2.1]) [] := by
 refine AC_intro hT Tryz.func110 rfl rfl (Nat.le_of_ble_eq_true rfl) ?_
 refine sq (rg [] rfl ?_)
 refine sq ?_
 refine WP.ent (st' := mkSt [(4, .rp 26 (encProg p)), (6, .rp 28 (encBud b)), (1, rowPk l), (3, .clo 65 []), (8, .ptr (.s 8 0) 1 0 [])] [(.s 8 0, .cells ⟨62, 1, fun _ => (T 62).zero, 0⟩)]) (em [(.s 4 0, 1), (.s 6 0, 1)] ⟨sF, sF, trivial⟩ ⟨⟨rfl, _, rfl, rpv⟩, ⟨rfl, _, rfl, rpv⟩, ⟨rfl, _, rfl, cvt⟩, ⟨rfl, _, rfl, cvt⟩, ⟨rfl, _, rfl, cvt⟩, trivial⟩ ⟨obs rfl, trivial⟩) ?_
 refine rgs [CG.pure (.tup [encS (startF p b.fuel).1, .int (startF p b.fuel).2])] rfl ?_ ?_
 ·have hq := start_ac p b.fuel
  simp only [holdsC, under, CG.pure]
  repeat' with_reducible refine And.intro ?_ ?_
  all_goals (try with_reducible intros)
  all_goals (first | exact trivial | assumption | omega | exact hq | (simp; done) | grind)
 refine sq (sq ?_)
 refine WP.rowlen 1 rfl (fun hl => ?_)
 refine rg [] rfl ?_
 refine bk ?_
 refine WP.loop (α := Nat × PSt) (fun (⟨i, s⟩ : Nat × PSt) => mkSt [(1, rowPk l), (3, .clo 65 []), (4, .rp 26 (encProg p)), (6, .rp 28 (encBud b)), (8, .ptr (.s 8 0) 1 0 []), (10, .ptr (.s 10 0) 1 0 []), (24, rowPk l), (25, .int l.length), (26, .int i)] [(.s 8 0, .cells ⟨62, 1, fun _ => (T 62).zero, 0⟩), (.s 10 0, .cells ⟨62, 1, fun _ => encS s, 0⟩)]) (fun (⟨i, s⟩ : Nat × PSt) => i ≤ l.length ∧ OkS s ∧ (wlk p b.fuel s (l.drop i)).1 = (wlk p b.fuel (startF p b.fuel).1 l).1 ∧ (wlk p b.fuel s (l.drop i)).2.1 + i = (wlk p b.fuel (startF p b.fuel).1 l).2.1) (fun (⟨i, s⟩ : Nat × PSt) => l.length - i) ?_ ?_
 ·refine ⟨⟨0, (startF p b.fuel).1⟩, ?_, ?_⟩
  ·exact ⟨Nat.zero_le _, start_ok, rfl, rfl⟩
  ·refine em [] trivial ⟨⟨rfl, _, rfl, cvt⟩, ⟨rfl, _, rfl, cvt⟩, ⟨rfl, _, rfl, cvt⟩, ⟨rfl, _, rfl, cvt⟩, ⟨rfl, _, rfl, cvt⟩, ⟨rfl, _, rfl, cvt⟩, ⟨rfl, _, rfl, cvt⟩, ⟨rfl, _, rfl, cvt⟩, ⟨rfl, _, rfl, cvt⟩, trivial⟩ ⟨obs rfl, obs rfl, trivial⟩
 ·rintro ⟨i, s⟩ ⟨hi, hs, hw1, hw2⟩
  refine sq (rg [] rfl ?_)
  refine sq ?_
  refine cd rfl (fun h3 => ?_) (fun h3 => ?_)
  ·have hil : i < l.length := by simp [-List.getD_eq_getElem?_getD] at h3; omega
   have hdr : l.drop i = l.getD i pick0 :: l.drop (i + 1) := by rw [List.drop_eq_getElem_cons hil]; simp [hil]
   obtain ⟨x, hx⟩ : ∃ x, l.getD i pick0 = x := ⟨_, rfl⟩
   rw [hdr, hx, wlk] at hw1 hw2
   refine sk (sq (bk (sq (rg [] rfl ?_))))
   refine sq ?_
   refine WP.ent (st' := mkSt [(1, rowPk l), (3, .clo 65 []), (4, .rp 26 (encProg p)), (6, .rp 28 (encBud b)), (8, .ptr (.s 8 0) 1 0 []), (10, .ptr (.s 10 0) 1 0 []), (12, .int i), (13, .rp 122 (encPick x)), (24, rowPk l), (25, .int l.length), (26, .int i)] [(.s 8 0, .cells ⟨62, 1, fun _ => (T 62).zero, 0⟩), (.s 10 0, .cells ⟨62, 1, fun _ => encS s, 0⟩)]) ?_ ?_
   ·refine em [(.s 13 0, 1)] ⟨sF, trivial⟩ ⟨⟨rfl, _, rfl, cvt⟩, ⟨rfl, _, rfl, cvt⟩, ⟨rfl, _, rfl, cvt⟩, ⟨rfl, _, rfl, cvt⟩, ⟨rfl, _, rfl, cvt⟩, ⟨rfl, _, rfl, cvt⟩, ⟨rfl, _, rfl, cvt⟩, ⟨rfl, _, rfl, conv_rpe rfl rfl (by decide) rfl (by rw [← hx]; rfl) rfl⟩, ⟨rfl, _, rfl, cvt⟩, ⟨rfl, _, rfl, cvt⟩, ⟨rfl, _, rfl, cvt⟩, trivial⟩ ⟨obs rfl, obs rfl, trivial⟩
   refine rgs [CG.pure (.tup [encS (doF p s x b.fuel).1, encE (doF p s x b.fuel).2.1, .int (doF p s x b.fuel).2.2])] rfl ?_ ?_
   ·have hq := do_ac p s x b.fuel hs
    simp only [holdsC, under, CG.pure]
    repeat' with_reducible refine And.intro ?_ ?_
    all_goals (try with_reducible intros)
    all_goals (first | exact trivial | assumption | omega | exact hq | (simp; done) | grind)
   refine sq (sq (rg [] rfl ?_))
   refine cd rfl (fun h6 => ?_) (fun h6 => ?_)
   ·have he : (doF p s x b.fuel).2.2 ≠ 0 := by simpa using h6
    refine sq (rg [] rfl ?_)
    refine WP.ret ?_
    change Fin ..
    rw [if_pos he] at hw1 hw2
    rw [← hw1, ← hw2]
    exact finCT hT rfl rfl rfl (conv_eq rfl) (by simp)
   ·have he : ¬ (doF p s x b.fuel).2.2 ≠ 0 := by simpa using h6
    refine sk (sq (rg [] rfl ?_))
    refine WP.ent (st' := mkSt [(1, rowPk l), (3, .clo 65 []), (4, .rp 26 (encProg p)), (6, .rp 28 (encBud b)), (8, .ptr (.s 8 0) 1 0 []), (10, .ptr (.s 10 0) 1 0 []), (15, .rp 137 (encE (doF p s x b.fuel).2.1)), (24, rowPk l), (25, .int l.length), (26, .int i)] [(.s 8 0, .cells ⟨62, 1, fun _ => (T 62).zero, 0⟩), (.s 10 0, .cells ⟨62, 1, fun _ => encS (doF p s x b.fuel).1, 0⟩)]) ?_ ?_
    ·refine em [(.s 15 0, 1)] ⟨sF, trivial⟩ ⟨⟨rfl, _, rfl, cvt⟩, ⟨rfl, _, rfl, cvt⟩, ⟨rfl, _, rfl, cvt⟩, ⟨rfl, _, rfl, cvt⟩, ⟨rfl, _, rfl, cvt⟩, ⟨rfl, _, rfl, cvt⟩, ⟨rfl, _, rfl, rpv⟩, ⟨rfl, _, rfl, cvt⟩, ⟨rfl, _, rfl, cvt⟩, ⟨rfl, _, rfl, cvt⟩, trivial⟩ ⟨obs rfl, obs rfl, trivial⟩
    refine rgs [CG.pure (.tup [])] rfl ?_ ?_
    ·have hq := max1_ac (doF p s x b.fuel).1 (doF p s x b.fuel).2.1
     simp only [holdsC, under, CG.pure]
     repeat' with_reducible refine And.intro ?_ ?_
     all_goals (try with_reducible intros)
     all_goals (first | exact trivial | assumption | omega | exact hq | (simp; done) | grind)
    refine rg [] rfl ?_
    refine ⟨⟨i + 1, (doF p s x b.fuel).1⟩, ?_, ?_, ?_⟩
    ·rw [if_neg he] at hw1 hw2
     exact ⟨hil, do_ok hs, hw1, by rw [← hw2]; show _ + (i + 1) = (_ + 1) + i; omega⟩
    ·refine em [] trivial ⟨⟨rfl, _, rfl, cvt⟩, ⟨rfl, _, rfl, cvt⟩, ⟨rfl, _, rfl, cvt⟩, ⟨rfl, _, rfl, cvt⟩, ⟨rfl, _, rfl, cvt⟩, ⟨rfl, _, rfl, cvt⟩, ⟨rfl, _, rfl, cvt⟩, ⟨rfl, _, rfl, cvt⟩, ⟨rfl, _, rfl, cvt⟩, trivial⟩ ⟨obs rfl, obs rfl, trivial⟩
    ·(try simp only []); first | omega | grind
  ·have hil : i = l.length := by simp [-List.getD_eq_getElem?_getD] at h3; omega
   refine xt (sq (rg [] rfl ?_))
   refine WP.ret ?_
   change Fin ..
   rw [hil, List.drop_length] at hw1 hw2
   have hw3 : s = _ := hw1
   have hw4 : 0 + l.length = _ := hw2
   rw [← hw3, ← hw4]
   exact finCT hT rfl rfl rfl (conv_eq rfl) (by simp)
end Go.Ab


/- Schedules: run, Maximal. -/
set_option autoImplicit false
set_option maxRecDepth 20000
set_option maxHeartbeats 4000000
set_option linter.unusedSimpArgs false
set_option linter.unusedVariables false
namespace Go.Ab
open Go.Proofs
def runF (p : PProg) (l : List PPick) (b : PBud) : PSt × Int × Int :=
  if fitsF p l.length b ≠ 0 then (st0, fitsF p l.length b, 0) else if b.steps < l.length then (st0, 2, b.steps) else
  if (wlk p b.fuel (startF p b.fuel).1 l).2.1 < l.length then (st0, 5, (wlk p b.fuel (startF p b.fuel).1 l).2.1) else ((wlk p b.fuel (startF p b.fuel).1 l).1, 0, 0)
theorem runF_ok {p : PProg} {l : List PPick} {b : PBud} : OkS (runF p l b).1 := by
  unfold runF
  split
  · exact ok_st0
  split
  · exact ok_st0
  split
  · exact ok_st0
  · exact wlk_ok _ _ start_ok
def maxF (p : PProg) (l : List PPick) (b : PBud) : Bool := decide ((runF p l b).2.1 = 0) && (readyL p (runF p l b).1).isEmpty
theorem runM_ac (p : PProg) (l : List PPick) (b : PBud) : AC Tryz.prog T tysN 62 [encProg p, rowPk l, encBud b, .clo 65 []] [] (.tup [encS (runF p l b).1, .int (runF p l b).2.1, .int (runF p l b).2.2]) [] := by
 refine AC_intro hT Tryz.func62 rfl rfl (Nat.le_of_ble_eq_true rfl) ?_
 refine sq (rg [] rfl ?_)
 refine sq (sq ?_)
 refine WP.ent (st' := mkSt [(4, .rp 26 (encProg p)), (6, .rp 28 (encBud b)), (1, rowPk l), (3, .clo 65 []), (8, .ptr (.s 8 0) 1 0 [])] [(.s 8 0, .cells ⟨62, 1, fun _ => (T 62).zero, 0⟩)]) (em [(.s 4 0, 1), (.s 6 0, 1)] ⟨sF, sF, trivial⟩ ⟨⟨rfl, _, rfl, rpv⟩, ⟨rfl, _, rfl, rpv⟩, ⟨rfl, _, rfl, cvt⟩, ⟨rfl, _, rfl, cvt⟩, ⟨rfl, _, rfl, cvt⟩, trivial⟩ ⟨obs rfl, trivial⟩) ?_
 refine rgs [CG.pure (.int (fitsF p l.length b))] rfl ?_ ?_
 ·have hq := sfit_ac p l.length b
  simp only [holdsC, under, CG.pure]
  repeat' with_reducible refine And.intro ?_ ?_
  all_goals (try with_reducible intros)
  all_goals (first | exact trivial | assumption | omega | exact hq | (simp; done) | grind)
 refine sq (rg [] rfl ?_)
 refine cd rfl (fun h2 => ?_) (fun h2 => ?_)
 ·have hf : fitsF p l.length b ≠ 0 := by simpa using h2
  refine sq (rg [] rfl ?_)
  refine WP.ret ?_
  change Fin ..
  have e : runF p l b = (st0, fitsF p l.length b, 0) := by rw [runF, if_pos hf]
  rw [e]
  exact finC3 hT [] trivial rfl rfl rfl rfl (conv_eq zeroS) rfl rfl
 ·have hf : fitsF p l.length b = 0 := by simpa using h2
  refine sk (sq (sq (rg [] rfl ?_)))
  refine cd rfl (fun h4 => ?_) (fun h4 => ?_)
  ·have hl : b.steps < l.length := by simpa using h4
   refine sq (dr [] rfl ?_)
   refine WP.ret ?_
   change Fin ..
   have e : runF p l b = (st0, 2, b.steps) := by rw [runF, if_neg (by omega), if_pos hl]
   rw [e]
   exact finC3 hT [] trivial rfl rfl rfl rfl (conv_eq zeroS) rfl rfl
  ·have hl : ¬ b.steps < l.length := by simp at h4; omega
   refine sk (sq (rgs [CG.pure (.tup [encS (wlk p b.fuel (startF p b.fuel).1 l).1, .int (wlk p b.fuel (startF p b.fuel).1 l).2.1])] rfl ?_ ?_))
   ·have hq := walkM_ac p l b
    simp only [holdsC, under, CG.pure]
    repeat' with_reducible refine And.intro ?_ ?_
    all_goals (try with_reducible intros)
    all_goals (first | exact trivial | assumption | omega | exact hq | (simp; done) | grind)
   refine sq (sq (rg [] rfl ?_))
   refine cd rfl (fun h7 => ?_) (fun h7 => ?_)
   ·have hw : (wlk p b.fuel (startF p b.fuel).1 l).2.1 < l.length := by simpa using h7
    refine sq (rg [] rfl ?_)
    refine WP.ret ?_
    change Fin ..
    have e : runF p l b = (st0, 5, ((wlk p b.fuel (startF p b.fuel).1 l).2.1 : Int)) := by rw [runF, if_neg (by omega), if_neg hl, if_pos hw]
    rw [e]
    exact finC3 hT [] trivial rfl rfl rfl rfl (conv_eq zeroS) rfl rfl
   ·have hw : ¬ (wlk p b.fuel (startF p b.fuel).1 l).2.1 < l.length := by simp at h7; omega
    refine sk (sq (rg [] rfl ?_))
    refine WP.ret ?_
    change Fin ..
    have e : runF p l b = ((wlk p b.fuel (startF p b.fuel).1 l).1, 0, 0) := by rw [runF, if_neg (by omega), if_neg hl, if_neg hw]
    rw [e]
    exact finC3 hT [] trivial rfl rfl rfl rfl (conv_eq rfl) rfl rfl
theorem maximal_ac (p : PProg) (l : List PPick) (b : PBud) : AC Tryz.prog T tysN 27 [encProg p, rowPk l, encBud b] [] (.tup [.bool (maxF p l b), .int (runF p l b).2.1]) [] := by
 refine AC_intro hT Tryz.func27 rfl rfl (Nat.le_of_ble_eq_true rfl) ?_
 refine sq (rg [] rfl ?_)
 refine sq ?_
 refine WP.ent (st' := mkSt [(3, .rp 26 (encProg p)), (5, .rp 28 (encBud b)), (1, rowPk l)] []) (em [(.s 3 0, 1), (.s 5 0, 1)] ⟨sF, sF, trivial⟩ ⟨⟨rfl, _, rfl, rpv⟩, ⟨rfl, _, rfl, rpv⟩, ⟨rfl, _, rfl, cvt⟩, trivial⟩ trivial) ?_
 refine rgs [CG.pure (.tup [encS (runF p l b).1, .int (runF p l b).2.1, .int (runF p l b).2.2])] rfl ?_ ?_
 ·have hq := runM_ac p l b
  simp only [holdsC, under, CG.pure]
  repeat' with_reducible refine And.intro ?_ ?_
  all_goals (try with_reducible intros)
  all_goals (first | exact trivial | assumption | omega | exact hq | (simp; done) | grind)
 refine sq (rgs [CG.pure (.bool (!(readyL p (runF p l b).1).isEmpty))] rfl ?_ ?_)
 ·have hq := waiting_ac p (runF p l b).1 runF_ok
  simp only [holdsC, under, CG.pure]
  repeat' with_reducible refine And.intro ?_ ?_
  all_goals (try with_reducible intros)
  all_goals (first | exact trivial | assumption | omega | exact hq | (simp; done) | grind)
 refine WP.ret ?_
 change Fin ..
 refine fin_mk hT [] (ts := [(6, .bool (maxF p l b)), (7, .int (runF p l b).2.1)]) (l := [.bool (maxF p l b), .int (runF p l b).2.1]) trivial ⟨⟨rfl, _, rfl, conv_eq ?_⟩, ⟨rfl, _, rfl, cvt⟩, trivial⟩ trivial rfl rfl rfl
 have e : ((runF p l b).2.1 == 0) = decide ((runF p l b).2.1 = 0) := by rw [Bool.eq_iff_iff]; simp
 rw [maxF, ← e]
 cases ((runF p l b).2.1 == 0) <;> cases (readyL p (runF p l b).1).isEmpty <;> rfl
end Go.Ab


/- The tree of runs: its leaves are the legal schedules that end. -/
set_option autoImplicit false
set_option maxRecDepth 20000
set_option maxHeartbeats 4000000
set_option linter.unusedSimpArgs false
set_option linter.unusedVariables false
namespace Go.Ab
open Go.Proofs
def legal (p : PProg) (n : Int) : PSt → List PPick → Prop
  | _, [] => True
  | s, x :: r => x ∈ readyL p s ∧ legal p n (doF p s x n).1 r
def endS (p : PProg) (n : Int) : PSt → List PPick → PSt
  | s, [] => s
  | s, x :: r => endS p n (doF p s x n).1 r
theorem do_err {p : PProg} {s : PSt} {x : PPick} {n : Int} (hn : 0 ≤ n ∧ n ≤ 4096) (h : x ∈ readyL p s) : (doF p s x n).2.2 = 0 := by
  obtain ⟨h1, h2, h3⟩ := ready_go h
  obtain ⟨j, g1, g2, g3⟩ := liveTo_mem.1 h1
  rw [doF, if_neg (by omega), if_neg (by omega), if_neg]
  intro hp
  exact hp ⟨by omega, by rw [goI, g2]; exact g3, h2⟩
theorem wlk_legal {p : PProg} {n : Int} (hn : 0 ≤ n ∧ n ≤ 4096) : ∀ (l : List PPick) (s : PSt), legal p n s l → (wlk p n s l).1 = endS p n s l ∧ (wlk p n s l).2.1 = l.length
  | [], s, _ => ⟨rfl, rfl⟩
  | x :: r, s, h => by
    obtain ⟨h1, h2⟩ := wlk_legal hn r _ h.2
    rw [wlk, if_neg (by rw [do_err hn h.1]; decide)]
    exact ⟨h1, congrArg (· + 1) h2⟩
structure LeafP (p : PProg) (n : Int) (k : Nat) (s : PSt) (picks : List PPick) (y : PRun × PSt) (l : List PPick) : Prop where
  picks : y.1.picks = picks ++ l
  legal : legal p n s l
  last : endS p n s l = y.2
  len : l.length ≤ k
  cut : y.1.cut = (decide (l.length = k) && !(readyL p y.2).isEmpty)
  fin : readyL p y.2 = [] ∨ l.length = k
  rep : y.1.rep = false
theorem leaf_path {p : PProg} {n : Int} : ∀ (k : Nat) (s : PSt) (picks : List PPick) (y : PRun × PSt), y ∈ lvs p n k s picks → ∃ l, LeafP p n k s picks y l
  | 0, s, picks, y, h => by
    obtain rfl := List.mem_singleton.1 h
    exact ⟨[], by simp, trivial, rfl, Nat.le_refl _, by simp, .inr rfl, rfl⟩
  | k + 1, s, picks, y, h => by
    rw [lvs] at h
    split at h
    · rename_i hz
      obtain rfl := List.mem_singleton.1 h
      exact ⟨[], by simp, trivial, rfl, Nat.zero_le _, by simp, .inl hz, rfl⟩
    · obtain ⟨x, hx, hy⟩ := List.mem_flatMap.1 h
      obtain ⟨l, hl⟩ := leaf_path k _ _ y hy
      refine ⟨x :: l, by rw [hl.picks]; simp, ⟨hx, hl.legal⟩, hl.last, Nat.succ_le_succ hl.len, by rw [hl.cut]; simp, hl.fin.imp id (congrArg (· + 1)), hl.rep⟩
theorem fits_len {p : PProg} {b : PBud} {m n : Int} (h : fitsF p m b = 0) (hn : n ≤ 256) : fitsF p n b = 0 := by
  have h1 := fits0 h
  unfold fitsF
  rw [if_neg (by rw [h1.1]; decide), if_neg (by omega), if_neg (fun hb => hb h1.2.2)]
theorem run_legal {p : PProg} {b : PBud} {l : List PPick} (hf : fitsF p 0 b = 0) (h : legal p b.fuel (startF p b.fuel).1 l) (hl : (l.length : Int) ≤ b.steps) : runF p l b = (endS p b.fuel (startF p b.fuel).1 l, 0, 0) := by
  have hb := (fits0 hf).2.2
  obtain ⟨w1, w2⟩ := wlk_legal hb.2.1 l _ h
  have hb1 := hb.1
  rw [runF, if_neg (by rw [fits_len (n := l.length) hf (by omega)]; decide), if_neg (by omega), if_neg (by rw [w2]; omega), w1]
end Go.Ab


/- The tree of runs: its runs rise. -/
set_option autoImplicit false
set_option maxRecDepth 20000
set_option maxHeartbeats 4000000
set_option linter.unusedSimpArgs false
set_option linter.unusedVariables false
namespace Go.Ab
open Go.Proofs
def ltPk (x y : PPick) : Prop := x.go < y.go ∨ (x.go = y.go ∧ x.alt < y.alt)
theorem liveTo_sorted (s : PSt) : ∀ k, (liveTo s k).Pairwise (· < ·)
  | 0 => List.Pairwise.nil
  | k + 1 => by
    rw [liveTo]
    refine List.pairwise_append.2 ⟨liveTo_sorted s k, ?_, fun a ha b hb => ?_⟩
    · split <;> simp
    · obtain ⟨j, h1, h2, _⟩ := liveTo_mem.1 ha
      split at hb
      · have := List.mem_singleton.1 hb; omega
      · cases hb
theorem caseTo_bd {p : PProg} {s : PSt} {q : PSel} : ∀ {k : Nat} {x : Int}, x ∈ caseTo p s q k → x < k
  | 0, x, h => by cases h
  | k + 1, x, h => by
    rw [caseTo, giveL] at h
    split at h
    · rcases List.mem_append.1 h with h1 | h1
      · have := caseTo_bd h1; omega
      · have := List.mem_singleton.1 h1; omega
    · have := caseTo_bd h; omega
theorem caseTo_sorted (p : PProg) (s : PSt) (q : PSel) : ∀ k, (caseTo p s q k).Pairwise (· < ·)
  | 0 => List.Pairwise.nil
  | k + 1 => by
    rw [caseTo, giveL]
    split
    · refine List.pairwise_append.2 ⟨caseTo_sorted p s q k, by simp, fun a ha b hb => ?_⟩
      have h1 := caseTo_bd ha
      have h2 := List.mem_singleton.1 hb
      omega
    · exact caseTo_sorted p s q k
theorem altL_sorted (p : PProg) (s : PSt) (g : Int) : (altL p s g).Pairwise (· < ·) := by
  unfold altL
  split
  · split <;> simp
  · rw [giveL]
    split
    · refine List.pairwise_append.2 ⟨caseTo_sorted p s _ _, by simp, fun a ha b hb => ?_⟩
      have h1 := caseTo_bd ha
      have h2 := List.mem_singleton.1 hb
      omega
    · exact caseTo_sorted p s _ _
theorem pairwise_flat {α β : Type} {R : α → α → Prop} {S : β → β → Prop} {f : α → List β} (h1 : ∀ a, (f a).Pairwise S) (h2 : ∀ a b, R a b → ∀ x ∈ f a, ∀ y ∈ f b, S x y) : ∀ {l : List α}, l.Pairwise R → (l.flatMap f).Pairwise S
  | [], _ => List.Pairwise.nil
  | a :: l, h => by
    rw [List.flatMap_cons]
    obtain ⟨h3, h4⟩ := List.pairwise_cons.1 h
    refine List.pairwise_append.2 ⟨h1 a, pairwise_flat h1 h2 h4, fun x hx y hy => ?_⟩
    obtain ⟨b, hb, hy⟩ := List.mem_flatMap.1 hy
    exact h2 a b (h3 b hb) x hx y hy
theorem readyL_sorted (p : PProg) (s : PSt) : (readyL p s).Pairwise ltPk := by
  unfold readyL
  split
  · refine pairwise_flat (R := fun a b : Int => a < b) (fun g => ?_) (fun a b hab x hx y hy => ?_) (liveTo_sorted s 6)
    · rw [pickL]
      exact List.pairwise_map.2 ((altL_sorted p s g).imp fun h => .inr ⟨rfl, h⟩)
    · obtain ⟨_, _, rfl⟩ := List.mem_map.1 hx
      obtain ⟨_, _, rfl⟩ := List.mem_map.1 hy
      exact .inl hab
  · exact List.Pairwise.nil
def aheadL : List PPick → List PPick → Bool
  | [], _ => false
  | _ :: _, [] => false
  | x :: a, y :: b => if x = y then aheadL a b else decide (x.go < y.go) || (decide (x.go = y.go) && decide (x.alt < y.alt))
theorem aheadL_pre : ∀ (l a b : List PPick), aheadL (l ++ a) (l ++ b) = aheadL a b
  | [], a, b => rfl
  | x :: l, a, b => by rw [List.cons_append, List.cons_append, aheadL, if_pos rfl]; exact aheadL_pre l a b
theorem aheadL_lt {x y : PPick} {a b : List PPick} (h : ltPk x y) : aheadL (x :: a) (y :: b) = true := by
  have hne : x ≠ y := by rintro rfl; rcases h with h | h <;> omega
  rw [aheadL, if_neg hne]
  rcases h with h | ⟨h1, h2⟩
  · simp [h]
  · simp [h1, h2]
theorem lvs_sorted {p : PProg} {n : Int} : ∀ (k : Nat) (s : PSt) (picks : List PPick), (lvs p n k s picks).Pairwise fun y z => aheadL y.1.picks z.1.picks = true
  | 0, s, picks => List.pairwise_singleton ..
  | k + 1, s, picks => by
    rw [lvs]
    split
    · exact List.pairwise_singleton ..
    · refine pairwise_flat (R := ltPk) (fun x => lvs_sorted k _ _) (fun a b hab y hy z hz => ?_) (readyL_sorted p s)
      obtain ⟨l1, h1⟩ := leaf_path _ _ _ y hy
      obtain ⟨l2, h2⟩ := leaf_path _ _ _ z hz
      rw [h1.picks, h2.picks, List.append_assoc, List.append_assoc, aheadL_pre]
      exact aheadL_lt hab
theorem lvs_ne {p : PProg} {n : Int} : ∀ (k : Nat) (s : PSt) (picks : List PPick), lvs p n k s picks ≠ []
  | 0, s, picks => by simp [lvs]
  | k + 1, s, picks => by
    rw [lvs]
    split
    · simp
    · rename_i hz
      obtain ⟨x, hx⟩ := List.exists_mem_of_ne_nil _ hz
      obtain ⟨y, hy⟩ := List.exists_mem_of_ne_nil _ (lvs_ne (p := p) (n := n) k (doF p s x n).1 (picks ++ [x]))
      exact List.ne_nil_of_mem (List.mem_flatMap.2 ⟨x, hx, hy⟩)
end Go.Ab


/- ahead. -/
set_option autoImplicit false
set_option maxRecDepth 20000
set_option maxHeartbeats 4000000
set_option linter.unusedSimpArgs false
set_option linter.unusedVariables false
namespace Go.Ab
open Go.Proofs
theorem ahead_ac (a b : List PPick) : AC Tryz.prog T tysN 28 [rowPk a, rowPk b] [] (.bool (aheadL a b)) [] := by
 refine AC_intro hT Tryz.func28 rfl rfl (Nat.le_of_ble_eq_true rfl) ?_
 refine WP.rowlen 0 rfl (fun hla => ?_)
 refine sq (rg [] rfl ?_)
 refine sq (sq (rg [] rfl ?_))
 refine bk ?_
 refine WP.loop (α := Nat) (fun i => mkSt [(0, rowPk a), (1, rowPk b), (7, .int a.length), (8, .int i)] []) (fun i => i ≤ a.length ∧ i ≤ b.length ∧ aheadL (a.drop i) (b.drop i) = aheadL a b) (fun i => a.length - i) ?_ ?_
 ·refine ⟨0, ?_, ?_⟩
  ·exact ⟨Nat.zero_le _, Nat.zero_le _, rfl⟩
  ·refine em [] trivial ⟨⟨rfl, _, rfl, cvt⟩, ⟨rfl, _, rfl, cvt⟩, ⟨rfl, _, rfl, cvt⟩, ⟨rfl, _, rfl, cvt⟩, trivial⟩ trivial
 ·rintro i ⟨hi, hib, he⟩
  refine sq (rg [] rfl ?_)
  refine sq ?_
  refine cd rfl (fun h2 => ?_) (fun h2 => ?_)
  ·have hil : i < a.length := by simpa using h2
   have hda : a.drop i = a.getD i pick0 :: a.drop (i + 1) := by rw [List.drop_eq_getElem_cons hil]; simp [hil]
   refine sk (sq (bk (sq (rg [] rfl ?_))))
   refine sq (sq (rg [] rfl ?_))
   refine cd rfl (fun h4 => ?_) (fun h4 => ?_)
   ·have hbl : b.length ≤ i := by simpa using h4
    refine sq (rg [] rfl ?_)
    refine WP.ret ?_
    change Fin ..
    rw [hda, List.drop_eq_nil_of_le hbl] at he
    exact fin1 hT (by rfl) (by rw [← he]; rfl)
   ·have hbl : i < b.length := by simpa using h4
    have hdb : b.drop i = b.getD i pick0 :: b.drop (i + 1) := by rw [List.drop_eq_getElem_cons hbl]; simp [hbl]
    rw [hda, hdb, aheadL] at he
    refine sk (sq (drs [] rfl ?_ ?_))
    ·simp only [holdsC, under, CG.pure]
     repeat' with_reducible refine And.intro ?_ ?_
     all_goals (try with_reducible intros)
     all_goals (first | exact trivial | assumption | omega | (simp; done) | grind)
    refine cd rfl (fun h6 => ?_) (fun h6 => ?_)
    ·have hne : a.getD i pick0 ≠ b.getD i pick0 := by
       have e : (!(a.getD i pick0 == b.getD i pick0)) = true := (congrArg Bool.not (eqPk_v _ _)).trans h6
       simpa using e
     rw [if_neg hne] at he
     refine sq (drs [] rfl ?_ ?_)
     ·simp only [holdsC, under, CG.pure]
      repeat' with_reducible refine And.intro ?_ ?_
      all_goals (try with_reducible intros)
      all_goals (first | exact trivial | assumption | omega | (simp; done) | grind)
     refine WP.ret ?_
     change Fin ..
     refine fin1 hT (by rfl) ?_
     rw [← he]
     cases h8 : decide ((a.getD i pick0).go < (b.getD i pick0).go) <;> cases h9 : decide ((a.getD i pick0).go = (b.getD i pick0).go) <;> simp_all
    ·have hee : a.getD i pick0 = b.getD i pick0 := by
       have e : (!(a.getD i pick0 == b.getD i pick0)) = false := (congrArg Bool.not (eqPk_v _ _)).trans h6
       simpa using e
     rw [if_pos hee] at he
     refine sk (rg [] rfl ?_)
     refine ⟨i + 1, ?_, ?_, ?_⟩
     ·exact ⟨hil, hbl, he⟩
     ·refine em [] trivial ⟨⟨rfl, _, rfl, cvt⟩, ⟨rfl, _, rfl, cvt⟩, ⟨rfl, _, rfl, cvt⟩, ⟨rfl, _, rfl, cvt⟩, trivial⟩ trivial
     ·(try simp only []); first | omega | grind
  ·have hil : i = a.length := by simp at h2; omega
   refine xt (sq (rg [] rfl ?_))
   refine WP.ret ?_
   change Fin ..
   rw [hil, List.drop_length] at he
   exact fin1 hT (by rfl) (by rw [← he]; rfl)
end Go.Ab


/- Schedules: walk and run with Run's closure. -/
set_option autoImplicit false
set_option maxRecDepth 20000
set_option maxHeartbeats 4000000
set_option linter.unusedSimpArgs false
set_option linter.unusedVariables false
namespace Go.Ab
open Go.Proofs
abbrev trO (evs : List Evt) (s : PSt) (c : Bool) : Ob := .cells ⟨67, 1, fun _ => encTr evs.length s c, 0⟩
theorem run1_ac (s : PSt) (e : Evt) (evs : List Evt) (hl : evs.length ≤ 256) (s0 : PSt) (c : Bool) : AC Tryz.prog T tysN 63 [encS s, encE e, .ptr (.b 0) 1 0 []] [trO evs s0 c, evtO evs] (.tup []) [trO (evs ++ [e]) s0 c, evtO (evs ++ [e])] := by
 refine AC_intro hT Tryz.func63 rfl rfl (Nat.le_of_ble_eq_true rfl) ?_
 refine sq (rg [] rfl ?_)
 refine WP.ent (st' := mkSt [(2, .ptr (.b 0) 1 0 []), (4, .rp 137 (encE e))] [(.b 0, trO evs s0 c), (.b 1, evtO evs)]) ?_ ?_
 ·refine em [(.s 4 0, 1)] ⟨sF, trivial⟩ ⟨⟨rfl, _, rfl, cvt⟩, ⟨rfl, _, rfl, rpv⟩, trivial⟩ ⟨obs rfl, obs rfl, trivial⟩
 refine rgs [] rfl ?_ ?_
 ·have hbs : (T 137).bytes ≤ 1024 := by decide
  have hm : (evs.length + 1) * (T 137).bytes ≤ (evs.length + 1) * 1024 := Nat.mul_le_mul_left _ hbs
  simp only [holdsC, under, CG.pure]
  repeat' with_reducible refine And.intro ?_ ?_
  all_goals (try with_reducible intros)
  all_goals (first | exact trivial | assumption | omega | exact hm | (simp; done) | grind)
 refine fin_mk hT [] (ts := []) (l := []) trivial trivial ⟨obs rfl (hg := q0 (conv_eq ?_)), ob_list (fun a => by rfl) rfl rfl (by rw [len_snc]) rfl rfl (appL (z := (T 137).zero) rfl rfl (fun q hq => rfl)), trivial⟩ rfl rfl rfl
 rw [len_snc]
 exact agg_ext fun q => by match q with | 0 | 1 | 2 | q + 3 => rfl
end Go.Ab


/- Schedules: walk and run with Run's closure. -/
set_option autoImplicit false
set_option maxRecDepth 20000
set_option maxHeartbeats 4000000
set_option linter.unusedSimpArgs false
set_option linter.unusedVariables false
namespace Go.Ab
open Go.Proofs
theorem ren_tchG (σ : Id → Id) (c : Tch) : ren σ (encTch c) = encTch c := agg_ext (fun q => by match q with | 0 | 1 | 2 | q + 3 => rfl)
theorem ren_E (σ : Id → Id) (e : Evt) : ren σ (encE e) = encE e := agg_ext (fun q => by
  match q with
  | 0 | 1 | 2 | 3 | 4 | 5 | 6 | 8 | q + 9 => rfl
  | 7 => exact agg_ext fun i => ren_tchG σ _)
theorem ren_tr {σ : Id → Id} (h : σ (.b 1) = .b 1) (k : Nat) (s : PSt) (c : Bool) : ren σ (encTr k s c) = encTr k s c := agg_ext (fun q => by
  match q with
  | 0 => show AV.own (σ (.b 1)) k 0 k none = _; rw [h]; rfl
  | 1 => exact ren_S σ s
  | 2 | q + 3 => rfl)
theorem run1_acR (s : PSt) (e : Evt) (evs : List Evt) (hl : evs.length ≤ 256) (s0 : PSt) (c : Bool) : AC Tryz.prog T tysN 63 [ren (sig [.b 0, .b 1] 0) (encS s), ren (sig [.b 0, .b 1] 0) (encE e), .ptr (.b 0) 1 0 []] [renO (sig [.b 0, .b 1] 0) (trO evs s0 c), renO (sig [.b 0, .b 1] 0) (evtO evs)] (.tup []) [trO (evs ++ [e]) s0 c, evtO (evs ++ [e])] := by
  have e1 : renO (sig [.b 0, .b 1] 0) (trO evs s0 c) = trO evs s0 c := by
    show Ob.cells ⟨_, _, fun _ => ren _ (encTr evs.length s0 c), _⟩ = _
    rw [ren_tr rfl]
  rw [ren_S, ren_E, e1, renO_list (ren_E _)]
  exact run1_ac s e evs hl s0 c
theorem walkR_ac (p : PProg) (l : List PPick) (b : PBud) (hll : l.length ≤ 256) : AC Tryz.prog T tysN 110 [encProg p, rowPk l, encBud b, .clo 63 [.ptr (.b 0) 1 0 []]] [trO [] st0 false, evtO []] (.tup [encS (wlk p b.fuel (startF p b.fuel).1 l).1, .int (wlk p b.fuel (startF p b.fuel).1 l).2.1]) [trO (wlk p b.fuel (startF p b.fuel).1 l).2.2 st0 false, evtO (wlk p b.fuel (startF p b.fuel).1 l).2.2] := by
 refine AC_intro hT Tryz.func110 rfl rfl (Nat.le_of_ble_eq_true rfl) ?_
 refine sq (rg [] rfl ?_)
 refine sq ?_
 refine WP.ent (st' := mkSt [(4, .rp 26 (encProg p)), (6, .rp 28 (encBud b)), (1, rowPk l), (3, .clo 63 [.ptr (.b 0) 1 0 []]), (8, .ptr (.s 8 0) 1 0 [])] [(.b 0, trO [] st0 false), (.b 1, evtO []), (.s 8 0, .cells ⟨62, 1, fun _ => (T 62).zero, 0⟩)]) ?_ ?_
 ·refine em [(.s 4 0, 1), (.s 6 0, 1)] ⟨sF, sF, trivial⟩ ⟨⟨rfl, _, rfl, rpv⟩, ⟨rfl, _, rfl, rpv⟩, ⟨rfl, _, rfl, cvt⟩, ⟨rfl, _, rfl, cvt⟩, ⟨rfl, _, rfl, cvt⟩, trivial⟩ ⟨obs rfl, obs rfl, obs rfl, trivial⟩
 refine rgs [CG.pure (.tup [encS (startF p b.fuel).1, .int (startF p b.fuel).2])] rfl ?_ ?_
 ·have hq := start_ac p b.fuel
  simp only [holdsC, under, CG.pure]
  repeat' with_reducible refine And.intro ?_ ?_
  all_goals (try with_reducible intros)
  all_goals (first | exact trivial | assumption | omega | exact hq | (simp; done) | grind)
 refine sq (sq ?_)
 refine WP.rowlen 1 rfl (fun hl => ?_)
 refine rg [] rfl ?_
 refine bk ?_
 refine WP.loop (α := Nat × PSt × List Evt) (fun (⟨i, s, evs⟩ : Nat × PSt × List Evt) => mkSt [(1, rowPk l), (3, .clo 63 [.ptr (.b 0) 1 0 []]), (4, .rp 26 (encProg p)), (6, .rp 28 (encBud b)), (8, .ptr (.s 8 0) 1 0 []), (10, .ptr (.s 10 0) 1 0 []), (24, rowPk l), (25, .int l.length), (26, .int i)] [(.b 0, trO evs st0 false), (.b 1, evtO evs), (.s 8 0, .cells ⟨62, 1, fun _ => (T 62).zero, 0⟩), (.s 10 0, .cells ⟨62, 1, fun _ => encS s, 0⟩)]) (fun (⟨i, s, evs⟩ : Nat × PSt × List Evt) => i ≤ l.length ∧ OkS s ∧ (wlk p b.fuel s (l.drop i)).1 = (wlk p b.fuel (startF p b.fuel).1 l).1 ∧ (wlk p b.fuel s (l.drop i)).2.1 + i = (wlk p b.fuel (startF p b.fuel).1 l).2.1 ∧ evs.length ≤ i ∧ evs ++ (wlk p b.fuel s (l.drop i)).2.2 = (wlk p b.fuel (startF p b.fuel).1 l).2.2) (fun (⟨i, s, evs⟩ : Nat × PSt × List Evt) => l.length - i) ?_ ?_
 ·refine ⟨⟨0, (startF p b.fuel).1, []⟩, ?_, ?_⟩
  ·exact ⟨Nat.zero_le _, start_ok, rfl, rfl, Nat.le_refl _, rfl⟩
  ·refine em [] trivial ⟨⟨rfl, _, rfl, cvt⟩, ⟨rfl, _, rfl, cvt⟩, ⟨rfl, _, rfl, cvt⟩, ⟨rfl, _, rfl, cvt⟩, ⟨rfl, _, rfl, cvt⟩, ⟨rfl, _, rfl, cvt⟩, ⟨rfl, _, rfl, cvt⟩, ⟨rfl, _, rfl, cvt⟩, ⟨rfl, _, rfl, cvt⟩, trivial⟩ ⟨obs rfl, obs rfl, obs rfl, obs rfl, trivial⟩
 ·rintro ⟨i, s, evs⟩ ⟨hi, hs, hw1, hw2, hel, hw5⟩
  refine sq (rg [] rfl ?_)
  refine sq ?_
  refine cd rfl (fun h3 => ?_) (fun h3 => ?_)
  ·have hil : i < l.length := by simp [-List.getD_eq_getElem?_getD] at h3; omega
   have hdr : l.drop i = l.getD i pick0 :: l.drop (i + 1) := by rw [List.drop_eq_getElem_cons hil]; simp [hil]
   obtain ⟨x, hx⟩ : ∃ x, l.getD i pick0 = x := ⟨_, rfl⟩
   rw [hdr, hx, wlk] at hw1 hw2 hw5
   refine sk (sq (bk (sq (rg [] rfl ?_))))
   refine sq ?_
   refine WP.ent (st' := mkSt [(1, rowPk l), (3, .clo 63 [.ptr (.b 0) 1 0 []]), (4, .rp 26 (encProg p)), (6, .rp 28 (encBud b)), (8, .ptr (.s 8 0) 1 0 []), (10, .ptr (.s 10 0) 1 0 []), (12, .int i), (13, .rp 122 (encPick x)), (24, rowPk l), (25, .int l.length), (26, .int i)] [(.b 0, trO evs st0 false), (.b 1, evtO evs), (.s 8 0, .cells ⟨62, 1, fun _ => (T 62).zero, 0⟩), (.s 10 0, .cells ⟨62, 1, fun _ => encS s, 0⟩)]) ?_ ?_
   ·refine em [(.s 13 0, 1)] ⟨sF, trivial⟩ ⟨⟨rfl, _, rfl, cvt⟩, ⟨rfl, _, rfl, cvt⟩, ⟨rfl, _, rfl, cvt⟩, ⟨rfl, _, rfl, cvt⟩, ⟨rfl, _, rfl, cvt⟩, ⟨rfl, _, rfl, cvt⟩, ⟨rfl, _, rfl, cvt⟩, ⟨rfl, _, rfl, conv_rpe rfl rfl (by decide) rfl (by rw [← hx]; rfl) rfl⟩, ⟨rfl, _, rfl, cvt⟩, ⟨rfl, _, rfl, cvt⟩, ⟨rfl, _, rfl, cvt⟩, trivial⟩ ⟨obs rfl, obs rfl, obs rfl, obs rfl, trivial⟩
   refine rgs [CG.pure (.tup [encS (doF p s x b.fuel).1, encE (doF p s x b.fuel).2.1, .int (doF p s x b.fuel).2.2])] rfl ?_ ?_
   ·have hq := do_ac p s x b.fuel hs
    simp only [holdsC, under, CG.pure]
    repeat' with_reducible refine And.intro ?_ ?_
    all_goals (try with_reducible intros)
    all_goals (first | exact trivial | assumption | omega | exact hq | (simp; done) | grind)
   refine sq (sq (rg [] rfl ?_))
   refine cd rfl (fun h6 => ?_) (fun h6 => ?_)
   ·have he : (doF p s x b.fuel).2.2 ≠ 0 := by simpa using h6
    refine sq (rg [] rfl ?_)
    refine WP.ret ?_
    change Fin ..
    rw [if_pos he] at hw1 hw2 hw5
    simp only [List.append_nil] at hw5
    rw [← hw1, ← hw2, ← hw5]
    refine fin_mk hT [(.s 8 0, 1)] (ts := [(8, .rp 62 (encS s)), (9, .int (0 + i : Nat))]) (l := [encS s, .int (0 + i : Nat)]) ⟨sF, trivial⟩ ⟨⟨rfl, _, rfl, rpv (hF := by simp [lookF, idbeq_self])⟩, ⟨rfl, _, rfl, conv_eq (by simp)⟩, trivial⟩ ⟨obs rfl, obs rfl, trivial⟩ rfl rfl rfl
   ·have he : ¬ (doF p s x b.fuel).2.2 ≠ 0 := by simpa using h6
    refine sk (sq (rg [] rfl ?_))
    refine WP.ent (st' := mkSt [(1, rowPk l), (3, .clo 63 [.ptr (.b 0) 1 0 []]), (4, .rp 26 (encProg p)), (6, .rp 28 (encBud b)), (8, .ptr (.s 8 0) 1 0 []), (10, .ptr (.s 10 0) 1 0 []), (15, .rp 137 (encE (doF p s x b.fuel).2.1)), (24, rowPk l), (25, .int l.length), (26, .int i)] [(.b 0, trO evs st0 false), (.b 1, evtO evs), (.s 8 0, .cells ⟨62, 1, fun _ => (T 62).zero, 0⟩), (.s 10 0, .cells ⟨62, 1, fun _ => encS (doF p s x b.fuel).1, 0⟩)]) ?_ ?_
    ·refine em [(.s 15 0, 1)] ⟨sF, trivial⟩ ⟨⟨rfl, _, rfl, cvt⟩, ⟨rfl, _, rfl, cvt⟩, ⟨rfl, _, rfl, cvt⟩, ⟨rfl, _, rfl, cvt⟩, ⟨rfl, _, rfl, cvt⟩, ⟨rfl, _, rfl, cvt⟩, ⟨rfl, _, rfl, rpv⟩, ⟨rfl, _, rfl, cvt⟩, ⟨rfl, _, rfl, cvt⟩, ⟨rfl, _, rfl, cvt⟩, trivial⟩ ⟨obs rfl, obs rfl, obs rfl, obs rfl, trivial⟩
    refine rgs [⟨true, [.b 0, .b 1], .tup [], [trO (evs ++ [(doF p s x b.fuel).2.1]) st0 false, evtO (evs ++ [(doF p s x b.fuel).2.1])]⟩] rfl ?_ ?_
    ·have hq := run1_acR (doF p s x b.fuel).1 (doF p s x b.fuel).2.1 evs (by omega) st0 false
     have hk1 : okOs [.b 0, .b 1] [trO evs st0 false, evtO evs] := ⟨fun _ _ => rfl, fun _ _ => rfl, trivial⟩
     have hk2 : okOs (bs 2) [trO (evs ++ [(doF p s x b.fuel).2.1]) st0 false, evtO (evs ++ [(doF p s x b.fuel).2.1])] := ⟨fun _ _ => rfl, fun _ _ => rfl, trivial⟩
     simp only [holdsC, under, CG.pure]
     repeat' with_reducible refine And.intro ?_ ?_
     all_goals (try with_reducible intros)
     all_goals (first | exact trivial | assumption | omega | exact hq | exact hk1 | exact hk2 | (simp; done) | grind)
    refine rg [] rfl ?_
    refine ⟨⟨i + 1, (doF p s x b.fuel).1, evs ++ [(doF p s x b.fuel).2.1]⟩, ?_, ?_, ?_⟩
    ·rw [if_neg he] at hw1 hw2 hw5
     exact ⟨hil, do_ok hs, hw1, by rw [← hw2]; show _ + (i + 1) = (_ + 1) + i; omega, by rw [len_snc]; omega, by rw [← hw5, List.append_assoc]; rfl⟩
    ·refine em [] trivial ⟨⟨rfl, _, rfl, cvt⟩, ⟨rfl, _, rfl, cvt⟩, ⟨rfl, _, rfl, cvt⟩, ⟨rfl, _, rfl, cvt⟩, ⟨rfl, _, rfl, cvt⟩, ⟨rfl, _, rfl, cvt⟩, ⟨rfl, _, rfl, cvt⟩, ⟨rfl, _, rfl, cvt⟩, ⟨rfl, _, rfl, cvt⟩, trivial⟩ ⟨obs rfl (hg := q0 (conv_eq (ren_tr rfl _ _ _))), obs rfl (hg := fun q hq => conv_eq (ren_E _ _)), obs rfl, obs rfl, trivial⟩
    ·(try simp only []); first | omega | grind
  ·have hil : i = l.length := by simp [-List.getD_eq_getElem?_getD] at h3; omega
   refine xt (sq (rg [] rfl ?_))
   refine WP.ret ?_
   change Fin ..
   rw [hil, List.drop_length] at hw1 hw2 hw5
   have hw3 : s = _ := hw1
   have hw4 : 0 + l.length = _ := hw2
   have hw6 : evs ++ [] = _ := hw5
   rw [List.append_nil] at hw6
   rw [← hw3, ← hw4, ← hw6]
   refine fin_mk hT [(.s 8 0, 1)] (ts := [(8, .rp 62 (encS s)), (9, .int (0 + l.length : Nat))]) (l := [encS s, .int (0 + l.length : Nat)]) ⟨sF, trivial⟩ ⟨⟨rfl, _, rfl, rpv (hF := by simp [lookF, idbeq_self])⟩, ⟨rfl, _, rfl, conv_eq (by simp)⟩, trivial⟩ ⟨obs rfl, obs rfl, trivial⟩ rfl rfl rfl
end Go.Ab


/- Schedules: run with Run's closure; Run. -/
set_option autoImplicit false
set_option maxRecDepth 20000
set_option maxHeartbeats 4000000
set_option linter.unusedSimpArgs false
set_option linter.unusedVariables false
namespace Go.Ab
open Go.Proofs
def runE (p : PProg) (l : List PPick) (b : PBud) : List Evt := if fitsF p l.length b ≠ 0 then [] else if b.steps < l.length then [] else (wlk p b.fuel (startF p b.fuel).1 l).2.2
theorem runR_ac (p : PProg) (l : List PPick) (b : PBud) : AC Tryz.prog T tysN 62 [encProg p, rowPk l, encBud b, .clo 63 [.ptr (.b 0) 1 0 []]] [trO [] st0 false, evtO []] (.tup [encS (runF p l b).1, .int (runF p l b).2.1, .int (runF p l b).2.2]) [trO (runE p l b) st0 false, evtO (runE p l b)] := by
 refine AC_intro hT Tryz.func62 rfl rfl (Nat.le_of_ble_eq_true rfl) ?_
 refine sq (rg [] rfl ?_)
 refine sq (sq ?_)
 refine WP.ent (st' := mkSt [(4, .rp 26 (encProg p)), (6, .rp 28 (encBud b)), (1, rowPk l), (3, .clo 63 [.ptr (.b 0) 1 0 []]), (8, .ptr (.s 8 0) 1 0 [])] [(.b 0, trO [] st0 false), (.b 1, evtO []), (.s 8 0, .cells ⟨62, 1, fun _ => (T 62).zero, 0⟩)]) ?_ ?_
 ·refine em [(.s 4 0, 1), (.s 6 0, 1)] ⟨sF, sF, trivial⟩ ⟨⟨rfl, _, rfl, rpv⟩, ⟨rfl, _, rfl, rpv⟩, ⟨rfl, _, rfl, cvt⟩, ⟨rfl, _, rfl, cvt⟩, ⟨rfl, _, rfl, cvt⟩, trivial⟩ ⟨obs rfl, obs rfl, obs rfl, trivial⟩
 refine rgs [CG.pure (.int (fitsF p l.length b))] rfl ?_ ?_
 ·have hq := sfit_ac p l.length b
  simp only [holdsC, under, CG.pure]
  repeat' with_reducible refine And.intro ?_ ?_
  all_goals (try with_reducible intros)
  all_goals (first | exact trivial | assumption | omega | exact hq | (simp; done) | grind)
 refine sq (rg [] rfl ?_)
 refine cd rfl (fun h2 => ?_) (fun h2 => ?_)
 ·have hf : fitsF p l.length b ≠ 0 := by simpa using h2
  refine sq (rg [] rfl ?_)
  refine WP.ret ?_
  change Fin ..
  have e : runF p l b = (st0, fitsF p l.length b, 0) := by rw [runF, if_pos hf]
  have e2 : runE p l b = [] := by rw [runE, if_pos hf]
  rw [e, e2]
  refine fin_mk hT [(.s 8 0, 1)] (ts := [(8, .rp 62 (encS st0)), (9, .int (fitsF p l.length b)), (10, .int 0)]) (l := [encS st0, .int (fitsF p l.length b), .int 0]) ⟨sF, trivial⟩ ⟨⟨rfl, _, rfl, conv_rpe rfl rfl (by simp [lookF, idbeq_self]) rfl zeroS rfl⟩, ⟨rfl, _, rfl, cvt⟩, ⟨rfl, _, rfl, cvt⟩, trivial⟩ ⟨obs rfl, obs rfl, trivial⟩ rfl rfl rfl
 ·have hf : fitsF p l.length b = 0 := by simpa using h2
  have hb := (fits0 hf).2.2.1
  refine sk (sq (sq (rg [] rfl ?_)))
  refine cd rfl (fun h4 => ?_) (fun h4 => ?_)
  ·have hl : b.steps < l.length := by simpa using h4
   refine sq (dr [] rfl ?_)
   refine WP.ret ?_
   change Fin ..
   have e : runF p l b = (st0, 2, b.steps) := by rw [runF, if_neg (by omega), if_pos hl]
   have e2 : runE p l b = [] := by rw [runE, if_neg (by omega), if_pos hl]
   rw [e, e2]
   refine fin_mk hT [(.s 8 0, 1)] (ts := [(8, .rp 62 (encS st0)), (9, .int 2), (10, .int b.steps)]) (l := [encS st0, .int 2, .int b.steps]) ⟨sF, trivial⟩ ⟨⟨rfl, _, rfl, conv_rpe rfl rfl (by simp [lookF, idbeq_self]) rfl zeroS rfl⟩, ⟨rfl, _, rfl, cvt⟩, ⟨rfl, _, rfl, cvt⟩, trivial⟩ ⟨obs rfl, obs rfl, trivial⟩ rfl rfl rfl
  ·have hl : ¬ b.steps < l.length := by simp at h4; omega
   have e2 : runE p l b = (wlk p b.fuel (startF p b.fuel).1 l).2.2 := by rw [runE, if_neg (by omega), if_neg hl]
   refine sk (sq (rgs [⟨true, [.b 0, .b 1], .tup [encS (wlk p b.fuel (startF p b.fuel).1 l).1, .int (wlk p b.fuel (startF p b.fuel).1 l).2.1], [trO (wlk p b.fuel (startF p b.fuel).1 l).2.2 st0 false, evtO (wlk p b.fuel (startF p b.fuel).1 l).2.2]⟩] rfl ?_ ?_))
   ·have hq := walkR_ac p l b (by omega)
    have hz1 : ren (sig [.b 0, .b 1] 0) (encProg p) = encProg p := ren_prog _ p
    have hz2 : ren (sig [.b 0, .b 1] 0) (encBud b) = encBud b := ren_bud _ b
    have hz3 : renO (sig [.b 0, .b 1] 0) (trO [] st0 false) = trO [] st0 false := by
      show Ob.cells ⟨_, _, fun _ => ren _ (encTr 0 st0 false), _⟩ = _
      rw [ren_tr rfl]; rfl
    have hz4 : renO (sig [.b 0, .b 1] 0) (evtO []) = evtO [] := renO_list (ren_E _)
    rw [← hz1, ← hz2, ← hz3, ← hz4] at hq
    have hk1 : okOs [.b 0, .b 1] [trO [] st0 false, evtO []] := ⟨fun _ _ => rfl, fun _ _ => rfl, trivial⟩
    have hk2 : okOs (bs 2) [trO (wlk p b.fuel (startF p b.fuel).1 l).2.2 st0 false, evtO (wlk p b.fuel (startF p b.fuel).1 l).2.2] := ⟨fun _ _ => rfl, fun _ _ => rfl, trivial⟩
    simp only [holdsC, under, CG.pure]
    repeat' with_reducible refine And.intro ?_ ?_
    all_goals (try with_reducible intros)
    all_goals (first | exact trivial | assumption | omega | exact hq | exact hk1 | exact hk2 | (simp; done) | grind)
   refine sq (sq ?_)
   obtain ⟨z, hz⟩ : ∃ z, wlk p b.fuel (startF p b.fuel).1 l = z := ⟨_, rfl⟩
   rw [hz] at e2 ⊢
   refine rg [] rfl ?_
   refine cd rfl (fun h7 => ?_) (fun h7 => ?_)
   ·have hw : z.2.1 < l.length := by simpa using h7
    refine sq (rg [] rfl ?_)
    refine WP.ret ?_
    change Fin ..
    have e : runF p l b = (st0, 5, (z.2.1 : Int)) := by rw [runF, if_neg (by omega), if_neg hl, if_pos (by rw [hz]; exact hw), hz]
    rw [e, e2]
    refine fin_mk hT [(.s 8 0, 1)] (ts := [(8, .rp 62 (encS st0)), (9, .int 5), (10, .int (z.2.1 : Nat))]) (l := [encS st0, .int 5, .int (z.2.1 : Nat)]) ⟨sF, trivial⟩ ⟨⟨rfl, _, rfl, conv_rpe rfl rfl (by simp [lookF, idbeq_self]) rfl zeroS rfl⟩, ⟨rfl, _, rfl, cvt⟩, ⟨rfl, _, rfl, cvt⟩, trivial⟩ ⟨obs rfl (hg := q0 (conv_eq (ren_tr rfl _ _ _))), obs rfl (hg := fun q hq => conv_eq (ren_E _ _)), trivial⟩ rfl rfl rfl
   ·have hw : ¬ z.2.1 < l.length := by simp at h7; omega
    refine sk (sq (rg [] rfl ?_))
    refine WP.ret ?_
    change Fin ..
    have e : runF p l b = (z.1, 0, 0) := by rw [runF, if_neg (by omega), if_neg hl, if_neg (by rw [hz]; exact hw), hz]
    rw [e, e2]
    refine fin_mk hT [(.s 8 0, 1)] (ts := [(8, .rp 62 (encS z.1)), (9, .int 0), (10, .int 0)]) (l := [encS z.1, .int 0, .int 0]) ⟨sF, trivial⟩ ⟨⟨rfl, _, rfl, conv_rpe rfl rfl (by simp [lookF, idbeq_self]) rfl (ren_S _ z.1) rfl⟩, ⟨rfl, _, rfl, cvt⟩, ⟨rfl, _, rfl, cvt⟩, trivial⟩ ⟨obs rfl (hg := q0 (conv_eq (ren_tr rfl _ _ _))), obs rfl (hg := fun q hq => conv_eq (ren_E _ _)), trivial⟩ rfl rfl rfl
end Go.Ab


/- Schedules: Run. -/
set_option autoImplicit false
set_option maxRecDepth 20000
set_option maxHeartbeats 4000000
set_option linter.unusedSimpArgs false
set_option linter.unusedVariables false
namespace Go.Ab
open Go.Proofs
structure PTr where
  evs : List Evt
  fin : PSt
  cut : Bool
def encTrace (t : PTr) : AV := stru 67 [evts false t.evs, encS t.fin, .bool t.cut]
def traceF (p : PProg) (l : List PPick) (b : PBud) : PTr :=
  if (runF p l b).2.1 ≠ 0 then ⟨[], st0, false⟩ else ⟨runE p l b, (runF p l b).1, decide ((l.length : Int) = b.steps) && !(readyL p (runF p l b).1).isEmpty⟩
theorem runF_at {p : PProg} {l : List PPick} {b : PBud} (h : (runF p l b).2.1 = 0) : (runF p l b).2.2 = 0 := by
  unfold runF at h ⊢
  split
  · rfl
  split
  · rename_i h1 h2; rw [if_neg h1, if_pos h2] at h; cases h
  split
  · rename_i h1 h2 h3; rw [if_neg h1, if_neg h2, if_pos h3] at h; cases h
  · rfl
def encTrI (i : Id) (k : Nat) (s : PSt) (cut : Bool) : AV := stru 67 [.own i k 0 k none, encS s, .bool cut]
theorem ren_trI {σ : Id → Id} {i j : Id} (h : σ i = j) (k : Nat) (s : PSt) (c : Bool) : ren σ (encTrI i k s c) = encTrI j k s c := agg_ext (fun q => by
  match q with
  | 0 => show AV.own (σ i) k 0 k none = _; rw [h]; rfl
  | 1 => exact ren_S σ s
  | 2 | q + 3 => rfl)
theorem run0_ac (p : PProg) (l : List PPick) (b : PBud) : AC Tryz.prog T tysN 62 [ren (sig [.s 9 0, .s 900 0] 0) (encProg p), rowPk l, ren (sig [.s 9 0, .s 900 0] 0) (encBud b), .clo 63 [.ptr (.b 0) 1 0 []]] [renO (sig [.s 9 0, .s 900 0] 0) (.cells ⟨67, 1, fun _ => encTrI (.s 900 0) 0 st0 false, 0⟩), renO (sig [.s 9 0, .s 900 0] 0) (evtO [])] (.tup [encS (runF p l b).1, .int (runF p l b).2.1, .int (runF p l b).2.2]) [trO (runE p l b) st0 false, evtO (runE p l b)] := by
  have e : renO (sig [.s 9 0, .s 900 0] 0) (.cells ⟨67, 1, fun _ => encTrI (.s 900 0) 0 st0 false, 0⟩) = trO [] st0 false := by
    show Ob.cells ⟨_, _, fun _ => ren _ (encTrI (.s 900 0) 0 st0 false), _⟩ = _
    rw [ren_trI (j := .b 1) rfl]; rfl
  rw [e, ren_prog, ren_bud, renO_list (ren_E _)]
  exact runR_ac p l b
theorem srun_ac (p : PProg) (l : List PPick) (b : PBud) : AC Tryz.prog T tysN 26 [encProg p, rowPk l, encBud b] [] (.tup [encTrace (traceF p l b), .int (runF p l b).2.1, .int (runF p l b).2.2]) [] := by
 refine AC_intro hT Tryz.func26 rfl rfl (Nat.le_of_ble_eq_true rfl) ?_
 refine sq (rg [] rfl ?_)
 refine sq ?_
 refine WP.ent (st' := mkSt [(3, .rp 26 (encProg p)), (5, .rp 28 (encBud b)), (1, rowPk l), (6, .ptr (.s 6 0) 1 0 [])] [(.s 6 0, .cells ⟨67, 1, fun _ => (T 67).zero, 0⟩)]) (em [(.s 3 0, 1), (.s 5 0, 1)] ⟨sF, sF, trivial⟩ ⟨⟨rfl, _, rfl, rpv⟩, ⟨rfl, _, rfl, rpv⟩, ⟨rfl, _, rfl, cvt⟩, ⟨rfl, _, rfl, cvt⟩, trivial⟩ ⟨obs rfl, trivial⟩) ?_
 refine rg [] rfl ?_
 refine sq ?_
 refine WP.ent (st' := mkSt [(1, rowPk l), (3, .rp 26 (encProg p)), (5, .rp 28 (encBud b)), (6, .ptr (.s 6 0) 1 0 []), (9, .ptr (.s 9 0) 1 0 [])] [(.s 6 0, .cells ⟨67, 1, fun _ => (T 67).zero, 0⟩), (.s 9 0, .cells ⟨67, 1, fun _ => encTrI (.s 900 0) 0 st0 false, 0⟩), (.s 900 0, evtO [])]) ?_ ?_
 ·refine em [] trivial ⟨⟨rfl, _, rfl, cvt⟩, ⟨rfl, _, rfl, cvt⟩, ⟨rfl, _, rfl, cvt⟩, ⟨rfl, _, rfl, cvt⟩, ⟨rfl, _, rfl, cvt⟩, trivial⟩ ⟨obs rfl, obs rfl (hg := q0 ⟨_, rfl, fun i hi => by match i with | 0 => exact conv_nil_own | 1 => exact conv_eq zeroS | 2 => exact conv_eq rfl | i + 3 => exact absurd hi (by simp)⟩), ⟨fun _ _ => rfl, .inr ⟨rfl, 137, _, rfl, by decide⟩⟩, trivial⟩
 refine rgs [⟨true, [.s 9 0, .s 900 0], .tup [encS (runF p l b).1, .int (runF p l b).2.1, .int (runF p l b).2.2], [trO (runE p l b) st0 false, evtO (runE p l b)]⟩] rfl ?_ ?_
 ·have hq := run0_ac p l b
  have hk1 : okOs [.s 9 0, .s 900 0] [.cells ⟨67, 1, fun _ => encTrI (.s 900 0) 0 st0 false, 0⟩, evtO []] := ⟨fun _ _ => rfl, fun _ _ => rfl, trivial⟩
  have hk2 : okOs (bs 2) [trO (runE p l b) st0 false, evtO (runE p l b)] := ⟨fun _ _ => rfl, fun _ _ => rfl, trivial⟩
  simp only [holdsC, under, CG.pure]
  repeat' with_reducible refine And.intro ?_ ?_
  all_goals (try with_reducible intros)
  all_goals (first | exact trivial | assumption | omega | exact hq | exact hk1 | exact hk2 | (simp; done) | grind)
 refine sq (sq ?_)
 obtain ⟨z, hz⟩ : ∃ z, runF p l b = z := ⟨_, rfl⟩
 obtain ⟨evs, he⟩ : ∃ evs, runE p l b = evs := ⟨_, rfl⟩
 have hzo : OkS z.1 := by rw [← hz]; exact runF_ok
 have ht : traceF p l b = if z.2.1 ≠ 0 then ⟨[], st0, false⟩ else ⟨evs, z.1, decide ((l.length : Int) = b.steps) && !(readyL p z.1).isEmpty⟩ := by rw [traceF, hz, he]
 rw [ht, hz, he]
 refine rg [] rfl ?_
 refine cd rfl (fun h3 => ?_) (fun h3 => ?_)
 ·have hf : z.2.1 ≠ 0 := by simpa using h3
  refine sq (rg [] rfl ?_)
  refine WP.ret ?_
  change Fin ..
  rw [if_pos hf]
  exact finC3 hT [] trivial rfl rfl rfl rfl ⟨_, rfl, fun i hi => by match i with | 0 => exact conv_nil_row (by decide) | 1 => exact conv_eq zeroS | 2 => exact conv_eq rfl | i + 3 => exact absurd hi (by simp)⟩ rfl rfl
 ·have hf : ¬ z.2.1 ≠ 0 := by simpa using h3
  refine sk (sq (rg [] rfl ?_))
  refine sq ?_
  refine WP.ent (st' := mkSt [(1, rowPk l), (3, .rp 26 (encProg p)), (5, .rp 28 (encBud b)), (6, .ptr (.s 6 0) 1 0 []), (9, .ptr (.s 9 0) 1 0 []), (10, .rp 62 (encS z.1))] [(.s 6 0, .cells ⟨67, 1, fun _ => (T 67).zero, 0⟩), (.s 9 0, .cells ⟨67, 1, fun _ => encTrI (.s 900 0) evs.length z.1 false, 0⟩), (.s 900 0, evtO evs)]) ?_ ?_
  ·refine em [(.s 10 0, 1)] ⟨sF, trivial⟩ ⟨⟨rfl, _, rfl, cvt⟩, ⟨rfl, _, rfl, cvt⟩, ⟨rfl, _, rfl, cvt⟩, ⟨rfl, _, rfl, cvt⟩, ⟨rfl, _, rfl, cvt⟩, ⟨rfl, _, rfl, conv_rpe rfl rfl (by decide) rfl (ren_S _ z.1) rfl⟩, trivial⟩ ⟨obs rfl, obs rfl (hg := q0 (conv_eq (agg_ext fun q => by match q with | 0 => rfl | 1 => exact ren_S _ z.1 | 2 => rfl | q + 3 => rfl))), obs rfl (hg := fun q hq => conv_eq (ren_E _ _)), trivial⟩
  refine rgs [CG.pure (.bool (!(readyL p z.1).isEmpty))] rfl ?_ ?_
  ·have hq := waiting_ac p z.1 hzo
   simp only [holdsC, under, CG.pure]
   repeat' with_reducible refine And.intro ?_ ?_
   all_goals (try with_reducible intros)
   all_goals (first | exact trivial | assumption | omega | exact hq | (simp; done) | grind)
  refine sq (rg [] rfl ?_)
  refine WP.ret ?_
  change Fin ..
  have hcv : (bif ((l.length : Int) == b.steps) then !(readyL p z.1).isEmpty else false) = (decide ((l.length : Int) = b.steps) && !(readyL p z.1).isEmpty) := by
    rw [show ((l.length : Int) == b.steps) = decide ((l.length : Int) = b.steps) by rw [Bool.eq_iff_iff]; simp]
    cases decide ((l.length : Int) = b.steps) <;> rfl
  have hz0 : z.2.2 = 0 := by rw [← hz]; exact runF_at (by rw [hz]; omega)
  rw [if_neg hf, show z.2.1 = 0 by omega]
  refine finC3 hT [(.s 900 0, evs.length)] ⟨⟨_, rfl, Nat.le_refl _⟩, trivial⟩ rfl rfl rfl rfl ⟨_, rfl, fun i hi => by match i with | 0 => exact conv_row rfl rfl rfl (fun h => by cases h) (by simp [lookF, idbeq_self]) (fun q hq => by rw [Nat.zero_add]; exact ⟨rfl, AEq.refl _⟩) | 1 => exact conv_eq rfl | 2 => exact conv_eq (congrArg (fun z => AV.bool z) hcv) | i + 3 => exact absurd hi (by simp)⟩ rfl ?_
  · exact congrArg (Value.int .i64) hz0.symm
end Go.Ab


/- The reference: is a budget right? -/
set_option autoImplicit false
set_option maxRecDepth 20000
set_option maxHeartbeats 4000000
set_option linter.unusedSimpArgs false
set_option linter.unusedVariables false
namespace Go.Ab
open Go.Proofs
instance (b : PBud) : Decidable (budP b) := by unfold budP; infer_instance
theorem rbudget_ac (b : PBud) : AC Tryz.prog T tysN 25 [encBud b] [] (.bool (decide (budP b))) [] := by
 refine AC_intro hT Tryz.func25 rfl rfl (Nat.le_of_ble_eq_true rfl) ?_
 refine sq (rg [] rfl ?_)
 refine sq (rg [] rfl ?_)
 refine WP.ret ?_
 change Fin ..
 refine fin1 hT (by rfl) ?_
 simp only [band]
 rw [Bool.eq_iff_iff]
 simp [budP, and_assoc]
end Go.Ab


/- TreeRise. -/
set_option autoImplicit false
set_option maxRecDepth 20000
set_option maxHeartbeats 4000000
set_option linter.unusedSimpArgs false
set_option linter.unusedVariables false
namespace Go.Ab
open Go.Proofs
structure RiseP (p : PProg) (b : PBud) (r : PRun) : Prop where
  run : (runF p r.picks b).2.1 = 0
  cut : (traceF p r.picks b).cut = r.cut
  most : maxF p r.picks b = !r.cut
  rep : r.rep = false
theorem rise_run {p : PProg} {b : PBud} (hf : fitsF p 0 b = 0) {r : PRun} (hr : r ∈ (treeT p b).runs) : RiseP p b r := by
  rw [tree_runs hf] at hr
  obtain ⟨y, hy, rfl⟩ := List.mem_map.1 (List.mem_of_mem_take hr)
  obtain ⟨l, hp⟩ := leaf_path _ _ _ y hy
  have hb := (fits0 hf).2.2.1
  have hlen := hp.len
  have e : y.1.picks = l := hp.picks
  have hrun := run_legal hf hp.legal (by omega)
  rw [hp.last] at hrun
  have hd : decide ((l.length : Int) = b.steps) = decide (l.length = b.steps.toNat) := by rw [Bool.eq_iff_iff]; simp only [decide_eq_true_eq]; omega
  refine ⟨by rw [e, hrun], ?_, ?_, hp.rep⟩
  · rw [e, traceF, hrun, hp.cut]
    simp only [ne_eq, not_true_eq_false, if_false]
    rw [hd]
  · rw [e, maxF, hrun, hp.cut]
    rcases hp.fin with h | h
    · rw [h]; simp
    · rw [h]; simp
theorem rise_sorted {p : PProg} {b : PBud} (hf : fitsF p 0 b = 0) {i : Nat} (hi : i + 1 < (treeT p b).runs.length) : aheadL ((treeT p b).runs.getD i run0).picks ((treeT p b).runs.getD (i + 1) run0).picks = true := by
  have h : (treeT p b).runs.Pairwise fun y z => aheadL y.picks z.picks = true := by
    rw [tree_runs hf]
    exact (List.pairwise_map.2 (lvs_sorted _ _ _)).sublist (List.take_sublist _ _)
  have := List.pairwise_iff_getElem.1 h i (i + 1) (by omega) hi (by omega)
  simpa [List.getD_eq_getElem?_getD, List.getElem?_eq_getElem, hi, (show i < (treeT p b).runs.length by omega)] using this
theorem rise_len {p : PProg} {b : PBud} (hf : fitsF p 0 b = 0) : ((treeT p b).runs.length : Int) ≤ b.runs ∧ ((treeT p b).runs.length = 0 → b.runs ≤ 0) := by
  have hb := (fits0 hf).2.2.2.2
  have hn : (lvT p b).length ≠ 0 := fun e => lvs_ne _ _ _ (List.length_eq_zero_iff.1 e)
  rw [tree_runs hf, List.length_take, List.length_map]
  omega
theorem rise_none {p : PProg} {b : PBud} (hf : fitsF p 0 b ≠ 0) : allT p b = ⟨[], false⟩ ∧ (rightB p = false ∨ ¬ budP b) := by
  refine ⟨?_, ?_⟩
  · rw [allT, treeT, wholeT, if_neg hf, decide_eq_false hf]; rfl
  · unfold fitsF at hf
    by_cases h1 : rightB p = false
    · exact .inl h1
    · rw [if_neg h1, if_neg (by omega)] at hf
      by_cases h2 : budP b
      · rw [if_neg (fun h => h h2)] at hf; exact absurd rfl hf
      · exact .inr h2
theorem rise_ac (p : PProg) (b0 : PBud) : AC Tryz.prog T tysN 6 [encProg p, encBud b0] [] (.bool true) [] := by
 refine AC_intro hT Tryz.func6 rfl rfl (Nat.le_of_ble_eq_true rfl) ?_
 refine sq (rg [] rfl ?_)
 refine WP.seqJ (α := PBud) (fun b => mkSt [(2, .rp 26 (encProg p)), (3, .rp 28 (encBud b)), (4, .bool false)] []) (fun b => True) ?_ ?_
 ·refine sq ?_
  refine WP.ent (st' := mkSt [(2, .rp 26 (encProg p)), (4, .bool false), (3, .ptr (.s 3 0) 1 0 [])] [(.s 3 0, .cells ⟨28, 1, fun _ => encBud b0, 0⟩)]) (em [(.s 2 0, 1)] ⟨sF, trivial⟩ ⟨⟨rfl, _, rfl, rpv⟩, ⟨rfl, _, rfl, cvt⟩, ⟨rfl, _, rfl, cvt⟩, trivial⟩ ⟨obs rfl, trivial⟩) ?_
  refine rg [] rfl ?_
  refine cd rfl (fun h1 => ?_) (fun h1 => ?_)
  ·refine rg [] rfl ?_
   refine ⟨{ b0 with runs := 300 }, ?_, ?_⟩
   ·trivial
   ·refine em [(.s 3 0, 1)] ⟨sF, trivial⟩ ⟨⟨rfl, _, rfl, cvt⟩, ⟨rfl, _, rfl, conv_rpe rfl rfl (by decide) rfl (putB_runs b0 300) rfl⟩, ⟨rfl, _, rfl, cvt⟩, trivial⟩ trivial
  ·refine sk ?_
   refine ⟨b0, ?_, ?_⟩
   ·trivial
   ·refine em [(.s 3 0, 1)] ⟨sF, trivial⟩ ⟨⟨rfl, _, rfl, cvt⟩, ⟨rfl, _, rfl, rpv⟩, ⟨rfl, _, rfl, cvt⟩, trivial⟩ trivial
 ·rintro b h_inv
  refine sq (rgs [CG.pure (.tup [encRuns (allT p b), .int (fitsF p 0 b)])] rfl ?_ ?_)
  ·have hq := all_acB p b rfl
   simp only [holdsC, under, CG.pure]
   repeat' with_reducible refine And.intro ?_ ?_
   all_goals (try with_reducible intros)
   all_goals (first | exact trivial | assumption | omega | exact hq | (simp; done) | grind)
  refine sq (sq ?_)
  refine WP.ent (st' := mkSt [(2, .rp 26 (encProg p)), (3, .rp 28 (encBud b)), (4, .bool false), (5, .rp 32 (encRuns (allT p b))), (6, .int (fitsF p 0 b))] []) ?_ ?_
  ·refine em [(.s 5 0, 1)] ⟨sF, trivial⟩ ⟨⟨rfl, _, rfl, cvt⟩, ⟨rfl, _, rfl, cvt⟩, ⟨rfl, _, rfl, cvt⟩, ⟨rfl, _, rfl, rpv⟩, ⟨rfl, _, rfl, cvt⟩, trivial⟩ trivial
  refine rg [] rfl ?_
  refine cd rfl (fun h4 => ?_) (fun h4 => ?_)
  ·have hf : fitsF p 0 b ≠ 0 := by simpa using h4
   obtain ⟨hn1, hn2⟩ := rise_none hf
   rw [hn1]
   refine sq (rgs [CG.pure (.bool (rightB p)), CG.pure (.bool (decide (budP b))), CG.pure (.bool true)] rfl ?_ ?_)
   ·have hq1 := right_ac p
    have hq2 := rbudget_ac b
    have hq3 := small_ac
    simp only [holdsC, under, CG.pure]
    repeat' with_reducible refine And.intro ?_ ?_
    all_goals (try with_reducible intros)
    all_goals (first | exact trivial | assumption | omega | exact hq1 | exact hq2 | exact hq3 | (simp; done) | grind)
   refine WP.ret ?_
   change Fin ..
   refine fin1 hT (by rfl) ?_
   rcases hn2 with h | h
   · rw [h]; rfl
   · rw [decide_eq_false h]; cases rightB p <;> rfl
  ·have hf : fitsF p 0 b = 0 := by simpa using h4
   obtain ⟨hl1, hl2⟩ := rise_len hf
   refine sk (sq (sq (rg [] rfl ?_)))
   refine cd rfl (fun h6 => ?_) (fun h6 => ?_)
   ·simp only [bor, band] at h6
    have h6' : ((allT p b).all.length : Int) > b.runs ∨ (((allT p b).all.length : Int) = 0 ∧ b.runs > 0) := by simpa using h6
    have e : (allT p b).all.length = (treeT p b).runs.length := rfl
    omega
   ·refine sk (sq (sq (rg [] rfl ?_)))
    refine WP.rowlen 71 rfl (fun hla => ?_)
    refine bk ?_
    refine WP.loop (α := Nat) (fun i => mkSt [(2, .rp 26 (encProg p)), (3, .rp 28 (encBud b)), (5, .rp 32 (encRuns (allT p b))), (71, rowRun (treeT p b).runs), (72, .int (treeT p b).runs.length), (73, .int i)] []) (fun i => i ≤ (treeT p b).runs.length) (fun i => (treeT p b).runs.length - i) ?_ ?_
    ·refine ⟨0, ?_, ?_⟩
     ·exact Nat.zero_le _
     ·refine em [] trivial ⟨⟨rfl, _, rfl, cvt⟩, ⟨rfl, _, rfl, cvt⟩, ⟨rfl, _, rfl, cvt⟩, ⟨rfl, _, rfl, cvt⟩, ⟨rfl, _, rfl, cvt⟩, ⟨rfl, _, rfl, cvt⟩, trivial⟩ trivial
    ·rintro i hi
     refine sq (rg [] rfl ?_)
     refine sq ?_
     refine cd rfl (fun h9 => ?_) (fun h9 => ?_)
     ·have hil : i < (treeT p b).runs.length := by simp [-List.getD_eq_getElem?_getD] at h9; omega
      have hla2 : (treeT p b).runs.length < 2 ^ 63 := hla
      obtain ⟨r, hr⟩ : ∃ r, (treeT p b).runs.getD i run0 = r := ⟨_, rfl⟩
      have hmem : r ∈ (treeT p b).runs := by rw [← hr, List.getD_eq_getElem?_getD, List.getElem?_eq_getElem hil]; exact List.getElem_mem _
      have hR := rise_run hf hmem
      refine sk (sq (bk (sq (rg [] rfl ?_))))
      refine sq ?_
      refine WP.ent (st' := mkSt [(2, .rp 26 (encProg p)), (3, .rp 28 (encBud b)), (5, .rp 32 (encRuns (allT p b))), (7, .int i), (8, .rp 45 (encRun r)), (71, rowRun (treeT p b).runs), (72, .int (treeT p b).runs.length), (73, .int i)] []) ?_ ?_
      ·refine em [(.s 8 0, 1)] ⟨sF, trivial⟩ ⟨⟨rfl, _, rfl, cvt⟩, ⟨rfl, _, rfl, cvt⟩, ⟨rfl, _, rfl, cvt⟩, ⟨rfl, _, rfl, cvt⟩, ⟨rfl, _, rfl, conv_rpe rfl rfl (by decide) rfl (by rw [← hr]; rfl) rfl⟩, ⟨rfl, _, rfl, cvt⟩, ⟨rfl, _, rfl, cvt⟩, ⟨rfl, _, rfl, cvt⟩, trivial⟩ trivial
      refine rgs [CG.pure (.tup [encTrace (traceF p r.picks b), .int (runF p r.picks b).2.1, .int (runF p r.picks b).2.2])] rfl ?_ ?_
      ·have hq := srun_ac p r.picks b
       simp only [holdsC, under, CG.pure]
       repeat' with_reducible refine And.intro ?_ ?_
       all_goals (try with_reducible intros)
       all_goals (first | exact trivial | assumption | omega | exact hq | (simp; done) | grind)
      refine sq ?_
      refine WP.ent (st' := mkSt [(2, .rp 26 (encProg p)), (3, .rp 28 (encBud b)), (5, .rp 32 (encRuns (allT p b))), (7, .int i), (8, .rp 45 (encRun r)), (9, .rp 67 (encTrace (traceF p r.picks b))), (10, .int (runF p r.picks b).2.1), (71, rowRun (treeT p b).runs), (72, .int (treeT p b).runs.length), (73, .int i)] []) ?_ ?_
      ·refine em [(.s 9 0, 1)] ⟨sF, trivial⟩ ⟨⟨rfl, _, rfl, cvt⟩, ⟨rfl, _, rfl, cvt⟩, ⟨rfl, _, rfl, cvt⟩, ⟨rfl, _, rfl, cvt⟩, ⟨rfl, _, rfl, cvt⟩, ⟨rfl, _, rfl, rpv⟩, ⟨rfl, _, rfl, cvt⟩, ⟨rfl, _, rfl, cvt⟩, ⟨rfl, _, rfl, cvt⟩, ⟨rfl, _, rfl, cvt⟩, trivial⟩ trivial
      refine rgs [CG.pure (.tup [.bool (maxF p r.picks b), .int (runF p r.picks b).2.1])] rfl ?_ ?_
      ·have hq := maximal_ac p r.picks b
       simp only [holdsC, under, CG.pure]
       repeat' with_reducible refine And.intro ?_ ?_
       all_goals (try with_reducible intros)
       all_goals (first | exact trivial | assumption | omega | exact hq | (simp; done) | grind)
      refine sq (sq (rg [] rfl ?_))
      refine cd rfl (fun h13 => ?_) (fun h13 => ?_)
      ·obtain ⟨q1, q2, q3, q4⟩ := hR
       rw [q1, q2, q3, q4] at h13
       have hw : (allT p b).whole = true → r.cut = false := fun h => by
         have h1 : wholeT p b = true := h
         rw [tree_whole hf] at h1
         simp only [Bool.and_eq_true, Bool.not_eq_true', List.any_eq_false] at h1
         rw [tree_runs hf] at hmem
         obtain ⟨y, hy, rfl⟩ := List.mem_map.1 (List.mem_of_mem_take hmem)
         simpa using h1.1.2 y hy
       cases hwb : (allT p b).whole with
       | false => rw [hwb] at h13; cases hc : r.cut <;> rw [hc] at h13 <;> cases h13
       | true => rw [hwb, hw hwb] at h13; cases h13
      ·refine sk (sq ?_)
       have hw1 : 0 < i → IntKind.i64.wrap ((i : Int) - 1) = ((i - 1 : Nat) : Int) := fun h => by rw [wrap_id (by omega) (by omega)]; omega
       refine drs [CG.pure (.bool (aheadL ((treeT p b).runs.getD (IntKind.i64.wrap ((i : Int) - 1)).toNat run0).picks r.picks))] rfl ?_ ?_
       ·have hq := ahead_ac ((treeT p b).runs.getD (IntKind.i64.wrap ((i : Int) - 1)).toNat run0).picks r.picks
        simp only [holdsC, under, CG.pure, decide_eq_true_eq]
        have hlen : (allT p b).all.length = (treeT p b).runs.length := rfl
        repeat' with_reducible refine And.intro ?_ ?_
        all_goals (try with_reducible intros)
        all_goals (first | exact trivial | assumption | omega | (rw [hw1 (by omega), hlen]; omega) | (simp; done) | trace_state)
       refine cd rfl (fun h15 => ?_) (fun h15 => ?_)
       ·have h16 : 0 < i ∧ aheadL ((treeT p b).runs.getD (IntKind.i64.wrap ((i : Int) - 1)).toNat run0).picks r.picks = false := by
          have h17 : (bif decide ((i : Int) > 0) then !aheadL ((treeT p b).runs.getD (IntKind.i64.wrap ((i : Int) - 1)).toNat run0).picks r.picks else false) = true := h15
          simpa using h17
        obtain ⟨g1, g2⟩ := h16
        rw [hw1 g1] at g2
        have := rise_sorted hf (i := i - 1) (by omega)
        rw [show i - 1 + 1 = i by omega, hr] at this
        rw [show (((i - 1 : Nat) : Int)).toNat = i - 1 by omega, this] at g2
        cases g2
       ·refine sk (rg [] rfl ?_)
        refine ⟨i + 1, ?_, ?_, ?_⟩
        ·exact hil
        ·refine em [] trivial ⟨⟨rfl, _, rfl, cvt⟩, ⟨rfl, _, rfl, cvt⟩, ⟨rfl, _, rfl, cvt⟩, ⟨rfl, _, rfl, cvt⟩, ⟨rfl, _, rfl, cvt⟩, ⟨rfl, _, rfl, cvt⟩, trivial⟩ trivial
        ·(try simp only []); first | omega | grind
     ·refine xt (sq (rg [] rfl ?_))
      refine WP.ret ?_
      change Fin ..
      exact fin1 hT (by rfl) rfl
end Go.Ab

