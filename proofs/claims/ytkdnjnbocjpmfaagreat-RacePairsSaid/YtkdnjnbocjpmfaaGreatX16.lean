/- Part 17 of a proof of a statement about the given program: an abstract machine over the model, proved sound, and contracts of the functions that the statement reaches; the last part proves the statement, for every input, with no condition. -/
import Derived.Test.YtkdnjnbocjpmfaaGreatX15
import Derived.Test.YtkdnjnbocjpmfaaGreatX13
import Derived.Shelf.Abstract
import Derived.Shelf.SlSortCmp.NoneTotal
set_option linter.unusedSimpArgs false
set_option linter.unusedVariables false
/- Ab, part 41: iterators: what a function comes to that calls yield. -/
set_option autoImplicit false
set_option linter.unusedVariables false
namespace Go.Ab
section
variable {P : Program} {T : Nat → TI} {N : Nat}
/-- A region's beginning. -/
theorem evL_k (hT : TOK P T N) (hE : EqOK P T N) {e : Entry} {ops : Array Oper} {Q : Exit → Act → World → Prop} {l2 : List Oper} (rd : Option Nat) (n : Nat) : ∀ (l : List Oper) (s s' : RS) {I : Imm} {ρ : Pl} {a : Act} {w : World}, StRep T N e I ρ s.st a w →
    evL T (AC P T N) e.nt ops.toList l s = some s' → holdsC s'.c → (∀ I' ρ' a' w', StRep T N e I' ρ' s'.st a' w' → wpListIn (wideR rd) n P ops Q l2 a' w') → holdsC s.c ∧ wpListIn (wideR rd) n P ops Q (l ++ l2) a w
  | [], s, s', I, ρ, a, w, hs, h, hc, hQ => by cases h; exact ⟨hc, hQ _ _ _ _ hs⟩
  | o :: r, s, s', I, ρ, a, w, hs, h, hc, hQ => by
    simp only [evL, Option.bind_eq_some_iff] at h
    obtain ⟨G, h1, x, h2, h3⟩ := h
    obtain ⟨hnt, h3⟩ := cond_some h3
    have key : ∀ {I' : Imm} {ρ' : Pl} {a' : Act} {w' : World}, StRep T N e I' ρ' (s.st.after o G x.1) a' w' → holdsC (andC s.c x.1.c) ∧ wpListIn (wideR rd) n P ops Q (r ++ l2) a' w' := fun hs' => evL_k hT hE rd n r _ s' hs' h3 hc hQ
    have hcc : holdsC (andC s.c x.1.c) := by
      clear key
      have : ∀ (l : List Oper) (s1 : RS), evL T (AC P T N) e.nt ops.toList l s1 = some s' → holdsC s1.c := by
        intro l
        induction l with
        | nil => intro s1 h; cases h; exact hc
        | cons o r ih =>
          intro s1 h
          simp only [evL, Option.bind_eq_some_iff] at h
          obtain ⟨G, h1, x, h2, h3⟩ := h
          obtain ⟨_, h3⟩ := cond_some h3
          have := ih _ h3
          simp only at this
          rw [holdsC_andC] at this
          exact this.1
      exact this _ _ h3
    rw [holdsC_andC] at hcc
    refine ⟨hcc.1, ?_⟩
    have hst := step_sound (ops := ops) (Q := Q) (K := wpListIn (wideR rd) n P ops Q (r ++ l2)) hT hE hs h1 h2 hcc.2 hnt (fun I' ρ' a' w' hs' => (key hs').2) rd n
    rw [List.cons_append]
    unfold wpListIn
    by_cases hw : Region.wanted o (yielded ops a.tmps) = true
    · rw [if_pos hw] at hst ⊢; exact hst
    · rw [if_neg hw] at hst ⊢; exact ⟨fun _ _ => trivial, hst⟩

/-- What holds between the steps of an iterator: what has come (pre), what its temporaries hold. -/
def ItS (T : Nat → TI) (N nt : Nat) {α : Type} (J : List α → (Nat → Prop) → World → Prop) (I : Imm) (pre : List α) (t : Nat → Option (D × AV)) (a : Act) (W : World) : Prop :=
  ∃ Y Wp Im, J pre Y Wp ∧ Grown Wp W ∧ StRep T N ⟨Im, noPl, W, nt, 0, true⟩ Im noPl ⟨t, fun _ => none⟩ a W ∧ ∀ b o y, Im b o = some y → I b o = some y ∨ ¬ Y b
theorem ItS.mk {nt : Nat} {α : Type} {J : List α → (Nat → Prop) → World → Prop} (hY : ∀ pre Y A b, J pre Y A → Y b → b < A.heap.size) {I : Imm} {pre : List α} {Y : Nat → Prop} {Wp W W' : World} {Im I' : Imm} {ρ' : Pl} {t : Nat → Option (D × AV)} {a' : Act}
    (hJ : J pre Y Wp) (hg : Grown Wp W) (hIm : ∀ b o y, Im b o = some y → I b o = some y ∨ ¬ Y b) (hs : StRep T N ⟨Im, noPl, W, nt, 0, true⟩ I' ρ' ⟨t, fun _ => none⟩ a' W') : ItS T N nt J I pre t a' W' := by
  have hρ : ρ' = noPl := funext fun id => by
    cases h : ρ' id with
    | none => rfl
    | some p => exact absurd rfl (hs.wr.dom id p h)
  subst hρ
  have hgr : Grown W W' := Grown.of_ev hs.ev
  refine ⟨Y, Wp, I', hJ, hg.trans hgr, ⟨hs.wr, hs.tm, hs.nt, ?_, Ev.refl _ _ _, fun id p hp => by cases hp⟩, fun b o y hy => ?_⟩
  · have : a'.defers = [] := hs.df.2 rfl
    rw [this]; exact ⟨Marks.nil, fun _ => rfl⟩
  · cases h : Im b o with
    | some z =>
      have h2 := hs.ev.imm b o z h
      rw [hy] at h2; cases h2
      exact hIm b o y h
    | none =>
      rcases hs.ev.immN b o h (by rw [hy]; simp) with ⟨id, p, hp, _⟩ | hb
      · cases hp
      · refine .inr fun hYb => ?_
        have h1 := hY pre Y Wp b hJ hYb
        have h2 := hg.size
        have hb' : W.heap.size ≤ b := hb
        omega
/-- Steps of code without yield. -/
theorem ItS.step {nt : Nat} {α : Type} {J : List α → (Nat → Prop) → World → Prop} (hY : ∀ pre Y A b, J pre Y A → Y b → b < A.heap.size) {I : Imm} {pre : List α} {t t' : Nat → Option (D × AV)} {a : Act} {W : World} {c : Code} {Q : Exit → Act → World → Prop} {n : Nat}
    (hi : ItS T N nt J I pre t a W) (h : WP Rany P T N nt 0 c (fun ex st' => ex = .normal ∧ Ent T N nt 0 st' ⟨t', fun _ => none⟩) ⟨t, fun _ => none⟩) (hQ : ∀ a' W', ItS T N nt J I pre t' a' W' → Q .normal a' W') : c.wpIn (wideR none) n P Q a W := by
  obtain ⟨Y, Wp, Im, h1, h2, h3, h4⟩ := hi
  refine wpIn_mono (h ⟨Im, noPl, W, nt, 0, true⟩ rfl rfl Im noPl a W h3 none trivial n) ?_
  rintro ex a' W' ⟨st', I', ρ', ⟨rfl, hent⟩, hs'⟩
  obtain ⟨I2, ρ2, hs2⟩ := hent ⟨Im, noPl, W, nt, 0, true⟩ rfl rfl I' ρ' a' W' hs'
  exact hQ a' W' (ItS.mk hY h1 h2 h4 hs2)
theorem ItS.ent {nt : Nat} {α : Type} {J : List α → (Nat → Prop) → World → Prop} (hY : ∀ pre Y A b, J pre Y A → Y b → b < A.heap.size) {I : Imm} {pre : List α} {t t' : Nat → Option (D × AV)} {a : Act} {W : World}
    (hi : ItS T N nt J I pre t a W) (h : Ent T N nt 0 ⟨t, fun _ => none⟩ ⟨t', fun _ => none⟩) : ItS T N nt J I pre t' a W := by
  obtain ⟨Y, Wp, Im, h1, h2, h3, h4⟩ := hi
  obtain ⟨I2, ρ2, hs2⟩ := h ⟨Im, noPl, W, nt, 0, true⟩ rfl rfl Im noPl a W h3
  exact ItS.mk hY h1 h2 h4 hs2
/-- A condition. -/
theorem ItS.cond {nt : Nat} {α : Type} {J : List α → (Nat → Prop) → World → Prop} {I : Imm} {pre : List α} {t : Nat → Option (D × AV)} {a : Act} {W : World} {c : Operand} {x y : Code} {Q : Exit → Act → World → Prop} {n : Nat} {b : Bool}
    (hi : ItS T N nt J I pre t a W) (hc : ev ⟨t, fun _ => none⟩ c = some (.always, .v (.bool b))) (h1 : b = true → x.wpIn (wideR none) n P Q a W) (h2 : b = false → y.wpIn (wideR none) n P Q a W) : (Code.cond c x y).wpIn (wideR none) n P Q a W := by
  obtain ⟨Y, Wp, Im, k1, k2, k3, k4⟩ := hi
  exact wpIn_cond_split ((ev_rep k3 hc trivial).v).1 h1 h2
/-- The first state. -/
theorem ItS.start {fn : Func} {α : Type} {J : List α → (Nat → Prop) → World → Prop} {I : Imm} {Y0 : Nat → Prop} {W : World} {args : List AV} {vs : List Value} (hJ : J [] Y0 W) (hI : ∀ b o y, I b o = some y → W.cell? ⟨b, o, none⟩ = some y) (hl : vs.length = args.length) (hnt : args.length ≤ fn.ntmps)
    (hvs : ∀ (i : Nat) (x : AV) (v : Value), args[i]? = some x → vs[i]? = some v → RepV T N I noPl x v) :
    ItS T N fn.ntmps J I [] (fun k => (args[k]?).map fun x => (.always, x)) { tmps := vs.toArray ++ Array.replicate (fn.ntmps - vs.toArray.size) undef, defers := [] } W := by
  have hw : WRep T N I noPl (fun _ => none) W := by
    have := wrep_none (T := T) (N := N) hI
    rwa [show ofB [] = fun _ => none from funext fun id => by cases id <;> simp [ofB]] at this
  refine ⟨Y0, W, I, hJ, Grown.refl W, ⟨hw, fun k d x ht => ?_, by simp [hl]; omega, ⟨Marks.nil, fun _ => rfl⟩, Ev.refl _ _ _, fun id p hp => by cases hp⟩, fun b o y h => .inl h⟩
  simp only [Option.map_eq_some_iff, Prod.mk.injEq] at ht
  obtain ⟨x0, h1, rfl, rfl⟩ := ht
  have ht' : k < vs.length := by rw [hl]; exact (List.getElem?_eq_some_iff.1 h1).1
  refine ⟨fun _ => ?_, fun h => absurd trivial h⟩
  have hget : (vs.toArray ++ Array.replicate (fn.ntmps - vs.toArray.size) undef).getD k undef = vs[k] := by
    simp [Array.getElem?_append, ht']
  simp only [hget]
  exact hvs k x0 _ h1 (List.getElem?_eq_getElem ht')
/-- What the rounds promise. -/
def Rounds (P : Program) {α : Type} (l M : Nat) (encs : α → Array Value) (J : List α → (Nat → Prop) → World → Prop) (I : Imm) : Prop :=
  ∀ pre x Y Wp W1, J pre Y Wp → Grown Wp W1 → pre.length < M → ∀ n, YieldAt Fence.wide n P l (encs x) W1 fun e W' => e = .returned (.bool true) ∧
    (∃ Y', J (pre ++ [x]) Y' W' ∧ ∀ b, Y' b → Y b ∨ W1.heap.size ≤ b) ∧ (∀ b o y, I b o = some y → W1.cell? ⟨b, o, none⟩ = some y → W'.cell? ⟨b, o, none⟩ = some y) ∧
    (∀ b, b < W1.heap.size → ¬ Y b → W'.heap[b]? = W1.heap[b]?) ∧ W1.heap.size ≤ W'.heap.size
/-- A call of yield. -/
theorem ItS.yield {nt : Nat} {α : Type} {J : List α → (Nat → Prop) → World → Prop} (hY : ∀ pre Y A b, J pre Y A → Y b → b < A.heap.size) {I : Imm} {pre : List α} {t : Nat → Option (D × AV)} {a : Act} {W : World} {Q : Exit → Act → World → Prop} {n : Nat}
    {o : Oper} {r : List Oper} {ops : Array Oper} {c : Call} {fo xo : Operand} {d l M : Nat} {G G1 G2 : D} {xv : Value} {x : α} {encs : α → Array Value}
    (hr : Rounds P l M encs J I) (hi : ItS T N nt J I pre t a W) (hop : o.op = .call c) (hcal : c.callee = .value fo) (hargs : c.args = #[xo]) (hdst : o.dst = some d) (hd : d < nt)
    (hg : guardD ops.toList ⟨t, fun _ => none⟩ o = some G) (hfo : ev ⟨t, fun _ => none⟩ fo = some (G1, .v (.func (.yield l) #[] #[]))) (h1 : G.tr → G1.tr) (hxo : ev ⟨t, fun _ => none⟩ xo = some (G2, .v xv)) (h2 : G.tr → G2.tr)
    (hx : G.tr → encs x = #[xv]) (hM : G.tr → pre.length < M)
    (hyes : G.tr → ∀ a' W', ItS T N nt J I (pre ++ [x]) (setT t d (some (G, .v (.bool true)))) a' W' → wpListIn (wideR none) n P ops Q r a' W')
    (hno : ¬ G.tr → ∀ a', ItS T N nt J I pre (setT t d (some (G, .v (.bool true)))) a' W → wpListIn (wideR none) n P ops Q r a' W) :
    wpListIn (wideR none) n P ops Q (o :: r) a W := by
  obtain ⟨Y, Wp, Im, k1, k2, k3, k4⟩ := hi
  have hwant := guardD_wanted k3 hg
  have hdn : d < a.tmps.size := by rw [k3.nt]; exact hd
  unfold wpListIn
  by_cases hG : G.tr
  · rw [if_pos (hwant.1 hG)]
    refine ⟨fun _ _ => trivial, ?_⟩
    rw [Oper.semAt_eq _ _ _ (by simp [hop])]
    obtain ⟨fn, tmps, assign, body, hy, hR⟩ := hr pre x Y Wp W k1 k2 (hM hG) (n - 1)
    rw [hx hG] at hy
    have e1 := ((ev_rep k3 hfo (h1 hG)).v).1
    have e2 := ((ev_rep k3 hxo (h2 hG)).v).1
    have hrun : (execOp a.eval o).run P W = .ok (.round l fn tmps assign body) W := by
      unfold execOp
      rw [hop]
      simp only [resolve, hcal, e1, hargs, List.map_toArray, List.map_cons, List.map_nil, e2]
      simp [go_sem, hy]
    rw [hrun]
    refine ⟨fun h => (by cases h), RoundIn.mono hR ?_⟩
    rintro e W' ⟨rfl, ⟨Y', j1, j2⟩, j3, j4, j5⟩
    refine hyes hG _ W' ⟨Y', W', Im, j1, Grown.refl W', ⟨?_, fun k d2 y ht => ?_, ?_, ?_, Ev.refl _ _ _, fun id p hp => by cases hp⟩, fun b o2 y h => ?_⟩
    · have : WRep T N Im noPl (ofB []) W' := wrep_none (fun b o2 y h => by
        have hc := k3.wr.imm b o2 y h
        rcases k4 b o2 y h with hI | hnY
        · exact j3 b o2 y hI hc
        · unfold World.cell? at hc ⊢
          cases hb : W.heap[b]? with
          | none => simp only [hb] at hc; cases hc
          | some ob =>
            simp only [hb] at hc
            have := j4 b (Array.getElem?_eq_some_iff.1 hb).1 hnY
            simp only [this, hb]
            exact hc)
      rwa [show ofB [] = fun _ => none from funext fun id => by cases id <;> simp [ofB]] at this
    · rw [hdst, tmps_put hdn]
      simp only [setT] at ht
      by_cases hk : k = d
      · subst hk
        rw [Nat.beq_refl, cond_true] at ht
        cases ht
        rw [if_pos rfl]
        exact ⟨fun _ => repV_v rfl, fun h => absurd hG h⟩
      · rw [nbeq_ne hk, cond_false] at ht
        rw [if_neg hk]
        exact k3.tm k d2 y ht
    · rw [← k3.nt, hdst]; simp [Act.put]
    · have : a.defers = [] := k3.df.2 rfl
      rw [hdst]
      simp only [Act.put]
      rw [this]; exact ⟨Marks.nil, fun _ => rfl⟩
    · rcases k4 b o2 y h with hI | hnY
      · exact .inl hI
      · refine .inr fun hY' => ?_
        rcases j2 b hY' with h' | h'
        · exact hnY h'
        · have := cell?_lt (k3.wr.imm b o2 y h)
          omega
  · rw [if_neg (fun e => hG (hwant.2 e))]
    refine ⟨fun _ _ => trivial, hno hG _ ⟨Y, Wp, Im, k1, k2, ⟨k3.wr, fun k d2 y ht => ?_, ?_, ?_, k3.ev, k3.eb⟩, k4⟩⟩
    · rw [hdst, tmps_put hdn]
      simp only [setT] at ht
      by_cases hk : k = d
      · subst hk
        rw [Nat.beq_refl, cond_true] at ht
        cases ht
        rw [if_pos rfl]
        exact ⟨fun h => absurd h hG, fun _ => rfl⟩
      · rw [nbeq_ne hk, cond_false] at ht
        rw [if_neg hk]
        exact k3.tm k d2 y ht
    · rw [← k3.nt, hdst]; simp [Act.put]
    · rw [hdst]; exact k3.df
end
end Go.Ab

/- Tables of a trace; what happens before what. -/
set_option autoImplicit false
set_option maxRecDepth 20000
set_option linter.unusedSimpArgs false
set_option linter.unusedVariables false
namespace Go.Ab
open Go.Proofs
def encTab (t : List Evt) : AV := stru 147 [evts false t, clks false (clkTo t t.length)]
def tE (t : List Evt) (e : Int) : List Evt := if e = 0 then t else []
def cE (t : List Evt) (e : Int) : List (List Int) := if e = 0 then clkTo t t.length else []
def tabF (t : List Evt) (e : Int) : AV := stru 147 [evts false (tE t e), clks false (cE t e)]
theorem tabF_zero (t : List Evt) : tabF t 0 = encTab t := rfl
theorem tabF_bad {t : List Evt} {e : Int} (h : e ≠ 0) : tabF t e = stru 147 [evts false [], clks false []] := by simp only [tabF, tE, cE, if_neg h]
def askE (t : List Evt) (l : List Int) : Int := if chkE t ≠ 0 then chkE t else if l.any (fun i => decide (i < 0) || decide (i ≥ (t.length : Int))) then 1 else 0
def befB (t : List Evt) (i j : Nat) : Bool := decide (i < j) && decide ((clkOf t i).getD (goN t i) 0 ≤ (clkOf t j).getD (goN t i) 0)
theorem noIds_tab (t : List Evt) : noIds (encTab t) = true := noIds_agg (fun i hi => by match i, hi with | 0, _ | 1, _ => rfl)
theorem noIds_tabF (t : List Evt) (e : Int) : noIds (tabF t e) = true := noIds_agg (fun i hi => by match i, hi with | 0, _ | 1, _ => rfl)
theorem okIds_tabF (ids : List Id) (t : List Evt) (e : Int) : okIds ids (tabF t e) = true := okIds_agg (fun i hi => by match i, hi with | 0, _ | 1, _ => rfl)
theorem at_nil (x : AV) : x.at [] = x := by cases x <;> rfl
theorem fin_tab {nt : Nat} {st : St} {t : List Evt} {e : Int} {B : Blk} (h4 : st.t 4 = some (.always, .ptr (.s 4 0) 1 0 [])) (h5 : st.t 5 = some (.always, .int e)) (hm : st.m (.s 4 0) = some (.cells B)) (hty : B.ty = 147) (hn1 : B.n = 1) (hfz : B.fz = 0) (hy : Conv st.m (fun id => lookF id []) T (B.get 0) (tabF t e)) : Fin T tysN nt 0 [.cell 4 147, .tmp 5] (.tup [tabF t e, .int e]) [] st := by
  obtain ⟨ty, n, get, fz⟩ := B
  simp only at hty hn1 hfz hy
  subst hty hn1 hfz
  refine Fin.ent (Ent.mk (P := Tryz.prog) hT [] (ts := [(4, .ptr (.s 4 0) 1 0 []), (5, .int e)]) (ms := [(.s 4 0, .cells ⟨147, 1, fun _ => tabF t e, 0⟩)]) trivial ⟨⟨rfl, _, h4, conv_eq rfl⟩, ⟨rfl, _, h5, conv_eq rfl⟩, trivial⟩ ⟨⟨fun _ _ => okIds_tabF _ _ _, .inl ⟨_, hm, _, _, rfl, Nat.le_refl _, Nat.zero_le _, Nat.zero_le _, fun q hq => ?_⟩⟩, trivial⟩ rfl) ?_
  · obtain rfl : q = 0 := by simp at hq; exact hq
    exact hy
  · refine fin_mk hT [(.s 4 0, 1)] (ts := [(4, .rp 147 (tabF t e)), (5, .int e)]) (l := [tabF t e, .int e]) ⟨⟨_, rfl, Nat.le_refl _⟩, trivial⟩ ⟨⟨rfl, _, rfl, ?_⟩, ⟨rfl, _, rfl, conv_eq rfl⟩, trivial⟩ trivial rfl rfl rfl
    exact conv_rpe rfl rfl (by simp [lookF, idbeq_self]) rfl rfl (noIds_tabF t e)
theorem conv_tz {m : Id → Option Ob} {F : Id → Nat} {t : List Evt} {e : Int} (h : e ≠ 0) : Conv m F T (stru 147 [.nils, .nils]) (tabF t e) := by
  rw [tabF_bad h]
  exact ⟨_, rfl, fun i hi => by match i, hi with | 0, _ => exact conv_nil_row (by decide) | 1, _ => exact conv_nil_row (by decide)⟩
theorem any_no {t : List Evt} {l : List Int} (h : ∀ q, q < l.length → 0 ≤ l.getD q 0 ∧ l.getD q 0 < t.length) : l.any (fun i => decide (i < 0) || decide (i ≥ (t.length : Int))) = false := by
  rw [List.any_eq_false]
  intro x hx
  obtain ⟨q, hq, rfl⟩ := List.getElem_of_mem hx
  have := h q hq
  simp [List.getD_eq_getElem?_getD, hq] at this
  simp
  omega
theorem any_yes {t : List Evt} {l : List Int} {q : Nat} (hq : q < l.length) (h : l.getD q 0 < 0 ∨ l.getD q 0 ≥ t.length) : l.any (fun i => decide (i < 0) || decide (i ≥ (t.length : Int))) = true := by
  rw [List.any_eq_true]
  refine ⟨l[q], List.getElem_mem hq, ?_⟩
  simp [List.getD_eq_getElem?_getD, hq] at h
  simpa using h
theorem asked_ac (g f : Bool) (t : List Evt) (l : List Int) : AC Tryz.prog T tysN 122 [evts g t, ints f l] [] (.tup [tabF t (askE t l), .int (askE t l)]) [] := by
  refine AC_intro hT Tryz.func122 rfl rfl (Nat.le_of_ble_eq_true rfl) ?_
  refine WP.rowlen 0 rfl (fun hl0 => ?_)
  refine WP.rowlen 1 rfl (fun hl1 => ?_)
  refine WP.seq ?_
  refine WP.reg hT hE [] rfl ?_ ?_
  · first | trivial | (simp [holdsC, under, slOk, slB, capEq] <;> grind)
  refine WP.seq ?_
  refine WP.seq ?_
  refine WP.reg hT hE [CG.pure (.int (chkE t))] rfl ?_ ?_
  · exact dcheck_ac g t
  refine WP.seq ?_
  refine WP.reg hT hE [] rfl ?_ ?_
  · first | trivial | (simp [holdsC, under, slOk, slB, capEq] <;> grind)
  refine WP.cond rfl (fun h2 => ?_) (fun h2 => ?_)
  · have hbad : chkE t ≠ 0 := by simpa using h2
    have he : askE t l = chkE t := if_pos hbad
    refine WP.seq ?_
    refine WP.reg hT hE [] rfl ?_ ?_
    · first | trivial | (simp [holdsC, under, slOk, slB, capEq] <;> grind)
    refine WP.ret ?_
    change Fin _ _ _ _ _ _ _ _
    rw [he]
    exact fin_tab rfl rfl rfl rfl rfl rfl (conv_tz hbad)
  · have hz : chkE t = 0 := by simpa using h2
    have hok := chk_right hz
    refine WP.skip ?_
    refine WP.seq ?_
    refine WP.seq ?_
    refine WP.reg hT hE [] rfl ?_ ?_
    · first | trivial | (simp [holdsC, under, slOk, slB, capEq] <;> grind)
    refine WP.block ?_
    refine WP.loop (α := Nat) (fun i => mkSt [(0, evts g t), (4, .ptr (.s 4 0) 1 0 []), (15, ints f l), (16, .int l.length), (17, .int i)] [(.s 4 0, .cells ⟨147, 1, fun _ => stru 147 [.nils, .nils], 0⟩)]) (fun i => i ≤ l.length ∧ ∀ q, q < i → 0 ≤ l.getD q 0 ∧ l.getD q 0 < t.length) (fun i => l.length - i) ?_ ?_
    · refine ⟨0, ?_, ?_⟩
      · exact ⟨Nat.zero_le _, fun q hq => by omega⟩
      · refine Ent.mk hT [] trivial ⟨⟨rfl, _, rfl, by first | exact conv_eq rfl | (refine conv_eq ?_; rw [wrap_id (by omega) (by omega)]; simp; done) | (refine conv_eq ?_; simp; done)⟩, ⟨rfl, _, rfl, by first | exact conv_eq rfl | (refine conv_eq ?_; rw [wrap_id (by omega) (by omega)]; simp; done) | (refine conv_eq ?_; simp; done)⟩, ⟨rfl, _, rfl, by first | exact conv_eq rfl | (refine conv_eq ?_; rw [wrap_id (by omega) (by omega)]; simp; done) | (refine conv_eq ?_; simp; done)⟩, ⟨rfl, _, rfl, by first | exact conv_eq rfl | (refine conv_eq ?_; rw [wrap_id (by omega) (by omega)]; simp; done) | (refine conv_eq ?_; simp; done)⟩, ⟨rfl, _, rfl, by first | exact conv_eq rfl | (refine conv_eq ?_; rw [wrap_id (by omega) (by omega)]; simp; done) | (refine conv_eq ?_; simp; done)⟩, trivial⟩ ⟨⟨fun _ _ => rfl, .inl ⟨_, rfl, _, _, rfl, Nat.le_refl _, Nat.zero_le _, by first | exact Nat.zero_le _ | omega, fun q hq => by first | exact conv_eq rfl | (obtain rfl : q = 0 := (by simp at hq; exact hq); exact conv_eq rfl)⟩⟩, trivial⟩ rfl
    · rintro i ⟨hi, hn⟩
      refine WP.seq ?_
      refine WP.reg hT hE [] rfl ?_ ?_
      · first | trivial | (simp [holdsC, under, slOk, slB, capEq] <;> grind)
      refine WP.seq ?_
      refine WP.cond rfl (fun h5 => ?_) (fun h5 => ?_)
      · have hil : i < l.length := by simpa using h5
        refine WP.skip ?_
        refine WP.seq ?_
        refine WP.block ?_
        refine WP.seq ?_
        refine WP.reg hT hE [] rfl ?_ ?_
        · simp [holdsC, under]; omega
        refine WP.seq ?_
        refine WP.reg hT hE [] rfl ?_ ?_
        · first | trivial | (simp [holdsC, under, slOk, slB, capEq] <;> grind)
        refine WP.cond rfl (fun h7 => ?_) (fun h7 => ?_)
        · have hb : l.getD i 0 < 0 ∨ l.getD i 0 ≥ t.length := by
            have e : (bif decide (l.getD (i : Int).toNat 0 < 0) then true else decide (l.getD (i : Int).toNat 0 ≥ (t.length : Int))) = true := h7
            rw [bor, Bool.or_eq_true, decide_eq_true_eq, decide_eq_true_eq] at e
            exact e
          have he : askE t l = 1 := by rw [askE, if_neg (by simp [hz]), any_yes hil hb, if_pos rfl]
          refine WP.seq ?_
          refine WP.reg hT hE [] rfl ?_ ?_
          · first | trivial | (simp [holdsC, under, slOk, slB, capEq] <;> grind)
          refine WP.ret ?_
          change Fin _ _ _ _ _ _ _ _
          rw [he]
          exact fin_tab rfl rfl rfl rfl rfl rfl (conv_tz (by decide))
        · have hb : 0 ≤ l.getD i 0 ∧ l.getD i 0 < t.length := by
            have e : (bif decide (l.getD (i : Int).toNat 0 < 0) then true else decide (l.getD (i : Int).toNat 0 ≥ (t.length : Int))) = false := h7
            rw [bor, Bool.or_eq_false_iff, decide_eq_false_iff_not, decide_eq_false_iff_not] at e
            simp only [Int.toNat_natCast] at e
            omega
          refine WP.skip ?_
          refine WP.reg hT hE [] rfl ?_ ?_
          · first | trivial | (simp [holdsC, under, slOk, slB, capEq] <;> grind)
          refine ⟨i + 1, ?_, ?_, ?_⟩
          · refine ⟨hil, fun q hq => ?_⟩
            rcases Nat.lt_or_ge q i with h | h
            · exact hn q h
            · obtain rfl : q = i := by omega
              exact hb
          · refine Ent.mk hT [] trivial ⟨⟨rfl, _, rfl, by first | exact conv_eq rfl | (refine conv_eq ?_; rw [wrap_id (by omega) (by omega)]; simp; done) | (refine conv_eq ?_; simp; done)⟩, ⟨rfl, _, rfl, by first | exact conv_eq rfl | (refine conv_eq ?_; rw [wrap_id (by omega) (by omega)]; simp; done) | (refine conv_eq ?_; simp; done)⟩, ⟨rfl, _, rfl, by first | exact conv_eq rfl | (refine conv_eq ?_; rw [wrap_id (by omega) (by omega)]; simp; done) | (refine conv_eq ?_; simp; done)⟩, ⟨rfl, _, rfl, by first | exact conv_eq rfl | (refine conv_eq ?_; rw [wrap_id (by omega) (by omega)]; simp; done) | (refine conv_eq ?_; simp; done)⟩, ⟨rfl, _, rfl, by first | exact conv_eq rfl | (refine conv_eq ?_; rw [wrap_id (by omega) (by omega)]; simp; done) | (refine conv_eq ?_; simp; done)⟩, trivial⟩ ⟨⟨fun _ _ => rfl, .inl ⟨_, rfl, _, _, rfl, Nat.le_refl _, Nat.zero_le _, by first | exact Nat.zero_le _ | omega, fun q hq => by first | exact conv_eq rfl | (obtain rfl : q = 0 := (by simp at hq; exact hq); exact conv_eq rfl)⟩⟩, trivial⟩ rfl
          · (try simp only []); first | omega | grind
      · have hil : i = l.length := by simp at h5; omega
        subst hil
        have he : askE t l = 0 := by rw [askE, if_neg (by simp [hz]), any_no hn]; rfl
        refine WP.exit ?_
        refine WP.seq ?_
        refine WP.reg hT hE [CG.pure (clks false (clkTo t t.length))] rfl ?_ ?_
        · exact ⟨clocks_ac g t hok, rfl, Nat.le_refl _⟩
        refine WP.ret ?_
        change Fin _ _ _ _ _ _ _ _
        rw [he]
        refine fin_tab rfl rfl rfl rfl rfl rfl ?_
        exact ⟨_, rfl, fun i hi => by match i, hi with | 0, _ => exact conv_rowL (fun h => by cases h) (fun j hj => rfl) | 1, _ => exact conv_eq rfl⟩
theorem before_ac (t : List Evt) (h : GoOK t) (i j : Nat) (hi : i < t.length) (hj : j < t.length) : AC Tryz.prog T tysN 90 [encTab t, .int i, .int j] [] (.bool (befB t i j)) [] := by
  refine AC_intro hT Tryz.func90 rfl rfl (Nat.le_of_ble_eq_true rfl) ?_
  have hgo := h.2 i hi
  refine WP.seq ?_
  refine WP.reg hT hE [] rfl ?_ ?_
  · first | trivial | (simp [holdsC, under, slOk, slB, capEq] <;> grind)
  refine WP.seq ?_
  refine WP.reg hT hE [] rfl ?_ ?_
  · simp [holdsC, under]
    omega
  refine WP.seq ?_
  refine WP.drw hT hE hM [] rfl ?_ ?_
  · have hl := clkTo_len t t.length
    simp [holdsC, under, hl]
    exact ⟨⟨⟨fun _ => hi, fun _ => hgo⟩, fun _ => hj⟩, fun _ => hgo⟩
  refine WP.ret ?_
  change Fin _ _ _ _ _ _ _ _
  refine fin1 hT (by rfl) ?_
  have e1 : (clkTo t t.length).getD (i : Int).toNat zeroC = clkOf t i := clkTo_get t hi
  have e2 : (clkTo t t.length).getD (j : Int).toNat zeroC = clkOf t j := clkTo_get t hj
  rw [e1, e2, band, befB]
  congr 1
  exact decide_eq_decide.2 Int.ofNat_lt
theorem past_ac (t : List Evt) (j : Int) : AC Tryz.prog T tysN 124 [encTab t, .int j] [] (.clo 168 [.rp 3 (.int j), .rp 147 (encTab t)]) [] := by
  refine AC_intro hT Tryz.func124 rfl rfl (Nat.le_of_ble_eq_true rfl) ?_
  refine WP.seq ?_
  refine WP.reg hT hE [] rfl ?_ ?_
  · first | trivial | (simp [holdsC, under, slOk, slB, capEq] <;> grind)
  refine WP.seq ?_
  refine WP.reg hT hE [] rfl ?_ ?_
  · first | trivial | (simp [holdsC, under, slOk, slB, capEq] <;> grind)
  refine WP.ret ?_
  change Fin _ _ _ _ _ _ _ _
  refine fin_mk hT [(.s 2 0, 1), (.s 3 0, 1)] (ts := [(4, .clo 168 [.rp 3 (.int j), .rp 147 (encTab t)])]) (l := [.clo 168 [.rp 3 (.int j), .rp 147 (encTab t)]]) ⟨⟨_, rfl, Nat.le_refl _⟩, ⟨_, rfl, Nat.le_refl _⟩, trivial⟩ ⟨⟨rfl, _, rfl, ?_⟩, trivial⟩ trivial rfl rfl rfl
  exact ⟨_, rfl, _, _, rfl, conv_rpe rfl rfl (by decide) rfl rfl rfl, _, _, rfl, conv_rpe rfl rfl (by decide) rfl rfl (noIds_tab t), rfl⟩
end Go.Ab


/- Ab, part 42: small rules for iterators' walks. -/
set_option autoImplicit false
set_option linter.unusedVariables false
namespace Go.Ab
section
variable {P : Program} {T : Nat → TI} {N nt : Nat} {α : Type} {J : List α → (Nat → Prop) → World → Prop} {I : Imm} {pre : List α} {t t' : Nat → Option (D × AV)} {a : Act} {W : World} {Q : Exit → Act → World → Prop} {n : Nat} {ops : Array Oper}
theorem wpList_split (k : Nat) (o : Oper) (h : ops.toList[k]? = some o) (hw : wpListIn (wideR none) n P ops Q (ops.toList.take k ++ (o :: ops.toList.drop (k + 1))) a W) : wpListIn (wideR none) n P ops Q ops.toList a W := by
  have : ops.toList.take k ++ (o :: ops.toList.drop (k + 1)) = ops.toList := by
    obtain ⟨hk, rfl⟩ := List.getElem?_eq_some_iff.1 h
    rw [← List.drop_eq_getElem_cons hk, List.take_append_drop]
  rwa [this] at hw
theorem ItS.begins (hT : TOK P T N) (hE : EqOK P T N) (hY : ∀ pre Y A b, J pre Y A → Y b → b < A.heap.size) {l1 l2 : List Oper} (gs : List CG) {gs' : List CG} {c : Option Prop} (hi : ItS T N nt J I pre t a W) (h : evF T (AC P T N) nt ops.toList l1 t (fun _ => none) gs none = some ⟨⟨t', fun _ => none⟩, gs', c⟩) (hc : holdsC c)
    (hQ : ∀ a' W', ItS T N nt J I pre t' a' W' → wpListIn (wideR none) n P ops Q l2 a' W') : wpListIn (wideR none) n P ops Q (l1 ++ l2) a W := by
  obtain ⟨Y, Wp, Im, h1, h2, h3, h4⟩ := hi
  rw [evF_eq] at h
  exact (evL_k hT hE none n l1 ⟨⟨t, fun _ => none⟩, gs, none⟩ _ h3 h hc (fun I' ρ' a' w' hs' => hQ a' w' (ItS.mk hY h1 h2 h4 hs'))).2
theorem ItS.ends (hT : TOK P T N) (hE : EqOK P T N) (hY : ∀ pre Y A b, J pre Y A → Y b → b < A.heap.size) {l1 : List Oper} (gs : List CG) {gs' : List CG} {c : Option Prop} (hi : ItS T N nt J I pre t a W) (h : evF T (AC P T N) nt ops.toList l1 t (fun _ => none) gs none = some ⟨⟨t', fun _ => none⟩, gs', c⟩) (hc : holdsC c)
    (hQ : ∀ a' W', ItS T N nt J I pre t' a' W' → Q .normal a' W') : wpListIn (wideR none) n P ops Q l1 a W := by
  have := ItS.begins (l2 := []) (Q := Q) (n := n) hT hE hY gs hi h hc hQ
  rwa [List.append_nil] at this
theorem ItS.val (hi : ItS T N nt J I pre t a W) {k : Nat} {x : Value} (h : t k = some (.always, .v x)) : a.tmps.getD k undef = x := by
  obtain ⟨Y, Wp, Im, h1, h2, h3, h4⟩ := hi
  exact (((h3.tm k _ _ h).1 trivial).v).1
/-- An iterator ends. -/
theorem ItS.fin {fn : Func} {S : List α → Prop} (hi : ItS T N nt J I pre t a W) (hS : S pre) (hres : fn.results = #[]) :
    a.defers = [] ∧ ∃ v, (results fn a.tmps).run P W = .ok v W ∧ (∃ v', (Ending.returned v) = .returned v') ∧ ∃ xs Y Wp, S xs ∧ J xs Y Wp ∧ Grown Wp W := by
  obtain ⟨Y, Wp, Im, h1, h2, h3, h4⟩ := hi
  refine ⟨h3.df.2 rfl, .tuple #[], ?_, ⟨_, rfl⟩, pre, Y, Wp, hS, h1, h2⟩
  simp [results, hres]
theorem yield_rep {I : Imm} {l : Nat} : RepV T N I noPl (.v (.func (.yield l) #[] #[])) (.func (.yield l) #[] #[]) := repV_v rfl
end
end Go.Ab

/- The past of an event, as an iterator. -/
set_option autoImplicit false
set_option maxRecDepth 20000
set_option linter.unusedSimpArgs false
set_option linter.unusedVariables false
namespace Go.Ab
open Go.Proofs
def pastTo (t : List Evt) (j : Nat) : Nat → List Nat
  | 0 => []
  | d + 1 => pastTo t j d ++ (if befB t (j - 1 - d) j then [j - 1 - d] else [])
/-- The past of j, the last one first. -/
def pastL (t : List Evt) (j : Nat) : List Nat := pastTo t j j
theorem pastTo_len (t : List Evt) (j : Nat) : ∀ d, (pastTo t j d).length ≤ d
  | 0 => Nat.le_refl _
  | d + 1 => by
    have := pastTo_len t j d
    rw [pastTo, List.length_append]
    split <;> simp <;> omega
def encJ (j : Nat) (x : {i : Nat // i < j}) : Array Value := #[.int .i64 (x.1 : Int)]
def tsP (l : Nat) (t : List Evt) (j : Nat) (k : Int) : List (Nat × AV) := [(0, .v (.func (.yield l) #[] #[])), (1, .rp 3 (.int j)), (2, .rp 147 (encTab t)), (4, .int k)]
def tsQ (l : Nat) (t : List Evt) (j : Nat) (k : Int) (b : Bool) : List (Nat × AV) := [(0, .v (.func (.yield l) #[] #[])), (1, .rp 3 (.int j)), (2, .rp 147 (encTab t)), (4, .int k), (8, .bool b)]
theorem pastIt (t : List Evt) (h : GoOK t) (j : Nat) (hj : j < t.length) : IterC Tryz.prog T tysN 168 [.rp 3 (.int j), .rp 147 (encTab t)] (encJ j) (fun xs => xs.map (·.1) = pastL t j) j := by
  have h256 := h.1
  refine ⟨enters_of Tryz.func168 rfl rfl, fun I lb hlb hcl l J Y0 W himm hY hr hJ0 => ?_⟩
  obtain ⟨v1, v2, rfl⟩ : ∃ v1 v2, lb = #[v1, v2] := by
    obtain ⟨L⟩ := lb
    match L, hlb with
    | [x, y], _ => exact ⟨x, y, rfl⟩
  have hc1 := hcl 0 _ rfl
  have hc2 := hcl 1 _ rfl
  simp only [List.getD_eq_getElem?_getD, Array.getD_eq_getD_getElem?] at hc1 hc2
  have hr' : Rounds Tryz.prog l j (encJ j) J I := hr
  refine (callsIn_wide (n := 0)).1 (callsIn_of_wp Tryz.func168 rfl trivial ?_)
  have hst := ItS.start (fn := Tryz.f168) (T := T) (N := tysN) (args := [.v (.func (.yield l) #[] #[]), .rp 3 (.int j), .rp 147 (encTab t)]) (vs := [.func (.yield l) #[] #[], v1, v2]) hJ0 himm rfl (Nat.le_of_ble_eq_true rfl) (fun i x v hx hv => by
    match i with
    | 0 => simp at hx hv; subst hx hv; exact yield_rep
    | 1 => simp at hx hv; subst hx hv; exact .one (by simpa using hc1)
    | 2 => simp at hx hv; subst hx hv; exact .one (by simpa using hc2)
    | i + 3 => simp at hx)
  refine wpIn_seq ?_
  refine ItS.step hY hst (t' := (mkSt (tsP l t j ((j : Int) - 1)) []).t) (WP.reg hT hE [] rfl trivial ⟨rfl, Ent.mk (ts := tsP l t j ((j : Int) - 1)) (ms := []) hT [] trivial ⟨⟨rfl, _, rfl, conv_eq rfl⟩, ⟨rfl, _, rfl, conv_eq rfl⟩, ⟨rfl, _, rfl, conv_eq rfl⟩, ⟨rfl, _, rfl, conv_eq (by rw [wrap_id (by omega) (by omega)])⟩, trivial⟩ trivial rfl⟩) (fun a1 W1 hi1 => ?_)
  refine wpIn_block ?_
  refine wpIn_loop (fun a w => ∃ d pre, d ≤ j ∧ pre.map (·.1) = pastTo t j d ∧ ItS T tysN _ J I pre (mkSt (tsP l t j ((j : Int) - 1 - d)) []).t a w) (fun a w => match a.tmps.getD 4 undef with | .int _ n => (n + 1).toNat | _ => 0) ⟨0, [], Nat.zero_le _, rfl, by simpa using hi1⟩ ?_
  rintro a W ⟨d, pre, hd, hpre, hi⟩
  refine wpIn_seq (wpIn_seq ?_)
  refine ItS.step hY hi (t' := (mkSt (tsQ l t j ((j : Int) - 1 - d) (decide ((j : Int) - 1 - d ≥ 0))) []).t) (WP.reg hT hE [] rfl trivial ⟨rfl, Ent.mk (ts := tsQ l t j ((j : Int) - 1 - d) (decide ((j : Int) - 1 - d ≥ 0))) (ms := []) hT [] trivial ⟨⟨rfl, _, rfl, conv_eq rfl⟩, ⟨rfl, _, rfl, conv_eq rfl⟩, ⟨rfl, _, rfl, conv_eq rfl⟩, ⟨rfl, _, rfl, conv_eq rfl⟩, ⟨rfl, _, rfl, conv_eq rfl⟩, trivial⟩ trivial rfl⟩) (fun a2 W2 hi2 => ?_)
  refine ItS.cond hi2 (by rfl) (fun hb => ?_) (fun hb => ?_)
  · -- a step
    have hdj : d < j := by simp at hb; omega
    have hk : (j : Int) - 1 - d = ((j - 1 - d : Nat) : Int) := by omega
    have hm0 : (match a.tmps.getD 4 undef with | .int _ n => (n + 1).toNat | _ => 0) = j - d := by
      rw [hi.val (k := 4) rfl]
      simp only; omega
    refine wpIn_skip ?_
    refine wpIn_seq (wpIn_block (wpIn_seq ?_))
    have hi3 : ItS T tysN _ J I pre (mkSt (tsP l t j ((j - 1 - d : Nat) : Int)) []).t a2 W2 := ItS.ent hY hi2 (Ent.mk (ts := tsP l t j ((j - 1 - d : Nat) : Int)) (ms := []) hT [] trivial ⟨⟨rfl, _, rfl, conv_eq rfl⟩, ⟨rfl, _, rfl, conv_eq rfl⟩, ⟨rfl, _, rfl, conv_eq rfl⟩, ⟨rfl, _, rfl, conv_eq (by rw [hk])⟩, trivial⟩ trivial rfl)
    have hbf := before_ac t h (j - 1 - d) j (by omega) hj
    refine wpIn_region_list (wpList_split 7 _ rfl ?_)
    refine ItS.begins hT hE hY [CG.pure (.bool (befB t (j - 1 - d) j))] hi3 rfl ?_ (fun a4 W4 hi4 => ?_)
    · simp [holdsC, under, CG.pure]
      exact hbf
    refine ItS.yield (d := 18) (l := l) (M := j) (x := ⟨j - 1 - d, by omega⟩) (G := .when (befB t (j - 1 - d) j)) (G1 := .when (befB t (j - 1 - d) j)) (G2 := .when (befB t (j - 1 - d) j)) (xv := .int .i64 ((j - 1 - d : Nat) : Int)) hY hr' hi4 rfl rfl rfl rfl (Nat.le_of_ble_eq_true rfl) rfl rfl (fun h => h) rfl (fun h => h) (fun _ => rfl) (fun _ => ?_) (fun hG a5 W5 hi5 => ?_) (fun hG a5 hi5 => ?_)
    · have := pastTo_len t j d
      rw [← hpre, List.length_map] at this
      omega
    · refine ItS.ends hT hE hY [] hi5 rfl ?_ (fun a6 W6 hi6 => ?_)
      · simp [holdsC, under]
      refine ItS.cond hi6 (by rfl) (fun hc => ?_) (fun _ => ?_)
      · exfalso
        revert hc
        cases befB t (j - 1 - d) j <;> simp
      refine wpIn_skip ?_
      refine ItS.step hY hi6 (t' := (mkSt (tsP l t j ((j : Int) - 1 - (d + 1 : Nat))) []).t) (WP.reg hT hE [] rfl trivial ⟨rfl, Ent.mk (ts := tsP l t j ((j : Int) - 1 - (d + 1 : Nat))) (ms := []) hT [] trivial ⟨⟨rfl, _, rfl, conv_eq rfl⟩, ⟨rfl, _, rfl, conv_eq rfl⟩, ⟨rfl, _, rfl, conv_eq rfl⟩, ⟨rfl, _, rfl, conv_eq (by rw [wrap_id (by omega) (by omega)]; congr 2; omega)⟩, trivial⟩ trivial rfl⟩) (fun a7 W7 hi7 => ?_)
      refine ⟨⟨d + 1, _, hdj, ?_, hi7⟩, ?_⟩
      · have hG' : befB t (j - 1 - d) j = true := hG
        rw [List.map_append, hpre, pastTo, if_pos hG']; rfl
      · simp only [hm0]
        rw [hi7.val (k := 4) rfl]
        simp only; omega
    · refine ItS.ends hT hE hY [] hi5 rfl ?_ (fun a6 W6 hi6 => ?_)
      · simp [holdsC, under]
      refine ItS.cond hi6 (by rfl) (fun hc => ?_) (fun _ => ?_)
      · exfalso
        revert hc
        cases befB t (j - 1 - d) j <;> simp
      refine wpIn_skip ?_
      refine ItS.step hY hi6 (t' := (mkSt (tsP l t j ((j : Int) - 1 - (d + 1 : Nat))) []).t) (WP.reg hT hE [] rfl trivial ⟨rfl, Ent.mk (ts := tsP l t j ((j : Int) - 1 - (d + 1 : Nat))) (ms := []) hT [] trivial ⟨⟨rfl, _, rfl, conv_eq rfl⟩, ⟨rfl, _, rfl, conv_eq rfl⟩, ⟨rfl, _, rfl, conv_eq rfl⟩, ⟨rfl, _, rfl, conv_eq (by rw [wrap_id (by omega) (by omega)]; congr 2; omega)⟩, trivial⟩ trivial rfl⟩) (fun a7 W7 hi7 => ?_)
      refine ⟨⟨d + 1, _, hdj, ?_, hi7⟩, ?_⟩
      · have hG' : ¬ befB t (j - 1 - d) j = true := hG
        rw [hpre, pastTo, if_neg hG', List.append_nil]
      · simp only [hm0]
        rw [hi7.val (k := 4) rfl]
        simp only; omega
  · -- the end
    have hdj : d = j := by simp at hb; omega
    subst hdj
    refine wpIn_exit ?_
    exact ItS.fin hi2 hpre rfl
end Go.Ab


/- Ab, part 43: objects by the names b 0, b 1, ..; what a round leaves. -/
set_option autoImplicit false
set_option linter.unusedVariables false
namespace Go.Ab
mutual
theorem okP_has (ids : List Id) : ∀ x, okP (hasId ids) x = okIds ids x
  | .v _ => rfl
  | .agg _ n get => by simp only [okP, okIds]; congr 1; funext i; exact okP_has ids (get i)
  | .tup vs => okPL_has ids vs
  | .row .. => rfl
  | .own .. => rfl
  | .arr .. => rfl
  | .ptr .. => rfl
  | .rp .. => rfl
  | .clo _ caps => okPL_has ids caps
  | .mp _ => rfl
theorem okPL_has (ids : List Id) : ∀ l, okPL (hasId ids) l = okIdsL ids l
  | [] => rfl
  | x :: r => by simp only [okPL, okIdsL, okP_has ids x, okPL_has ids r]
end
theorem okPO_has {ids : List Id} {o : Ob} (h : okO ids o) : okPO (hasId ids) o := by
  cases o with
  | cells B => exact fun i hi => by rw [okP_has]; exact h i hi
  | map es => exact fun p hp => ⟨by rw [okP_has]; exact (h p hp).1, by rw [okP_has]; exact (h p hp).2⟩
section
variable {P : Program} {T : Nat → TI} {N : Nat}
def EntB (T : Nat → TI) (st : St) (F : List (Id × Nat)) (all : List Id) (id : Id) (o' : Ob) : Prop :=
  (∃ o o1, st.m id = some o ∧ ObC st.m (fun id => lookF id F) T (lookF id F) o o1 ∧ okO all o1 ∧ o' = renO (sig all 0) o1) ∨ (st.m id = none ∧ ∃ e get, o' = .cells ⟨e, 0, get, 0⟩ ∧ 0 < (T e).size)
def entMB (T : Nat → TI) (st : St) (F : List (Id × Nat)) (all : List Id) : List Id → List Ob → Prop
  | [], [] => True
  | id :: r, o :: s => EntB T st F all id o ∧ entMB T st F all r s
  | _, _ => False
def entTB (T : Nat → TI) (st : St) (F : List (Id × Nat)) (all : List Id) : List (Nat × AV) → Prop
  | [] => True
  | (k, x') :: r => (∃ x y, st.t k = some (.always, x) ∧ Conv st.m (fun id => lookF id F) T x y ∧ okIds all y = true ∧ x' = ren (sig all 0) y) ∧ entTB T st F all r
theorem entMB_at {st : St} {F : List (Id × Nat)} {all : List Id} : ∀ {ids : List Id} {B : List Ob}, entMB T st F all ids B → B.length = ids.length ∧ ∀ (i : Nat) (id : Id) (o : Ob), ids[i]? = some id → B[i]? = some o → EntB T st F all id o
  | [], [], _ => ⟨rfl, fun i id o h => by simp at h⟩
  | [], _ :: _, h => h.elim
  | _ :: _, [], h => h.elim
  | id :: r, o :: s, h => by
    obtain ⟨h1, h2⟩ := entMB_at h.2
    refine ⟨by simp [h1], fun i id' o' hi ho => ?_⟩
    cases i with
    | zero => simp at hi ho; subst hi ho; exact h.1
    | succ i => exact h2 i id' o' (by simpa using hi) (by simpa using ho)
theorem entTB_at {st : St} {F : List (Id × Nat)} {all : List Id} : ∀ {ts : List (Nat × AV)} {k : Nat} {x' : AV}, entTB T st F all ts → (k, x') ∈ ts → ∃ x y, st.t k = some (.always, x) ∧ Conv st.m (fun id => lookF id F) T x y ∧ okIds all y = true ∧ x' = ren (sig all 0) y
  | [], _, _, _, h => by cases h
  | (j, y) :: r, k, x, h, hm => by
    cases hm with
    | head => exact h.1
    | tail _ hm => exact entTB_at h.2 hm
/-- Objects of ours by new names. -/
theorem Ent.toB (hT : TOK P T N) {nt : Nat} {st : St} (F : List (Id × Nat)) (ids : List Id) {ts : List (Nat × AV)} {B : List Ob} (hF : entF st F) (hnd : distinct ids = true) (ht : entTB T st F ids ts) (hm : entMB T st F ids ids B) : Ent T N nt 0 st (fnSt (fun k => lookN k ts) (ofB B)) := by
  have hnd' : ids.Nodup := by
    clear ht hm
    induction ids with
    | nil => exact List.nodup_nil
    | cons a r ih =>
      simp only [distinct, Bool.and_eq_true, Bool.not_eq_true'] at hnd
      refine List.nodup_cons.2 ⟨fun h => ?_, ih hnd.2⟩
      rw [hasId_mem.2 h] at hnd
      cases hnd.1
  obtain ⟨hlen, hat⟩ := entMB_at hm
  refine Ent.gen hT (fun id => lookF id F) (hasId ids) (sig ids 0) (fun id B hB => entF_at hF hB) (fun a b ha hb hab => ?_) (fun k x' hk => ?_) (fun id' => ?_) (fun j hj => absurd hj (Nat.not_lt_zero _))
  · obtain ⟨i, hi⟩ := List.getElem?_of_mem (hasId_mem.1 ha)
    obtain ⟨j, hj⟩ := List.getElem?_of_mem (hasId_mem.1 hb)
    rw [sig_at hnd' hi, sig_at hnd' hj] at hab
    cases hab
    rw [hi] at hj; cases hj; rfl
  · obtain ⟨x, y, h1, h2, h3, h4⟩ := entTB_at ht (lookN_some hk)
    exact ⟨x, y, h1, h2, by rw [okP_has]; exact h3, h4⟩
  · by_cases hex : ∃ i id, ids[i]? = some id ∧ id' = .b i
    · obtain ⟨i, id, hi, rfl⟩ := hex
      have hiB : i < B.length := by rw [hlen]; exact (List.getElem?_eq_some_iff.1 hi).1
      have hb := hat i id B[i] hi (List.getElem?_eq_getElem hiB)
      have hmem : hasId ids id = true := hasId_mem.2 (List.mem_of_getElem? hi)
      rcases hb with ⟨o, o1, g1, g2, g3, g4⟩ | ⟨g1, g2⟩
      · refine .inl ⟨id, o, o1, hmem, sig_at hnd' hi, g1, g2, okPO_has g3, ?_⟩
        show B[i]? = _
        rw [List.getElem?_eq_getElem hiB, g4]
      · refine .inr ⟨fun id2 h2 e2 => ?_, .inr ?_⟩
        · obtain ⟨j, hj⟩ := List.getElem?_of_mem (hasId_mem.1 h2)
          rw [sig_at hnd' hj] at e2
          cases e2
          rw [hi] at hj; cases hj; exact g1
        · obtain ⟨e, get, g3, g4⟩ := g2
          refine ⟨e, get, ?_, g4⟩
          show B[i]? = _
          rw [List.getElem?_eq_getElem hiB, g3]
    · refine .inr ⟨fun id2 h2 e2 => ?_, .inl ?_⟩
      · obtain ⟨j, hj⟩ := List.getElem?_of_mem (hasId_mem.1 h2)
        rw [sig_at hnd' hj] at e2
        exact absurd ⟨j, id2, hj, e2.symm⟩ hex
      · cases id' with
        | s a b => rfl
        | b j =>
          show B[j]? = none
          rw [List.getElem?_eq_none_iff]
          apply Nat.le_of_not_lt
          intro hlt
          rw [hlen] at hlt
          exact hex ⟨j, ids[j], List.getElem?_eq_getElem hlt, rfl⟩
/-- What a round leaves. -/
theorem rnd_mk (hT : TOK P T N) {nt nb : Nat} (F : List (Id × Nat)) {B : List Ob} {st : St} (hF : entF st F) (hm : entM T st F ((mkB 0 B).map (·.1)) (mkB 0 B)) (hb : (bs nb).all (hasId ((mkB 0 B).map (·.1))) = true) : rndP T N nt nb B .normal st := by
  have h := Ent.mk (P := P) (N := N) (nt := nt) (nb := nb) (ts := []) hT F hF trivial hm hb
  have e : mkSt [] (mkB 0 B) = ⟨fun _ => none, ofB B⟩ := by
    rw [← mkB_ofB B]
    rfl
  rw [e] at h
  exact h
theorem Rfn_at {r : Option Nat} {d : Bool} (h : Rfn r d) : r = none ∧ d = false := h
end
end Go.Ab
namespace Go.Ab
section
variable {P : Program} {T : Nat → TI} {N : Nat}
/-- What a call leaves that made objects for its caller. -/
theorem fin_toB (hT : TOK P T N) {nt : Nat} {st : St} (F : List (Id × Nat)) (ids : List Id) {ts : List (Nat × AV)} {B : List Ob} {rs : List ResultVar} {r : AV} {l : List AV} (hF : entF st F) (hnd : distinct ids = true) (ht : entTB T st F ids ts) (hm : entMB T st F ids ids B) (hl : resL T (mkSt ts (mkB 0 B)) rs = some (l, none)) (hr : r = resV l) : Fin T N nt 0 rs r B st := by
  refine ⟨ts, ?_, (l, none), hl, trivial, hr⟩
  have h := Ent.toB hT (nt := nt) F ids hF hnd ht hm
  have e : mkSt ts (mkB 0 B) = fnSt (fun k => lookN k ts) (ofB B) := by
    rw [mkSt_fn, mkB_ofB]
  rw [e]
  exact h
end
end Go.Ab

/- What an iterator yields, in a slice; the past of an event. -/
set_option autoImplicit false
set_option maxRecDepth 20000
set_option linter.unusedSimpArgs false
set_option linter.unusedVariables false
namespace Go.Ab
open Go.Proofs
abbrev ownI (l : List Int) : AV := .own (.b 0) l.length 0 l.length none
def blA {α : Type} (v : α → Int) (l : List α) : List Ob := [.cells ⟨23, 1, fun _ => .own (.b 1) l.length 0 l.length none, 0⟩, cellsI 3 .i64 (l.map v)]
theorem appendSeq1_ac {α : Type} (gf : FuncId) (ta : Nat) (xa : AV) (v : α → Int) (S : List α → Prop) (M : Nat) (L : List Int) (hit : IterC Tryz.prog T tysN gf [.rp ta xa] (fun x => #[.int .i64 (v x)]) S M) (hM1 : M ≤ 1000000) (hL : ∀ xs, S xs → xs.map v = L) : AC Tryz.prog T tysN 167 [.nils, .clo gf [.rp ta xa]] [] (.own (.b 0) L.length 0 L.length none) [cellsI 3 .i64 L] := by
  refine AC_intro hT Tryz.func167 rfl rfl (Nat.le_of_ble_eq_true rfl) ?_
  refine WP.seq ?_
  refine WP.reg hT hE [] rfl ?_ ?_
  · first | trivial | (simp [holdsC, under, slOk, slB, capEq] <;> grind)
  refine WP.seq ?_
  refine WP.seq ?_
  refine WP.reg hT hE [] rfl ?_ ?_
  · first | trivial | (simp [holdsC, under, slOk, slB, capEq] <;> grind)
  refine WP.block ?_
  refine WP.ent (Ent.toB hT [] [.s 2 0, .s 11 0] (ts := [(2, .ptr (.b 0) 1 0 []), (6, .clo gf [.rp ta xa])]) (B := blA v []) trivial rfl ?_ ?_) ?_
  · exact ⟨⟨_, .ptr (.s 2 0) 1 0 [], rfl, conv_eq rfl, rfl, rfl⟩, ⟨_, .clo gf [.rp ta xa], rfl, conv_eq rfl, rfl, rfl⟩, trivial⟩
  · exact ⟨.inl ⟨_, .cells ⟨23, 1, fun _ => .own (.s 11 0) 0 0 0 none, 0⟩, rfl, ⟨_, _, rfl, Nat.le_refl _, Nat.zero_le _, Nat.zero_le _, fun i hi => by (obtain rfl : i = 0 := (by simp at hi; exact hi)); exact conv_nil_own⟩, fun _ _ => rfl, rfl⟩, .inr ⟨rfl, 3, _, rfl, by decide⟩, trivial⟩
  refine WP.rangeF (fun _ _ h => h) (nb2 := 2) (A := fun x => [.int (v x)]) (blA v) (by rfl) rfl hit (fun x I ρ => ⟨rfl, rfl, fun i a ha => by match i with | 0 => (simp at ha; subst ha; exact repV_v rfl) | i + 1 => simp at ha⟩) (fun p hp => by simp at hp; subst hp; decide) (fun _ => rfl) ?_ ?_
  · intro pre x hM
    have hpl : (pre.map v).length = pre.length := by simp
    refine WP.reg hT hE [] rfl ?_ ?_
    · first | trivial | (simp [holdsC, under, slOk, slB, capEq] <;> grind)
    refine WP.block ?_
    refine WP.reg hT hE [] rfl ?_ ?_
    · have hb : (T 3).bytes = 8 := rfl
      simp [holdsC, under, hb]
      omega
    refine rnd_mk hT [] trivial ?_ rfl
    refine ⟨⟨fun _ _ => rfl, .inl ⟨_, rfl, _, _, rfl, Nat.le_refl _, Nat.zero_le _, Nat.zero_le _, fun i hi => ?_⟩⟩, ob_ints rfl rfl (by simp) rfl rfl ?_, trivial⟩
    · obtain rfl : i = 0 := by simp at hi; exact hi
      exact conv_eq (by simp only [List.length_append, List.length_singleton]; rfl)
    · rw [List.map_append]
      exact app1 (z := .int 0) (by simp) (fun q hq => rfl)
  · intro xs hS
    rw [show blA v xs = [.cells ⟨23, 1, fun _ => .own (.b 1) xs.length 0 xs.length none, 0⟩, cellsI 3 .i64 (xs.map v)] from rfl]
    refine WP.seq ?_
    refine WP.reg hT hE [] rfl ?_ ?_
    · first | trivial | (simp [holdsC, under, slOk, slB, capEq] <;> grind)
    refine WP.ret ?_
    change Fin _ _ _ _ _ _ _ _
    have e := hL xs hS
    refine fin_toB hT [] [.b 1] (ts := [(4, .own (.b 0) L.length 0 L.length none)]) (l := [.own (.b 0) L.length 0 L.length none]) trivial rfl ⟨⟨_, .own (.b 1) L.length 0 L.length none, rfl, conv_eq (by rw [← e, List.length_map]), rfl, rfl⟩, trivial⟩ ⟨.inl ⟨_, cellsI 3 .i64 L, rfl, ?_, fun _ _ => rfl, rfl⟩, trivial⟩ rfl rfl
    rw [e]
    exact ⟨_, _, rfl, Nat.le_refl _, Nat.zero_le _, Nat.zero_le _, fun i hi => conv_eq rfl⟩
theorem collect1_ac {α : Type} (gf : FuncId) (ta : Nat) (xa : AV) (v : α → Int) (S : List α → Prop) (M : Nat) (L : List Int) (hit : IterC Tryz.prog T tysN gf [.rp ta xa] (fun x => #[.int .i64 (v x)]) S M) (hM1 : M ≤ 1000000) (hL : ∀ xs, S xs → xs.map v = L) : AC Tryz.prog T tysN 123 [.clo gf [.rp ta xa]] [] (ownI L) [cellsI 3 .i64 L] := by
  refine AC_intro hT Tryz.func123 rfl rfl (Nat.le_of_ble_eq_true rfl) ?_
  refine WP.seq ?_
  refine WP.reg hT hE [] rfl ?_ ?_
  · first | trivial | (simp [holdsC, under, slOk, slB, capEq] <;> grind)
  refine WP.seq ?_
  refine WP.reg hT hE [⟨true, [], ownI L, [cellsI 3 .i64 L]⟩] rfl ?_ ?_
  · have ha := appendSeq1_ac gf ta xa v S M L hit hM1 hL
    simp [holdsC, under]
    exact ⟨trivial, ⟨fun _ _ => rfl, trivial⟩, ha⟩
  refine WP.ret ?_
  change Fin _ _ _ _ _ _ _ _
  refine fin_toB hT [] [.s 4 1] (ts := [(2, ownI L)]) (l := [ownI L]) trivial rfl ⟨⟨_, .own (.s 4 1) L.length 0 L.length none, rfl, conv_eq rfl, rfl, rfl⟩, trivial⟩ ⟨.inl ⟨_, cellsI 3 .i64 L, rfl, ?_, fun _ _ => rfl, rfl⟩, trivial⟩ rfl rfl
  exact ⟨_, _, rfl, Nat.le_refl _, Nat.zero_le _, Nat.zero_le _, fun i hi => conv_eq rfl⟩
theorem appendSeq2_ac {α : Type} (gf : FuncId) (ta tb : Nat) (xa xb : AV) (v : α → Int) (S : List α → Prop) (M : Nat) (L : List Int) (hit : IterC Tryz.prog T tysN gf [.rp ta xa, .rp tb xb] (fun x => #[.int .i64 (v x)]) S M) (hM1 : M ≤ 1000000) (hL : ∀ xs, S xs → xs.map v = L) : AC Tryz.prog T tysN 167 [.nils, .clo gf [.rp ta xa, .rp tb xb]] [] (.own (.b 0) L.length 0 L.length none) [cellsI 3 .i64 L] := by
  refine AC_intro hT Tryz.func167 rfl rfl (Nat.le_of_ble_eq_true rfl) ?_
  refine WP.seq ?_
  refine WP.reg hT hE [] rfl ?_ ?_
  · first | trivial | (simp [holdsC, under, slOk, slB, capEq] <;> grind)
  refine WP.seq ?_
  refine WP.seq ?_
  refine WP.reg hT hE [] rfl ?_ ?_
  · first | trivial | (simp [holdsC, under, slOk, slB, capEq] <;> grind)
  refine WP.block ?_
  refine WP.ent (Ent.toB hT [] [.s 2 0, .s 11 0] (ts := [(2, .ptr (.b 0) 1 0 []), (6, .clo gf [.rp ta xa, .rp tb xb])]) (B := blA v []) trivial rfl ?_ ?_) ?_
  · exact ⟨⟨_, .ptr (.s 2 0) 1 0 [], rfl, conv_eq rfl, rfl, rfl⟩, ⟨_, .clo gf [.rp ta xa, .rp tb xb], rfl, conv_eq rfl, rfl, rfl⟩, trivial⟩
  · exact ⟨.inl ⟨_, .cells ⟨23, 1, fun _ => .own (.s 11 0) 0 0 0 none, 0⟩, rfl, ⟨_, _, rfl, Nat.le_refl _, Nat.zero_le _, Nat.zero_le _, fun i hi => by (obtain rfl : i = 0 := (by simp at hi; exact hi)); exact conv_nil_own⟩, fun _ _ => rfl, rfl⟩, .inr ⟨rfl, 3, _, rfl, by decide⟩, trivial⟩
  refine WP.rangeF (fun _ _ h => h) (nb2 := 2) (A := fun x => [.int (v x)]) (blA v) (by rfl) rfl hit (fun x I ρ => ⟨rfl, rfl, fun i a ha => by match i with | 0 => (simp at ha; subst ha; exact repV_v rfl) | i + 1 => simp at ha⟩) (fun p hp => by simp at hp; subst hp; decide) (fun _ => rfl) ?_ ?_
  · intro pre x hM
    have hpl : (pre.map v).length = pre.length := by simp
    refine WP.reg hT hE [] rfl ?_ ?_
    · first | trivial | (simp [holdsC, under, slOk, slB, capEq] <;> grind)
    refine WP.block ?_
    refine WP.reg hT hE [] rfl ?_ ?_
    · have hb : (T 3).bytes = 8 := rfl
      simp [holdsC, under, hb]
      omega
    refine rnd_mk hT [] trivial ?_ rfl
    refine ⟨⟨fun _ _ => rfl, .inl ⟨_, rfl, _, _, rfl, Nat.le_refl _, Nat.zero_le _, Nat.zero_le _, fun i hi => ?_⟩⟩, ob_ints rfl rfl (by simp) rfl rfl ?_, trivial⟩
    · obtain rfl : i = 0 := by simp at hi; exact hi
      exact conv_eq (by simp only [List.length_append, List.length_singleton]; rfl)
    · rw [List.map_append]
      exact app1 (z := .int 0) (by simp) (fun q hq => rfl)
  · intro xs hS
    rw [show blA v xs = [.cells ⟨23, 1, fun _ => .own (.b 1) xs.length 0 xs.length none, 0⟩, cellsI 3 .i64 (xs.map v)] from rfl]
    refine WP.seq ?_
    refine WP.reg hT hE [] rfl ?_ ?_
    · first | trivial | (simp [holdsC, under, slOk, slB, capEq] <;> grind)
    refine WP.ret ?_
    change Fin _ _ _ _ _ _ _ _
    have e := hL xs hS
    refine fin_toB hT [] [.b 1] (ts := [(4, .own (.b 0) L.length 0 L.length none)]) (l := [.own (.b 0) L.length 0 L.length none]) trivial rfl ⟨⟨_, .own (.b 1) L.length 0 L.length none, rfl, conv_eq (by rw [← e, List.length_map]), rfl, rfl⟩, trivial⟩ ⟨.inl ⟨_, cellsI 3 .i64 L, rfl, ?_, fun _ _ => rfl, rfl⟩, trivial⟩ rfl rfl
    rw [e]
    exact ⟨_, _, rfl, Nat.le_refl _, Nat.zero_le _, Nat.zero_le _, fun i hi => conv_eq rfl⟩
theorem collect2_ac {α : Type} (gf : FuncId) (ta tb : Nat) (xa xb : AV) (v : α → Int) (S : List α → Prop) (M : Nat) (L : List Int) (hit : IterC Tryz.prog T tysN gf [.rp ta xa, .rp tb xb] (fun x => #[.int .i64 (v x)]) S M) (hM1 : M ≤ 1000000) (hL : ∀ xs, S xs → xs.map v = L) : AC Tryz.prog T tysN 123 [.clo gf [.rp ta xa, .rp tb xb]] [] (ownI L) [cellsI 3 .i64 L] := by
  refine AC_intro hT Tryz.func123 rfl rfl (Nat.le_of_ble_eq_true rfl) ?_
  refine WP.seq ?_
  refine WP.reg hT hE [] rfl ?_ ?_
  · first | trivial | (simp [holdsC, under, slOk, slB, capEq] <;> grind)
  refine WP.seq ?_
  refine WP.reg hT hE [⟨true, [], ownI L, [cellsI 3 .i64 L]⟩] rfl ?_ ?_
  · have ha := appendSeq2_ac gf ta tb xa xb v S M L hit hM1 hL
    simp [holdsC, under]
    exact ⟨trivial, ⟨fun _ _ => rfl, trivial⟩, ha⟩
  refine WP.ret ?_
  change Fin _ _ _ _ _ _ _ _
  refine fin_toB hT [] [.s 4 1] (ts := [(2, ownI L)]) (l := [ownI L]) trivial rfl ⟨⟨_, .own (.s 4 1) L.length 0 L.length none, rfl, conv_eq rfl, rfl, rfl⟩, trivial⟩ ⟨.inl ⟨_, cellsI 3 .i64 L, rfl, ?_, fun _ _ => rfl, rfl⟩, trivial⟩ rfl rfl
  exact ⟨_, _, rfl, Nat.le_refl _, Nat.zero_le _, Nat.zero_le _, fun i hi => conv_eq rfl⟩
def rvF (l : List Int) (i q : Nat) : Int := if q < i ∨ l.length - i ≤ q then l.getD (l.length - 1 - q) 0 else l.getD q 0
theorem put_nil (x y : AV) : x.put [] y = y := by cases x <;> rfl
theorem rv_mid {l : List Int} {i q : Nat} (h1 : i ≤ q) (h2 : q < l.length - i) : rvF l i q = l.getD q 0 := by
  unfold rvF; rw [if_neg (by omega)]
theorem rv_step {l : List Int} {i q : Nat} (hi : 2 * i + 1 < l.length) (hq : q < l.length) : (bif Nat.beq q (l.length - 1 - i) then AV.int (rvF l i i) else bif Nat.beq q i then AV.int (rvF l i (l.length - 1 - i)) else AV.int (rvF l i q)) = AV.int (rvF l (i + 1) q) := by
  rw [rv_mid (Nat.le_refl i) (by omega), rv_mid (by omega) (by omega)]
  by_cases e1 : q = l.length - 1 - i
  · rw [← e1, Nat.beq_refl, cond_true]
    unfold rvF
    rw [if_pos (by omega), show l.length - 1 - q = i by omega]
  · rw [nbeq_ne e1, cond_false]
    by_cases e2 : q = i
    · subst e2
      rw [Nat.beq_refl, cond_true]
      unfold rvF
      rw [if_pos (by omega)]
    · rw [nbeq_ne e2, cond_false]
      unfold rvF
      by_cases h : q < i ∨ l.length - i ≤ q
      · rw [if_pos h, if_pos (by omega)]
      · rw [if_neg h, if_neg (by omega)]
theorem rv_all {l : List Int} {i q : Nat} (hi : l.length ≤ 2 * i + 1) (hq : q < l.length) : rvF l i q = l.reverse.getD q 0 := by
  have : l.reverse.getD q 0 = l.getD (l.length - 1 - q) 0 := by
    simp only [List.getD_eq_getElem?_getD]
    rw [List.getElem?_reverse hq]
  rw [this]
  unfold rvF
  split
  · rfl
  · rw [show l.length - 1 - q = q by omega]
theorem reverse_ac (l : List Int) : AC Tryz.prog T tysN 125 [ownI l] [cellsI 3 .i64 l] (.tup []) [cellsI 3 .i64 l.reverse] := by
  refine AC_intro hT Tryz.func125 rfl rfl (Nat.le_of_ble_eq_true rfl) ?_
  refine WP.ownlen 0 rfl rfl rfl (fun hl => ?_)
  refine WP.seq ?_
  refine WP.reg hT hE [] rfl ?_ ?_
  · first | trivial | (simp [holdsC, under, slOk, slB, capEq] <;> grind)
  refine WP.block ?_
  refine WP.loop (α := Nat) (fun i => mkSt [(0, ownI l), (2, .int i), (3, .int ((l.length : Int) - 1 - i))] [(.b 0, .cells ⟨3, l.length, fun q => .int (rvF l i q), 0⟩)]) (fun i => 2 * i ≤ l.length + 1) (fun i => l.length - i) ?_ ?_
  · refine ⟨0, ?_, ?_⟩
    · exact Nat.zero_le _
    · refine Ent.mk hT [] trivial ⟨⟨rfl, _, rfl, by first | exact conv_eq rfl | (refine conv_eq ?_; rw [wrap_id (by omega) (by omega)]; simp; done) | (refine conv_eq ?_; simp; done)⟩, ⟨rfl, _, rfl, by first | exact conv_eq rfl | (refine conv_eq ?_; rw [wrap_id (by omega) (by omega)]; simp; done) | (refine conv_eq ?_; simp; done)⟩, ⟨rfl, _, rfl, conv_eq (by rw [wrap_id (by omega) (by omega)]; simp)⟩, trivial⟩ ⟨⟨fun _ _ => rfl, .inl ⟨_, rfl, _, _, rfl, Nat.le_refl _, Nat.zero_le _, Nat.zero_le _, fun q hq => conv_eq (by have hq' : q < l.length := hq; unfold rvF; rw [if_neg (by omega)])⟩⟩, trivial⟩ rfl
  · rintro i hi
    refine WP.seq ?_
    refine WP.seq ?_
    refine WP.reg hT hE [] rfl ?_ ?_
    · first | trivial | (simp [holdsC, under, slOk, slB, capEq] <;> grind)
    refine WP.cond rfl (fun h1 => ?_) (fun h1 => ?_)
    · have hij : (i : Int) < (l.length : Int) - 1 - i := by simpa using h1
      have hj : ((l.length : Int) - 1 - i).toNat = l.length - 1 - i := by omega
      refine WP.skip ?_
      refine WP.seq ?_
      refine WP.block ?_
      refine WP.drw hT hE hM [] rfl ?_ ?_
      · simp [holdsC, under]
        omega
      refine WP.reg hT hE [] rfl ?_ ?_
      · first | trivial | (simp [holdsC, under, slOk, slB, capEq] <;> grind)
      refine ⟨i + 1, ?_, ?_, ?_⟩
      · omega
      · refine Ent.mk hT [] trivial ⟨⟨rfl, _, rfl, by first | exact conv_eq rfl | (refine conv_eq ?_; rw [wrap_id (by omega) (by omega)]; simp; done) | (refine conv_eq ?_; simp; done)⟩, ⟨rfl, _, rfl, conv_eq (by rw [wrap_id (by omega) (by omega)]; rfl)⟩, ⟨rfl, _, rfl, conv_eq (by rw [wrap_id (by omega) (by omega)]; congr 2; omega)⟩, trivial⟩ ⟨⟨fun _ _ => rfl, .inl ⟨_, rfl, _, _, rfl, Nat.le_refl _, Nat.zero_le _, Nat.zero_le _, fun q hq => conv_eq (by have hq' : q < l.length := hq; have e := rv_step (l := l) (i := i) (by omega) hq'; rw [← hj] at e; refine Eq.trans ?_ e; simp only [put_nil, Nat.add_zero]; rfl)⟩⟩, trivial⟩ rfl
      · (try simp only []); first | omega | grind
    · have hij : ¬ (i : Int) < (l.length : Int) - 1 - i := by simpa using h1
      refine WP.exit ?_
      change Fin _ _ _ _ _ _ _ _
      refine fin_mk hT [] (ts := []) (l := []) trivial trivial ⟨ob_ints rfl rfl (by simp) rfl rfl (fun q hq => ?_), trivial⟩ rfl rfl rfl
      rw [List.length_reverse] at hq
      exact congrArg AV.int (rv_all (by omega) hq)
end Go.Ab


/- order.Past, order.Clocks. -/
set_option autoImplicit false
set_option maxRecDepth 20000
set_option linter.unusedSimpArgs false
set_option linter.unusedVariables false
namespace Go.Ab
open Go.Proofs
def pastI (t : List Evt) (j : Nat) : List Int := (pastL t j).map fun n : Nat => (n : Int)
theorem ask_at {t : List Evt} {i : Int} (h : askE t [i] = 0) : GoOK t ∧ 0 ≤ i ∧ i < t.length := by
  unfold askE at h
  by_cases h1 : chkE t ≠ 0
  · rw [if_pos h1] at h; exact absurd h h1
  · rw [if_neg h1] at h
    refine ⟨chk_right (by simpa using h1), ?_⟩
    simp at h
    omega
theorem past_has {t : List Evt} {j : Nat} (xs : List {i : Nat // i < j}) (h : xs.map (·.1) = pastL t j) : xs.map (fun x => (x.1 : Int)) = pastI t j := by
  rw [pastI, ← h, List.map_map]; rfl
theorem opast_ac (g : Bool) (t : List Evt) (i : Int) : AC Tryz.prog T tysN 78 [evts g t, .int i] [] (.tup [ints false (if askE t [i] = 0 then (pastI t i.toNat).reverse else []), .int (askE t [i])]) [] := by
  refine AC_intro hT Tryz.func78 rfl rfl (Nat.le_of_ble_eq_true rfl) ?_
  refine WP.seq ?_
  refine WP.reg hT hE [] rfl ?_ ?_
  · first | trivial | (simp [holdsC, under, slOk, slB, capEq] <;> grind)
  refine WP.seq ?_
  refine WP.reg hT hE [CG.pure (.tup [tabF t (askE t [i]), .int (askE t [i])])] rfl ?_ ?_
  · have ha := asked_ac g true t [i]
    simp [holdsC, under, CG.pure]
    refine AC.conv hT ha ?_
    exact ⟨_, _, rfl, conv_eq rfl, _, _, rfl, conv_rowL (fun h => h) (fun j hj => by match j, hj with | 0, _ => rfl), rfl⟩
  refine WP.seq ?_
  refine WP.seq ?_
  refine WP.reg hT hE [] rfl ?_ ?_
  · first | trivial | (simp [holdsC, under, slOk, slB, capEq] <;> grind)
  refine WP.cond rfl (fun h2 => ?_) (fun h2 => ?_)
  · have hbad : askE t [i] ≠ 0 := by simpa using h2
    refine WP.seq ?_
    refine WP.reg hT hE [] rfl ?_ ?_
    · first | trivial | (simp [holdsC, under, slOk, slB, capEq] <;> grind)
    refine WP.ret ?_
    change Fin _ _ _ _ _ _ _ _
    refine fin_mk hT [] (ts := [(4, ints false []), (5, .int (askE t [i]))]) (l := [ints false [], .int (askE t [i])]) trivial ⟨⟨rfl, _, rfl, conv_nil_row (by decide)⟩, ⟨rfl, _, rfl, conv_eq rfl⟩, trivial⟩ trivial rfl rfl ?_
    rw [if_neg hbad]; rfl
  · have hz : askE t [i] = 0 := by simpa using h2
    obtain ⟨hok, hi0, hi1⟩ := ask_at hz
    have h256 := hok.1
    have hii : ((i.toNat : Nat) : Int) = i := Int.toNat_of_nonneg hi0
    refine WP.skip ?_
    refine WP.seq ?_
    refine WP.ent (st' := mkSt [(1, .int i), (6, .ptr (.s 6 0) 1 0 []), (7, .int 0)] [(.s 6 0, .cells ⟨147, 1, fun _ => encTab t, 0⟩)]) ?_ ?_
    · refine Ent.mk hT [] trivial ⟨⟨rfl, _, rfl, by first | exact conv_eq rfl | (refine conv_eq ?_; rw [wrap_id (by omega) (by omega)]; simp; done) | (refine conv_eq ?_; simp; done)⟩, ⟨rfl, _, rfl, by first | exact conv_eq rfl | (refine conv_eq ?_; rw [wrap_id (by omega) (by omega)]; simp; done) | (refine conv_eq ?_; simp; done)⟩, ⟨rfl, _, rfl, conv_eq (by rw [hz])⟩, trivial⟩ ⟨⟨fun _ _ => okIds_agg (fun i hi => by match i, hi with | 0, _ | 1, _ => rfl), .inl ⟨_, rfl, _, _, rfl, Nat.le_refl _, Nat.zero_le _, Nat.zero_le _, fun q hq => by (obtain rfl : q = 0 := (by simp at hq; exact hq)); exact conv_eq (by show tabF t (askE t [i]) = _; rw [hz]; rfl)⟩⟩, trivial⟩ rfl
    refine WP.reg hT hE [CG.pure (.clo 168 [.rp 3 (.int i), .rp 147 (encTab t)]), ⟨true, [], ownI (pastI t i.toNat), [cellsI 3 .i64 (pastI t i.toNat)]⟩] rfl ?_ ?_
    · have hp := past_ac t i
      have hc := collect2_ac 168 3 147 (.int i) (encTab t) (fun x : {q : Nat // q < i.toNat} => (x.1 : Int)) (fun xs => xs.map (·.1) = pastL t i.toNat) i.toNat (pastI t i.toNat) (by have := pastIt t hok i.toNat (by omega); rw [hii] at this; exact this) (by omega) (past_has (t := t) (j := i.toNat))
      simp [holdsC, under, CG.pure]
      exact ⟨hp, trivial, ⟨fun _ _ => rfl, trivial⟩, hc⟩
    refine WP.seq ?_
    refine WP.reg hT hE [⟨true, [.s 22 1], .tup [], [cellsI 3 .i64 (pastI t i.toNat).reverse]⟩] rfl ?_ ?_
    · have hr := reverse_ac (pastI t i.toNat)
      simp [holdsC, under]
      exact ⟨⟨fun _ _ => rfl, trivial⟩, ⟨fun _ _ => rfl, trivial⟩, hr⟩
    refine WP.seq ?_
    refine WP.reg hT hE [] rfl ?_ ?_
    · first | trivial | (simp [holdsC, under, slOk, slB, capEq] <;> grind)
    refine WP.ret ?_
    change Fin _ _ _ _ _ _ _ _
    refine fin_mk hT [(.s 22 1, (pastI t i.toNat).length)] (ts := [(4, ints false (pastI t i.toNat).reverse), (5, .int 0)]) (l := [ints false (pastI t i.toNat).reverse, .int 0]) ⟨⟨_, rfl, by simp⟩, trivial⟩ ⟨⟨rfl, _, rfl, ?_⟩, ⟨rfl, _, rfl, conv_eq rfl⟩, trivial⟩ trivial rfl rfl ?_
    · rw [ints, List.length_reverse]
      exact conv_row rfl (by simp) rfl (fun h => by cases h) (by simp [lookF, idbeq_self]) (fun j hj => by rw [Nat.zero_add]; exact ⟨rfl, AEq.refl _⟩)
    · rw [if_pos hz, hz]; rfl
theorem oclocks_ac (g : Bool) (t : List Evt) : AC Tryz.prog T tysN 77 [evts g t] [] (.tup [clks false (if chkE t = 0 then clkTo t t.length else []), .int (chkE t)]) [] := by
  refine AC_intro hT Tryz.func77 rfl rfl (Nat.le_of_ble_eq_true rfl) ?_
  refine WP.seq ?_
  refine WP.reg hT hE [] rfl ?_ ?_
  · first | trivial | (simp [holdsC, under, slOk, slB, capEq] <;> grind)
  refine WP.seq ?_
  refine WP.reg hT hE [CG.pure (.tup [tabF t (chkE t), .int (chkE t)])] rfl ?_ ?_
  · have ha := asked_ac g false t []
    have e : askE t [] = chkE t := by unfold askE; split <;> simp_all
    rw [e] at ha
    simp [holdsC, under, CG.pure]
    refine AC.conv hT ha ?_
    exact ⟨_, _, rfl, conv_eq rfl, _, _, rfl, conv_nil_row (by decide), rfl⟩
  refine WP.seq ?_
  refine WP.reg hT hE [] rfl ?_ ?_
  · first | trivial | (simp [holdsC, under, slOk, slB, capEq] <;> grind)
  refine WP.ret ?_
  change Fin _ _ _ _ _ _ _ _
  refine fin_mk hT [] (ts := [(2, clks false (cE t (chkE t))), (3, .int (chkE t))]) (l := [clks false (cE t (chkE t)), .int (chkE t)]) trivial ⟨⟨rfl, _, rfl, conv_eq rfl⟩, ⟨rfl, _, rfl, conv_eq rfl⟩, trivial⟩ trivial rfl rfl rfl
end Go.Ab


/- Lists compared; ContainsFunc of whole numbers; pairs compared. -/
set_option autoImplicit false
set_option maxRecDepth 20000
set_option linter.unusedSimpArgs false
set_option linter.unusedVariables false
namespace Go.Ab
open Go.Proofs
def cmp1 (x y : Int) : Int := if x < y then -1 else if x > y then 1 else 0
def cmpL : List Int → List Int → Int
  | [], [] => 0
  | [], _ :: _ => -1
  | _ :: _, [] => 1
  | x :: r, y :: s => if cmp1 x y ≠ 0 then cmp1 x y else cmpL r s
theorem drop_at {l : List Int} {i : Nat} (h : i < l.length) : l.drop i = l.getD i 0 :: l.drop (i + 1) := by
  rw [List.drop_eq_getElem_cons h]
  simp [List.getD_eq_getElem?_getD, h]
theorem isnan_ac (x : Int) : AC Tryz.prog T tysN 156 [.int x] [] (.bool false) [] := by
  refine AC_intro hT Tryz.func156 rfl rfl (Nat.le_of_ble_eq_true rfl) ?_
  refine WP.seq ?_
  refine WP.reg hT hE [] rfl ?_ ?_
  · first | trivial | (simp [holdsC, under, slOk, slB, capEq] <;> grind)
  refine WP.seq ?_
  refine WP.reg hT hE [] rfl ?_ ?_
  · first | trivial | (simp [holdsC, under, slOk, slB, capEq] <;> grind)
  refine WP.ret ?_
  change Fin _ _ _ _ _ _ _ _
  exact fin1 hT (by rfl) (by simp)
theorem cmp1_ac (x y : Int) : AC Tryz.prog T tysN 107 [.int x, .int y] [] (.int (cmp1 x y)) [] := by
  refine AC_intro hT Tryz.func107 rfl rfl (Nat.le_of_ble_eq_true rfl) ?_
  refine WP.seq ?_
  refine WP.reg hT hE [] rfl ?_ ?_
  · first | trivial | (simp [holdsC, under, slOk, slB, capEq] <;> grind)
  refine WP.seq ?_
  refine WP.reg hT hE [CG.pure (.bool false)] rfl ?_ ?_
  · exact isnan_ac x
  refine WP.seq ?_
  refine WP.reg hT hE [CG.pure (.bool false)] rfl ?_ ?_
  · exact isnan_ac y
  refine WP.seq ?_
  refine WP.seq ?_
  refine WP.reg hT hE [] rfl ?_ ?_
  · first | trivial | (simp [holdsC, under, slOk, slB, capEq] <;> grind)
  refine WP.cond rfl (fun h3 => ?_) (fun h3 => ?_)
  · cases h3
  · refine WP.skip ?_
    refine WP.seq ?_
    refine WP.seq ?_
    refine WP.reg hT hE [] rfl ?_ ?_
    · first | trivial | (simp [holdsC, under, slOk, slB, capEq] <;> grind)
    refine WP.cond rfl (fun h7 => ?_) (fun h7 => ?_)
    · cases h7
    · refine WP.skip ?_
      refine WP.seq ?_
      refine WP.seq ?_
      refine WP.reg hT hE [] rfl ?_ ?_
      · first | trivial | (simp [holdsC, under, slOk, slB, capEq] <;> grind)
      refine WP.cond rfl (fun h9 => ?_) (fun h9 => ?_)
      · refine WP.seq ?_
        refine WP.reg hT hE [] rfl ?_ ?_
        · first | trivial | (simp [holdsC, under, slOk, slB, capEq] <;> grind)
        refine WP.ret ?_
        change Fin _ _ _ _ _ _ _ _
        refine finI hT (by rfl) ?_
        simp_all [cmp1]
        all_goals (try grind)
      · refine WP.skip ?_
        refine WP.seq ?_
        refine WP.seq ?_
        refine WP.reg hT hE [] rfl ?_ ?_
        · first | trivial | (simp [holdsC, under, slOk, slB, capEq] <;> grind)
        refine WP.cond rfl (fun h11 => ?_) (fun h11 => ?_)
        · refine WP.seq ?_
          refine WP.reg hT hE [] rfl ?_ ?_
          · first | trivial | (simp [holdsC, under, slOk, slB, capEq] <;> grind)
          refine WP.ret ?_
          change Fin _ _ _ _ _ _ _ _
          refine finI hT (by rfl) ?_
          simp_all [cmp1]
          all_goals (try grind)
        · refine WP.skip ?_
          refine WP.seq ?_
          refine WP.reg hT hE [] rfl ?_ ?_
          · first | trivial | (simp [holdsC, under, slOk, slB, capEq] <;> grind)
          refine WP.ret ?_
          change Fin _ _ _ _ _ _ _ _
          refine finI hT (by rfl) ?_
          simp_all [cmp1]
          all_goals (try grind)
theorem cmpL_ac (f g : Bool) (a b : List Int) : AC Tryz.prog T tysN 63 [ints f a, ints g b] [] (.int (cmpL a b)) [] := by
  refine AC_intro hT Tryz.func63 rfl rfl (Nat.le_of_ble_eq_true rfl) ?_
  refine WP.rowlen 0 rfl (fun hla => ?_)
  refine WP.rowlen 1 rfl (fun hlb => ?_)
  refine WP.seq ?_
  refine WP.reg hT hE [] rfl ?_ ?_
  · first | trivial | (simp [holdsC, under, slOk, slB, capEq] <;> grind)
  refine WP.seq ?_
  refine WP.seq ?_
  refine WP.reg hT hE [] rfl ?_ ?_
  · first | trivial | (simp [holdsC, under, slOk, slB, capEq] <;> grind)
  refine WP.block ?_
  refine WP.loop (α := Nat) (fun i => mkSt [(0, ints f a), (1, ints g b), (9, ints f a), (10, .int a.length), (11, .int i)] []) (fun i => i ≤ a.length ∧ i ≤ b.length ∧ cmpL a b = cmpL (a.drop i) (b.drop i)) (fun i => a.length - i) ?_ ?_
  · refine ⟨0, ?_, ?_⟩
    · exact ⟨Nat.zero_le _, Nat.zero_le _, rfl⟩
    · refine Ent.mk hT [] trivial ⟨⟨rfl, _, rfl, by first | exact conv_eq rfl | (refine conv_eq ?_; rw [wrap_id (by omega) (by omega)]; simp; done) | (refine conv_eq ?_; simp; done)⟩, ⟨rfl, _, rfl, by first | exact conv_eq rfl | (refine conv_eq ?_; rw [wrap_id (by omega) (by omega)]; simp; done) | (refine conv_eq ?_; simp; done)⟩, ⟨rfl, _, rfl, by first | exact conv_eq rfl | (refine conv_eq ?_; rw [wrap_id (by omega) (by omega)]; simp; done) | (refine conv_eq ?_; simp; done)⟩, ⟨rfl, _, rfl, by first | exact conv_eq rfl | (refine conv_eq ?_; rw [wrap_id (by omega) (by omega)]; simp; done) | (refine conv_eq ?_; simp; done)⟩, ⟨rfl, _, rfl, by first | exact conv_eq rfl | (refine conv_eq ?_; rw [wrap_id (by omega) (by omega)]; simp; done) | (refine conv_eq ?_; simp; done)⟩, trivial⟩ trivial rfl
  · rintro i ⟨hi, hib, hc⟩
    refine WP.seq ?_
    refine WP.reg hT hE [] rfl ?_ ?_
    · first | trivial | (simp [holdsC, under, slOk, slB, capEq] <;> grind)
    refine WP.seq ?_
    refine WP.cond rfl (fun h2 => ?_) (fun h2 => ?_)
    · have hil : i < a.length := by simpa using h2
      refine WP.skip ?_
      refine WP.seq ?_
      refine WP.block ?_
      refine WP.seq ?_
      refine WP.reg hT hE [] rfl ?_ ?_
      · simp [holdsC, under]; omega
      refine WP.seq ?_
      refine WP.seq ?_
      refine WP.reg hT hE [] rfl ?_ ?_
      · first | trivial | (simp [holdsC, under, slOk, slB, capEq] <;> grind)
      refine WP.cond rfl (fun h4 => ?_) (fun h4 => ?_)
      · have hb : b.length ≤ i := by simp at h4; omega
        refine WP.seq ?_
        refine WP.reg hT hE [] rfl ?_ ?_
        · first | trivial | (simp [holdsC, under, slOk, slB, capEq] <;> grind)
        refine WP.ret ?_
        change Fin _ _ _ _ _ _ _ _
        refine finI hT (by rfl) ?_
        rw [hc, drop_at hil, List.drop_eq_nil_of_le hb]
        rfl
      · have hb : i < b.length := by simp at h4; omega
        refine WP.skip ?_
        refine WP.seq ?_
        refine WP.reg hT hE [] rfl ?_ ?_
        · simp [holdsC, under]; omega
        refine WP.seq ?_
        refine WP.reg hT hE [CG.pure (.int (cmp1 (a.getD i 0) (b.getD i 0)))] rfl ?_ ?_
        · exact cmp1_ac _ _
        refine WP.seq ?_
        have hst : cmpL a b = if cmp1 (a.getD i 0) (b.getD i 0) ≠ 0 then cmp1 (a.getD i 0) (b.getD i 0) else cmpL (a.drop (i + 1)) (b.drop (i + 1)) := by rw [hc, drop_at hil, drop_at hb]; rfl
        refine WP.reg hT hE [] rfl ?_ ?_
        · first | trivial | (simp [holdsC, under, slOk, slB, capEq] <;> grind)
        refine WP.cond rfl (fun h8 => ?_) (fun h8 => ?_)
        · have hne : cmp1 (a.getD i 0) (b.getD i 0) ≠ 0 := by simpa using h8
          refine WP.seq ?_
          refine WP.reg hT hE [] rfl ?_ ?_
          · first | trivial | (simp [holdsC, under, slOk, slB, capEq] <;> grind)
          refine WP.ret ?_
          change Fin _ _ _ _ _ _ _ _
          refine finI hT (by rfl) ?_
          rw [hst, if_pos hne]
        · have hne : cmp1 (a.getD i 0) (b.getD i 0) = 0 := by simpa using h8
          refine WP.skip ?_
          refine WP.reg hT hE [] rfl ?_ ?_
          · first | trivial | (simp [holdsC, under, slOk, slB, capEq] <;> grind)
          refine ⟨i + 1, ?_, ?_, ?_⟩
          · exact ⟨hil, hb, by rw [hst, if_neg (fun h => h hne)]⟩
          · refine Ent.mk hT [] trivial ⟨⟨rfl, _, rfl, by first | exact conv_eq rfl | (refine conv_eq ?_; rw [wrap_id (by omega) (by omega)]; simp; done) | (refine conv_eq ?_; simp; done)⟩, ⟨rfl, _, rfl, by first | exact conv_eq rfl | (refine conv_eq ?_; rw [wrap_id (by omega) (by omega)]; simp; done) | (refine conv_eq ?_; simp; done)⟩, ⟨rfl, _, rfl, by first | exact conv_eq rfl | (refine conv_eq ?_; rw [wrap_id (by omega) (by omega)]; simp; done) | (refine conv_eq ?_; simp; done)⟩, ⟨rfl, _, rfl, by first | exact conv_eq rfl | (refine conv_eq ?_; rw [wrap_id (by omega) (by omega)]; simp; done) | (refine conv_eq ?_; simp; done)⟩, ⟨rfl, _, rfl, by first | exact conv_eq rfl | (refine conv_eq ?_; rw [wrap_id (by omega) (by omega)]; simp; done) | (refine conv_eq ?_; simp; done)⟩, trivial⟩ trivial rfl
          · (try simp only []); first | omega | grind
    · have hil : i = a.length := by simp at h2; omega
      subst hil
      refine WP.exit ?_
      refine WP.seq ?_
      refine WP.seq ?_
      refine WP.reg hT hE [] rfl ?_ ?_
      · first | trivial | (simp [holdsC, under, slOk, slB, capEq] <;> grind)
      refine WP.cond rfl (fun h11 => ?_) (fun h11 => ?_)
      · have hlt : a.length < b.length := by simp at h11; omega
        refine WP.seq ?_
        refine WP.reg hT hE [] rfl ?_ ?_
        · first | trivial | (simp [holdsC, under, slOk, slB, capEq] <;> grind)
        refine WP.ret ?_
        change Fin _ _ _ _ _ _ _ _
        refine finI hT (by rfl) ?_
        rw [hc, List.drop_eq_nil_of_le (Nat.le_refl _), drop_at hlt]
        rfl
      · have hlt : ¬ a.length < b.length := by simp at h11; omega
        refine WP.skip ?_
        refine WP.seq ?_
        refine WP.reg hT hE [] rfl ?_ ?_
        · first | trivial | (simp [holdsC, under, slOk, slB, capEq] <;> grind)
        refine WP.ret ?_
        change Fin _ _ _ _ _ _ _ _
        refine finI hT (by rfl) ?_
        rw [hc, List.drop_eq_nil_of_le (Nat.le_refl _), List.drop_eq_nil_of_le (by omega)]
        rfl
/-- A pair. -/
abbrev Pr := Int × Int
def enc2 (p : Pr) : AV := arrI 75 2 .i64 [p.1, p.2]
def cmp2 (p q : Pr) : Int := cmpL [p.1, p.2] [q.1, q.2]
theorem noIds_2 (p : Pr) : noIds (enc2 p) = true := noIds_arrI
theorem okIds_2 (ids : List Id) (p : Pr) : okIds ids (enc2 p) = true := okIds_agg (fun _ _ => rfl)
theorem ren_2 (σ : Id → Id) (p : Pr) : ren σ (enc2 p) = enc2 p := rfl
def prs (f : Bool) (l : List Pr) : AV := .row 75 f l.length (fun i => enc2 (l.getD i (0, 0)))
theorem edgeCmp_ac (p q : Pr) : AC Tryz.prog T tysN 136 [enc2 p, enc2 q] [] (.int (cmp2 p q)) [] := by
  refine AC_intro hT Tryz.func136 rfl rfl (Nat.le_of_ble_eq_true rfl) ?_
  refine WP.seq ?_
  refine WP.reg hT hE [] rfl ?_ ?_
  · first | trivial | (simp [holdsC, under, slOk, slB, capEq] <;> grind)
  refine WP.seq ?_
  refine WP.ent (st' := mkSt [(2, .rp 75 (enc2 p)), (3, .rp 75 (enc2 q))] []) ?_ ?_
  · refine Ent.mk hT [(.s 2 0, 1), (.s 3 0, 1)] ⟨⟨_, rfl, Nat.le_refl _⟩, ⟨_, rfl, Nat.le_refl _⟩, trivial⟩ ⟨⟨rfl, _, rfl, conv_rpe rfl rfl (by decide) rfl rfl (noIds_2 _)⟩, ⟨rfl, _, rfl, conv_rpe rfl rfl (by decide) rfl rfl (noIds_2 _)⟩, trivial⟩ trivial rfl
  refine WP.drw hT hE hM [CG.pure (.int (cmp2 p q))] rfl ?_ ?_
  · have hc := cmpL_ac true true [p.1, p.2] [q.1, q.2]
    simp [holdsC, under, CG.pure, slOk, slB, capEq]
    refine AC.conv hT hc ?_
    exact ⟨_, _, rfl, conv_rowL (fun h => h) (fun j hj => by match j, hj with | 0, _ => rfl | 1, _ => rfl), _, _, rfl, conv_rowL (fun h => h) (fun j hj => by match j, hj with | 0, _ => rfl | 1, _ => rfl), rfl⟩
  refine WP.ret ?_
  change Fin _ _ _ _ _ _ _ _
  exact finI hT rfl rfl
theorem confCmp_ac (p q : Pr) : AC Tryz.prog T tysN 62 [enc2 p, enc2 q] [] (.int (cmp2 p q)) [] := by
  refine AC_intro hT Tryz.func62 rfl rfl (Nat.le_of_ble_eq_true rfl) ?_
  refine WP.seq ?_
  refine WP.reg hT hE [] rfl ?_ ?_
  · first | trivial | (simp [holdsC, under, slOk, slB, capEq] <;> grind)
  refine WP.seq ?_
  refine WP.ent (st' := mkSt [(2, .rp 75 (enc2 p)), (3, .rp 75 (enc2 q))] []) ?_ ?_
  · refine Ent.mk hT [(.s 2 0, 1), (.s 3 0, 1)] ⟨⟨_, rfl, Nat.le_refl _⟩, ⟨_, rfl, Nat.le_refl _⟩, trivial⟩ ⟨⟨rfl, _, rfl, conv_rpe rfl rfl (by decide) rfl rfl (noIds_2 _)⟩, ⟨rfl, _, rfl, conv_rpe rfl rfl (by decide) rfl rfl (noIds_2 _)⟩, trivial⟩ trivial rfl
  refine WP.drw hT hE hM [CG.pure (.int (cmp2 p q))] rfl ?_ ?_
  · have hc := cmpL_ac true true [p.1, p.2] [q.1, q.2]
    simp [holdsC, under, CG.pure, slOk, slB, capEq]
    refine AC.conv hT hc ?_
    exact ⟨_, _, rfl, conv_rowL (fun h => h) (fun j hj => by match j, hj with | 0, _ => rfl | 1, _ => rfl), _, _, rfl, conv_rowL (fun h => h) (fun j hj => by match j, hj with | 0, _ => rfl | 1, _ => rfl), rfl⟩
  refine WP.ret ?_
  change Fin _ _ _ _ _ _ _ _
  exact finI hT rfl rfl
def firstI (p : Int → Bool) (l : List Int) : Int := if l.any p then l.findIdx p else -1
theorem anyI_no {p : Int → Bool} {l : List Int} (hn : ∀ j, j < l.length → p (l.getD j 0) = false) : l.any p = false := by
  rw [List.any_eq_false]
  intro x hx
  obtain ⟨i, hi, e⟩ := List.getElem_of_mem hx
  have := hn i hi
  simpa [hi, e] using this
theorem anyI_yes {p : Int → Bool} {l : List Int} {i : Nat} (hi : i < l.length) (hp : p (l.getD i 0) = true) : l.any p = true := by
  rw [List.any_eq_true]
  exact ⟨l[i], List.getElem_mem hi, by simpa [hi] using hp⟩
theorem firstI_at {p : Int → Bool} {l : List Int} {i : Nat} (hi : i < l.length) (hp : p (l.getD i 0) = true) (hn : ∀ j, j < i → p (l.getD j 0) = false) : (i : Int) = firstI p l := by
  simp only [firstI, anyI_yes hi hp, if_true]
  congr 1
  symm
  rw [List.findIdx_eq hi]
  refine ⟨by simpa [hi] using hp, fun j hj => ?_⟩
  have := hn j hj
  have hj' : j < l.length := by omega
  simpa [hj'] using this
theorem iidx1_ac (g : Bool) (l : List Int) (f : FuncId) (ta : Nat) (xa : AV) (p : Int → Bool) (hp : ∀ x ∈ l, AC Tryz.prog T tysN f (.int x :: [.rp ta xa]) [] (.bool (p x)) []) : AC Tryz.prog T tysN 129 [ints g l, .clo f [.rp ta xa]] [] (.int (firstI p l)) [] := by
  refine AC_intro hT Tryz.func129 rfl rfl (Nat.le_of_ble_eq_true rfl) ?_
  refine WP.rowlen 0 rfl (fun hl => ?_)
  refine WP.seq ?_
  refine WP.reg hT hE [] rfl ?_ ?_
  · first | trivial | (simp [holdsC, under, slOk, slB, capEq] <;> grind)
  refine WP.seq ?_
  refine WP.seq ?_
  refine WP.reg hT hE [] rfl ?_ ?_
  · first | trivial | (simp [holdsC, under, slOk, slB, capEq] <;> grind)
  refine WP.block ?_
  refine WP.loop (α := Nat) (fun i => mkSt [(0, ints g l), (1, .clo f [.rp ta xa]), (7, .int l.length), (8, .int i)] []) (fun i => i ≤ l.length ∧ ∀ j, j < i → p (l.getD j 0) = false) (fun i => l.length - i) ?_ ?_
  · refine ⟨0, ?_, ?_⟩
    · exact ⟨Nat.zero_le _, fun j hj => by omega⟩
    · refine Ent.mk hT [] trivial ⟨⟨rfl, _, rfl, by first | exact conv_eq rfl | (refine conv_eq ?_; rw [wrap_id (by omega) (by omega)]; simp; done) | (refine conv_eq ?_; simp; done)⟩, ⟨rfl, _, rfl, by first | exact conv_eq rfl | (refine conv_eq ?_; rw [wrap_id (by omega) (by omega)]; simp; done) | (refine conv_eq ?_; simp; done)⟩, ⟨rfl, _, rfl, by first | exact conv_eq rfl | (refine conv_eq ?_; rw [wrap_id (by omega) (by omega)]; simp; done) | (refine conv_eq ?_; simp; done)⟩, ⟨rfl, _, rfl, by first | exact conv_eq rfl | (refine conv_eq ?_; rw [wrap_id (by omega) (by omega)]; simp; done) | (refine conv_eq ?_; simp; done)⟩, trivial⟩ trivial rfl
  · rintro i ⟨hi, hn⟩
    refine WP.seq ?_
    refine WP.reg hT hE [] rfl ?_ ?_
    · first | trivial | (simp [holdsC, under, slOk, slB, capEq] <;> grind)
    refine WP.seq ?_
    refine WP.cond rfl (fun h2 => ?_) (fun h2 => ?_)
    · have hil : i < l.length := by simpa using h2
      refine WP.skip ?_
      refine WP.seq ?_
      refine WP.block ?_
      refine WP.seq ?_
      refine WP.reg hT hE [] rfl ?_ ?_
      · first | trivial | (simp [holdsC, under, slOk, slB, capEq] <;> grind)
      refine WP.seq ?_
      refine WP.reg hT hE [CG.pure (.bool (p (l.getD i 0)))] rfl ?_ ?_
      · exact ⟨⟨by omega, by omega⟩, hp _ (by simp [List.getD_eq_getElem?_getD, hil])⟩
      refine WP.cond rfl (fun h4 => ?_) (fun h4 => ?_)
      · have hx : p (l.getD i 0) = true := h4
        refine WP.seq ?_
        refine WP.reg hT hE [] rfl ?_ ?_
        · first | trivial | (simp [holdsC, under, slOk, slB, capEq] <;> grind)
        refine WP.ret ?_
        change Fin _ _ _ _ _ _ _ _
        exact finI hT rfl (firstI_at hil hx hn)
      · have hx : p (l.getD i 0) = false := h4
        refine WP.skip ?_
        refine WP.reg hT hE [] rfl ?_ ?_
        · first | trivial | (simp [holdsC, under, slOk, slB, capEq] <;> grind)
        refine ⟨i + 1, ?_, ?_, ?_⟩
        · refine ⟨hil, fun j hj => ?_⟩
          rcases Nat.lt_or_ge j i with h | h
          · exact hn j h
          · obtain rfl : j = i := by omega
            exact hx
        · refine Ent.mk hT [] trivial ⟨⟨rfl, _, rfl, by first | exact conv_eq rfl | (refine conv_eq ?_; rw [wrap_id (by omega) (by omega)]; simp; done) | (refine conv_eq ?_; simp; done)⟩, ⟨rfl, _, rfl, by first | exact conv_eq rfl | (refine conv_eq ?_; rw [wrap_id (by omega) (by omega)]; simp; done) | (refine conv_eq ?_; simp; done)⟩, ⟨rfl, _, rfl, by first | exact conv_eq rfl | (refine conv_eq ?_; rw [wrap_id (by omega) (by omega)]; simp; done) | (refine conv_eq ?_; simp; done)⟩, ⟨rfl, _, rfl, by first | exact conv_eq rfl | (refine conv_eq ?_; rw [wrap_id (by omega) (by omega)]; simp; done) | (refine conv_eq ?_; simp; done)⟩, trivial⟩ trivial rfl
        · (try simp only []); first | omega | grind
    · have hil : i = l.length := by simp at h2; omega
      subst hil
      refine WP.exit ?_
      refine WP.seq ?_
      refine WP.reg hT hE [] rfl ?_ ?_
      · first | trivial | (simp [holdsC, under, slOk, slB, capEq] <;> grind)
      refine WP.ret ?_
      change Fin _ _ _ _ _ _ _ _
      exact finI hT rfl (by simp [firstI, anyI_no hn])
theorem icont1_ac (g : Bool) (l : List Int) (f : FuncId) (ta : Nat) (xa : AV) (p : Int → Bool) (hp : ∀ x ∈ l, AC Tryz.prog T tysN f (.int x :: [.rp ta xa]) [] (.bool (p x)) []) : AC Tryz.prog T tysN 119 [ints g l, .clo f [.rp ta xa]] [] (.bool (l.any p)) [] := by
  refine AC_intro hT Tryz.func119 rfl rfl (Nat.le_of_ble_eq_true rfl) ?_
  refine WP.seq ?_
  refine WP.reg hT hE [] rfl ?_ ?_
  · first | trivial | (simp [holdsC, under, slOk, slB, capEq] <;> grind)
  refine WP.seq ?_
  refine WP.reg hT hE [CG.pure (.int (firstI p l))] rfl ?_ ?_
  · exact iidx1_ac g l f ta xa p hp
  refine WP.ret ?_
  change Fin _ _ _ _ _ _ _ _
  refine fin1 hT rfl ?_
  by_cases h : l.any p = true
  · simp only [firstI, h, if_true]; simp
  · simp only [firstI, h]; simp
theorem iidx2_ac (g : Bool) (l : List Int) (f : FuncId) (ta tb : Nat) (xa xb : AV) (p : Int → Bool) (hp : ∀ x ∈ l, AC Tryz.prog T tysN f (.int x :: [.rp ta xa, .rp tb xb]) [] (.bool (p x)) []) : AC Tryz.prog T tysN 129 [ints g l, .clo f [.rp ta xa, .rp tb xb]] [] (.int (firstI p l)) [] := by
  refine AC_intro hT Tryz.func129 rfl rfl (Nat.le_of_ble_eq_true rfl) ?_
  refine WP.rowlen 0 rfl (fun hl => ?_)
  refine WP.seq ?_
  refine WP.reg hT hE [] rfl ?_ ?_
  · first | trivial | (simp [holdsC, under, slOk, slB, capEq] <;> grind)
  refine WP.seq ?_
  refine WP.seq ?_
  refine WP.reg hT hE [] rfl ?_ ?_
  · first | trivial | (simp [holdsC, under, slOk, slB, capEq] <;> grind)
  refine WP.block ?_
  refine WP.loop (α := Nat) (fun i => mkSt [(0, ints g l), (1, .clo f [.rp ta xa, .rp tb xb]), (7, .int l.length), (8, .int i)] []) (fun i => i ≤ l.length ∧ ∀ j, j < i → p (l.getD j 0) = false) (fun i => l.length - i) ?_ ?_
  · refine ⟨0, ?_, ?_⟩
    · exact ⟨Nat.zero_le _, fun j hj => by omega⟩
    · refine Ent.mk hT [] trivial ⟨⟨rfl, _, rfl, by first | exact conv_eq rfl | (refine conv_eq ?_; rw [wrap_id (by omega) (by omega)]; simp; done) | (refine conv_eq ?_; simp; done)⟩, ⟨rfl, _, rfl, by first | exact conv_eq rfl | (refine conv_eq ?_; rw [wrap_id (by omega) (by omega)]; simp; done) | (refine conv_eq ?_; simp; done)⟩, ⟨rfl, _, rfl, by first | exact conv_eq rfl | (refine conv_eq ?_; rw [wrap_id (by omega) (by omega)]; simp; done) | (refine conv_eq ?_; simp; done)⟩, ⟨rfl, _, rfl, by first | exact conv_eq rfl | (refine conv_eq ?_; rw [wrap_id (by omega) (by omega)]; simp; done) | (refine conv_eq ?_; simp; done)⟩, trivial⟩ trivial rfl
  · rintro i ⟨hi, hn⟩
    refine WP.seq ?_
    refine WP.reg hT hE [] rfl ?_ ?_
    · first | trivial | (simp [holdsC, under, slOk, slB, capEq] <;> grind)
    refine WP.seq ?_
    refine WP.cond rfl (fun h2 => ?_) (fun h2 => ?_)
    · have hil : i < l.length := by simpa using h2
      refine WP.skip ?_
      refine WP.seq ?_
      refine WP.block ?_
      refine WP.seq ?_
      refine WP.reg hT hE [] rfl ?_ ?_
      · first | trivial | (simp [holdsC, under, slOk, slB, capEq] <;> grind)
      refine WP.seq ?_
      refine WP.reg hT hE [CG.pure (.bool (p (l.getD i 0)))] rfl ?_ ?_
      · exact ⟨⟨by omega, by omega⟩, hp _ (by simp [List.getD_eq_getElem?_getD, hil])⟩
      refine WP.cond rfl (fun h4 => ?_) (fun h4 => ?_)
      · have hx : p (l.getD i 0) = true := h4
        refine WP.seq ?_
        refine WP.reg hT hE [] rfl ?_ ?_
        · first | trivial | (simp [holdsC, under, slOk, slB, capEq] <;> grind)
        refine WP.ret ?_
        change Fin _ _ _ _ _ _ _ _
        exact finI hT rfl (firstI_at hil hx hn)
      · have hx : p (l.getD i 0) = false := h4
        refine WP.skip ?_
        refine WP.reg hT hE [] rfl ?_ ?_
        · first | trivial | (simp [holdsC, under, slOk, slB, capEq] <;> grind)
        refine ⟨i + 1, ?_, ?_, ?_⟩
        · refine ⟨hil, fun j hj => ?_⟩
          rcases Nat.lt_or_ge j i with h | h
          · exact hn j h
          · obtain rfl : j = i := by omega
            exact hx
        · refine Ent.mk hT [] trivial ⟨⟨rfl, _, rfl, by first | exact conv_eq rfl | (refine conv_eq ?_; rw [wrap_id (by omega) (by omega)]; simp; done) | (refine conv_eq ?_; simp; done)⟩, ⟨rfl, _, rfl, by first | exact conv_eq rfl | (refine conv_eq ?_; rw [wrap_id (by omega) (by omega)]; simp; done) | (refine conv_eq ?_; simp; done)⟩, ⟨rfl, _, rfl, by first | exact conv_eq rfl | (refine conv_eq ?_; rw [wrap_id (by omega) (by omega)]; simp; done) | (refine conv_eq ?_; simp; done)⟩, ⟨rfl, _, rfl, by first | exact conv_eq rfl | (refine conv_eq ?_; rw [wrap_id (by omega) (by omega)]; simp; done) | (refine conv_eq ?_; simp; done)⟩, trivial⟩ trivial rfl
        · (try simp only []); first | omega | grind
    · have hil : i = l.length := by simp at h2; omega
      subst hil
      refine WP.exit ?_
      refine WP.seq ?_
      refine WP.reg hT hE [] rfl ?_ ?_
      · first | trivial | (simp [holdsC, under, slOk, slB, capEq] <;> grind)
      refine WP.ret ?_
      change Fin _ _ _ _ _ _ _ _
      exact finI hT rfl (by simp [firstI, anyI_no hn])
theorem icont2_ac (g : Bool) (l : List Int) (f : FuncId) (ta tb : Nat) (xa xb : AV) (p : Int → Bool) (hp : ∀ x ∈ l, AC Tryz.prog T tysN f (.int x :: [.rp ta xa, .rp tb xb]) [] (.bool (p x)) []) : AC Tryz.prog T tysN 119 [ints g l, .clo f [.rp ta xa, .rp tb xb]] [] (.bool (l.any p)) [] := by
  refine AC_intro hT Tryz.func119 rfl rfl (Nat.le_of_ble_eq_true rfl) ?_
  refine WP.seq ?_
  refine WP.reg hT hE [] rfl ?_ ?_
  · first | trivial | (simp [holdsC, under, slOk, slB, capEq] <;> grind)
  refine WP.seq ?_
  refine WP.reg hT hE [CG.pure (.int (firstI p l))] rfl ?_ ?_
  · exact iidx2_ac g l f ta tb xa xb p hp
  refine WP.ret ?_
  change Fin _ _ _ _ _ _ _ _
  refine fin1 hT rfl ?_
  by_cases h : l.any p = true
  · simp only [firstI, h, if_true]; simp
  · simp only [firstI, h]; simp
theorem nearF_ac (t : List Evt) (h : GoOK t) (i k : Nat) (hi : i < t.length) (hk : k < t.length) : AC Tryz.prog T tysN 135 [.int k, .rp 147 (encTab t), .rp 3 (.int i)] [] (.bool (befB t i k)) [] := by
  refine AC_intro hT Tryz.func135 rfl rfl (Nat.le_of_ble_eq_true rfl) ?_
  refine WP.seq ?_
  refine WP.reg hT hE [] rfl ?_ ?_
  · first | trivial | (simp [holdsC, under, slOk, slB, capEq] <;> grind)
  refine WP.seq ?_
  refine WP.reg hT hE [CG.pure (.bool (befB t i k))] rfl ?_ ?_
  · have hb := before_ac t h i k hi hk
    simp [holdsC, under, CG.pure]
    exact hb
  refine WP.ret ?_
  change Fin _ _ _ _ _ _ _ _
  exact fin1 hT rfl rfl
end Go.Ab


/- Sizes; selects. -/
set_option autoImplicit false
set_option maxRecDepth 20000
set_option maxHeartbeats 4000000
set_option linter.unusedSimpArgs false
set_option linter.unusedVariables false
namespace Go.Ab
open Go.Proofs
/-- The first thing that is wrong. -/
def fstE {α : Type} (g : α → Int) : List α → Int
  | [] => 0
  | x :: r => if g x ≠ 0 then g x else fstE g r
theorem fstE_at {α : Type} {g : α → Int} {d : α} : ∀ {l : List α} {i : Nat}, i < l.length → (∀ j, j < i → g (l.getD j d) = 0) → g (l.getD i d) ≠ 0 → fstE g l = g (l.getD i d)
  | x :: r, 0, _, _, hb => by
    have hb' : g x ≠ 0 := hb
    rw [fstE, if_pos hb']; rfl
  | x :: r, i + 1, hi, hn, hb => by
    have h0 := hn 0 (by omega)
    rw [fstE, if_neg (by simpa using h0)]
    exact fstE_at (l := r) (i := i) (by simpa using hi) (fun j hj => hn (j + 1) (by omega)) hb
theorem fstE_all {α : Type} {g : α → Int} {d : α} : ∀ {l : List α}, (∀ j, j < l.length → g (l.getD j d) = 0) → fstE g l = 0
  | [], _ => rfl
  | x :: r, hn => by
    have h0 := hn 0 (by simp)
    rw [fstE, if_neg (by simpa using h0)]
    exact fstE_all (l := r) (fun j hj => hn (j + 1) (by simpa using hj))
def szB (p : PProg) : Bool := decide ((p.vars.length : Int) > 8) || decide (p.locks < 0) || decide (p.locks > 4) || decide ((p.chans.length : Int) > 4) || decide ((p.funcs.length : Int) < 1) || decide ((p.funcs.length : Int) > 8)
def chanF (n : Int) : Int := if decide (n < 0) || decide (n > 4) then 31 else 0
def wholeF (p : PProg) : Int := if szB p then 30 else fstE chanF p.chans
theorem below_succ {P : Nat → Prop} {i : Nat} (h : ∀ j, j < i → P j) (hi : P i) : ∀ j, j < i + 1 → P j := fun j hj => by
  rcases Nat.lt_or_ge j i with h1 | h1
  · exact h j h1
  · obtain rfl : j = i := by omega
    exact hi
theorem whole_ac (p : PProg) : AC Tryz.prog T tysN 131 [encProg p] [] (.int (wholeF p)) [] := by
  refine AC_intro hT Tryz.func131 rfl rfl (Nat.le_of_ble_eq_true rfl) ?_
  refine WP.seq ?_
  refine WP.reg hT hE [] rfl ?_ ?_
  · first | trivial | (simp [holdsC, under, slOk, slB, capEq] <;> grind)
  refine WP.seq ?_
  refine WP.seq ?_
  refine WP.reg hT hE [] rfl ?_ ?_
  · first | trivial | (simp [holdsC, under, slOk, slB, capEq] <;> grind)
  refine WP.cond rfl (fun h1 => ?_) (fun h1 => ?_)
  · have hb : szB p = true := by
      simp only [bor] at h1
      exact h1
    refine WP.seq ?_
    refine WP.reg hT hE [] rfl ?_ ?_
    · first | trivial | (simp [holdsC, under, slOk, slB, capEq] <;> grind)
    refine WP.ret ?_
    change Fin _ _ _ _ _ _ _ _
    exact finI hT (by rfl) (by rw [wholeF, if_pos hb])
  · have hb : szB p = false := by
      simp only [bor] at h1
      exact h1
    have hcl : p.chans.length ≤ 4 := by
      simp [szB] at hb; omega
    refine WP.skip ?_
    refine WP.seq ?_
    refine WP.seq ?_
    refine WP.reg hT hE [] rfl ?_ ?_
    · first | trivial | (simp [holdsC, under, slOk, slB, capEq] <;> grind)
    refine WP.block ?_
    refine WP.loop (α := Nat) (fun i => mkSt [(38, ints false p.chans), (39, .int p.chans.length), (40, .int i)] []) (fun i => i ≤ p.chans.length ∧ ∀ j, j < i → chanF (p.chans.getD j 0) = 0) (fun i => p.chans.length - i) ?_ ?_
    · refine ⟨0, ?_, ?_⟩
      · exact ⟨Nat.zero_le _, fun j hj => by omega⟩
      · refine Ent.mk hT [] trivial ⟨⟨rfl, _, rfl, by first | exact conv_eq rfl | (refine conv_eq ?_; rw [wrap_id (by omega) (by omega)]; simp; done) | (refine conv_eq ?_; simp; done)⟩, ⟨rfl, _, rfl, by first | exact conv_eq rfl | (refine conv_eq ?_; rw [wrap_id (by omega) (by omega)]; simp; done) | (refine conv_eq ?_; simp; done)⟩, ⟨rfl, _, rfl, by first | exact conv_eq rfl | (refine conv_eq ?_; rw [wrap_id (by omega) (by omega)]; simp; done) | (refine conv_eq ?_; simp; done)⟩, trivial⟩ trivial rfl
    · rintro i ⟨hi, hn⟩
      refine WP.seq ?_
      refine WP.reg hT hE [] rfl ?_ ?_
      · first | trivial | (simp [holdsC, under, slOk, slB, capEq] <;> grind)
      refine WP.seq ?_
      refine WP.cond rfl (fun h4 => ?_) (fun h4 => ?_)
      · have hil : i < p.chans.length := by simpa using h4
        refine WP.skip ?_
        refine WP.seq ?_
        refine WP.block ?_
        refine WP.seq ?_
        refine WP.reg hT hE [] rfl ?_ ?_
        · simp [holdsC, under]; omega
        refine WP.seq ?_
        refine WP.reg hT hE [] rfl ?_ ?_
        · first | trivial | (simp [holdsC, under, slOk, slB, capEq] <;> grind)
        refine WP.cond rfl (fun h6 => ?_) (fun h6 => ?_)
        · have hx : chanF (p.chans.getD i 0) = 31 := by
            simp only [bor] at h6
            exact if_pos h6
          refine WP.seq ?_
          refine WP.reg hT hE [] rfl ?_ ?_
          · first | trivial | (simp [holdsC, under, slOk, slB, capEq] <;> grind)
          refine WP.ret ?_
          change Fin _ _ _ _ _ _ _ _
          exact finI hT (by rfl) (by rw [wholeF, hb, if_neg (by simp), fstE_at hil hn (by rw [hx]; decide), hx])
        · have hx : chanF (p.chans.getD i 0) = 0 := by
            simp only [bor] at h6
            exact if_neg (by rw [show (decide (p.chans.getD i 0 < 0) || decide (p.chans.getD i 0 > 4)) = false from h6]; decide)
          refine WP.skip ?_
          refine WP.reg hT hE [] rfl ?_ ?_
          · first | trivial | (simp [holdsC, under, slOk, slB, capEq] <;> grind)
          refine ⟨i + 1, ?_, ?_, ?_⟩
          · exact ⟨hil, below_succ hn hx⟩
          · refine Ent.mk hT [] trivial ⟨⟨rfl, _, rfl, by first | exact conv_eq rfl | (refine conv_eq ?_; rw [wrap_id (by omega) (by omega)]; simp; done) | (refine conv_eq ?_; simp; done)⟩, ⟨rfl, _, rfl, by first | exact conv_eq rfl | (refine conv_eq ?_; rw [wrap_id (by omega) (by omega)]; simp; done) | (refine conv_eq ?_; simp; done)⟩, ⟨rfl, _, rfl, by first | exact conv_eq rfl | (refine conv_eq ?_; rw [wrap_id (by omega) (by omega)]; simp; done) | (refine conv_eq ?_; simp; done)⟩, trivial⟩ trivial rfl
          · (try simp only []); first | omega | grind
      · have hil : i = p.chans.length := by simp at h4; omega
        subst hil
        refine WP.exit ?_
        refine WP.seq ?_
        refine WP.reg hT hE [] rfl ?_ ?_
        · first | trivial | (simp [holdsC, under, slOk, slB, capEq] <;> grind)
        refine WP.ret ?_
        change Fin _ _ _ _ _ _ _ _
        exact finI hT (by rfl) (by rw [wholeF, hb, if_neg (by simp), fstE_all hn])
def szF (f : PFun) (main : Bool) : Bool := (decide (f.regs ≥ 0) && decide (f.regs ≤ 8) && decide (f.params ≥ 0) && decide (f.params ≤ f.regs) && !(main && decide (f.params > 0))) && decide ((f.code.length : Int) ≥ 1) && decide ((f.code.length : Int) ≤ 64) && decide ((f.sels.length : Int) ≤ 4)
theorem szF_iff {f : PFun} {main : Bool} : szF f main = true ↔ 0 ≤ f.regs ∧ f.regs ≤ 8 ∧ 0 ≤ f.params ∧ f.params ≤ f.regs ∧ ¬ (main = true ∧ f.params > 0) ∧ (f.code.length : Int) ≥ 1 ∧ (f.code.length : Int) ≤ 64 ∧ (f.sels.length : Int) ≤ 4 := by
  simp only [szF, Bool.and_eq_true, decide_eq_true_eq, Bool.not_eq_true', Bool.and_eq_false_iff, decide_eq_false_iff_not]
  cases main <;> simp <;> omega
theorem not_true {b : Bool} (h : ¬ b = true) : b = false := by simpa using h
def selB (s : PSel) : Bool := decide ((s.cases.length : Int) ≥ 1) && decide ((s.cases.length : Int) ≤ 4)
def selTo (f : PFun) : Nat → Bool
  | 0 => true
  | i + 1 => selTo f i && selB (f.sels.getD i sel0)
theorem selTo_bad {f : PFun} {i : Nat} {n : Nat} (h : i < n) (hx : selB (f.sels.getD i sel0) = false) : selTo f n = false := by
  induction n with
  | zero => omega
  | succ n ih =>
    rw [selTo]
    by_cases e : i = n
    · subst e; rw [hx, Bool.and_false]
    · rw [ih (by omega), Bool.false_and]
def formedF (f : PFun) (main : Bool) : Bool := szF f main && selTo f f.sels.length
theorem sizes_ac (f : PFun) (main : Bool) : AC Tryz.prog T tysN 132 [encFun f, .bool main] [] (.int (if formedF f main then 0 else 32)) [] := by
  refine AC_intro hT Tryz.func132 rfl rfl (Nat.le_of_ble_eq_true rfl) ?_
  refine WP.seq ?_
  refine WP.reg hT hE [] rfl ?_ ?_
  · first | trivial | (simp [holdsC, under, slOk, slB, capEq] <;> grind)
  refine WP.seq ?_
  refine WP.reg hT hE [] rfl ?_ ?_
  · first | trivial | (simp [holdsC, under, slOk, slB, capEq] <;> grind)
  refine WP.seq ?_
  refine WP.reg hT hE [] rfl ?_ ?_
  · first | trivial | (simp [holdsC, under, slOk, slB, capEq] <;> grind)
  refine WP.seq ?_
  refine WP.seq ?_
  refine WP.reg hT hE [] rfl ?_ ?_
  · first | trivial | (simp [holdsC, under, slOk, slB, capEq] <;> grind)
  refine WP.rowlen 57 rfl (fun hl57 => ?_)
  refine WP.block ?_
  refine WP.loop (α := Nat × Bool) (fun (⟨i, ok⟩ : Nat × Bool) => mkSt [(5, .bool ok), (57, rowP 221 encSel sel0 f.sels), (58, .int f.sels.length), (59, .int i)] []) (fun (⟨i, ok⟩ : Nat × Bool) => i ≤ f.sels.length ∧ ok = (szF f main && selTo f i)) (fun (⟨i, ok⟩ : Nat × Bool) => f.sels.length - i) ?_ ?_
  · refine ⟨(0, szF f main), ?_, ?_⟩
    · exact ⟨Nat.zero_le _, by simp [selTo]⟩
    · refine Ent.mk hT [] trivial ⟨⟨rfl, _, rfl, conv_eq (by simp only [band]; rfl)⟩, ⟨rfl, _, rfl, by first | exact conv_eq rfl | (refine conv_eq ?_; rw [wrap_id (by omega) (by omega)]; simp; done) | (refine conv_eq ?_; simp; done)⟩, ⟨rfl, _, rfl, by first | exact conv_eq rfl | (refine conv_eq ?_; rw [wrap_id (by omega) (by omega)]; simp; done) | (refine conv_eq ?_; simp; done)⟩, ⟨rfl, _, rfl, by first | exact conv_eq rfl | (refine conv_eq ?_; rw [wrap_id (by omega) (by omega)]; simp; done) | (refine conv_eq ?_; simp; done)⟩, trivial⟩ trivial rfl
  · rintro ⟨i, ok⟩ ⟨hi, hok⟩
    refine WP.seq ?_
    refine WP.reg hT hE [] rfl ?_ ?_
    · first | trivial | (simp [holdsC, under, slOk, slB, capEq] <;> grind)
    refine WP.seq ?_
    refine WP.cond rfl (fun h4 => ?_) (fun h4 => ?_)
    · have hil : i < f.sels.length := by simpa using h4
      refine WP.skip ?_
      refine WP.seq ?_
      refine WP.block ?_
      refine WP.seq ?_
      refine WP.reg hT hE [] rfl ?_ ?_
      · simp [holdsC, under]; omega
      refine WP.reg hT hE [] rfl ?_ ?_
      · first | trivial | (simp [holdsC, under, slOk, slB, capEq] <;> grind)
      refine WP.reg hT hE [] rfl ?_ ?_
      · first | trivial | (simp [holdsC, under, slOk, slB, capEq] <;> grind)
      refine ⟨(i + 1, szF f main && selTo f (i + 1)), ?_, ?_, ?_⟩
      · exact ⟨hil, rfl⟩
      · refine Ent.mk hT [] trivial ⟨⟨rfl, _, rfl, conv_eq (by simp only [band]; rw [hok, selTo, selB]; simp only [Bool.and_assoc]; rfl)⟩, ⟨rfl, _, rfl, by first | exact conv_eq rfl | (refine conv_eq ?_; rw [wrap_id (by omega) (by omega)]; simp; done) | (refine conv_eq ?_; simp; done)⟩, ⟨rfl, _, rfl, by first | exact conv_eq rfl | (refine conv_eq ?_; rw [wrap_id (by omega) (by omega)]; simp; done) | (refine conv_eq ?_; simp; done)⟩, ⟨rfl, _, rfl, by first | exact conv_eq rfl | (refine conv_eq ?_; rw [wrap_id (by omega) (by omega)]; simp; done) | (refine conv_eq ?_; simp; done)⟩, trivial⟩ trivial rfl
      · (try simp only []); first | omega | grind
    · have hil : i = f.sels.length := by simp at h4; omega
      subst hil
      refine WP.exit ?_
      refine WP.seq ?_
      refine WP.seq ?_
      refine WP.reg hT hE [] rfl ?_ ?_
      · first | trivial | (simp [holdsC, under, slOk, slB, capEq] <;> grind)
      refine WP.cond rfl (fun h8 => ?_) (fun h8 => ?_)
      · have ho : formedF f main = false := by rw [formedF, ← hok]; simpa using h8
        refine WP.seq ?_
        refine WP.reg hT hE [] rfl ?_ ?_
        · first | trivial | (simp [holdsC, under, slOk, slB, capEq] <;> grind)
        refine WP.ret ?_
        change Fin _ _ _ _ _ _ _ _
        exact finI hT (by rfl) (by rw [ho]; rfl)
      · have ho : formedF f main = true := by rw [formedF, ← hok]; simpa using h8
        refine WP.skip ?_
        refine WP.seq ?_
        refine WP.reg hT hE [] rfl ?_ ?_
        · first | trivial | (simp [holdsC, under, slOk, slB, capEq] <;> grind)
        refine WP.ret ?_
        change Fin _ _ _ _ _ _ _ _
        exact finI hT (by rfl) (by rw [ho]; rfl)
theorem formed_ac (n : Nat) (f : PFun) : AC Tryz.prog T tysN 111 [.int n, encFun f] [] (.bool (formedF f (n == 0))) [] := by
  refine AC_intro hT Tryz.func111 rfl rfl (Nat.le_of_ble_eq_true rfl) ?_
  refine WP.seq ?_
  refine WP.reg hT hE [] rfl ?_ ?_
  · first | trivial | (simp [holdsC, under, slOk, slB, capEq] <;> grind)
  refine WP.seq ?_
  refine WP.seq ?_
  refine WP.reg hT hE [] rfl ?_ ?_
  · first | trivial | (simp [holdsC, under, slOk, slB, capEq] <;> grind)
  refine WP.cond rfl (fun h1 => ?_) (fun h1 => ?_)
  · have hb : szF f (n == 0) = false := by
      refine not_true fun hz => ?_
      rw [szF_iff] at hz
      simp only [bor, band, Bool.or_eq_true, Bool.and_eq_true, decide_eq_true_eq, beq_iff_eq, bne_iff_ne] at h1 hz
      omega
    refine WP.seq ?_
    refine WP.reg hT hE [] rfl ?_ ?_
    · first | trivial | (simp [holdsC, under, slOk, slB, capEq] <;> grind)
    refine WP.ret ?_
    change Fin _ _ _ _ _ _ _ _
    exact fin1 hT (by rfl) (by rw [formedF, hb]; rfl)
  · refine WP.skip ?_
    refine WP.seq ?_
    refine WP.seq ?_
    refine WP.reg hT hE [] rfl ?_ ?_
    · first | trivial | (simp [holdsC, under, slOk, slB, capEq] <;> grind)
    refine WP.cond rfl (fun h3 => ?_) (fun h3 => ?_)
    · have hb : szF f (n == 0) = false := by
        refine not_true fun hz => ?_
        rw [szF_iff] at hz
        simp only [bor, band, Bool.or_eq_true, Bool.and_eq_true, decide_eq_true_eq, beq_iff_eq, bne_iff_ne] at h3 hz
        omega
      refine WP.seq ?_
      refine WP.reg hT hE [] rfl ?_ ?_
      · first | trivial | (simp [holdsC, under, slOk, slB, capEq] <;> grind)
      refine WP.ret ?_
      change Fin _ _ _ _ _ _ _ _
      exact fin1 hT (by rfl) (by rw [formedF, hb]; rfl)
    · have hb : szF f (n == 0) = true := by
        rw [szF_iff]
        simp only [bor, band, Bool.or_eq_false_iff, Bool.and_eq_false_iff, decide_eq_false_iff_not, beq_iff_eq, beq_eq_false_iff_ne, bne_eq_false_iff_eq] at h1 h3 ⊢
        omega
      have hsl : f.sels.length ≤ 4 := by
        simp [szF] at hb; omega
      refine WP.skip ?_
      refine WP.seq ?_
      refine WP.seq ?_
      refine WP.reg hT hE [] rfl ?_ ?_
      · first | trivial | (simp [holdsC, under, slOk, slB, capEq] <;> grind)
      refine WP.block ?_
      refine WP.loop (α := Nat) (fun i => mkSt [(53, rowP 221 encSel sel0 f.sels), (54, .int f.sels.length), (55, .int i)] []) (fun i => i ≤ f.sels.length ∧ selTo f i = true) (fun i => f.sels.length - i) ?_ ?_
      · refine ⟨0, ?_, ?_⟩
        · exact ⟨Nat.zero_le _, rfl⟩
        · refine Ent.mk hT [] trivial ⟨⟨rfl, _, rfl, by first | exact conv_eq rfl | (refine conv_eq ?_; rw [wrap_id (by omega) (by omega)]; simp; done) | (refine conv_eq ?_; simp; done)⟩, ⟨rfl, _, rfl, by first | exact conv_eq rfl | (refine conv_eq ?_; rw [wrap_id (by omega) (by omega)]; simp; done) | (refine conv_eq ?_; simp; done)⟩, ⟨rfl, _, rfl, by first | exact conv_eq rfl | (refine conv_eq ?_; rw [wrap_id (by omega) (by omega)]; simp; done) | (refine conv_eq ?_; simp; done)⟩, trivial⟩ trivial rfl
      · rintro i ⟨hi, hok⟩
        refine WP.seq ?_
        refine WP.reg hT hE [] rfl ?_ ?_
        · first | trivial | (simp [holdsC, under, slOk, slB, capEq] <;> grind)
        refine WP.seq ?_
        refine WP.cond rfl (fun h6 => ?_) (fun h6 => ?_)
        · have hil : i < f.sels.length := by simpa using h6
          refine WP.skip ?_
          refine WP.seq ?_
          refine WP.block ?_
          refine WP.seq ?_
          refine WP.reg hT hE [] rfl ?_ ?_
          · simp [holdsC, under]; omega
          refine WP.seq ?_
          refine WP.reg hT hE [] rfl ?_ ?_
          · first | trivial | (simp [holdsC, under, slOk, slB, capEq] <;> grind)
          refine WP.cond rfl (fun h8 => ?_) (fun h8 => ?_)
          · have hx : selB (f.sels.getD i sel0) = false := by
              simp only [bor, Bool.or_eq_true, decide_eq_true_eq, Int.toNat_natCast] at h8
              simp only [selB, Bool.and_eq_false_iff, decide_eq_false_iff_not]
              omega
            refine WP.seq ?_
            refine WP.reg hT hE [] rfl ?_ ?_
            · first | trivial | (simp [holdsC, under, slOk, slB, capEq] <;> grind)
            refine WP.ret ?_
            change Fin _ _ _ _ _ _ _ _
            exact fin1 hT (by rfl) (by rw [formedF, selTo_bad hil hx, Bool.and_false])
          · have hx : selB (f.sels.getD i sel0) = true := by
              simp only [bor, Bool.or_eq_false_iff, decide_eq_false_iff_not, Int.toNat_natCast] at h8
              simp only [selB, Bool.and_eq_true, decide_eq_true_eq]
              omega
            refine WP.skip ?_
            refine WP.reg hT hE [] rfl ?_ ?_
            · first | trivial | (simp [holdsC, under, slOk, slB, capEq] <;> grind)
            refine ⟨i + 1, ?_, ?_, ?_⟩
            · exact ⟨hil, by rw [selTo, hok, hx]; rfl⟩
            · refine Ent.mk hT [] trivial ⟨⟨rfl, _, rfl, by first | exact conv_eq rfl | (refine conv_eq ?_; rw [wrap_id (by omega) (by omega)]; simp; done) | (refine conv_eq ?_; simp; done)⟩, ⟨rfl, _, rfl, by first | exact conv_eq rfl | (refine conv_eq ?_; rw [wrap_id (by omega) (by omega)]; simp; done) | (refine conv_eq ?_; simp; done)⟩, ⟨rfl, _, rfl, by first | exact conv_eq rfl | (refine conv_eq ?_; rw [wrap_id (by omega) (by omega)]; simp; done) | (refine conv_eq ?_; simp; done)⟩, trivial⟩ trivial rfl
            · (try simp only []); first | omega | grind
        · have hil : i = f.sels.length := by simp at h6; omega
          subst hil
          refine WP.exit ?_
          refine WP.seq ?_
          refine WP.reg hT hE [] rfl ?_ ?_
          · first | trivial | (simp [holdsC, under, slOk, slB, capEq] <;> grind)
          refine WP.ret ?_
          change Fin _ _ _ _ _ _ _ _
          exact fin1 hT (by rfl) (by rw [formedF, hb, hok]; rfl)
end Go.Ab


/- Selects. -/
set_option autoImplicit false
set_option maxRecDepth 20000
set_option maxHeartbeats 4000000
set_option linter.unusedSimpArgs false
set_option linter.unusedVariables false
namespace Go.Ab
open Go.Proofs
theorem selTo_at {f : PFun} : ∀ {n : Nat}, selTo f n = true → ∀ i, i < n → selB (f.sels.getD i sel0) = true
  | n + 1, h, i, hi => by
    rw [selTo, Bool.and_eq_true] at h
    by_cases e : i = n
    · subst e; exact h.2
    · exact selTo_at h.1 i (by omega)
def caseF (p : PProg) (f : PFun) (c : PCase) : Int :=
  if objF c.chan p.chans.length ≠ 0 then 36 else if (c.send || c.reg != -1) = true ∧ regF f c.reg ≠ 0 then 35 else
  if (c.send && p.chans.getD c.chan.toNat 0 == 0) = true then 37 else tgtF f c.to
def elseF (f : PFun) (s : PSel) : Int := if s.els ≠ -1 then tgtF f s.els else 0
def selF (p : PProg) (f : PFun) (s : PSel) : Int := if fstE (caseF p f) s.cases ≠ 0 then fstE (caseF p f) s.cases else elseF f s
def selsF (p : PProg) (f : PFun) : Int := fstE (selF p f) f.sels
abbrev selAt (f : PFun) (i : Nat) : PSel := f.sels.getD i sel0
abbrev caseAt (s : PSel) (k : Nat) : PCase := s.cases.getD k case0
theorem selF_case {p : PProg} {f : PFun} {s : PSel} {k : Nat} {e : Int} (hk : k < s.cases.length) (hn : ∀ j, j < k → caseF p f (caseAt s j) = 0) (he : caseF p f (caseAt s k) = e) (h0 : e ≠ 0) : selF p f s = e := by
  subst he
  have := fstE_at hk hn h0
  rw [selF, this, if_pos h0]
theorem sels_case {p : PProg} {f : PFun} {i : Nat} {e : Int} (hi : i < f.sels.length) (hn : ∀ j, j < i → selF p f (selAt f j) = 0) (he : selF p f (selAt f i) = e) (h0 : e ≠ 0) : selsF p f = e := by
  subst he
  rw [selsF, fstE_at hi hn h0]
theorem objF_bad {n m : Int} (h : objF n m ≠ 0) : objF n m = 36 := by
  unfold objF at h ⊢
  split
  · rename_i hw; rw [if_pos hw] at h; exact absurd rfl h
  · rfl
theorem regF_bad {f : PFun} {n : Int} (h : regF f n ≠ 0) : regF f n = 35 := by
  unfold regF at h ⊢
  split
  · rename_i hw; rw [if_pos hw] at h; exact absurd rfl h
  · rfl
theorem selects_ac (p : PProg) (f : PFun) (m : Bool) (hf : formedF f m = true) : AC Tryz.prog T tysN 133 [.rp 196 (encCk p f)] [] (.int (selsF p f)) [] := by
  refine AC_intro hT Tryz.func133 rfl rfl (Nat.le_of_ble_eq_true rfl) ?_
  have hsz : szF f m = true := by rw [formedF, Bool.and_eq_true] at hf; exact hf.1
  have hst : selTo f f.sels.length = true := by rw [formedF, Bool.and_eq_true] at hf; exact hf.2
  rw [szF_iff] at hsz
  refine WP.seq ?_
  refine WP.reg hT hE [] rfl ?_ ?_
  · first | trivial | (simp [holdsC, under, slOk, slB, capEq] <;> grind)
  refine WP.seq ?_
  refine WP.seq ?_
  refine WP.reg hT hE [] rfl ?_ ?_
  · first | trivial | (simp [holdsC, under, slOk, slB, capEq] <;> grind)
  refine WP.block ?_
  refine WP.loop (α := Nat) (fun i => mkSt [(0, .rp 196 (encCk p f)), (15, rowP 221 encSel sel0 f.sels), (16, .int f.sels.length), (17, .int i)] []) (fun i => i ≤ f.sels.length ∧ ∀ j, j < i → selF p f (selAt f j) = 0) (fun i => f.sels.length - i) ?_ ?_
  · refine ⟨0, ?_, ?_⟩
    · exact ⟨Nat.zero_le _, fun j hj => by omega⟩
    · refine Ent.mk hT [] trivial ⟨⟨rfl, _, rfl, by first | exact conv_eq rfl | (refine conv_eq ?_; rw [wrap_id (by omega) (by omega)]; simp; done) | (refine conv_eq ?_; simp; done)⟩, ⟨rfl, _, rfl, by first | exact conv_eq rfl | (refine conv_eq ?_; rw [wrap_id (by omega) (by omega)]; simp; done) | (refine conv_eq ?_; simp; done)⟩, ⟨rfl, _, rfl, by first | exact conv_eq rfl | (refine conv_eq ?_; rw [wrap_id (by omega) (by omega)]; simp; done) | (refine conv_eq ?_; simp; done)⟩, ⟨rfl, _, rfl, by first | exact conv_eq rfl | (refine conv_eq ?_; rw [wrap_id (by omega) (by omega)]; simp; done) | (refine conv_eq ?_; simp; done)⟩, trivial⟩ trivial rfl
  · rintro i ⟨hi, hn⟩
    refine WP.seq ?_
    refine WP.reg hT hE [] rfl ?_ ?_
    · first | trivial | (simp [holdsC, under, slOk, slB, capEq] <;> grind)
    refine WP.seq ?_
    refine WP.cond rfl (fun h2 => ?_) (fun h2 => ?_)
    · have hil : i < f.sels.length := by simpa using h2
      have hsb := selTo_at hst i hil
      have hcl : (selAt f i).cases.length ≤ 4 := by
        simp only [selB, Bool.and_eq_true, decide_eq_true_eq] at hsb
        simp only [selAt]; omega
      refine WP.skip ?_
      refine WP.seq ?_
      refine WP.block ?_
      refine WP.seq ?_
      refine WP.reg hT hE [] rfl ?_ ?_
      · simp [holdsC, under]; omega
      refine WP.seq ?_
      refine WP.seq ?_
      refine WP.reg hT hE [] rfl ?_ ?_
      · first | trivial | (simp [holdsC, under, slOk, slB, capEq] <;> grind)
      refine WP.block ?_
      refine WP.loop (α := Nat) (fun k => mkSt [(0, .rp 196 (encCk p f)), (4, .rp 221 (encSel (selAt f i))), (15, rowP 221 encSel sel0 f.sels), (16, .int f.sels.length), (17, .int i), (22, rowP 223 encCase case0 (selAt f i).cases), (23, .int (selAt f i).cases.length), (24, .int k)] []) (fun k => k ≤ (selAt f i).cases.length ∧ ∀ j, j < k → caseF p f (caseAt (selAt f i) j) = 0) (fun k => (selAt f i).cases.length - k) ?_ ?_
      · refine ⟨0, ?_, ?_⟩
        · exact ⟨Nat.zero_le _, fun j hj => by omega⟩
        · refine Ent.mk hT [(.s 4 0, 1)] ⟨⟨_, rfl, Nat.le_refl _⟩, trivial⟩ ⟨⟨rfl, _, rfl, by first | exact conv_eq rfl | (refine conv_eq ?_; rw [wrap_id (by omega) (by omega)]; simp; done) | (refine conv_eq ?_; simp; done)⟩, ⟨rfl, _, rfl, conv_rpe rfl rfl (by decide) rfl rfl rfl⟩, ⟨rfl, _, rfl, by first | exact conv_eq rfl | (refine conv_eq ?_; rw [wrap_id (by omega) (by omega)]; simp; done) | (refine conv_eq ?_; simp; done)⟩, ⟨rfl, _, rfl, by first | exact conv_eq rfl | (refine conv_eq ?_; rw [wrap_id (by omega) (by omega)]; simp; done) | (refine conv_eq ?_; simp; done)⟩, ⟨rfl, _, rfl, by first | exact conv_eq rfl | (refine conv_eq ?_; rw [wrap_id (by omega) (by omega)]; simp; done) | (refine conv_eq ?_; simp; done)⟩, ⟨rfl, _, rfl, by first | exact conv_eq rfl | (refine conv_eq ?_; rw [wrap_id (by omega) (by omega)]; simp; done) | (refine conv_eq ?_; simp; done)⟩, ⟨rfl, _, rfl, by first | exact conv_eq rfl | (refine conv_eq ?_; rw [wrap_id (by omega) (by omega)]; simp; done) | (refine conv_eq ?_; simp; done)⟩, ⟨rfl, _, rfl, by first | exact conv_eq rfl | (refine conv_eq ?_; rw [wrap_id (by omega) (by omega)]; simp; done) | (refine conv_eq ?_; simp; done)⟩, trivial⟩ trivial rfl
      · rintro k ⟨hk, hc⟩
        refine WP.seq ?_
        refine WP.reg hT hE [] rfl ?_ ?_
        · first | trivial | (simp [holdsC, under, slOk, slB, capEq] <;> grind)
        refine WP.seq ?_
        refine WP.cond rfl (fun h5 => ?_) (fun h5 => ?_)
        · have hkl : k < (selAt f i).cases.length := by simpa using h5
          refine WP.skip ?_
          refine WP.seq ?_
          refine WP.block ?_
          refine WP.seq ?_
          refine WP.reg hT hE [] rfl ?_ ?_
          · have hkl2 : k < (f.sels[i]?.getD sel0).cases.length := hkl
            simp [holdsC, under]; omega
          refine WP.seq ?_
          refine WP.seq ?_
          refine WP.drw hT hE hM [CG.pure (.int (objF (caseAt (selAt f i) k).chan p.chans.length))] rfl ?_ ?_
          · have ho := object_ac (caseAt (selAt f i) k).chan p.chans.length
            refine ⟨⟨rfl, rfl⟩, ?_⟩
            exact ho
          refine WP.seq ?_
          refine WP.reg hT hE [] rfl ?_ ?_
          · first | trivial | (simp [holdsC, under, slOk, slB, capEq] <;> grind)
          refine WP.cond rfl (fun h8 => ?_) (fun h8 => ?_)
          · have hb : objF (caseAt (selAt f i) k).chan p.chans.length ≠ 0 := by simpa using h8
            refine WP.seq ?_
            refine WP.reg hT hE [] rfl ?_ ?_
            · first | trivial | (simp [holdsC, under, slOk, slB, capEq] <;> grind)
            refine WP.ret ?_
            change Fin _ _ _ _ _ _ _ _
            refine finI hT (by rfl) ?_
            rw [objF_bad hb, sels_case hil hn (selF_case hkl hc (by rw [caseF, if_pos hb]) (by decide)) (by decide)]
          · have hb : objF (caseAt (selAt f i) k).chan p.chans.length = 0 := by simpa using h8
            have hch := objF_ok hb
            refine WP.skip ?_
            refine WP.seq ?_
            refine WP.seq ?_
            refine WP.reg hT hE [] rfl ?_ ?_
            · first | trivial | (simp [holdsC, under, slOk, slB, capEq] <;> grind)
            refine WP.cond rfl (fun h10 => ?_) (fun h10 => ?_)
            · have hsr : ((caseAt (selAt f i) k).send || (caseAt (selAt f i) k).reg != -1) = true := by
                have e : (bif (caseAt (selAt f i) k).send then true else (caseAt (selAt f i) k).reg != -1) = true := h10
                rwa [bor] at e
              refine WP.seq ?_
              refine WP.reg hT hE [CG.pure (.int (regF f (caseAt (selAt f i) k).reg))] rfl ?_ ?_
              · have ho := register_ac p f (caseAt (selAt f i) k).reg
                refine ⟨⟨rfl, rfl⟩, ?_⟩
                exact ho
              refine WP.seq ?_
              refine WP.reg hT hE [] rfl ?_ ?_
              · first | trivial | (simp [holdsC, under, slOk, slB, capEq] <;> grind)
              refine WP.cond rfl (fun h12 => ?_) (fun h12 => ?_)
              · have hr : regF f (caseAt (selAt f i) k).reg ≠ 0 := by simpa using h12
                refine WP.seq ?_
                refine WP.reg hT hE [] rfl ?_ ?_
                · first | trivial | (simp [holdsC, under, slOk, slB, capEq] <;> grind)
                refine WP.ret ?_
                change Fin _ _ _ _ _ _ _ _
                refine finI hT (by rfl) ?_
                rw [regF_bad hr, sels_case hil hn (selF_case hkl hc (by rw [caseF, if_neg (fun h => h hb), if_pos ⟨hsr, hr⟩]) (by decide)) (by decide)]
              · have hr : ¬ (((caseAt (selAt f i) k).send || (caseAt (selAt f i) k).reg != -1) = true ∧ regF f (caseAt (selAt f i) k).reg ≠ 0) := fun h => h.2 (by simpa using h12)
                refine WP.skip ?_
                refine WP.seq ?_
                refine WP.seq ?_
                refine WP.drw hT hE hM [] rfl ?_ ?_
                · simp only [selAt, caseAt, List.getD_eq_getElem?_getD] at hch
                  simp [holdsC, under]
                  exact fun _ => hch
                refine WP.cond rfl (fun h14 => ?_) (fun h14 => ?_)
                · have hz : ((caseAt (selAt f i) k).send && p.chans.getD (caseAt (selAt f i) k).chan.toNat 0 == 0) = true := by
                    have e : (bif (caseAt (selAt f i) k).send then p.chans.getD (caseAt (selAt f i) k).chan.toNat 0 == 0 else false) = true := h14
                    rwa [band] at e
                  refine WP.seq ?_
                  refine WP.reg hT hE [] rfl ?_ ?_
                  · first | trivial | (simp [holdsC, under, slOk, slB, capEq] <;> grind)
                  refine WP.ret ?_
                  change Fin _ _ _ _ _ _ _ _
                  refine finI hT (by rfl) ?_
                  rw [sels_case hil hn (selF_case hkl hc (by rw [caseF, if_neg (fun h => h hb), if_neg hr, if_pos hz]) (by decide)) (by decide)]
                · have hz : ¬ ((caseAt (selAt f i) k).send && p.chans.getD (caseAt (selAt f i) k).chan.toNat 0 == 0) = true := by
                    have e : (bif (caseAt (selAt f i) k).send then p.chans.getD (caseAt (selAt f i) k).chan.toNat 0 == 0 else false) = false := h14
                    rw [band] at e
                    rw [e]; decide
                  have hcf : caseF p f (caseAt (selAt f i) k) = tgtF f (caseAt (selAt f i) k).to := by rw [caseF, if_neg (fun h => h hb), if_neg hr, if_neg hz]
                  refine WP.skip ?_
                  refine WP.seq ?_
                  refine WP.reg hT hE [CG.pure (.int (tgtF f (caseAt (selAt f i) k).to))] rfl ?_ ?_
                  · have ho := target_ac p f (caseAt (selAt f i) k).to
                    refine ⟨⟨rfl, rfl⟩, ?_⟩
                    exact ho
                  refine WP.seq ?_
                  refine WP.reg hT hE [] rfl ?_ ?_
                  · first | trivial | (simp [holdsC, under, slOk, slB, capEq] <;> grind)
                  refine WP.cond rfl (fun h17 => ?_) (fun h17 => ?_)
                  · have ht : tgtF f (caseAt (selAt f i) k).to ≠ 0 := by simpa using h17
                    refine WP.seq ?_
                    refine WP.reg hT hE [] rfl ?_ ?_
                    · first | trivial | (simp [holdsC, under, slOk, slB, capEq] <;> grind)
                    refine WP.ret ?_
                    change Fin _ _ _ _ _ _ _ _
                    refine finI hT (by rfl) ?_
                    rw [sels_case hil hn (selF_case hkl hc hcf ht) ht]
                  · have ht : tgtF f (caseAt (selAt f i) k).to = 0 := by simpa using h17
                    refine WP.skip ?_
                    refine WP.reg hT hE [] rfl ?_ ?_
                    · first | trivial | (simp [holdsC, under, slOk, slB, capEq] <;> grind)
                    refine ⟨k + 1, ?_, ?_, ?_⟩
                    · exact ⟨hkl, below_succ hc (by rw [hcf, ht])⟩
                    · refine Ent.mk hT [] trivial ⟨⟨rfl, _, rfl, by first | exact conv_eq rfl | (refine conv_eq ?_; rw [wrap_id (by omega) (by omega)]; simp; done) | (refine conv_eq ?_; simp; done)⟩, ⟨rfl, _, rfl, by first | exact conv_eq rfl | (refine conv_eq ?_; rw [wrap_id (by omega) (by omega)]; simp; done) | (refine conv_eq ?_; simp; done)⟩, ⟨rfl, _, rfl, by first | exact conv_eq rfl | (refine conv_eq ?_; rw [wrap_id (by omega) (by omega)]; simp; done) | (refine conv_eq ?_; simp; done)⟩, ⟨rfl, _, rfl, by first | exact conv_eq rfl | (refine conv_eq ?_; rw [wrap_id (by omega) (by omega)]; simp; done) | (refine conv_eq ?_; simp; done)⟩, ⟨rfl, _, rfl, by first | exact conv_eq rfl | (refine conv_eq ?_; rw [wrap_id (by omega) (by omega)]; simp; done) | (refine conv_eq ?_; simp; done)⟩, ⟨rfl, _, rfl, by first | exact conv_eq rfl | (refine conv_eq ?_; rw [wrap_id (by omega) (by omega)]; simp; done) | (refine conv_eq ?_; simp; done)⟩, ⟨rfl, _, rfl, by first | exact conv_eq rfl | (refine conv_eq ?_; rw [wrap_id (by omega) (by omega)]; simp; done) | (refine conv_eq ?_; simp; done)⟩, ⟨rfl, _, rfl, by first | exact conv_eq rfl | (refine conv_eq ?_; rw [wrap_id (by omega) (by omega)]; simp; done) | (refine conv_eq ?_; simp; done)⟩, trivial⟩ trivial rfl
                    · (try simp only []); first | omega | grind
            · have hr : ¬ (((caseAt (selAt f i) k).send || (caseAt (selAt f i) k).reg != -1) = true ∧ regF f (caseAt (selAt f i) k).reg ≠ 0) := by
                have e : (bif (caseAt (selAt f i) k).send then true else (caseAt (selAt f i) k).reg != -1) = false := h10
                rw [bor] at e
                rw [e]; simp
              refine WP.skip ?_
              refine WP.seq ?_
              refine WP.seq ?_
              refine WP.drw hT hE hM [] rfl ?_ ?_
              · simp only [selAt, caseAt, List.getD_eq_getElem?_getD] at hch
                simp [holdsC, under]
                exact fun _ => hch
              refine WP.cond rfl (fun h14 => ?_) (fun h14 => ?_)
              · have hz : ((caseAt (selAt f i) k).send && p.chans.getD (caseAt (selAt f i) k).chan.toNat 0 == 0) = true := by
                  have e : (bif (caseAt (selAt f i) k).send then p.chans.getD (caseAt (selAt f i) k).chan.toNat 0 == 0 else false) = true := h14
                  rwa [band] at e
                refine WP.seq ?_
                refine WP.reg hT hE [] rfl ?_ ?_
                · first | trivial | (simp [holdsC, under, slOk, slB, capEq] <;> grind)
                refine WP.ret ?_
                change Fin _ _ _ _ _ _ _ _
                refine finI hT (by rfl) ?_
                rw [sels_case hil hn (selF_case hkl hc (by rw [caseF, if_neg (fun h => h hb), if_neg hr, if_pos hz]) (by decide)) (by decide)]
              · have hz : ¬ ((caseAt (selAt f i) k).send && p.chans.getD (caseAt (selAt f i) k).chan.toNat 0 == 0) = true := by
                  have e : (bif (caseAt (selAt f i) k).send then p.chans.getD (caseAt (selAt f i) k).chan.toNat 0 == 0 else false) = false := h14
                  rw [band] at e
                  rw [e]; decide
                have hcf : caseF p f (caseAt (selAt f i) k) = tgtF f (caseAt (selAt f i) k).to := by rw [caseF, if_neg (fun h => h hb), if_neg hr, if_neg hz]
                refine WP.skip ?_
                refine WP.seq ?_
                refine WP.reg hT hE [CG.pure (.int (tgtF f (caseAt (selAt f i) k).to))] rfl ?_ ?_
                · have ho := target_ac p f (caseAt (selAt f i) k).to
                  refine ⟨⟨rfl, rfl⟩, ?_⟩
                  exact ho
                refine WP.seq ?_
                refine WP.reg hT hE [] rfl ?_ ?_
                · first | trivial | (simp [holdsC, under, slOk, slB, capEq] <;> grind)
                refine WP.cond rfl (fun h17 => ?_) (fun h17 => ?_)
                · have ht : tgtF f (caseAt (selAt f i) k).to ≠ 0 := by simpa using h17
                  refine WP.seq ?_
                  refine WP.reg hT hE [] rfl ?_ ?_
                  · first | trivial | (simp [holdsC, under, slOk, slB, capEq] <;> grind)
                  refine WP.ret ?_
                  change Fin _ _ _ _ _ _ _ _
                  refine finI hT (by rfl) ?_
                  rw [sels_case hil hn (selF_case hkl hc hcf ht) ht]
                · have ht : tgtF f (caseAt (selAt f i) k).to = 0 := by simpa using h17
                  refine WP.skip ?_
                  refine WP.reg hT hE [] rfl ?_ ?_
                  · first | trivial | (simp [holdsC, under, slOk, slB, capEq] <;> grind)
                  refine ⟨k + 1, ?_, ?_, ?_⟩
                  · exact ⟨hkl, below_succ hc (by rw [hcf, ht])⟩
                  · refine Ent.mk hT [] trivial ⟨⟨rfl, _, rfl, by first | exact conv_eq rfl | (refine conv_eq ?_; rw [wrap_id (by omega) (by omega)]; simp; done) | (refine conv_eq ?_; simp; done)⟩, ⟨rfl, _, rfl, by first | exact conv_eq rfl | (refine conv_eq ?_; rw [wrap_id (by omega) (by omega)]; simp; done) | (refine conv_eq ?_; simp; done)⟩, ⟨rfl, _, rfl, by first | exact conv_eq rfl | (refine conv_eq ?_; rw [wrap_id (by omega) (by omega)]; simp; done) | (refine conv_eq ?_; simp; done)⟩, ⟨rfl, _, rfl, by first | exact conv_eq rfl | (refine conv_eq ?_; rw [wrap_id (by omega) (by omega)]; simp; done) | (refine conv_eq ?_; simp; done)⟩, ⟨rfl, _, rfl, by first | exact conv_eq rfl | (refine conv_eq ?_; rw [wrap_id (by omega) (by omega)]; simp; done) | (refine conv_eq ?_; simp; done)⟩, ⟨rfl, _, rfl, by first | exact conv_eq rfl | (refine conv_eq ?_; rw [wrap_id (by omega) (by omega)]; simp; done) | (refine conv_eq ?_; simp; done)⟩, ⟨rfl, _, rfl, by first | exact conv_eq rfl | (refine conv_eq ?_; rw [wrap_id (by omega) (by omega)]; simp; done) | (refine conv_eq ?_; simp; done)⟩, ⟨rfl, _, rfl, by first | exact conv_eq rfl | (refine conv_eq ?_; rw [wrap_id (by omega) (by omega)]; simp; done) | (refine conv_eq ?_; simp; done)⟩, trivial⟩ trivial rfl
                  · (try simp only []); first | omega | grind
        · have hkl : k = (selAt f i).cases.length := by simp only [decide_eq_false_iff_not] at h5; omega
          subst hkl
          have hsf : selF p f (selAt f i) = elseF f (selAt f i) := by rw [selF, fstE_all hc]; simp
          refine WP.exit ?_
          refine WP.seq ?_
          refine WP.reg hT hE [] rfl ?_ ?_
          · first | trivial | (simp [holdsC, under, slOk, slB, capEq] <;> grind)
          refine WP.cond rfl (fun h20 => ?_) (fun h20 => ?_)
          · have he : (selAt f i).els ≠ -1 := by simpa using h20
            refine WP.seq ?_
            refine WP.reg hT hE [CG.pure (.int (tgtF f (selAt f i).els))] rfl ?_ ?_
            · have ho := target_ac p f (selAt f i).els
              exact ho
            refine WP.seq ?_
            refine WP.reg hT hE [] rfl ?_ ?_
            · first | trivial | (simp [holdsC, under, slOk, slB, capEq] <;> grind)
            refine WP.cond rfl (fun h22 => ?_) (fun h22 => ?_)
            · have ht : tgtF f (selAt f i).els ≠ 0 := by simpa using h22
              refine WP.seq ?_
              refine WP.reg hT hE [] rfl ?_ ?_
              · first | trivial | (simp [holdsC, under, slOk, slB, capEq] <;> grind)
              refine WP.ret ?_
              change Fin _ _ _ _ _ _ _ _
              refine finI hT (by rfl) ?_
              rw [sels_case hil hn (by rw [hsf, elseF, if_pos he]) ht]
            · have ht : tgtF f (selAt f i).els = 0 := by simpa using h22
              refine WP.skip ?_
              refine WP.reg hT hE [] rfl ?_ ?_
              · first | trivial | (simp [holdsC, under, slOk, slB, capEq] <;> grind)
              refine ⟨i + 1, ?_, ?_, ?_⟩
              · exact ⟨hil, below_succ hn (by rw [hsf, elseF, if_pos he, ht])⟩
              · refine Ent.mk hT [] trivial ⟨⟨rfl, _, rfl, by first | exact conv_eq rfl | (refine conv_eq ?_; rw [wrap_id (by omega) (by omega)]; simp; done) | (refine conv_eq ?_; simp; done)⟩, ⟨rfl, _, rfl, by first | exact conv_eq rfl | (refine conv_eq ?_; rw [wrap_id (by omega) (by omega)]; simp; done) | (refine conv_eq ?_; simp; done)⟩, ⟨rfl, _, rfl, by first | exact conv_eq rfl | (refine conv_eq ?_; rw [wrap_id (by omega) (by omega)]; simp; done) | (refine conv_eq ?_; simp; done)⟩, ⟨rfl, _, rfl, by first | exact conv_eq rfl | (refine conv_eq ?_; rw [wrap_id (by omega) (by omega)]; simp; done) | (refine conv_eq ?_; simp; done)⟩, trivial⟩ trivial rfl
              · (try simp only []); first | omega | grind
          · have he : (selAt f i).els = -1 := by simpa using h20
            refine WP.skip ?_
            refine WP.reg hT hE [] rfl ?_ ?_
            · first | trivial | (simp [holdsC, under, slOk, slB, capEq] <;> grind)
            refine ⟨i + 1, ?_, ?_, ?_⟩
            · exact ⟨hil, below_succ hn (by rw [hsf, elseF, if_neg (fun h => h he)])⟩
            · refine Ent.mk hT [] trivial ⟨⟨rfl, _, rfl, by first | exact conv_eq rfl | (refine conv_eq ?_; rw [wrap_id (by omega) (by omega)]; simp; done) | (refine conv_eq ?_; simp; done)⟩, ⟨rfl, _, rfl, by first | exact conv_eq rfl | (refine conv_eq ?_; rw [wrap_id (by omega) (by omega)]; simp; done) | (refine conv_eq ?_; simp; done)⟩, ⟨rfl, _, rfl, by first | exact conv_eq rfl | (refine conv_eq ?_; rw [wrap_id (by omega) (by omega)]; simp; done) | (refine conv_eq ?_; simp; done)⟩, ⟨rfl, _, rfl, by first | exact conv_eq rfl | (refine conv_eq ?_; rw [wrap_id (by omega) (by omega)]; simp; done) | (refine conv_eq ?_; simp; done)⟩, trivial⟩ trivial rfl
            · (try simp only []); first | omega | grind
    · have hil : i = f.sels.length := by simp at h2; omega
      subst hil
      refine WP.exit ?_
      refine WP.seq ?_
      refine WP.reg hT hE [] rfl ?_ ?_
      · first | trivial | (simp [holdsC, under, slOk, slB, capEq] <;> grind)
      refine WP.ret ?_
      change Fin _ _ _ _ _ _ _ _
      exact finI hT (by rfl) (by rw [selsF, fstE_all hn])
theorem objF_w (n m : Int) : objF n m ≠ 0 ↔ withinB n m = false := by
  unfold objF; cases withinB n m <;> simp
theorem regF_w (f : PFun) (n : Int) : regF f n ≠ 0 ↔ withinB n f.regs = false := by
  unfold regF; cases withinB n f.regs <;> simp
theorem tgtF_w (f : PFun) (n : Int) : tgtF f n = if withinB n f.code.length then 0 else 38 := rfl
theorem rselects_ac (p : PProg) (f : PFun) (m : Bool) (hf : formedF f m = true) : AC Tryz.prog T tysN 112 [encProg p, encFun f] [] (.int (selsF p f)) [] := by
  refine AC_intro hT Tryz.func112 rfl rfl (Nat.le_of_ble_eq_true rfl) ?_
  have hsz : szF f m = true := by rw [formedF, Bool.and_eq_true] at hf; exact hf.1
  have hst : selTo f f.sels.length = true := by rw [formedF, Bool.and_eq_true] at hf; exact hf.2
  rw [szF_iff] at hsz
  refine WP.seq ?_
  refine WP.reg hT hE [] rfl ?_ ?_
  · first | trivial | (simp [holdsC, under, slOk, slB, capEq] <;> grind)
  refine WP.seq ?_
  refine WP.seq ?_
  refine WP.reg hT hE [] rfl ?_ ?_
  · first | trivial | (simp [holdsC, under, slOk, slB, capEq] <;> grind)
  refine WP.block ?_
  refine WP.loop (α := Nat) (fun i => mkSt [(2, .rp 26 (encProg p)), (3, .rp 166 (encFun f)), (10, rowP 221 encSel sel0 f.sels), (11, .int f.sels.length), (12, .int i)] []) (fun i => i ≤ f.sels.length ∧ ∀ j, j < i → selF p f (selAt f j) = 0) (fun i => f.sels.length - i) ?_ ?_
  · refine ⟨0, ?_, ?_⟩
    · exact ⟨Nat.zero_le _, fun j hj => by omega⟩
    · refine Ent.mk hT [(.s 2 0, 1), (.s 3 0, 1)] ⟨⟨_, rfl, Nat.le_refl _⟩, ⟨_, rfl, Nat.le_refl _⟩, trivial⟩ ⟨⟨rfl, _, rfl, conv_rpe rfl rfl (by decide) rfl rfl rfl⟩, ⟨rfl, _, rfl, conv_rpe rfl rfl (by decide) rfl rfl rfl⟩, ⟨rfl, _, rfl, by first | exact conv_eq rfl | (refine conv_eq ?_; rw [wrap_id (by omega) (by omega)]; simp; done) | (refine conv_eq ?_; simp; done)⟩, ⟨rfl, _, rfl, by first | exact conv_eq rfl | (refine conv_eq ?_; rw [wrap_id (by omega) (by omega)]; simp; done) | (refine conv_eq ?_; simp; done)⟩, ⟨rfl, _, rfl, by first | exact conv_eq rfl | (refine conv_eq ?_; rw [wrap_id (by omega) (by omega)]; simp; done) | (refine conv_eq ?_; simp; done)⟩, trivial⟩ trivial rfl
  · rintro i ⟨hi, hn⟩
    refine WP.seq ?_
    refine WP.reg hT hE [] rfl ?_ ?_
    · first | trivial | (simp [holdsC, under, slOk, slB, capEq] <;> grind)
    refine WP.seq ?_
    refine WP.cond rfl (fun h2 => ?_) (fun h2 => ?_)
    · have hil : i < f.sels.length := by simpa using h2
      have hsb := selTo_at hst i hil
      have hcl : (selAt f i).cases.length ≤ 4 := by
        simp only [selB, Bool.and_eq_true, decide_eq_true_eq] at hsb
        simp only [selAt]; omega
      refine WP.skip ?_
      refine WP.seq ?_
      refine WP.block ?_
      refine WP.seq ?_
      refine WP.reg hT hE [] rfl ?_ ?_
      · simp [holdsC, under]; omega
      refine WP.seq ?_
      refine WP.seq ?_
      refine WP.reg hT hE [] rfl ?_ ?_
      · first | trivial | (simp [holdsC, under, slOk, slB, capEq] <;> grind)
      refine WP.block ?_
      refine WP.loop (α := Nat) (fun k => mkSt [(2, .rp 26 (encProg p)), (3, .rp 166 (encFun f)), (6, .rp 221 (encSel (selAt f i))), (10, rowP 221 encSel sel0 f.sels), (11, .int f.sels.length), (12, .int i), (17, rowP 223 encCase case0 (selAt f i).cases), (18, .int (selAt f i).cases.length), (19, .int k)] []) (fun k => k ≤ (selAt f i).cases.length ∧ ∀ j, j < k → caseF p f (caseAt (selAt f i) j) = 0) (fun k => (selAt f i).cases.length - k) ?_ ?_
      · refine ⟨0, ?_, ?_⟩
        · exact ⟨Nat.zero_le _, fun j hj => by omega⟩
        · refine Ent.mk hT [(.s 6 0, 1)] ⟨⟨_, rfl, Nat.le_refl _⟩, trivial⟩ ⟨⟨rfl, _, rfl, by first | exact conv_eq rfl | (refine conv_eq ?_; rw [wrap_id (by omega) (by omega)]; simp; done) | (refine conv_eq ?_; simp; done)⟩, ⟨rfl, _, rfl, by first | exact conv_eq rfl | (refine conv_eq ?_; rw [wrap_id (by omega) (by omega)]; simp; done) | (refine conv_eq ?_; simp; done)⟩, ⟨rfl, _, rfl, conv_rpe rfl rfl (by decide) rfl rfl rfl⟩, ⟨rfl, _, rfl, by first | exact conv_eq rfl | (refine conv_eq ?_; rw [wrap_id (by omega) (by omega)]; simp; done) | (refine conv_eq ?_; simp; done)⟩, ⟨rfl, _, rfl, by first | exact conv_eq rfl | (refine conv_eq ?_; rw [wrap_id (by omega) (by omega)]; simp; done) | (refine conv_eq ?_; simp; done)⟩, ⟨rfl, _, rfl, by first | exact conv_eq rfl | (refine conv_eq ?_; rw [wrap_id (by omega) (by omega)]; simp; done) | (refine conv_eq ?_; simp; done)⟩, ⟨rfl, _, rfl, by first | exact conv_eq rfl | (refine conv_eq ?_; rw [wrap_id (by omega) (by omega)]; simp; done) | (refine conv_eq ?_; simp; done)⟩, ⟨rfl, _, rfl, by first | exact conv_eq rfl | (refine conv_eq ?_; rw [wrap_id (by omega) (by omega)]; simp; done) | (refine conv_eq ?_; simp; done)⟩, ⟨rfl, _, rfl, by first | exact conv_eq rfl | (refine conv_eq ?_; rw [wrap_id (by omega) (by omega)]; simp; done) | (refine conv_eq ?_; simp; done)⟩, trivial⟩ trivial rfl
      · rintro k ⟨hk, hc⟩
        refine WP.seq ?_
        refine WP.reg hT hE [] rfl ?_ ?_
        · first | trivial | (simp [holdsC, under, slOk, slB, capEq] <;> grind)
        refine WP.seq ?_
        refine WP.cond rfl (fun h5 => ?_) (fun h5 => ?_)
        · have hkl : k < (selAt f i).cases.length := by simpa using h5
          refine WP.skip ?_
          refine WP.seq ?_
          refine WP.block ?_
          refine WP.seq ?_
          refine WP.reg hT hE [] rfl ?_ ?_
          · have hkl2 : k < (f.sels[i]?.getD sel0).cases.length := hkl
            simp [holdsC, under]; omega
          refine WP.seq ?_
          refine WP.seq ?_
          refine WP.reg hT hE [CG.pure (.bool (withinB (caseAt (selAt f i) k).chan p.chans.length))] rfl ?_ ?_
          · have ho := rwithin_ac (caseAt (selAt f i) k).chan p.chans.length
            refine ⟨⟨rfl, rfl⟩, ?_⟩
            exact ho
          refine WP.cond rfl (fun h7 => ?_) (fun h7 => ?_)
          · have hb : objF (caseAt (selAt f i) k).chan p.chans.length ≠ 0 := (objF_w _ _).2 (by simpa using h7)
            refine WP.seq ?_
            refine WP.reg hT hE [] rfl ?_ ?_
            · first | trivial | (simp [holdsC, under, slOk, slB, capEq] <;> grind)
            refine WP.ret ?_
            change Fin _ _ _ _ _ _ _ _
            refine finI hT (by rfl) ?_
            rw [sels_case hil hn (selF_case hkl hc (by rw [caseF, if_pos hb]) (by decide)) (by decide)]
          · have hb : objF (caseAt (selAt f i) k).chan p.chans.length = 0 := by
              have e : withinB (caseAt (selAt f i) k).chan p.chans.length = true := by simpa using h7
              rw [objF, if_pos e]
            have hch := objF_ok hb
            refine WP.skip ?_
            refine WP.seq ?_
            refine WP.seq ?_
            refine WP.reg hT hE [CG.pure (.bool (withinB (caseAt (selAt f i) k).reg f.regs))] rfl ?_ ?_
            · have ho := rwithin_ac (caseAt (selAt f i) k).reg f.regs
              simp [holdsC, under, CG.pure]
              refine ⟨ho, ?_⟩
              intro a b
              simp [a, b]
            refine WP.cond rfl (fun h9 => ?_) (fun h9 => ?_)
            · have hr : ((caseAt (selAt f i) k).send || (caseAt (selAt f i) k).reg != -1) = true ∧ regF f (caseAt (selAt f i) k).reg ≠ 0 := by
                have e : (bif !withinB (caseAt (selAt f i) k).reg f.regs then (bif (caseAt (selAt f i) k).send then true else (caseAt (selAt f i) k).reg != -1) else false) = true := h9
                rw [band, bor, Bool.and_eq_true] at e
                exact ⟨e.2, (regF_w _ _).2 (by simpa using e.1)⟩
              refine WP.seq ?_
              refine WP.reg hT hE [] rfl ?_ ?_
              · first | trivial | (simp [holdsC, under, slOk, slB, capEq] <;> grind)
              refine WP.ret ?_
              change Fin _ _ _ _ _ _ _ _
              refine finI hT (by rfl) ?_
              rw [sels_case hil hn (selF_case hkl hc (by rw [caseF, if_neg (fun h => h hb), if_pos hr]) (by decide)) (by decide)]
            · have hr : ¬ (((caseAt (selAt f i) k).send || (caseAt (selAt f i) k).reg != -1) = true ∧ regF f (caseAt (selAt f i) k).reg ≠ 0) := by
                have e : (bif !withinB (caseAt (selAt f i) k).reg f.regs then (bif (caseAt (selAt f i) k).send then true else (caseAt (selAt f i) k).reg != -1) else false) = false := h9
                rw [band, bor] at e
                rintro ⟨a, b⟩
                rw [a, (regF_w _ _).1 b] at e
                cases e
              refine WP.skip ?_
              refine WP.seq ?_
              refine WP.seq ?_
              refine WP.reg hT hE [] rfl ?_ ?_
              · simp [holdsC, under]
                exact fun _ => hch
              refine WP.cond rfl (fun h11 => ?_) (fun h11 => ?_)
              · have hz : ((caseAt (selAt f i) k).send && p.chans.getD (caseAt (selAt f i) k).chan.toNat 0 == 0) = true := by
                  have e : (bif (caseAt (selAt f i) k).send then p.chans.getD (caseAt (selAt f i) k).chan.toNat 0 == 0 else false) = true := h11
                  rwa [band] at e
                refine WP.seq ?_
                refine WP.reg hT hE [] rfl ?_ ?_
                · first | trivial | (simp [holdsC, under, slOk, slB, capEq] <;> grind)
                refine WP.ret ?_
                change Fin _ _ _ _ _ _ _ _
                refine finI hT (by rfl) ?_
                rw [sels_case hil hn (selF_case hkl hc (by rw [caseF, if_neg (fun h => h hb), if_neg hr, if_pos hz]) (by decide)) (by decide)]
              · have hz : ¬ ((caseAt (selAt f i) k).send && p.chans.getD (caseAt (selAt f i) k).chan.toNat 0 == 0) = true := by
                  have e : (bif (caseAt (selAt f i) k).send then p.chans.getD (caseAt (selAt f i) k).chan.toNat 0 == 0 else false) = false := h11
                  rw [band] at e
                  rw [e]; decide
                have hcf : caseF p f (caseAt (selAt f i) k) = tgtF f (caseAt (selAt f i) k).to := by rw [caseF, if_neg (fun h => h hb), if_neg hr, if_neg hz]
                refine WP.skip ?_
                refine WP.seq ?_
                refine WP.reg hT hE [CG.pure (.bool (withinB (caseAt (selAt f i) k).to f.code.length))] rfl ?_ ?_
                · have ho := rwithin_ac (caseAt (selAt f i) k).to f.code.length
                  refine ⟨⟨rfl, rfl⟩, ?_⟩
                  exact ho
                refine WP.cond rfl (fun h13 => ?_) (fun h13 => ?_)
                · have ht : tgtF f (caseAt (selAt f i) k).to = 38 := by
                    have e : withinB (caseAt (selAt f i) k).to f.code.length = false := by simpa using h13
                    rw [tgtF, e]; rfl
                  refine WP.seq ?_
                  refine WP.reg hT hE [] rfl ?_ ?_
                  · first | trivial | (simp [holdsC, under, slOk, slB, capEq] <;> grind)
                  refine WP.ret ?_
                  change Fin _ _ _ _ _ _ _ _
                  refine finI hT (by rfl) ?_
                  rw [sels_case hil hn (selF_case hkl hc (by rw [hcf, ht]) (by decide)) (by decide)]
                · have ht : tgtF f (caseAt (selAt f i) k).to = 0 := by
                    have e : withinB (caseAt (selAt f i) k).to f.code.length = true := by simpa using h13
                    rw [tgtF, if_pos e]
                  refine WP.skip ?_
                  refine WP.reg hT hE [] rfl ?_ ?_
                  · first | trivial | (simp [holdsC, under, slOk, slB, capEq] <;> grind)
                  refine ⟨k + 1, ?_, ?_, ?_⟩
                  · exact ⟨hkl, below_succ hc (by rw [hcf, ht])⟩
                  · refine Ent.mk hT [] trivial ⟨⟨rfl, _, rfl, by first | exact conv_eq rfl | (refine conv_eq ?_; rw [wrap_id (by omega) (by omega)]; simp; done) | (refine conv_eq ?_; simp; done)⟩, ⟨rfl, _, rfl, by first | exact conv_eq rfl | (refine conv_eq ?_; rw [wrap_id (by omega) (by omega)]; simp; done) | (refine conv_eq ?_; simp; done)⟩, ⟨rfl, _, rfl, by first | exact conv_eq rfl | (refine conv_eq ?_; rw [wrap_id (by omega) (by omega)]; simp; done) | (refine conv_eq ?_; simp; done)⟩, ⟨rfl, _, rfl, by first | exact conv_eq rfl | (refine conv_eq ?_; rw [wrap_id (by omega) (by omega)]; simp; done) | (refine conv_eq ?_; simp; done)⟩, ⟨rfl, _, rfl, by first | exact conv_eq rfl | (refine conv_eq ?_; rw [wrap_id (by omega) (by omega)]; simp; done) | (refine conv_eq ?_; simp; done)⟩, ⟨rfl, _, rfl, by first | exact conv_eq rfl | (refine conv_eq ?_; rw [wrap_id (by omega) (by omega)]; simp; done) | (refine conv_eq ?_; simp; done)⟩, ⟨rfl, _, rfl, by first | exact conv_eq rfl | (refine conv_eq ?_; rw [wrap_id (by omega) (by omega)]; simp; done) | (refine conv_eq ?_; simp; done)⟩, ⟨rfl, _, rfl, by first | exact conv_eq rfl | (refine conv_eq ?_; rw [wrap_id (by omega) (by omega)]; simp; done) | (refine conv_eq ?_; simp; done)⟩, ⟨rfl, _, rfl, by first | exact conv_eq rfl | (refine conv_eq ?_; rw [wrap_id (by omega) (by omega)]; simp; done) | (refine conv_eq ?_; simp; done)⟩, trivial⟩ trivial rfl
                  · (try simp only []); first | omega | grind
        · have hkl : k = (selAt f i).cases.length := by simp only [decide_eq_false_iff_not] at h5; omega
          subst hkl
          have hsf : selF p f (selAt f i) = elseF f (selAt f i) := by rw [selF, fstE_all hc]; simp
          refine WP.exit ?_
          refine WP.seq ?_
          refine WP.reg hT hE [CG.pure (.bool (withinB (selAt f i).els f.code.length))] rfl ?_ ?_
          · have ho := rwithin_ac (selAt f i).els f.code.length
            simp [holdsC, under, CG.pure]
            exact fun _ => ho
          refine WP.cond rfl (fun h16 => ?_) (fun h16 => ?_)
          · have he : elseF f (selAt f i) = 38 := by
              have e : (bif (selAt f i).els != -1 then !withinB (selAt f i).els f.code.length else false) = true := h16
              rw [band, Bool.and_eq_true, Bool.not_eq_true'] at e
              rw [elseF, if_pos (by simpa using e.1), tgtF, e.2]; rfl
            refine WP.seq ?_
            refine WP.reg hT hE [] rfl ?_ ?_
            · first | trivial | (simp [holdsC, under, slOk, slB, capEq] <;> grind)
            refine WP.ret ?_
            change Fin _ _ _ _ _ _ _ _
            refine finI hT (by rfl) ?_
            rw [sels_case hil hn (by rw [hsf, he]) (by decide)]
          · have he : elseF f (selAt f i) = 0 := by
              have e : (bif (selAt f i).els != -1 then !withinB (selAt f i).els f.code.length else false) = false := h16
              rw [band] at e
              rw [elseF]
              split
              · rename_i h1
                rw [show ((selAt f i).els != -1) = true by simpa using h1, Bool.true_and] at e
                rw [tgtF, if_pos (by simpa using e)]
              · rfl
            refine WP.skip ?_
            refine WP.reg hT hE [] rfl ?_ ?_
            · first | trivial | (simp [holdsC, under, slOk, slB, capEq] <;> grind)
            refine ⟨i + 1, ?_, ?_, ?_⟩
            · exact ⟨hil, below_succ hn (by rw [hsf, he])⟩
            · refine Ent.mk hT [] trivial ⟨⟨rfl, _, rfl, by first | exact conv_eq rfl | (refine conv_eq ?_; rw [wrap_id (by omega) (by omega)]; simp; done) | (refine conv_eq ?_; simp; done)⟩, ⟨rfl, _, rfl, by first | exact conv_eq rfl | (refine conv_eq ?_; rw [wrap_id (by omega) (by omega)]; simp; done) | (refine conv_eq ?_; simp; done)⟩, ⟨rfl, _, rfl, by first | exact conv_eq rfl | (refine conv_eq ?_; rw [wrap_id (by omega) (by omega)]; simp; done) | (refine conv_eq ?_; simp; done)⟩, ⟨rfl, _, rfl, by first | exact conv_eq rfl | (refine conv_eq ?_; rw [wrap_id (by omega) (by omega)]; simp; done) | (refine conv_eq ?_; simp; done)⟩, ⟨rfl, _, rfl, by first | exact conv_eq rfl | (refine conv_eq ?_; rw [wrap_id (by omega) (by omega)]; simp; done) | (refine conv_eq ?_; simp; done)⟩, trivial⟩ trivial rfl
            · (try simp only []); first | omega | grind
    · have hil : i = f.sels.length := by simp at h2; omega
      subst hil
      refine WP.exit ?_
      refine WP.seq ?_
      refine WP.reg hT hE [] rfl ?_ ?_
      · first | trivial | (simp [holdsC, under, slOk, slB, capEq] <;> grind)
      refine WP.ret ?_
      change Fin _ _ _ _ _ _ _ _
      exact finI hT (by rfl) (by rw [selsF, fstE_all hn])
end Go.Ab


/- Programs checked. -/
set_option autoImplicit false
set_option maxRecDepth 20000
set_option maxHeartbeats 4000000
set_option linter.unusedSimpArgs false
set_option linter.unusedVariables false
namespace Go.Ab
open Go.Proofs
/-- The place of the first thing that is wrong. -/
def fkE {α : Type} (g : α → Int) : List α → Nat
  | [] => 0
  | x :: r => if g x ≠ 0 then 0 else fkE g r + 1
theorem fkE_at {α : Type} {g : α → Int} {d : α} : ∀ {l : List α} {i : Nat}, i < l.length → (∀ j, j < i → g (l.getD j d) = 0) → g (l.getD i d) ≠ 0 → fkE g l = i
  | x :: r, 0, _, _, hb => by
    have hb' : g x ≠ 0 := hb
    rw [fkE, if_pos hb']
  | x :: r, i + 1, hi, hn, hb => by
    have h0 := hn 0 (by omega)
    rw [fkE, if_neg (by simpa using h0)]
    rw [fkE_at (l := r) (i := i) (by simpa using hi) (fun j hj => hn (j + 1) (by omega)) hb]
def spotA (a b : Int) : AV := stru 82 [.int a, .int b]
def lastO (f : PFun) : Int := (f.code.getD (f.code.length - 1) ins0).op
def endO (op : Int) : Bool := op == 42 || op == 45 || op == 61
theorem endO_1 {x : Int} (h : (x == 42) = true) : endO x = true := by rw [endO, h]; rfl
theorem endO_2 {x : Int} (h : (x == 45) = true) : endO x = true := by rw [endO, h]; simp
theorem endO_3 {x : Int} (h : (x == 61) = true) : endO x = true := by rw [endO, h]; simp
theorem endO_no {x : Int} (h1 : (x == 42) = false) (h2 : (x == 45) = false) (h3 : (x == 61) = false) : endO x = false := by rw [endO, h1, h2, h3]; rfl
def funE (p : PProg) (f : PFun) (main : Bool) : Int × Int :=
  if formedF f main = false then (32, 0) else if selsF p f ≠ 0 then (selsF p f, 0) else
  if fstE (instrF p f) f.code ≠ 0 then (fstE (instrF p f) f.code, fkE (instrF p f) f.code) else
  if endO (lastO f) then (0, 0) else (39, (f.code.length : Int) - 1)
abbrev funAt (p : PProg) (i : Nat) : PFun := p.funcs.getD i fun0
/-- From function i on. -/
def progFrom (p : PProg) : Nat → Nat → Int × Int × Int
  | 0, _ => (0, 0, 0)
  | n + 1, i => if (funE p (funAt p i) (i == 0)).1 ≠ 0 then ((funE p (funAt p i) (i == 0)).1, i, (funE p (funAt p i) (i == 0)).2) else progFrom p n (i + 1)
def checkF (p : PProg) : Int × Int × Int := if wholeF p ≠ 0 then (wholeF p, 0, 0) else progFrom p p.funcs.length 0
theorem progFrom_skip {p : PProg} : ∀ {i n : Nat}, i ≤ n → (∀ j, j < i → (funE p (funAt p j) (j == 0)).1 = 0) → progFrom p n 0 = progFrom p (n - i) i
  | 0, n, _, _ => rfl
  | i + 1, n, h, hn => by
    rw [progFrom_skip (i := i) (by omega) (fun j hj => hn j (by omega)), show n - i = (n - (i + 1)) + 1 by omega, progFrom, if_neg (fun h => h (hn i (by omega)))]
theorem check_at {p : PProg} {i : Nat} {e pc : Int} (hw : wholeF p = 0) (hi : i < p.funcs.length) (hn : ∀ j, j < i → (funE p (funAt p j) (j == 0)).1 = 0) (he : funE p (funAt p i) (i == 0) = (e, pc)) (h0 : e ≠ 0) : checkF p = (e, (i : Int), pc) := by
  rw [checkF, if_neg (by simp [hw]), progFrom_skip (Nat.le_of_lt hi) hn, show p.funcs.length - i = (p.funcs.length - i - 1) + 1 by omega, progFrom, he, if_pos h0]
theorem check_ok {p : PProg} (hw : wholeF p = 0) (hn : ∀ j, j < p.funcs.length → (funE p (funAt p j) (j == 0)).1 = 0) : checkF p = (0, 0, 0) := by
  rw [checkF, if_neg (by simp [hw]), progFrom_skip (Nat.le_refl _) hn, Nat.sub_self]; rfl
def checkA (p : PProg) : AV := .tup [.int (checkF p).1, spotA (checkF p).2.1 (checkF p).2.2]
theorem noIds_spot (a b : Int) : noIds (spotA a b) = true := rfl
theorem fin_spot {nt : Nat} {st : St} {p : PProg} {e a b : Int} {B : Blk} (hc : checkF p = (e, a, b)) (h2 : st.t 2 = some (.always, .int e)) (h3 : st.t 3 = some (.always, .ptr (.s 3 0) 1 0 [])) (hm : st.m (.s 3 0) = some (.cells B)) (hty : B.ty = 82) (hn1 : B.n = 1) (hfz : B.fz = 0) (hy : Conv st.m (fun id => lookF id []) T (B.get 0) (spotA a b)) : Fin T tysN nt 0 [.tmp 2, .cell 3 82] (checkA p) [] st := by
  obtain ⟨ty, n, get, fz⟩ := B
  simp only at hty hn1 hfz hy
  subst hty hn1 hfz
  rw [checkA, hc]
  refine Fin.ent (Ent.mk (P := Tryz.prog) hT [] (ts := [(2, .int e), (3, .ptr (.s 3 0) 1 0 [])]) (ms := [(.s 3 0, .cells ⟨82, 1, fun _ => spotA a b, 0⟩)]) trivial ⟨⟨rfl, _, h2, conv_eq rfl⟩, ⟨rfl, _, h3, conv_eq rfl⟩, trivial⟩ ⟨⟨fun _ _ => rfl, .inl ⟨_, hm, _, _, rfl, Nat.le_refl _, Nat.zero_le _, Nat.zero_le _, fun q hq => ?_⟩⟩, trivial⟩ rfl) ?_
  · obtain rfl : q = 0 := by simp at hq; exact hq
    exact hy
  · refine fin_mk hT [(.s 3 0, 1)] (ts := [(2, .int e), (3, .rp 82 (spotA a b))]) (l := [.int e, spotA a b]) ⟨⟨_, rfl, Nat.le_refl _⟩, trivial⟩ ⟨⟨rfl, _, rfl, conv_eq rfl⟩, ⟨rfl, _, rfl, ?_⟩, trivial⟩ trivial rfl rfl rfl
    exact conv_rpe rfl rfl (by simp [lookF, idbeq_self]) rfl rfl (noIds_spot a b)
theorem spot_a (a b : Int) : (AV.agg 82 2 fun q => bif Nat.beq q 1 then .int b else bif Nat.beq q 0 then .int a else [AV.int 0, AV.int 0].getD q .bad) = spotA a b := agg_ext (fun q => by match q with | 0 | 1 | q + 2 => rfl)
theorem pcheck_ac (p : PProg) : AC Tryz.prog T tysN 91 [encProg p] [] (checkA p) [] := by
  refine AC_intro hT Tryz.func91 rfl rfl (Nat.le_of_ble_eq_true rfl) ?_
  refine WP.seq ?_
  refine WP.reg hT hE [] rfl ?_ ?_
  · first | trivial | (simp [holdsC, under, slOk, slB, capEq] <;> grind)
  refine WP.seq ?_
  refine WP.seq ?_
  refine WP.reg hT hE [CG.pure (.int (wholeF p))] rfl ?_ ?_
  · have hw := whole_ac p
    exact ⟨rfl, hw⟩
  refine WP.seq ?_
  refine WP.reg hT hE [] rfl ?_ ?_
  · first | trivial | (simp [holdsC, under, slOk, slB, capEq] <;> grind)
  refine WP.cond rfl (fun h2 => ?_) (fun h2 => ?_)
  · have hw : wholeF p ≠ 0 := by simpa using h2
    refine WP.seq ?_
    refine WP.reg hT hE [] rfl ?_ ?_
    · first | trivial | (simp [holdsC, under, slOk, slB, capEq] <;> grind)
    refine WP.ret ?_
    change Fin _ _ _ _ _ _ _ _
    refine fin_spot (e := wholeF p) (a := 0) (b := 0) (by rw [checkF, if_pos hw]) rfl rfl rfl rfl rfl rfl ?_
    exact conv_eq rfl
  · have hw : wholeF p = 0 := by simpa using h2
    have hfl : p.funcs.length ≤ 8 := by
      have h1 : szB p = false := by
        unfold wholeF at hw
        split at hw
        · cases hw
        · rename_i h; simpa using h
      simp [szB] at h1; omega
    refine WP.skip ?_
    refine WP.seq ?_
    refine WP.seq ?_
    refine WP.reg hT hE [] rfl ?_ ?_
    · first | trivial | (simp [holdsC, under, slOk, slB, capEq] <;> grind)
    refine WP.block ?_
    refine WP.loop (α := Nat) (fun i => mkSt [(1, .rp 26 (encProg p)), (3, .ptr (.s 3 0) 1 0 []), (21, rowP 166 encFun fun0 p.funcs), (22, .int p.funcs.length), (23, .int i)] [(.s 3 0, .cells ⟨82, 1, fun _ => spotA 0 0, 0⟩)]) (fun i => i ≤ p.funcs.length ∧ ∀ j, j < i → (funE p (funAt p j) (j == 0)).1 = 0) (fun i => p.funcs.length - i) ?_ ?_
    · refine ⟨0, ?_, ?_⟩
      · exact ⟨Nat.zero_le _, fun j hj => by omega⟩
      · refine Ent.mk hT [(.s 1 0, 1)] ⟨⟨_, rfl, Nat.le_refl _⟩, trivial⟩ ⟨⟨rfl, _, rfl, conv_rpe rfl rfl (by decide) rfl rfl rfl⟩, ⟨rfl, _, rfl, by first | exact conv_eq rfl | (refine conv_eq ?_; rw [wrap_id (by omega) (by omega)]; simp; done) | (refine conv_eq ?_; simp; done)⟩, ⟨rfl, _, rfl, by first | exact conv_eq rfl | (refine conv_eq ?_; rw [wrap_id (by omega) (by omega)]; simp; done) | (refine conv_eq ?_; simp; done)⟩, ⟨rfl, _, rfl, by first | exact conv_eq rfl | (refine conv_eq ?_; rw [wrap_id (by omega) (by omega)]; simp; done) | (refine conv_eq ?_; simp; done)⟩, ⟨rfl, _, rfl, by first | exact conv_eq rfl | (refine conv_eq ?_; rw [wrap_id (by omega) (by omega)]; simp; done) | (refine conv_eq ?_; simp; done)⟩, trivial⟩ ⟨⟨fun _ _ => rfl, .inl ⟨_, rfl, _, _, rfl, Nat.le_refl _, Nat.zero_le _, by first | exact Nat.zero_le _ | omega, fun q hq => by first | exact conv_eq rfl | (obtain rfl : q = 0 := (by simp at hq; exact hq); exact conv_eq rfl)⟩⟩, trivial⟩ rfl
    · rintro i ⟨hi, hn⟩
      refine WP.seq ?_
      refine WP.reg hT hE [] rfl ?_ ?_
      · first | trivial | (simp [holdsC, under, slOk, slB, capEq] <;> grind)
      refine WP.seq ?_
      refine WP.cond rfl (fun h5 => ?_) (fun h5 => ?_)
      · have hil : i < p.funcs.length := by simpa using h5
        refine WP.skip ?_
        refine WP.seq ?_
        refine WP.block ?_
        refine WP.seq ?_
        refine WP.reg hT hE [] rfl ?_ ?_
        · simp [holdsC, under]; omega
        refine WP.seq ?_
        refine WP.seq ?_
        refine WP.reg hT hE [CG.pure (.int (if formedF (funAt p i) (i == 0) then 0 else 32))] rfl ?_ ?_
        · have hz := sizes_ac (funAt p i) (i == 0)
          have ei : ((i : Int) == 0) = (i == 0) := by rw [Bool.eq_iff_iff]; simp
          refine ⟨rfl, ?_⟩
          have hz2 : AC Tryz.prog T tysN 132 [encFun (funAt p i), .bool ((i : Int) == 0)] [] (.int (if formedF (funAt p i) (i == 0) then 0 else 32)) [] := by rw [ei]; exact hz
          exact hz2
        refine WP.seq ?_
        refine WP.reg hT hE [] rfl ?_ ?_
        · first | trivial | (simp [holdsC, under, slOk, slB, capEq] <;> grind)
        refine WP.cond rfl (fun h8 => ?_) (fun h8 => ?_)
        · have hb : formedF (funAt p i) (i == 0) = false := by
            cases hz : formedF (funAt p i) (i == 0) with
            | false => rfl
            | true => rw [hz] at h8; simp at h8
          refine WP.seq ?_
          refine WP.reg hT hE [] rfl ?_ ?_
          · first | trivial | (simp [holdsC, under, slOk, slB, capEq] <;> grind)
          refine WP.ret ?_
          change Fin _ _ _ _ _ _ _ _
          exact fin_spot (e := (if formedF (funAt p i) (i == 0) then 0 else 32)) (a := i) (b := 0) (by rw [hb]; exact check_at (e := 32) hw hil hn (by rw [funE, if_pos hb]) (by decide)) rfl rfl rfl rfl rfl rfl (conv_eq (agg_ext (fun q => by match q with | 0 | 1 | q + 2 => rfl)))
        · have hb : formedF (funAt p i) (i == 0) = true := by
            cases hz : formedF (funAt p i) (i == 0) with
            | true => rfl
            | false => rw [hz] at h8; simp at h8
          have h64 : (funAt p i).code.length ≤ 64 ∧ 1 ≤ (funAt p i).code.length := by
            have h1 : szF (funAt p i) (i == 0) = true := by
              have h2 := hb
              rw [formedF, Bool.and_eq_true] at h2
              exact h2.1
            rw [szF_iff] at h1
            omega
          refine WP.skip ?_
          refine WP.seq ?_
          refine WP.reg hT hE [] rfl ?_ ?_
          · first | trivial | (simp [holdsC, under, slOk, slB, capEq] <;> grind)
          refine WP.seq ?_
          refine WP.seq ?_
          refine WP.ent (st' := mkSt [(1, .rp 26 (encProg p)), (3, .ptr (.s 3 0) 1 0 []), (5, .int i), (6, .rp 166 (encFun (funAt p i))), (8, .rp 196 (encCk p (funAt p i))), (21, rowP 166 encFun fun0 p.funcs), (22, .int p.funcs.length), (23, .int i)] [(.s 3 0, .cells ⟨82, 1, fun _ => spotA 0 0, 0⟩)]) ?_ ?_
          · refine Ent.mk hT [(.s 6 0, 1), (.s 40 0, 1)] ⟨⟨_, rfl, Nat.le_refl _⟩, ⟨_, rfl, Nat.le_refl _⟩, trivial⟩ ⟨⟨rfl, _, rfl, by first | exact conv_eq rfl | (refine conv_eq ?_; rw [wrap_id (by omega) (by omega)]; simp; done) | (refine conv_eq ?_; simp; done)⟩, ⟨rfl, _, rfl, by first | exact conv_eq rfl | (refine conv_eq ?_; rw [wrap_id (by omega) (by omega)]; simp; done) | (refine conv_eq ?_; simp; done)⟩, ⟨rfl, _, rfl, by first | exact conv_eq rfl | (refine conv_eq ?_; rw [wrap_id (by omega) (by omega)]; simp; done) | (refine conv_eq ?_; simp; done)⟩, ⟨rfl, _, rfl, conv_rpe rfl rfl (by decide) rfl rfl rfl⟩, ⟨rfl, _, rfl, conv_rpe rfl rfl (by decide) rfl (agg_ext (fun q => by match q with | 0 | 1 | q + 2 => rfl)) rfl⟩, ⟨rfl, _, rfl, by first | exact conv_eq rfl | (refine conv_eq ?_; rw [wrap_id (by omega) (by omega)]; simp; done) | (refine conv_eq ?_; simp; done)⟩, ⟨rfl, _, rfl, by first | exact conv_eq rfl | (refine conv_eq ?_; rw [wrap_id (by omega) (by omega)]; simp; done) | (refine conv_eq ?_; simp; done)⟩, ⟨rfl, _, rfl, by first | exact conv_eq rfl | (refine conv_eq ?_; rw [wrap_id (by omega) (by omega)]; simp; done) | (refine conv_eq ?_; simp; done)⟩, trivial⟩ ⟨⟨fun _ _ => rfl, .inl ⟨_, rfl, _, _, rfl, Nat.le_refl _, Nat.zero_le _, by first | exact Nat.zero_le _ | omega, fun q hq => by first | exact conv_eq rfl | (obtain rfl : q = 0 := (by simp at hq; exact hq); exact conv_eq rfl)⟩⟩, trivial⟩ rfl
          refine WP.reg hT hE [CG.pure (.int (selsF p (funAt p i)))] rfl ?_ ?_
          · have hs := selects_ac p (funAt p i) (i == 0) hb
            exact hs
          refine WP.seq ?_
          refine WP.reg hT hE [] rfl ?_ ?_
          · first | trivial | (simp [holdsC, under, slOk, slB, capEq] <;> grind)
          refine WP.cond rfl (fun h12 => ?_) (fun h12 => ?_)
          · have hs : selsF p (funAt p i) ≠ 0 := by simpa using h12
            refine WP.seq ?_
            refine WP.reg hT hE [] rfl ?_ ?_
            · first | trivial | (simp [holdsC, under, slOk, slB, capEq] <;> grind)
            refine WP.ret ?_
            change Fin _ _ _ _ _ _ _ _
            exact fin_spot (e := selsF p (funAt p i)) (a := i) (b := 0) (check_at hw hil hn (by rw [funE, if_neg (by rw [hb]; decide), if_pos hs]) hs) rfl rfl rfl rfl rfl rfl (conv_eq (agg_ext (fun q => by match q with | 0 | 1 | q + 2 => rfl)))
          · have hs : selsF p (funAt p i) = 0 := by simpa using h12
            refine WP.skip ?_
            refine WP.seq ?_
            refine WP.seq ?_
            refine WP.reg hT hE [] rfl ?_ ?_
            · first | trivial | (simp [holdsC, under, slOk, slB, capEq] <;> grind)
            refine WP.block ?_
            refine WP.loop (α := Nat) (fun k => mkSt [(1, .rp 26 (encProg p)), (3, .ptr (.s 3 0) 1 0 []), (5, .int i), (6, .rp 166 (encFun (funAt p i))), (8, .rp 196 (encCk p (funAt p i))), (21, rowP 166 encFun fun0 p.funcs), (22, .int p.funcs.length), (23, .int i), (49, rowP 162 encIns ins0 (funAt p i).code), (50, .int (funAt p i).code.length), (51, .int k)] [(.s 3 0, .cells ⟨82, 1, fun _ => spotA 0 0, 0⟩)]) (fun k => k ≤ (funAt p i).code.length ∧ ∀ j, j < k → instrF p (funAt p i) ((funAt p i).code.getD j ins0) = 0) (fun k => (funAt p i).code.length - k) ?_ ?_
            · refine ⟨0, ?_, ?_⟩
              · exact ⟨Nat.zero_le _, fun j hj => by omega⟩
              · refine Ent.mk hT [] trivial ⟨⟨rfl, _, rfl, by first | exact conv_eq rfl | (refine conv_eq ?_; rw [wrap_id (by omega) (by omega)]; simp; done) | (refine conv_eq ?_; simp; done)⟩, ⟨rfl, _, rfl, by first | exact conv_eq rfl | (refine conv_eq ?_; rw [wrap_id (by omega) (by omega)]; simp; done) | (refine conv_eq ?_; simp; done)⟩, ⟨rfl, _, rfl, by first | exact conv_eq rfl | (refine conv_eq ?_; rw [wrap_id (by omega) (by omega)]; simp; done) | (refine conv_eq ?_; simp; done)⟩, ⟨rfl, _, rfl, by first | exact conv_eq rfl | (refine conv_eq ?_; rw [wrap_id (by omega) (by omega)]; simp; done) | (refine conv_eq ?_; simp; done)⟩, ⟨rfl, _, rfl, by first | exact conv_eq rfl | (refine conv_eq ?_; rw [wrap_id (by omega) (by omega)]; simp; done) | (refine conv_eq ?_; simp; done)⟩, ⟨rfl, _, rfl, by first | exact conv_eq rfl | (refine conv_eq ?_; rw [wrap_id (by omega) (by omega)]; simp; done) | (refine conv_eq ?_; simp; done)⟩, ⟨rfl, _, rfl, by first | exact conv_eq rfl | (refine conv_eq ?_; rw [wrap_id (by omega) (by omega)]; simp; done) | (refine conv_eq ?_; simp; done)⟩, ⟨rfl, _, rfl, by first | exact conv_eq rfl | (refine conv_eq ?_; rw [wrap_id (by omega) (by omega)]; simp; done) | (refine conv_eq ?_; simp; done)⟩, ⟨rfl, _, rfl, by first | exact conv_eq rfl | (refine conv_eq ?_; rw [wrap_id (by omega) (by omega)]; simp; done) | (refine conv_eq ?_; simp; done)⟩, ⟨rfl, _, rfl, by first | exact conv_eq rfl | (refine conv_eq ?_; rw [wrap_id (by omega) (by omega)]; simp; done) | (refine conv_eq ?_; simp; done)⟩, ⟨rfl, _, rfl, by first | exact conv_eq rfl | (refine conv_eq ?_; rw [wrap_id (by omega) (by omega)]; simp; done) | (refine conv_eq ?_; simp; done)⟩, trivial⟩ ⟨⟨fun _ _ => rfl, .inl ⟨_, rfl, _, _, rfl, Nat.le_refl _, Nat.zero_le _, by first | exact Nat.zero_le _ | omega, fun q hq => by first | exact conv_eq rfl | (obtain rfl : q = 0 := (by simp at hq; exact hq); exact conv_eq rfl)⟩⟩, trivial⟩ rfl
            · rintro k ⟨hk, hc⟩
              refine WP.seq ?_
              refine WP.reg hT hE [] rfl ?_ ?_
              · first | trivial | (simp [holdsC, under, slOk, slB, capEq] <;> grind)
              refine WP.seq ?_
              refine WP.cond rfl (fun h15 => ?_) (fun h15 => ?_)
              · have hkl : k < (funAt p i).code.length := by simpa using h15
                refine WP.skip ?_
                refine WP.seq ?_
                refine WP.block ?_
                refine WP.seq ?_
                refine WP.reg hT hE [] rfl ?_ ?_
                · have hkl2 : k < (p.funcs[i]?.getD fun0).code.length := hkl
                  simp [holdsC, under]; omega
                refine WP.seq ?_
                refine WP.reg hT hE [CG.pure (.int (instrF p (funAt p i) ((funAt p i).code.getD k ins0)))] rfl ?_ ?_
                · have hx := instr_ac p (funAt p i) ((funAt p i).code.getD k ins0)
                  refine ⟨rfl, ?_⟩
                  exact hx
                refine WP.seq ?_
                refine WP.reg hT hE [] rfl ?_ ?_
                · first | trivial | (simp [holdsC, under, slOk, slB, capEq] <;> grind)
                refine WP.cond rfl (fun h18 => ?_) (fun h18 => ?_)
                · have hx : instrF p (funAt p i) ((funAt p i).code.getD k ins0) ≠ 0 := by simpa using h18
                  refine WP.seq ?_
                  refine WP.reg hT hE [] rfl ?_ ?_
                  · first | trivial | (simp [holdsC, under, slOk, slB, capEq] <;> grind)
                  refine WP.ret ?_
                  change Fin _ _ _ _ _ _ _ _
                  exact fin_spot (e := instrF p (funAt p i) ((funAt p i).code.getD k ins0)) (a := i) (b := k) (check_at hw hil hn (by rw [funE, if_neg (by rw [hb]; decide), if_neg (fun h => h hs), fstE_at hkl hc hx, fkE_at hkl hc hx, if_pos hx]) hx) rfl rfl rfl rfl rfl rfl (conv_eq (agg_ext (fun q => by match q with | 0 | 1 | q + 2 => rfl)))
                · have hx : instrF p (funAt p i) ((funAt p i).code.getD k ins0) = 0 := by simpa using h18
                  refine WP.skip ?_
                  refine WP.reg hT hE [] rfl ?_ ?_
                  · first | trivial | (simp [holdsC, under, slOk, slB, capEq] <;> grind)
                  refine ⟨k + 1, ?_, ?_, ?_⟩
                  · exact ⟨hkl, below_succ hc hx⟩
                  · refine Ent.mk hT [] trivial ⟨⟨rfl, _, rfl, by first | exact conv_eq rfl | (refine conv_eq ?_; rw [wrap_id (by omega) (by omega)]; simp; done) | (refine conv_eq ?_; simp; done)⟩, ⟨rfl, _, rfl, by first | exact conv_eq rfl | (refine conv_eq ?_; rw [wrap_id (by omega) (by omega)]; simp; done) | (refine conv_eq ?_; simp; done)⟩, ⟨rfl, _, rfl, by first | exact conv_eq rfl | (refine conv_eq ?_; rw [wrap_id (by omega) (by omega)]; simp; done) | (refine conv_eq ?_; simp; done)⟩, ⟨rfl, _, rfl, by first | exact conv_eq rfl | (refine conv_eq ?_; rw [wrap_id (by omega) (by omega)]; simp; done) | (refine conv_eq ?_; simp; done)⟩, ⟨rfl, _, rfl, by first | exact conv_eq rfl | (refine conv_eq ?_; rw [wrap_id (by omega) (by omega)]; simp; done) | (refine conv_eq ?_; simp; done)⟩, ⟨rfl, _, rfl, by first | exact conv_eq rfl | (refine conv_eq ?_; rw [wrap_id (by omega) (by omega)]; simp; done) | (refine conv_eq ?_; simp; done)⟩, ⟨rfl, _, rfl, by first | exact conv_eq rfl | (refine conv_eq ?_; rw [wrap_id (by omega) (by omega)]; simp; done) | (refine conv_eq ?_; simp; done)⟩, ⟨rfl, _, rfl, by first | exact conv_eq rfl | (refine conv_eq ?_; rw [wrap_id (by omega) (by omega)]; simp; done) | (refine conv_eq ?_; simp; done)⟩, ⟨rfl, _, rfl, by first | exact conv_eq rfl | (refine conv_eq ?_; rw [wrap_id (by omega) (by omega)]; simp; done) | (refine conv_eq ?_; simp; done)⟩, ⟨rfl, _, rfl, by first | exact conv_eq rfl | (refine conv_eq ?_; rw [wrap_id (by omega) (by omega)]; simp; done) | (refine conv_eq ?_; simp; done)⟩, ⟨rfl, _, rfl, by first | exact conv_eq rfl | (refine conv_eq ?_; rw [wrap_id (by omega) (by omega)]; simp; done) | (refine conv_eq ?_; simp; done)⟩, trivial⟩ ⟨⟨fun _ _ => rfl, .inl ⟨_, rfl, _, _, rfl, Nat.le_refl _, Nat.zero_le _, by first | exact Nat.zero_le _ | omega, fun q hq => by first | exact conv_eq rfl | (obtain rfl : q = 0 := (by simp at hq; exact hq); exact conv_eq rfl)⟩⟩, trivial⟩ rfl
                  · (try simp only []); first | omega | grind
              · have hkl : k = (funAt p i).code.length := by simp only [decide_eq_false_iff_not] at h15; omega
                subst hkl
                refine WP.exit ?_
                refine WP.seq ?_
                refine WP.reg hT hE [] rfl ?_ ?_
                · first | trivial | (simp [holdsC, under, slOk, slB, capEq] <;> grind)
                refine WP.seq ?_
                refine WP.reg hT hE [] rfl ?_ ?_
                · have hc64 : (p.funcs[i]?.getD fun0).code.length ≤ 64 ∧ 1 ≤ (p.funcs[i]?.getD fun0).code.length := h64
                  simp [holdsC, under]
                  rw [wrap_id (by omega) (by omega)]
                  omega
                refine WP.block ?_
                refine WP.seq ?_
                refine WP.seq ?_
                have hlst : (funAt p i).code.getD (IntKind.i64.wrap (((funAt p i).code.length : Int) - 1)).toNat ins0 = (funAt p i).code.getD ((funAt p i).code.length - 1) ins0 := by
                  rw [wrap_id (by omega) (by omega)]
                  congr 1
                  omega
                have ho : ((funAt p i).code.getD (IntKind.i64.wrap (((funAt p i).code.length : Int) - 1)).toNat ins0).op = lastO (funAt p i) := by rw [hlst]; rfl
                refine WP.reg hT hE [] rfl ?_ ?_
                · first | trivial | (simp [holdsC, under, slOk, slB, capEq] <;> grind)
                refine WP.cond rfl (fun h24 => ?_) (fun h24 => ?_)
                · refine WP.skip ?_
                  refine WP.cond rfl (fun h24 => ?_) (fun h24 => ?_)
                  · refine WP.skip ?_
                    refine WP.reg hT hE [] rfl ?_ ?_
                    · first | trivial | (simp [holdsC, under, slOk, slB, capEq] <;> grind)
                    refine ⟨i + 1, ?_, ?_, ?_⟩
                    · refine ⟨hil, below_succ hn ?_⟩
                      have he : endO (lastO (funAt p i)) = true := by first | exact endO_1 (by rw [← ho]; exact h24) | exact endO_2 (by rw [← ho]; exact h25) | exact endO_3 (by rw [← ho]; exact h26)
                      rw [funE, if_neg (by rw [hb]; decide), if_neg (fun h => h hs), if_neg (fun h => h (fstE_all hc)), if_pos he]
                    · refine Ent.mk hT [] trivial ⟨⟨rfl, _, rfl, by first | exact conv_eq rfl | (refine conv_eq ?_; rw [wrap_id (by omega) (by omega)]; simp; done) | (refine conv_eq ?_; simp; done)⟩, ⟨rfl, _, rfl, by first | exact conv_eq rfl | (refine conv_eq ?_; rw [wrap_id (by omega) (by omega)]; simp; done) | (refine conv_eq ?_; simp; done)⟩, ⟨rfl, _, rfl, by first | exact conv_eq rfl | (refine conv_eq ?_; rw [wrap_id (by omega) (by omega)]; simp; done) | (refine conv_eq ?_; simp; done)⟩, ⟨rfl, _, rfl, by first | exact conv_eq rfl | (refine conv_eq ?_; rw [wrap_id (by omega) (by omega)]; simp; done) | (refine conv_eq ?_; simp; done)⟩, ⟨rfl, _, rfl, by first | exact conv_eq rfl | (refine conv_eq ?_; rw [wrap_id (by omega) (by omega)]; simp; done) | (refine conv_eq ?_; simp; done)⟩, trivial⟩ ⟨⟨fun _ _ => rfl, .inl ⟨_, rfl, _, _, rfl, Nat.le_refl _, Nat.zero_le _, by first | exact Nat.zero_le _ | omega, fun q hq => by first | exact conv_eq rfl | (obtain rfl : q = 0 := (by simp at hq; exact hq); exact conv_eq rfl)⟩⟩, trivial⟩ rfl
                    · (try simp only []); first | omega | grind
                  · simp_all
                · refine WP.seq ?_
                  refine WP.reg hT hE [] rfl ?_ ?_
                  · first | trivial | (simp [holdsC, under, slOk, slB, capEq] <;> grind)
                  refine WP.cond rfl (fun h25 => ?_) (fun h25 => ?_)
                  · refine WP.skip ?_
                    refine WP.cond rfl (fun h25 => ?_) (fun h25 => ?_)
                    · refine WP.skip ?_
                      refine WP.reg hT hE [] rfl ?_ ?_
                      · first | trivial | (simp [holdsC, under, slOk, slB, capEq] <;> grind)
                      refine ⟨i + 1, ?_, ?_, ?_⟩
                      · refine ⟨hil, below_succ hn ?_⟩
                        have he : endO (lastO (funAt p i)) = true := by first | exact endO_1 (by rw [← ho]; exact h24) | exact endO_2 (by rw [← ho]; exact h25) | exact endO_3 (by rw [← ho]; exact h26)
                        rw [funE, if_neg (by rw [hb]; decide), if_neg (fun h => h hs), if_neg (fun h => h (fstE_all hc)), if_pos he]
                      · refine Ent.mk hT [] trivial ⟨⟨rfl, _, rfl, by first | exact conv_eq rfl | (refine conv_eq ?_; rw [wrap_id (by omega) (by omega)]; simp; done) | (refine conv_eq ?_; simp; done)⟩, ⟨rfl, _, rfl, by first | exact conv_eq rfl | (refine conv_eq ?_; rw [wrap_id (by omega) (by omega)]; simp; done) | (refine conv_eq ?_; simp; done)⟩, ⟨rfl, _, rfl, by first | exact conv_eq rfl | (refine conv_eq ?_; rw [wrap_id (by omega) (by omega)]; simp; done) | (refine conv_eq ?_; simp; done)⟩, ⟨rfl, _, rfl, by first | exact conv_eq rfl | (refine conv_eq ?_; rw [wrap_id (by omega) (by omega)]; simp; done) | (refine conv_eq ?_; simp; done)⟩, ⟨rfl, _, rfl, by first | exact conv_eq rfl | (refine conv_eq ?_; rw [wrap_id (by omega) (by omega)]; simp; done) | (refine conv_eq ?_; simp; done)⟩, trivial⟩ ⟨⟨fun _ _ => rfl, .inl ⟨_, rfl, _, _, rfl, Nat.le_refl _, Nat.zero_le _, by first | exact Nat.zero_le _ | omega, fun q hq => by first | exact conv_eq rfl | (obtain rfl : q = 0 := (by simp at hq; exact hq); exact conv_eq rfl)⟩⟩, trivial⟩ rfl
                      · (try simp only []); first | omega | grind
                    · simp_all
                  · refine WP.reg hT hE [] rfl ?_ ?_
                    · first | trivial | (simp [holdsC, under, slOk, slB, capEq] <;> grind)
                    refine WP.cond rfl (fun h26 => ?_) (fun h26 => ?_)
                    · refine WP.skip ?_
                      refine WP.reg hT hE [] rfl ?_ ?_
                      · first | trivial | (simp [holdsC, under, slOk, slB, capEq] <;> grind)
                      refine ⟨i + 1, ?_, ?_, ?_⟩
                      · refine ⟨hil, below_succ hn ?_⟩
                        have he : endO (lastO (funAt p i)) = true := by first | exact endO_1 (by rw [← ho]; exact h24) | exact endO_2 (by rw [← ho]; exact h25) | exact endO_3 (by rw [← ho]; exact h26)
                        rw [funE, if_neg (by rw [hb]; decide), if_neg (fun h => h hs), if_neg (fun h => h (fstE_all hc)), if_pos he]
                      · refine Ent.mk hT [] trivial ⟨⟨rfl, _, rfl, by first | exact conv_eq rfl | (refine conv_eq ?_; rw [wrap_id (by omega) (by omega)]; simp; done) | (refine conv_eq ?_; simp; done)⟩, ⟨rfl, _, rfl, by first | exact conv_eq rfl | (refine conv_eq ?_; rw [wrap_id (by omega) (by omega)]; simp; done) | (refine conv_eq ?_; simp; done)⟩, ⟨rfl, _, rfl, by first | exact conv_eq rfl | (refine conv_eq ?_; rw [wrap_id (by omega) (by omega)]; simp; done) | (refine conv_eq ?_; simp; done)⟩, ⟨rfl, _, rfl, by first | exact conv_eq rfl | (refine conv_eq ?_; rw [wrap_id (by omega) (by omega)]; simp; done) | (refine conv_eq ?_; simp; done)⟩, ⟨rfl, _, rfl, by first | exact conv_eq rfl | (refine conv_eq ?_; rw [wrap_id (by omega) (by omega)]; simp; done) | (refine conv_eq ?_; simp; done)⟩, trivial⟩ ⟨⟨fun _ _ => rfl, .inl ⟨_, rfl, _, _, rfl, Nat.le_refl _, Nat.zero_le _, by first | exact Nat.zero_le _ | omega, fun q hq => by first | exact conv_eq rfl | (obtain rfl : q = 0 := (by simp at hq; exact hq); exact conv_eq rfl)⟩⟩, trivial⟩ rfl
                      · (try simp only []); first | omega | grind
                    · refine WP.seq ?_
                      refine WP.reg hT hE [] rfl ?_ ?_
                      · first | trivial | (simp [holdsC, under, slOk, slB, capEq] <;> grind)
                      refine WP.ret ?_
                      change Fin _ _ _ _ _ _ _ _
                      have he : endO (lastO (funAt p i)) = false := endO_no (by rw [← ho]; exact h24) (by rw [← ho]; exact h25) (by rw [← ho]; exact h26)
                      exact fin_spot (e := 39) (a := i) (b := IntKind.i64.wrap (((funAt p i).code.length : Int) - 1)) (by
                        rw [wrap_id (by omega) (by omega)]
                        exact check_at hw hil hn (by rw [funE, if_neg (by rw [hb]; decide), if_neg (fun h => h hs), if_neg (fun h => h (fstE_all hc)), if_neg (by rw [he]; decide)]) (by decide)) rfl rfl rfl rfl rfl rfl (conv_eq (agg_ext (fun q => by match q with | 0 | 1 | q + 2 => rfl)))
      · have hil : i = p.funcs.length := by simp at h5; omega
        subst hil
        refine WP.exit ?_
        refine WP.seq ?_
        refine WP.reg hT hE [] rfl ?_ ?_
        · first | trivial | (simp [holdsC, under, slOk, slB, capEq] <;> grind)
        refine WP.ret ?_
        change Fin _ _ _ _ _ _ _ _
        exact fin_spot (e := 0) (a := 0) (b := 0) (check_ok hw hn) rfl rfl rfl rfl rfl rfl (conv_eq rfl)
end Go.Ab


/- The reference: programs checked. -/
set_option autoImplicit false
set_option maxRecDepth 20000
set_option maxHeartbeats 4000000
set_option linter.unusedSimpArgs false
set_option linter.unusedVariables false
namespace Go.Ab
open Go.Proofs
theorem rpcheck_ac (p : PProg) : AC Tryz.prog T tysN 71 [encProg p] [] (checkA p) [] := by
  refine AC_intro hT Tryz.func71 rfl rfl (Nat.le_of_ble_eq_true rfl) ?_
  refine WP.seq ?_
  refine WP.reg hT hE [] rfl ?_ ?_
  · first | trivial | (simp [holdsC, under, slOk, slB, capEq] <;> grind)
  refine WP.seq ?_
  refine WP.seq ?_
  refine WP.reg hT hE [] rfl ?_ ?_
  · first | trivial | (simp [holdsC, under, slOk, slB, capEq] <;> grind)
  refine WP.cond rfl (fun h1 => ?_) (fun h1 => ?_)
  · have hb : szB p = true := by
      simp only [bor] at h1
      exact h1
    have hw : wholeF p = 30 := by rw [wholeF, if_pos hb]
    refine WP.seq ?_
    refine WP.reg hT hE [] rfl ?_ ?_
    · first | trivial | (simp [holdsC, under, slOk, slB, capEq] <;> grind)
    refine WP.ret ?_
    change Fin _ _ _ _ _ _ _ _
    exact fin_spot (e := 30) (a := 0) (b := 0) (by rw [checkF, hw, if_pos (by decide)]) rfl rfl rfl rfl rfl rfl (conv_eq rfl)
  · have hb0 : szB p = false := by
      simp only [bor] at h1
      exact h1
    have hcl : p.chans.length ≤ 4 ∧ p.funcs.length ≤ 8 := by
      have h9 := hb0
      simp [szB] at h9; omega
    refine WP.skip ?_
    refine WP.seq ?_
    refine WP.seq ?_
    refine WP.reg hT hE [] rfl ?_ ?_
    · first | trivial | (simp [holdsC, under, slOk, slB, capEq] <;> grind)
    refine WP.block ?_
    refine WP.loop (α := Nat) (fun i => mkSt [(1, .rp 26 (encProg p)), (3, .ptr (.s 3 0) 1 0 []), (46, ints false p.chans), (47, .int p.chans.length), (48, .int i)] [(.s 3 0, .cells ⟨82, 1, fun _ => spotA 0 0, 0⟩)]) (fun i => i ≤ p.chans.length ∧ ∀ j, j < i → chanF (p.chans.getD j 0) = 0) (fun i => p.chans.length - i) ?_ ?_
    · refine ⟨0, ?_, ?_⟩
      · exact ⟨Nat.zero_le _, fun j hj => by omega⟩
      · refine Ent.mk hT [(.s 1 0, 1)] ⟨⟨_, rfl, Nat.le_refl _⟩, trivial⟩ ⟨⟨rfl, _, rfl, conv_rpe rfl rfl (by decide) rfl rfl rfl⟩, ⟨rfl, _, rfl, by first | exact conv_eq rfl | (refine conv_eq ?_; rw [wrap_id (by omega) (by omega)]; simp; done) | (refine conv_eq ?_; simp; done)⟩, ⟨rfl, _, rfl, by first | exact conv_eq rfl | (refine conv_eq ?_; rw [wrap_id (by omega) (by omega)]; simp; done) | (refine conv_eq ?_; simp; done)⟩, ⟨rfl, _, rfl, by first | exact conv_eq rfl | (refine conv_eq ?_; rw [wrap_id (by omega) (by omega)]; simp; done) | (refine conv_eq ?_; simp; done)⟩, ⟨rfl, _, rfl, by first | exact conv_eq rfl | (refine conv_eq ?_; rw [wrap_id (by omega) (by omega)]; simp; done) | (refine conv_eq ?_; simp; done)⟩, trivial⟩ ⟨⟨fun _ _ => rfl, .inl ⟨_, rfl, _, _, rfl, Nat.le_refl _, Nat.zero_le _, by first | exact Nat.zero_le _ | omega, fun q hq => by first | exact conv_eq rfl | (obtain rfl : q = 0 := (by simp at hq; exact hq); exact conv_eq rfl)⟩⟩, trivial⟩ rfl
    · rintro i ⟨hi, hn⟩
      refine WP.seq ?_
      refine WP.reg hT hE [] rfl ?_ ?_
      · first | trivial | (simp [holdsC, under, slOk, slB, capEq] <;> grind)
      refine WP.seq ?_
      refine WP.cond rfl (fun h4 => ?_) (fun h4 => ?_)
      · have hil : i < p.chans.length := by simpa using h4
        refine WP.skip ?_
        refine WP.seq ?_
        refine WP.block ?_
        refine WP.seq ?_
        refine WP.reg hT hE [] rfl ?_ ?_
        · simp [holdsC, under]; omega
        refine WP.seq ?_
        refine WP.reg hT hE [] rfl ?_ ?_
        · first | trivial | (simp [holdsC, under, slOk, slB, capEq] <;> grind)
        refine WP.cond rfl (fun h6 => ?_) (fun h6 => ?_)
        · have hx : chanF (p.chans.getD i 0) = 31 := by
            simp only [bor] at h6
            exact if_pos h6
          have hw : wholeF p = 31 := by rw [wholeF, hb0, if_neg (by simp), fstE_at hil hn (by rw [hx]; decide), hx]
          refine WP.seq ?_
          refine WP.reg hT hE [] rfl ?_ ?_
          · first | trivial | (simp [holdsC, under, slOk, slB, capEq] <;> grind)
          refine WP.ret ?_
          change Fin _ _ _ _ _ _ _ _
          exact fin_spot (e := 31) (a := 0) (b := 0) (by rw [checkF, hw, if_pos (by decide)]) rfl rfl rfl rfl rfl rfl (conv_eq rfl)
        · have hx : chanF (p.chans.getD i 0) = 0 := by
            simp only [bor] at h6
            exact if_neg (by rw [show (decide (p.chans.getD i 0 < 0) || decide (p.chans.getD i 0 > 4)) = false from h6]; decide)
          refine WP.skip ?_
          refine WP.reg hT hE [] rfl ?_ ?_
          · first | trivial | (simp [holdsC, under, slOk, slB, capEq] <;> grind)
          refine ⟨i + 1, ?_, ?_, ?_⟩
          · exact ⟨hil, below_succ hn hx⟩
          · refine Ent.mk hT [] trivial ⟨⟨rfl, _, rfl, by first | exact conv_eq rfl | (refine conv_eq ?_; rw [wrap_id (by omega) (by omega)]; simp; done) | (refine conv_eq ?_; simp; done)⟩, ⟨rfl, _, rfl, by first | exact conv_eq rfl | (refine conv_eq ?_; rw [wrap_id (by omega) (by omega)]; simp; done) | (refine conv_eq ?_; simp; done)⟩, ⟨rfl, _, rfl, by first | exact conv_eq rfl | (refine conv_eq ?_; rw [wrap_id (by omega) (by omega)]; simp; done) | (refine conv_eq ?_; simp; done)⟩, ⟨rfl, _, rfl, by first | exact conv_eq rfl | (refine conv_eq ?_; rw [wrap_id (by omega) (by omega)]; simp; done) | (refine conv_eq ?_; simp; done)⟩, ⟨rfl, _, rfl, by first | exact conv_eq rfl | (refine conv_eq ?_; rw [wrap_id (by omega) (by omega)]; simp; done) | (refine conv_eq ?_; simp; done)⟩, trivial⟩ ⟨⟨fun _ _ => rfl, .inl ⟨_, rfl, _, _, rfl, Nat.le_refl _, Nat.zero_le _, by first | exact Nat.zero_le _ | omega, fun q hq => by first | exact conv_eq rfl | (obtain rfl : q = 0 := (by simp at hq; exact hq); exact conv_eq rfl)⟩⟩, trivial⟩ rfl
          · (try simp only []); first | omega | grind
      · have hil : i = p.chans.length := by simp at h4; omega
        subst hil
        have hw : wholeF p = 0 := by rw [wholeF, hb0, if_neg (by simp), fstE_all hn]
        clear hn hi
        have hfl := hcl.2
        refine WP.exit ?_
        refine WP.seq ?_
        refine WP.seq ?_
        refine WP.reg hT hE [] rfl ?_ ?_
        · first | trivial | (simp [holdsC, under, slOk, slB, capEq] <;> grind)
        refine WP.block ?_
        refine WP.loop (α := Nat) (fun i => mkSt [(1, .rp 26 (encProg p)), (3, .ptr (.s 3 0) 1 0 []), (61, rowP 166 encFun fun0 p.funcs), (62, .int p.funcs.length), (63, .int i)] [(.s 3 0, .cells ⟨82, 1, fun _ => spotA 0 0, 0⟩)]) (fun i => i ≤ p.funcs.length ∧ ∀ j, j < i → (funE p (funAt p j) (j == 0)).1 = 0) (fun i => p.funcs.length - i) ?_ ?_
        · refine ⟨0, ?_, ?_⟩
          · exact ⟨Nat.zero_le _, fun j hj => by omega⟩
          · refine Ent.mk hT [] trivial ⟨⟨rfl, _, rfl, by first | exact conv_eq rfl | (refine conv_eq ?_; rw [wrap_id (by omega) (by omega)]; simp; done) | (refine conv_eq ?_; simp; done)⟩, ⟨rfl, _, rfl, by first | exact conv_eq rfl | (refine conv_eq ?_; rw [wrap_id (by omega) (by omega)]; simp; done) | (refine conv_eq ?_; simp; done)⟩, ⟨rfl, _, rfl, by first | exact conv_eq rfl | (refine conv_eq ?_; rw [wrap_id (by omega) (by omega)]; simp; done) | (refine conv_eq ?_; simp; done)⟩, ⟨rfl, _, rfl, by first | exact conv_eq rfl | (refine conv_eq ?_; rw [wrap_id (by omega) (by omega)]; simp; done) | (refine conv_eq ?_; simp; done)⟩, ⟨rfl, _, rfl, by first | exact conv_eq rfl | (refine conv_eq ?_; rw [wrap_id (by omega) (by omega)]; simp; done) | (refine conv_eq ?_; simp; done)⟩, trivial⟩ ⟨⟨fun _ _ => rfl, .inl ⟨_, rfl, _, _, rfl, Nat.le_refl _, Nat.zero_le _, by first | exact Nat.zero_le _ | omega, fun q hq => by first | exact conv_eq rfl | (obtain rfl : q = 0 := (by simp at hq; exact hq); exact conv_eq rfl)⟩⟩, trivial⟩ rfl
        · rintro i ⟨hi, hn⟩
          refine WP.seq ?_
          refine WP.reg hT hE [] rfl ?_ ?_
          · first | trivial | (simp [holdsC, under, slOk, slB, capEq] <;> grind)
          refine WP.seq ?_
          refine WP.cond rfl (fun h10 => ?_) (fun h10 => ?_)
          · have hil : i < p.funcs.length := by simpa using h10
            refine WP.skip ?_
            refine WP.seq ?_
            refine WP.block ?_
            refine WP.seq ?_
            refine WP.reg hT hE [] rfl ?_ ?_
            · simp [holdsC, under]; omega
            refine WP.seq ?_
            refine WP.seq ?_
            refine WP.reg hT hE [CG.pure (.bool (formedF (funAt p i) (i == 0)))] rfl ?_ ?_
            · have hz := formed_ac i (funAt p i)
              refine ⟨rfl, ?_⟩
              exact hz
            refine WP.cond rfl (fun h12 => ?_) (fun h12 => ?_)
            · have hb : formedF (funAt p i) (i == 0) = false := by simpa using h12
              refine WP.seq ?_
              refine WP.reg hT hE [] rfl ?_ ?_
              · first | trivial | (simp [holdsC, under, slOk, slB, capEq] <;> grind)
              refine WP.ret ?_
              change Fin _ _ _ _ _ _ _ _
              exact fin_spot (e := 32) (a := i) (b := 0) (check_at (e := 32) hw hil hn (by rw [funE, if_pos hb]) (by decide)) rfl rfl rfl rfl rfl rfl (conv_eq (agg_ext (fun q => by match q with | 0 | 1 | q + 2 => rfl)))
            · have hb : formedF (funAt p i) (i == 0) = true := by simpa using h12
              have h64 : (funAt p i).code.length ≤ 64 ∧ 1 ≤ (funAt p i).code.length := by
                have h1 : szF (funAt p i) (i == 0) = true := by
                  have h2 := hb
                  rw [formedF, Bool.and_eq_true] at h2
                  exact h2.1
                rw [szF_iff] at h1
                omega
              refine WP.skip ?_
              refine WP.seq ?_
              refine WP.reg hT hE [CG.pure (.int (selsF p (funAt p i)))] rfl ?_ ?_
              · have hs := rselects_ac p (funAt p i) (i == 0) hb
                refine ⟨rfl, ?_⟩
                exact hs
              refine WP.seq ?_
              refine WP.seq ?_
              refine WP.reg hT hE [] rfl ?_ ?_
              · first | trivial | (simp [holdsC, under, slOk, slB, capEq] <;> grind)
              refine WP.cond rfl (fun h15 => ?_) (fun h15 => ?_)
              · have hs : selsF p (funAt p i) ≠ 0 := by simpa using h15
                refine WP.seq ?_
                refine WP.reg hT hE [] rfl ?_ ?_
                · first | trivial | (simp [holdsC, under, slOk, slB, capEq] <;> grind)
                refine WP.ret ?_
                change Fin _ _ _ _ _ _ _ _
                exact fin_spot (e := selsF p (funAt p i)) (a := i) (b := 0) (check_at hw hil hn (by rw [funE, if_neg (by rw [hb]; decide), if_pos hs]) hs) rfl rfl rfl rfl rfl rfl (conv_eq (agg_ext (fun q => by match q with | 0 | 1 | q + 2 => rfl)))
              · have hs : selsF p (funAt p i) = 0 := by simpa using h15
                refine WP.skip ?_
                refine WP.seq ?_
                refine WP.seq ?_
                refine WP.reg hT hE [] rfl ?_ ?_
                · first | trivial | (simp [holdsC, under, slOk, slB, capEq] <;> grind)
                refine WP.block ?_
                refine WP.loop (α := Nat) (fun k => mkSt [(1, .rp 26 (encProg p)), (3, .ptr (.s 3 0) 1 0 []), (6, .int i), (7, .rp 166 (encFun (funAt p i))), (61, rowP 166 encFun fun0 p.funcs), (62, .int p.funcs.length), (63, .int i), (83, rowP 162 encIns ins0 (funAt p i).code), (84, .int (funAt p i).code.length), (85, .int k)] [(.s 3 0, .cells ⟨82, 1, fun _ => spotA 0 0, 0⟩)]) (fun k => k ≤ (funAt p i).code.length ∧ ∀ j, j < k → instrF p (funAt p i) ((funAt p i).code.getD j ins0) = 0) (fun k => (funAt p i).code.length - k) ?_ ?_
                · refine ⟨0, ?_, ?_⟩
                  · exact ⟨Nat.zero_le _, fun j hj => by omega⟩
                  · refine Ent.mk hT [(.s 7 0, 1)] ⟨⟨_, rfl, Nat.le_refl _⟩, trivial⟩ ⟨⟨rfl, _, rfl, by first | exact conv_eq rfl | (refine conv_eq ?_; rw [wrap_id (by omega) (by omega)]; simp; done) | (refine conv_eq ?_; simp; done)⟩, ⟨rfl, _, rfl, by first | exact conv_eq rfl | (refine conv_eq ?_; rw [wrap_id (by omega) (by omega)]; simp; done) | (refine conv_eq ?_; simp; done)⟩, ⟨rfl, _, rfl, by first | exact conv_eq rfl | (refine conv_eq ?_; rw [wrap_id (by omega) (by omega)]; simp; done) | (refine conv_eq ?_; simp; done)⟩, ⟨rfl, _, rfl, conv_rpe rfl rfl (by decide) rfl rfl rfl⟩, ⟨rfl, _, rfl, by first | exact conv_eq rfl | (refine conv_eq ?_; rw [wrap_id (by omega) (by omega)]; simp; done) | (refine conv_eq ?_; simp; done)⟩, ⟨rfl, _, rfl, by first | exact conv_eq rfl | (refine conv_eq ?_; rw [wrap_id (by omega) (by omega)]; simp; done) | (refine conv_eq ?_; simp; done)⟩, ⟨rfl, _, rfl, by first | exact conv_eq rfl | (refine conv_eq ?_; rw [wrap_id (by omega) (by omega)]; simp; done) | (refine conv_eq ?_; simp; done)⟩, ⟨rfl, _, rfl, by first | exact conv_eq rfl | (refine conv_eq ?_; rw [wrap_id (by omega) (by omega)]; simp; done) | (refine conv_eq ?_; simp; done)⟩, ⟨rfl, _, rfl, by first | exact conv_eq rfl | (refine conv_eq ?_; rw [wrap_id (by omega) (by omega)]; simp; done) | (refine conv_eq ?_; simp; done)⟩, ⟨rfl, _, rfl, by first | exact conv_eq rfl | (refine conv_eq ?_; rw [wrap_id (by omega) (by omega)]; simp; done) | (refine conv_eq ?_; simp; done)⟩, trivial⟩ ⟨⟨fun _ _ => rfl, .inl ⟨_, rfl, _, _, rfl, Nat.le_refl _, Nat.zero_le _, by first | exact Nat.zero_le _ | omega, fun q hq => by first | exact conv_eq rfl | (obtain rfl : q = 0 := (by simp at hq; exact hq); exact conv_eq rfl)⟩⟩, trivial⟩ rfl
                · rintro k ⟨hk, hc⟩
                  refine WP.seq ?_
                  refine WP.reg hT hE [] rfl ?_ ?_
                  · first | trivial | (simp [holdsC, under, slOk, slB, capEq] <;> grind)
                  refine WP.seq ?_
                  refine WP.cond rfl (fun h18 => ?_) (fun h18 => ?_)
                  · have hkl : k < (funAt p i).code.length := by simpa using h18
                    refine WP.skip ?_
                    refine WP.seq ?_
                    refine WP.block ?_
                    refine WP.seq ?_
                    refine WP.reg hT hE [] rfl ?_ ?_
                    · have hkl2 : k < (p.funcs[i]?.getD fun0).code.length := hkl
                      simp [holdsC, under]; omega
                    refine WP.seq ?_
                    refine WP.reg hT hE [CG.pure (.int (instrF p (funAt p i) ((funAt p i).code.getD k ins0)))] rfl ?_ ?_
                    · have hx := rinstr_ac p (funAt p i) ((funAt p i).code.getD k ins0)
                      refine ⟨rfl, ?_⟩
                      exact hx
                    refine WP.seq ?_
                    refine WP.reg hT hE [] rfl ?_ ?_
                    · first | trivial | (simp [holdsC, under, slOk, slB, capEq] <;> grind)
                    refine WP.cond rfl (fun h21 => ?_) (fun h21 => ?_)
                    · have hx : instrF p (funAt p i) ((funAt p i).code.getD k ins0) ≠ 0 := by simpa using h21
                      refine WP.seq ?_
                      refine WP.reg hT hE [] rfl ?_ ?_
                      · first | trivial | (simp [holdsC, under, slOk, slB, capEq] <;> grind)
                      refine WP.ret ?_
                      change Fin _ _ _ _ _ _ _ _
                      exact fin_spot (e := instrF p (funAt p i) ((funAt p i).code.getD k ins0)) (a := i) (b := k) (check_at hw hil hn (by rw [funE, if_neg (by rw [hb]; decide), if_neg (fun h => h hs), fstE_at hkl hc hx, fkE_at hkl hc hx, if_pos hx]) hx) rfl rfl rfl rfl rfl rfl (conv_eq (agg_ext (fun q => by match q with | 0 | 1 | q + 2 => rfl)))
                    · have hx : instrF p (funAt p i) ((funAt p i).code.getD k ins0) = 0 := by simpa using h21
                      refine WP.skip ?_
                      refine WP.reg hT hE [] rfl ?_ ?_
                      · first | trivial | (simp [holdsC, under, slOk, slB, capEq] <;> grind)
                      refine ⟨k + 1, ?_, ?_, ?_⟩
                      · exact ⟨hkl, below_succ hc hx⟩
                      · refine Ent.mk hT [] trivial ⟨⟨rfl, _, rfl, by first | exact conv_eq rfl | (refine conv_eq ?_; rw [wrap_id (by omega) (by omega)]; simp; done) | (refine conv_eq ?_; simp; done)⟩, ⟨rfl, _, rfl, by first | exact conv_eq rfl | (refine conv_eq ?_; rw [wrap_id (by omega) (by omega)]; simp; done) | (refine conv_eq ?_; simp; done)⟩, ⟨rfl, _, rfl, by first | exact conv_eq rfl | (refine conv_eq ?_; rw [wrap_id (by omega) (by omega)]; simp; done) | (refine conv_eq ?_; simp; done)⟩, ⟨rfl, _, rfl, by first | exact conv_eq rfl | (refine conv_eq ?_; rw [wrap_id (by omega) (by omega)]; simp; done) | (refine conv_eq ?_; simp; done)⟩, ⟨rfl, _, rfl, by first | exact conv_eq rfl | (refine conv_eq ?_; rw [wrap_id (by omega) (by omega)]; simp; done) | (refine conv_eq ?_; simp; done)⟩, ⟨rfl, _, rfl, by first | exact conv_eq rfl | (refine conv_eq ?_; rw [wrap_id (by omega) (by omega)]; simp; done) | (refine conv_eq ?_; simp; done)⟩, ⟨rfl, _, rfl, by first | exact conv_eq rfl | (refine conv_eq ?_; rw [wrap_id (by omega) (by omega)]; simp; done) | (refine conv_eq ?_; simp; done)⟩, ⟨rfl, _, rfl, by first | exact conv_eq rfl | (refine conv_eq ?_; rw [wrap_id (by omega) (by omega)]; simp; done) | (refine conv_eq ?_; simp; done)⟩, ⟨rfl, _, rfl, by first | exact conv_eq rfl | (refine conv_eq ?_; rw [wrap_id (by omega) (by omega)]; simp; done) | (refine conv_eq ?_; simp; done)⟩, ⟨rfl, _, rfl, by first | exact conv_eq rfl | (refine conv_eq ?_; rw [wrap_id (by omega) (by omega)]; simp; done) | (refine conv_eq ?_; simp; done)⟩, trivial⟩ ⟨⟨fun _ _ => rfl, .inl ⟨_, rfl, _, _, rfl, Nat.le_refl _, Nat.zero_le _, by first | exact Nat.zero_le _ | omega, fun q hq => by first | exact conv_eq rfl | (obtain rfl : q = 0 := (by simp at hq; exact hq); exact conv_eq rfl)⟩⟩, trivial⟩ rfl
                      · (try simp only []); first | omega | grind
                  · have hkl : k = (funAt p i).code.length := by simp only [decide_eq_false_iff_not] at h18; omega
                    subst hkl
                    have ho : ((funAt p i).code.getD (IntKind.i64.wrap (((funAt p i).code.length : Int) - 1)).toNat ins0).op = lastO (funAt p i) := by
                      have hlst : (funAt p i).code.getD (IntKind.i64.wrap (((funAt p i).code.length : Int) - 1)).toNat ins0 = (funAt p i).code.getD ((funAt p i).code.length - 1) ins0 := by
                        rw [wrap_id (by omega) (by omega)]
                        congr 1
                        omega
                      rw [hlst]; rfl
                    refine WP.exit ?_
                    refine WP.seq ?_
                    refine WP.reg hT hE [] rfl ?_ ?_
                    · have hc64 : (p.funcs[i]?.getD fun0).code.length ≤ 64 ∧ 1 ≤ (p.funcs[i]?.getD fun0).code.length := h64
                      simp [holdsC, under]
                      rw [wrap_id (by omega) (by omega)]
                      omega
                    refine WP.seq ?_
                    refine WP.reg hT hE [] rfl ?_ ?_
                    · first | trivial | (simp [holdsC, under, slOk, slB, capEq] <;> grind)
                    refine WP.cond rfl (fun h25 => ?_) (fun h25 => ?_)
                    · have he : endO (lastO (funAt p i)) = false := by
                        simp only [band, Bool.and_eq_true, bne_iff_ne] at h25
                        rw [← ho]
                        exact endO_no (by simpa using h25.1.1) (by simpa using h25.1.2) (by simpa using h25.2)
                      refine WP.seq ?_
                      refine WP.drw hT hE hM [] rfl ?_ ?_
                      · first | trivial | (simp [holdsC, under, slOk, slB, capEq] <;> grind)
                      refine WP.ret ?_
                      change Fin _ _ _ _ _ _ _ _
                      exact fin_spot (e := 39) (a := i) (b := IntKind.i64.wrap (((funAt p i).code.length : Int) - 1)) (by
                        rw [wrap_id (by omega) (by omega)]
                        exact check_at hw hil hn (by rw [funE, if_neg (by rw [hb]; decide), if_neg (fun h => h hs), if_neg (fun h => h (fstE_all hc)), if_neg (by rw [he]; decide)]) (by decide)) rfl rfl rfl rfl rfl rfl (conv_eq (agg_ext (fun q => by match q with | 0 | 1 | q + 2 => rfl)))
                    · have he : endO (lastO (funAt p i)) = true := by
                        rw [← ho]
                        have e := h25
                        simp only [band] at e
                        cases hz : endO ((funAt p i).code.getD (IntKind.i64.wrap (((funAt p i).code.length : Int) - 1)).toNat ins0).op with
                        | true => rfl
                        | false =>
                          exfalso
                          simp only [endO, Bool.or_eq_false_iff] at hz
                          simp only [bne, hz.1.1, hz.1.2, hz.2] at e
                          cases e
                      refine WP.skip ?_
                      refine WP.reg hT hE [] rfl ?_ ?_
                      · first | trivial | (simp [holdsC, under, slOk, slB, capEq] <;> grind)
                      refine ⟨i + 1, ?_, ?_, ?_⟩
                      · refine ⟨hil, below_succ hn ?_⟩
                        rw [funE, if_neg (by rw [hb]; decide), if_neg (fun h => h hs), if_neg (fun h => h (fstE_all hc)), if_pos he]
                      · refine Ent.mk hT [] trivial ⟨⟨rfl, _, rfl, by first | exact conv_eq rfl | (refine conv_eq ?_; rw [wrap_id (by omega) (by omega)]; simp; done) | (refine conv_eq ?_; simp; done)⟩, ⟨rfl, _, rfl, by first | exact conv_eq rfl | (refine conv_eq ?_; rw [wrap_id (by omega) (by omega)]; simp; done) | (refine conv_eq ?_; simp; done)⟩, ⟨rfl, _, rfl, by first | exact conv_eq rfl | (refine conv_eq ?_; rw [wrap_id (by omega) (by omega)]; simp; done) | (refine conv_eq ?_; simp; done)⟩, ⟨rfl, _, rfl, by first | exact conv_eq rfl | (refine conv_eq ?_; rw [wrap_id (by omega) (by omega)]; simp; done) | (refine conv_eq ?_; simp; done)⟩, ⟨rfl, _, rfl, by first | exact conv_eq rfl | (refine conv_eq ?_; rw [wrap_id (by omega) (by omega)]; simp; done) | (refine conv_eq ?_; simp; done)⟩, trivial⟩ ⟨⟨fun _ _ => rfl, .inl ⟨_, rfl, _, _, rfl, Nat.le_refl _, Nat.zero_le _, by first | exact Nat.zero_le _ | omega, fun q hq => by first | exact conv_eq rfl | (obtain rfl : q = 0 := (by simp at hq; exact hq); exact conv_eq rfl)⟩⟩, trivial⟩ rfl
                      · (try simp only []); first | omega | grind
          · have hil : i = p.funcs.length := by simp at h10; omega
            subst hil
            refine WP.exit ?_
            refine WP.seq ?_
            refine WP.reg hT hE [] rfl ?_ ?_
            · first | trivial | (simp [holdsC, under, slOk, slB, capEq] <;> grind)
            refine WP.ret ?_
            change Fin _ _ _ _ _ _ _ _
            exact fin_spot (e := 0) (a := 0) (b := 0) (check_ok hw hn) rfl rfl rfl rfl rfl rfl (conv_eq rfl)
theorem right_ac (p : PProg) : AC Tryz.prog T tysN 28 [encProg p] [] (.bool ((checkF p).1 == 0)) [] := by
  refine AC_intro hT Tryz.func28 rfl rfl (Nat.le_of_ble_eq_true rfl) ?_
  refine WP.seq ?_
  refine WP.reg hT hE [] rfl ?_ ?_
  · first | trivial | (simp [holdsC, under, slOk, slB, capEq] <;> grind)
  refine WP.seq ?_
  refine WP.reg hT hE [CG.pure (checkA p)] rfl ?_ ?_
  · have hc := rpcheck_ac p
    exact ⟨⟨rfl, hc⟩, rfl, Nat.le_refl _⟩
  refine WP.seq ?_
  refine WP.reg hT hE [] rfl ?_ ?_
  · first | trivial | (simp [holdsC, under, slOk, slB, capEq] <;> grind)
  refine WP.ret ?_
  change Fin _ _ _ _ _ _ _ _
  exact fin1 hT (by rfl) rfl
end Go.Ab


/- Ab, part 44: slices.SortFunc at elements of several cells: out of the library's contract. -/
set_option autoImplicit false
set_option linter.unusedVariables false
set_option linter.unusedSimpArgs false
namespace Go.Ab
open Go.Proofs Go.Sort
section
variable {α : Type} [Inhabited α]
/-- The list as the library sorts it. -/
def sortBy (cf : α → α → Int) (l : List α) : List α := (pdq (Go.Proofs.ltOf cf) l.toArray 0 l.length (Lib.bitLen l.length) true true).toList
theorem sortBy_spec {cf : α → α → Int} (hO : SWO (Go.Proofs.ltOf cf)) (l : List α) : PermIn 0 l.length l.toArray (sortBy cf l).toArray ∧ SortedIn (Go.Proofs.ltOf cf) 0 l.length (sortBy cf l).toArray := by
  have h := pdq_sorts (Go.Proofs.ltOf cf) hO l.toArray 0 l.length (Lib.bitLen l.length) true true (Nat.zero_le _) (by simp) (.inl rfl)
  exact ⟨by simpa [sortBy] using h.1, by simpa [sortBy] using h.2⟩
theorem sortBy_len {cf : α → α → Int} (hO : SWO (Go.Proofs.ltOf cf)) (l : List α) : (sortBy cf l).length = l.length := by
  have := (sortBy_spec hO l).1.1
  simpa using this
theorem sortBy_perm {cf : α → α → Int} (hO : SWO (Go.Proofs.ltOf cf)) (l : List α) : (sortBy cf l).Perm l := by
  have h := (sortBy_spec hO l).1.2.2
  have hl := sortBy_len hO l
  simp only [List.extract_toArray, List.extract_eq_take_drop] at h
  have h2 : (List.take l.length (sortBy cf l)).Perm l := by simpa using h
  rwa [List.take_of_length_le (by omega)] at h2
theorem sortBy_sorted {cf : α → α → Int} (hO : SWO (Go.Proofs.ltOf cf)) (l : List α) : (sortBy cf l).Pairwise fun x y => Go.Proofs.ltOf cf y x = false := by
  rw [List.pairwise_iff_getElem]
  intro i j hi hj hij
  have hl := sortBy_len hO l
  have := (sortBy_spec hO l).2 i j (Nat.zero_le _) hij (by omega)
  simpa [hi, hj] using this
end
section
variable {P : Program} {T : Nat → TI} {N : Nat}
/-- Values of k cells, all of them plain. -/
structure EncK (T : Nat → TI) (N E k : Nat) {α : Type} (encA : α → AV) (encV : α → List Value) : Prop where
  len : ∀ x, (encV x).length = k
  one : ∀ x, ∀ v ∈ encV x, v.oneCell' = true
  rep : ∀ I ρ x, Rep T N I ρ (encA x) (encV x)
  uni : ∀ I ρ x cs, Rep T N I ρ (encA x) cs → cs = encV x
  fits : ∀ x, fit T E (encA x) = true
  pack : ∀ x, packV (encA x) (encV x) = .agg (encV x).toArray
  size : (T E).size = k
  pos : 0 < k
theorem world_grow {A B : World} (h : Grown A B) : ∃ q os', B = grow (A.drewN q) os' := by
  refine ⟨B.drawn - A.drawn, B.heap.extract A.heap.size B.heap.size, ?_⟩
  obtain ⟨hp, tp, dr, os, out⟩ := B
  have h1 := h.os; have h2 := h.output; have h3 := h.tape
  simp only at h1 h2 h3
  simp only [grow, World.drewN, World.mk.injEq]
  refine ⟨?_, h3.1, by omega, h1, h2⟩
  apply Array.ext
  · have := h.size
    simp only [Array.size_append, Array.size_extract] at *
    omega
  · intro i hi hi2
    have := h.size
    rw [Array.getElem_append]
    split
    · rename_i hlt
      have := h.same i hlt
      simp only [Array.getElem?_eq_getElem hi, Array.getElem?_eq_getElem hlt, Option.some.injEq] at this
      exact this
    · rename_i hge
      rw [Array.getElem_extract]
      congr 1
      omega
theorem cmp_lays {α : Type} [Inhabited α] {E k : Nat} {encA : α → AV} {encV : α → List Value} (hE : EncK T N E k encA encV) {cf : α → α → Int} {g : FuncId} (hc : ∀ x y, AC P T N g [encA x, encA y] [] (.v (.int .i64 (cf x y))) []) (blk off size : Nat) (w : World) : CmpLays P g #[] encV k cf blk off size w := by
  intro m os dk hdk x y
  have h := (hc x y).2 (fun _ _ => none) noPl (sortWorldK encV k w blk off m dk os) [.agg (encV x).toArray, .agg (encV y).toArray] rfl (fun i a v ha hv => by
    match i with
    | 0 => simp at ha hv; subst ha hv; exact .one ⟨_, hE.rep _ _ x, (hE.pack x).symm⟩
    | 1 => simp at ha hv; subst ha hv; exact .one ⟨_, hE.rep _ _ y, (hE.pack y).symm⟩
    | i + 2 => simp at ha) ⟨fun id B h => (by cases id <;> simp [ofB] at h), fun id B h => (by cases id <;> simp [ofB] at h), fun id p h => (by cases h), fun i j p q h => (by cases h), fun b o y h => (by cases h)⟩
  refine h.mono ?_
  rintro e w' ⟨v, I', ρ', rfl, hev, hv, _⟩
  exact ⟨by rw [hv.v.1], world_grow (Grown.of_ev hev)⟩
theorem heap_putK {α : Type} [Inhabited α] (enc : α → List Value) (k : Nat) (w : World) (n blk off : Nat) (d : Array α) (os : Array Obj) {r : Nat} (hr : r < w.heap.size) :
    (sortWorldK enc k w blk off n d os).heap[r]? = if blk = r then (w.heap[r]?).map (onCells (putCells id off (flatK enc k d))) else w.heap[r]? := by
  unfold sortWorldK putRowK
  have h1 : r < (putRow id (Sort.ahead w n) blk off (flatK enc k d)).heap.size := by simpa [putRow, mapBlock, Sort.ahead] using hr
  rw [heap_grow_old _ _ h1]
  simp only [putRow, mapBlock, Sort.ahead, Array.getElem?_modify]
theorem sortF_ac (hT : TOK P T N) {ρr : Go.Shelf.Ren} (L : SlLaysF0.n6 P ρr) {α : Type} [Inhabited α] {E k : Nat} {encA : α → AV} {encV : α → List Value} (hE : EncK T N E k encA encV)
    (aE : ∀ w, (isAgg (ρr.t 24)).run P w = .ok true w) (zE : ∀ w, (Go.sizeOf (ρr.t 24)).run P w = .ok k w) {cf : α → α → Int} (hO : SWO (Go.Proofs.ltOf cf)) {g : FuncId} (eg : ∀ args w, (callFunc g args).run P w = .ok (.enter g args) w)
    (hc : ∀ x y, AC P T N g [encA x, encA y] [] (.v (.int .i64 (cf x y))) []) (hcall : callable P (ρr.f 6)) (l : List α) (hl62 : l.length < 4611686018427387904) :
    AC P T N (ρr.f 6) [.own (.b 0) l.length 0 l.length none, .clo g []] [cellsL E encA default l] (.tup []) [cellsL E encA default (sortBy cf l)] := by
  refine ⟨hcall, fun I ρ w vs hvl hvs hw => ?_⟩
  obtain ⟨v, c0, rfl⟩ : ∃ v c0, vs = [v, c0] := by
    match vs, hvl with
    | [v, c0], _ => exact ⟨v, c0, rfl⟩
  have hv := (hvs 0 _ v rfl rfl).rep1 (fun _ => by simp)
  have hv1 := (hvs 1 _ c0 rfl rfl).rep1 (fun _ => by simp)
  have hc0 : c0 = .func (.func g) #[] #[] := by
    obtain ⟨cs, h1, h2⟩ := hv1
    cases h1 with
    | clo ys hl h =>
      have : ys = #[] := Array.eq_empty_of_size_eq_zero (by simpa using hl)
      subst this
      exact h2
  subst hc0
  have hsl := sortBy_len hO l
  have hm : ofB [cellsL E encA default l] (.b 0) = some (cellsL E encA default l) := rfl
  have hset : ofB [cellsL E encA default (sortBy cf l)] = setM (ofB [cellsL E encA default l]) (.b 0) (cellsL E encA default (sortBy cf l)) := by
    funext a
    by_cases ha : a = .b 0
    · subst ha; rw [setM_self]; rfl
    · rw [setM_ne _ _ ha]
      cases a with
      | s _ _ => rfl
      | b j =>
        cases j with
        | zero => exact absurd rfl ha
        | succ j => rfl
  rcases Rep.own_inv hv with ⟨rfl, h0, _, _⟩ | ⟨q, hq, hqn, hx⟩
  · obtain rfl : l = [] := List.eq_nil_of_length_eq_zero h0
    refine (AnyF.slices_SortFunc_none L none 0 (.func (.func g) #[] #[]) w).mono ?_
    rintro e w' ⟨rfl, rfl⟩
    refine ⟨_, I, ρ, rfl, Ev.refl _ _ _, .tup _ rfl (fun i c hi => by simp at hi), ?_⟩
    rw [show sortBy cf ([] : List α) = [] from List.eq_nil_of_length_eq_zero hsl]; exact hw
  · obtain ⟨q', cs, c1, c2, c3, c4, c5, c6, c7, c8, c9, c10⟩ := hw.cellsAt hm hq
    rw [hq] at c1; cases c1
    obtain ⟨c, rfl, g1, g2, g3, g4, g5, g6⟩ := hx c3
    simp only [hE.size] at c7 c8
    have hk0 := hE.pos
    have hcell : ∀ j, j < l.length * k → cs[j]? = some ((encV (l.getD (j / k) default))[j % k]!) := by
      intro j hj
      have hjk : j / k < l.length := (Nat.div_lt_iff_lt_mul hk0).2 hj
      obtain ⟨seg, e1, e2, e3, e4⟩ := c8 (j / k) hjk
      have hseg := hE.uni _ _ _ _ e1
      subst hseg
      have hm := Nat.mod_lt j hk0
      have := e4 (j % k) hm
      rw [show j / k * k + j % k = j by rw [Nat.mul_comm]; exact Nat.div_add_mod j k] at this
      rw [this]
      have hlt : j % k < (encV (l.getD (j / k) default)).length := by rw [hE.len]; exact hm
      rw [List.getElem?_eq_getElem hlt, getElem!_pos (encV (l.getD (j / k) default)) (j % k) hlt]
    have hlt := hw.place_lt hq
    have hH : HoldsK encV k w q.b 0 l.toArray := by
      intro j hj
      have hj' : j < l.length * k := by simpa using hj
      refine ⟨?_, ?_⟩
      · simp only [World.cell?, c5, Nat.zero_add]
        rw [hcell j hj', get_flatK _ _ _ _ (by simpa using hj')]
        simp [List.getD_eq_getElem?_getD, getElem!_def]
        cases l[j / k]? <;> rfl
      · simp [World.frozen?, c5]
    have hcall2 := AnyQ.slices_SortFunc_eq L k aE zE encV hE.len hE.one cf hO g #[] q.b 0 c l.toArray w eg (cmp_lays hE hc q.b 0 l.toArray.size w) hH hlt (by simpa using hl62)
    simp only [Nat.zero_mul]
    refine hcall2.mono ?_
    rintro e w' ⟨rfl, n, os, rfl⟩
    have hd' : (pdq (Go.Proofs.ltOf cf) l.toArray 0 l.toArray.size (Lib.bitLen l.toArray.size) true true) = (sortBy cf l).toArray := by simp [sortBy]
    rw [hd']
    have hput := fun r hr => heap_putK encV k w n q.b 0 (sortBy cf l).toArray os (r := r) hr
    have hcs' : ∀ j, (putCells id 0 (flatK encV k (sortBy cf l).toArray) cs)[j]? = if j < l.length * k then some ((encV ((sortBy cf l).getD (j / k) default))[j % k]!) else cs[j]? := by
      intro j
      simp only [putCells, Array.getElem?_mapIdx, Nat.zero_add, Nat.zero_le, true_and, size_flatK, List.size_toArray, hsl, Nat.sub_zero]
      split
      · rename_i hj
        rw [hcell j hj]
        simp only [Option.map_some, Option.some.injEq, id]
        rw [get_flatK _ _ _ _ (by simpa [hsl] using hj)]
        simp [List.getD_eq_getElem?_getD, getElem!_def]
        cases (sortBy cf l)[j / k]? <;> rfl
      · cases cs[j]? <;> rfl
    have hsw := seg_world (len := l.length) (i := 0) (h := fun j => encA ((sortBy cf l).getD j default)) (cs' := putCells id 0 (flatK encV k (sortBy cf l).toArray) cs) (w' := sortWorldK encV k w q.b 0 n (sortBy cf l).toArray os) hT hw hm hq (by simp) (Nat.zero_le _) c5 (by simp [putCells])
      (by rw [hput _ hlt, if_pos rfl, c5]; rfl) (fun b hb hne => by rw [hput _ hb, if_neg (Ne.symm hne)]) (by simp [sortWorldK, putRowK, putRow, mapBlock, Sort.ahead, grow]) rfl rfl ⟨rfl, by simp [sortWorldK, putRowK, putRow, mapBlock, Sort.ahead, grow]⟩
      (fun j hj => ⟨encV ((sortBy cf l).getD j default), hE.rep _ _ _, hE.fits _, by rw [hE.len]; exact hE.size.symm, fun o ho => by
        have ho' : o < k := by rw [← hE.size]; exact ho
        have hs' : (T E).size = k := hE.size
        show (putCells id 0 (flatK encV k (sortBy cf l).toArray) cs)[(0 + j) * (T E).size + o]? = _
        rw [hs', Nat.zero_add]
        have hlt2 : j * k + o < l.length * k := by
          have := Nat.mul_le_mul_right k (show j + 1 ≤ l.length from hj)
          rw [Nat.add_mul, Nat.one_mul] at this
          omega
        rw [hcs', if_pos hlt2]
        have e1 : (j * k + o) / k = j := by rw [Nat.mul_comm, Nat.mul_add_div hk0, Nat.div_eq_of_lt ho', Nat.add_zero]
        have e2 : (j * k + o) % k = o := by rw [Nat.mul_comm, Nat.mul_add_mod, Nat.mod_eq_of_lt ho']
        rw [e1, e2]
        have hlt3 : o < (encV ((sortBy cf l).getD j default)).length := by rw [hE.len]; exact ho'
        rw [List.getElem?_eq_getElem hlt3, getElem!_pos (encV ((sortBy cf l).getD j default)) o hlt3]⟩)
      (fun j hj => by
        have hs' : (T E).size = k := hE.size
        change j < 0 * (T E).size ∨ (0 + l.length) * (T E).size ≤ j at hj
        rw [hs', Nat.zero_mul, Nat.zero_add] at hj
        rw [hcs', if_neg (by omega)])
    refine ⟨_, I, ρ, rfl, hsw.1, .tup _ rfl (fun i c hi => by simp at hi), ?_⟩
    rw [hset]
    have e2 : (Ob.cells { ty := E, n := l.length, get := fun j => bif Nat.ble 0 j && Nat.blt j (0 + l.length) then encA ((sortBy cf l).getD (j - 0) default) else encA (l.getD j default), fz := 0 } : Ob) = cellsL E encA default (sortBy cf l) := by
      simp only [cellsL, Ob.cells.injEq, Blk.mk.injEq, hsl, true_and, and_true]
      funext j
      by_cases hj : j < l.length
      · have e : (Nat.ble 0 j && Nat.blt j (0 + l.length)) = true := by rw [Bool.and_eq_true]; exact ⟨by simp, by rw [Nat.blt_eq]; omega⟩
        rw [e]
        rfl
      · have e : (Nat.ble 0 j && Nat.blt j (0 + l.length)) = false := by
          cases hb : (Nat.ble 0 j && Nat.blt j (0 + l.length)) with
          | false => rfl
          | true => rw [Bool.and_eq_true, Nat.blt_eq] at hb; omega
        rw [e]
        simp [List.getD_eq_getElem?_getD, hsl, show l.length ≤ j by omega]
    refine Eq.mp ?_ hsw.2
    exact congrArg (fun o => WRep T N I ρ (setM (ofB [cellsL E encA default l]) (.b 0) o) _) e2
end
end Go.Ab
