/- Part 20 of a proof of a statement about the given program: an abstract machine over the model, proved sound, and contracts of the functions that the statement reaches; the last part proves the statement, for every input, with no condition. -/
import Derived.Test.YtkdnjnbocjpmfaaGreatX18
import Derived.Test.YtkdnjnbocjpmfaaGreatX13
import Derived.Test.YtkdnjnbocjpmfaaGreatRows
set_option linter.unusedSimpArgs false
set_option linter.unusedVariables false
/- race.Conflicts. -/
set_option autoImplicit false
set_option maxRecDepth 20000
set_option maxHeartbeats 4000000
set_option linter.unusedSimpArgs false
set_option linter.unusedVariables false
namespace Go.Ab
open Go.Proofs Go.Sort
theorem conv_of_eq {m : Id → Option Ob} {F : Id → Nat} {x x' y : AV} (h : x = x') (c : Conv m F T x' y) : Conv m F T x y := h ▸ c
theorem barew_ac (p : PProg) (a : Tch) (h : 0 ≤ a.num) : AC Tryz.prog T tysN 57 [encTch a, .rp 26 (encProg p)] [] (.bool (plnB p a)) [] := by
  refine AC_intro hT Tryz.func57 rfl rfl (Nat.le_of_ble_eq_true rfl) ?_
  refine WP.seq ?_
  refine WP.reg hT hE [] rfl ?_ ?_
  · first | trivial | (simp [holdsC, under, slOk, slB, capEq] <;> grind)
  refine WP.seq ?_
  refine WP.reg hT hE [] rfl ?_ ?_
  · simp [holdsC, under]
    intro h1 h2
    omega
  refine WP.ret ?_
  change Fin _ _ _ _ _ _ _ _
  refine fin1 hT (by rfl) ?_
  simp only [band]
  rw [plnB, Bool.and_assoc]
def bareL (p : PProg) (x : Evt) : List Tch := keepG (plnB p) (touchL x)
def bareE (p : PProg) (x : Evt) : Evt := { x with ts := bareL p x, n := (bareL p x).length }
def bareT (p : PProg) (t : List Evt) : List Evt := t.map (bareE p)
theorem bareL_len (p : PProg) (x : Evt) : (bareL p x).length ≤ 6 := by
  refine Nat.le_trans (List.length_filter_le _ _) ?_
  rw [touchL_len]; exact clampN_le _
theorem bareE_touch (p : PProg) (x : Evt) : touchL (bareE p x) = bareL p x := by
  have h6 := bareL_len p x
  have hc : clampN ((bareL p x).length : Int) = (bareL p x).length := by unfold clampN; split <;> (try split) <;> omega
  refine List.ext_getElem (by rw [touchL_len]; exact hc) (fun i h1 h2 => ?_)
  simp [touchL, bareE, tAt, h2]
theorem eAt_bare {p : PProg} {t : List Evt} {i : Nat} (h : i < t.length) : eAt (bareT p t) i = bareE p (eAt t i) := by
  simp [eAt, bareT, h]
theorem bareT_len (p : PProg) (t : List Evt) : (bareT p t).length = t.length := List.length_map _
theorem bareT_go {p : PProg} {t : List Evt} {i : Nat} (h : i < t.length) : (eAt (bareT p t) i).go = (eAt t i).go := by rw [eAt_bare h]; rfl
theorem bare_ok {p : PProg} {t : List Evt} (h : GoOK t) : GoOK (bareT p t) := by
  refine ⟨by rw [bareT_len]; exact h.1, fun i hi => ?_⟩
  rw [bareT_len] at hi
  rw [bareT_go hi]
  exact h.2 i hi
theorem bare_dep {p : PProg} {t : List Evt} {i j : Nat} (hi : i < t.length) (hj : j < t.length) : depB (eAt (bareT p t) i) (eAt (bareT p t) j) = clashB (bareL p (eAt t i)) (bareL p (eAt t j)) := by
  rw [depB, eAt_bare hi, eAt_bare hj, bareE_touch, bareE_touch]
/-- Do two events conflict, one ahead of the other? -/
def confB (p : PProg) (t : List Evt) (i j : Nat) : Bool :=
  ((eAt t i).go != (eAt t j).go && decide (((bothF p (eAt t i) (eAt t j)).length : Int) > 0)) && decide ((clkOf (bareT p t) i).getD (eAt t i).go.toNat 0 > (clkOf (bareT p t) j).getD (eAt t i).go.toNat 0)
def confAt (p : PProg) (t : List Evt) (j : Nat) : Nat → List Pr
  | 0 => []
  | i + 1 => confAt p t j i ++ (if confB p t i j = true then [((i : Int), (j : Int))] else [])
def confTo (p : PProg) (t : List Evt) : Nat → List Pr
  | 0 => []
  | j + 1 => confTo p t j ++ confAt p t j j
theorem confAt_len (p : PProg) (t : List Evt) (j : Nat) : ∀ i, (confAt p t j i).length ≤ i
  | 0 => Nat.le_refl _
  | i + 1 => by
    have := confAt_len p t j i
    rw [confAt, List.length_append]
    split <;> simp <;> omega
theorem confTo_len (p : PProg) (t : List Evt) : ∀ j, j ≤ 256 → (confTo p t j).length ≤ 256 * j
  | 0, _ => Nat.le_refl _
  | j + 1, h => by
    have h1 := confTo_len p t j (by omega)
    have h2 := confAt_len p t j j
    rw [confTo, List.length_append]
    omega
def barQ (p : PProg) (t : List Evt) (i q : Nat) : List Tch := if q < i then bareL p (eAt t q) else []
def confL (p : PProg) (t : List Evt) : List Pr := if fitF p t = 0 then sortP (confTo p t t.length) else []
theorem right_nums {x : Evt} (h : rightE x = true) : ∀ a ∈ touchL x, 0 ≤ a.num := by
  intro a ha
  simp only [touchL, List.mem_map, List.mem_range] at ha
  obtain ⟨k, hk, rfl⟩ := ha
  have hn := right_n h
  have : (clampN x.n : Int) = x.n := by unfold clampN; split <;> (try split) <;> omega
  exact (right_num h (by omega)).1
theorem conf_ac (g : Bool) (p : PProg) (t : List Evt) : AC Tryz.prog T tysN 19 [encProg p, evts g t] [] (.tup [prs false (confL p t), .int (fitF p t)]) [] := by
  refine AC_intro hT Tryz.func19 rfl rfl (Nat.le_of_ble_eq_true rfl) ?_
  refine WP.seq ?_
  refine WP.reg hT hE [] rfl ?_ ?_
  · first | trivial | (simp [holdsC, under, slOk, slB, capEq] <;> grind)
  refine WP.seq ?_
  refine WP.seq ?_
  refine WP.reg hT hE [CG.pure (.int (fitF p t))] rfl ?_ ?_
  · have ha := rasked_ac g p t
    simp [holdsC, under, CG.pure]
    exact ha
  refine WP.seq ?_
  refine WP.reg hT hE [] rfl ?_ ?_
  · first | trivial | (simp [holdsC, under, slOk, slB, capEq] <;> grind)
  refine WP.cond rfl (fun h2 => ?_) (fun h2 => ?_)
  · have hbad : fitF p t ≠ 0 := by simpa using h2
    refine WP.seq ?_
    refine WP.reg hT hE [] rfl ?_ ?_
    · first | trivial | (simp [holdsC, under, slOk, slB, capEq] <;> grind)
    refine WP.ret ?_
    change Fin _ _ _ _ _ _ _ _
    rw [confL, if_neg hbad]
    refine fin_mk hT [] (ts := [(4, prs false []), (5, .int (fitF p t))]) (l := [prs false [], .int (fitF p t)]) trivial ⟨⟨rfl, _, rfl, conv_nil_row (by decide)⟩, ⟨rfl, _, rfl, conv_eq rfl⟩, trivial⟩ trivial rfl rfl rfl
  · have hz : fitF p t = 0 := by simpa using h2
    have hv := fit_vars hz
    have hok := chk_right hv.2
    have hbok := bare_ok (p := p) hok
    have h256 := hok.1
    refine WP.skip ?_
    refine WP.seq ?_
    refine WP.reg hT hE [] rfl ?_ ?_
    · have hbt : (T 97).bytes = 24 := rfl
      simp [holdsC, under, hbt]
      omega
    refine WP.seq ?_
    refine WP.seq ?_
    refine WP.reg hT hE [] rfl ?_ ?_
    · first | trivial | (simp [holdsC, under, slOk, slB, capEq] <;> grind)
    refine WP.block ?_
    refine WP.loop (α := Nat) (fun i => mkSt [(1, evts g t), (2, .rp 26 (encProg p)), (7, .own (.s 24 0) t.length 0 t.length none), (25, evts g t), (26, .int t.length), (27, .int i)] [(.s 24 0, .cells ⟨97, t.length, fun q => tchs false (barQ p t i q), 0⟩)]) (fun i => i ≤ t.length) (fun i => t.length - i) ?_ ?_
    · refine ⟨0, ?_, ?_⟩
      · exact Nat.zero_le _
      · refine Ent.mk hT [(.s 2 0, 1)] ⟨⟨_, rfl, Nat.le_refl _⟩, trivial⟩ ⟨⟨rfl, _, rfl, by first | exact conv_eq rfl | (refine conv_eq ?_; rw [wrap_id (by omega) (by omega)]; simp; done) | (refine conv_eq ?_; simp; done)⟩, ⟨rfl, _, rfl, conv_rpe rfl rfl (by decide) rfl rfl rfl⟩, ⟨rfl, _, rfl, by first | exact conv_eq rfl | (refine conv_eq ?_; rw [wrap_id (by omega) (by omega)]; simp; done) | (refine conv_eq ?_; simp; done)⟩, ⟨rfl, _, rfl, by first | exact conv_eq rfl | (refine conv_eq ?_; rw [wrap_id (by omega) (by omega)]; simp; done) | (refine conv_eq ?_; simp; done)⟩, ⟨rfl, _, rfl, by first | exact conv_eq rfl | (refine conv_eq ?_; rw [wrap_id (by omega) (by omega)]; simp; done) | (refine conv_eq ?_; simp; done)⟩, ⟨rfl, _, rfl, by first | exact conv_eq rfl | (refine conv_eq ?_; rw [wrap_id (by omega) (by omega)]; simp; done) | (refine conv_eq ?_; simp; done)⟩, trivial⟩ ⟨⟨fun q _ => rfl, .inl ⟨_, rfl, _, _, rfl, Nat.le_refl _, Nat.zero_le _, Nat.zero_le _, fun q hq => conv_nil_row (by decide)⟩⟩, trivial⟩ rfl
    · rintro i hi
      refine WP.seq ?_
      refine WP.reg hT hE [] rfl ?_ ?_
      · first | trivial | (simp [holdsC, under, slOk, slB, capEq] <;> grind)
      refine WP.seq ?_
      refine WP.cond rfl (fun h6 => ?_) (fun h6 => ?_)
      · have hil : i < t.length := by simpa using h6
        have hr := chk_evt hv.2 hil
        have hn6 := right_n hr
        have hcl : (clampN (eAt t i).n : Int) = (eAt t i).n := by unfold clampN; split <;> (try split) <;> omega
        refine WP.skip ?_
        refine WP.seq ?_
        refine WP.block ?_
        refine WP.seq ?_
        refine WP.reg hT hE [] rfl ?_ ?_
        · first | trivial | (simp [holdsC, under, slOk, slB, capEq] <;> grind)
        refine WP.ent (st' := mkSt [(1, evts g t), (2, .rp 26 (encProg p)), (7, .own (.s 24 0) t.length 0 t.length none), (8, .int i), (9, .rp 73 (encE (eAt t i))), (25, evts g t), (26, .int t.length), (27, .int i)] [(.s 24 0, .cells ⟨97, t.length, fun q => tchs false (barQ p t i q), 0⟩)]) ?_ ?_
        · refine Ent.mk hT [(.s 9 0, 1)] ⟨⟨_, rfl, Nat.le_refl _⟩, trivial⟩ ⟨⟨rfl, _, rfl, by first | exact conv_eq rfl | (refine conv_eq ?_; rw [wrap_id (by omega) (by omega)]; simp; done) | (refine conv_eq ?_; simp; done)⟩, ⟨rfl, _, rfl, by first | exact conv_eq rfl | (refine conv_eq ?_; rw [wrap_id (by omega) (by omega)]; simp; done) | (refine conv_eq ?_; simp; done)⟩, ⟨rfl, _, rfl, by first | exact conv_eq rfl | (refine conv_eq ?_; rw [wrap_id (by omega) (by omega)]; simp; done) | (refine conv_eq ?_; simp; done)⟩, ⟨rfl, _, rfl, by first | exact conv_eq rfl | (refine conv_eq ?_; rw [wrap_id (by omega) (by omega)]; simp; done) | (refine conv_eq ?_; simp; done)⟩, ⟨rfl, _, rfl, conv_rpe rfl rfl (by decide) rfl rfl (noIds_E _)⟩, ⟨rfl, _, rfl, by first | exact conv_eq rfl | (refine conv_eq ?_; rw [wrap_id (by omega) (by omega)]; simp; done) | (refine conv_eq ?_; simp; done)⟩, ⟨rfl, _, rfl, by first | exact conv_eq rfl | (refine conv_eq ?_; rw [wrap_id (by omega) (by omega)]; simp; done) | (refine conv_eq ?_; simp; done)⟩, ⟨rfl, _, rfl, by first | exact conv_eq rfl | (refine conv_eq ?_; rw [wrap_id (by omega) (by omega)]; simp; done) | (refine conv_eq ?_; simp; done)⟩, trivial⟩ ⟨⟨fun q _ => rfl, .inl ⟨_, rfl, _, _, rfl, Nat.le_refl _, Nat.zero_le _, Nat.zero_le _, fun q hq => conv_eq rfl⟩⟩, trivial⟩ rfl
        refine WP.reg hT hE [⟨true, [], .own (.b 0) (touchL (eAt t i)).length 0 (touchL (eAt t i)).length none, [cellsL 70 encTch tch0 (touchL (eAt t i))]⟩, ⟨true, [.s 38 1], .own (.b 0) (touchL (eAt t i)).length 0 (bareL p (eAt t i)).length none, [.cells ⟨70, (touchL (eAt t i)).length, fun q => encTch ((bareL p (eAt t i)).getD q tch0), 0⟩]⟩] rfl ?_ ?_
        · have hc := cloneT_ac false (touchL (eAt t i)) (by rw [touchL_len]; omega) (by rw [touchL_len]; omega)
          have hd := delT_ac (touchL (eAt t i)) 57 26 (encProg p) (plnB p) (fun a ha => barew_ac p a (right_nums hr a ha))
          simp [holdsC, under]
          refine ⟨⟨⟨by simp [slOk, slB]; omega, trivial, ⟨fun _ _ => rfl, trivial⟩, ?_⟩, ⟨⟨fun _ _ => rfl, trivial⟩, ⟨fun _ _ => rfl, trivial⟩, ?_⟩⟩, hil⟩
          · refine AC.conv hT hc ?_
            refine ⟨_, _, rfl, conv_rowN (by simp [slB, touchL_len]; omega) (fun h => h) (fun j hj => ?_), rfl⟩
            rw [touchL_get (by rw [touchL_len] at hj; exact hj)]
            show encTch ((eAt t i).ts.getD ((0 : Int).toNat + j) tch0) = _
            simp [tAt]
          · have e : ∀ σ, renO σ (cellsL 70 encTch tch0 (touchL (eAt t i))) = cellsL 70 encTch tch0 (touchL (eAt t i)) := fun σ => renO_list (fun a => ren_tch σ a)
            rw [e, e]
            exact hd
        refine WP.reg hT hE [] rfl ?_ ?_
        · first | trivial | (simp [holdsC, under, slOk, slB, capEq] <;> grind)
        refine ⟨i + 1, ?_, ?_, ?_⟩
        · exact hil
        · refine Ent.mk hT [(.s 38 1, (touchL (eAt t i)).length)] ⟨⟨_, rfl, Nat.le_refl _⟩, trivial⟩ ⟨⟨rfl, _, rfl, by first | exact conv_eq rfl | (refine conv_eq ?_; rw [wrap_id (by omega) (by omega)]; simp; done) | (refine conv_eq ?_; simp; done)⟩, ⟨rfl, _, rfl, by first | exact conv_eq rfl | (refine conv_eq ?_; rw [wrap_id (by omega) (by omega)]; simp; done) | (refine conv_eq ?_; simp; done)⟩, ⟨rfl, _, rfl, by first | exact conv_eq rfl | (refine conv_eq ?_; rw [wrap_id (by omega) (by omega)]; simp; done) | (refine conv_eq ?_; simp; done)⟩, ⟨rfl, _, rfl, by first | exact conv_eq rfl | (refine conv_eq ?_; rw [wrap_id (by omega) (by omega)]; simp; done) | (refine conv_eq ?_; simp; done)⟩, ⟨rfl, _, rfl, by first | exact conv_eq rfl | (refine conv_eq ?_; rw [wrap_id (by omega) (by omega)]; simp; done) | (refine conv_eq ?_; simp; done)⟩, ⟨rfl, _, rfl, by first | exact conv_eq rfl | (refine conv_eq ?_; rw [wrap_id (by omega) (by omega)]; simp; done) | (refine conv_eq ?_; simp; done)⟩, trivial⟩ ⟨⟨fun q _ => rfl, .inl ⟨_, rfl, _, _, rfl, Nat.le_refl _, Nat.zero_le _, Nat.zero_le _, fun q hq => ?_⟩⟩, trivial⟩ rfl
          · by_cases e : q = i
            · subst e
              refine conv_of_eq (x' := .own (.s 38 1) (touchL (eAt t q)).length 0 (bareL p (eAt t q)).length none) ?_ ?_
              · show (bif Nat.beq q ((q : Int).toNat + 0) then _ else _) = _
                rw [Int.toNat_natCast, Nat.add_zero, Nat.beq_refl, cond_true, put_nil]
              · have hb : barQ p t (q + 1) q = bareL p (eAt t q) := if_pos (Nat.lt_succ_self q)
                rw [hb]
                refine conv_row rfl rfl rfl (fun h => by cases h) (by simp [lookF, idbeq_self, bareL]; exact List.length_filter_le _ _) (fun j hj => ?_)
                rw [Nat.zero_add]
                have e2 := ren_tch (tau ([.s 38 1] ++ sites 40 1 0)) ((bareL p (eAt t q)).getD j tch0)
                exact ⟨(congrArg noIds e2).trans rfl, .of_eq e2⟩
            · refine conv_of_eq (x' := tchs false (barQ p t i q)) ?_ (conv_eq ?_)
              · show (bif Nat.beq q ((i : Int).toNat + 0) then _ else _) = _
                rw [Int.toNat_natCast, Nat.add_zero, nbeq_ne e, cond_false]
              · rw [show barQ p t (i + 1) q = barQ p t i q by unfold barQ; congr 1; rw [eq_iff_iff]; omega]
        · (try simp only []); first | omega | grind
      · have hil : i = t.length := by simp at h6; omega
        subst hil
        refine WP.exit ?_
        refine WP.seq ?_
        refine WP.reg hT hE [] rfl ?_ ?_
        · have hbt : (T 106).bytes = 48 := rfl
          simp [holdsC, under, hbt]
          omega
        refine WP.seq ?_
        refine WP.reg hT hE [] rfl ?_ ?_
        · first | trivial | (simp [holdsC, under, slOk, slB, capEq] <;> grind)
        refine WP.seq ?_
        refine WP.seq ?_
        refine WP.reg hT hE [] rfl ?_ ?_
        · first | trivial | (simp [holdsC, under, slOk, slB, capEq] <;> grind)
        refine WP.block ?_
        refine WP.loop (α := Nat) (fun j => mkSt [(1, evts g t), (2, .rp 26 (encProg p)), (7, .row 97 false t.length (fun q => tchs false (bareL p (eAt t q)))), (10, .own (.s 45 0) t.length 0 t.length none), (11, .own (.s 146 0) (confTo p t j).length 0 (confTo p t j).length none), (47, .int t.length), (48, .int j)] [(.s 45 0, .cells ⟨106, t.length, fun q => encClk (outC (bareT p t) j zeroC q), 0⟩), (.s 146 0, cells2 (confTo p t j))]) (fun j => j ≤ t.length) (fun j => t.length - j) ?_ ?_
        · refine ⟨0, ?_, ?_⟩
          · exact Nat.zero_le _
          · refine Ent.mk hT [(.s 24 0, t.length)] ⟨⟨_, rfl, Nat.le_refl _⟩, trivial⟩ ⟨⟨rfl, _, rfl, by first | exact conv_eq rfl | (refine conv_eq ?_; rw [wrap_id (by omega) (by omega)]; simp; done) | (refine conv_eq ?_; simp; done)⟩, ⟨rfl, _, rfl, by first | exact conv_eq rfl | (refine conv_eq ?_; rw [wrap_id (by omega) (by omega)]; simp; done) | (refine conv_eq ?_; simp; done)⟩, ⟨rfl, _, rfl, conv_row rfl rfl rfl (fun h => by cases h) (by simp [lookF, idbeq_self]) (fun q hq => ⟨rfl, AEq.of_eq (by show tchs false (barQ p t t.length (0 + q)) = _; rw [Nat.zero_add, barQ, if_pos hq])⟩)⟩, ⟨rfl, _, rfl, by first | exact conv_eq rfl | (refine conv_eq ?_; rw [wrap_id (by omega) (by omega)]; simp; done) | (refine conv_eq ?_; simp; done)⟩, ⟨rfl, _, rfl, conv_nil_own⟩, ⟨rfl, _, rfl, by first | exact conv_eq rfl | (refine conv_eq ?_; rw [wrap_id (by omega) (by omega)]; simp; done) | (refine conv_eq ?_; simp; done)⟩, ⟨rfl, _, rfl, by first | exact conv_eq rfl | (refine conv_eq ?_; rw [wrap_id (by omega) (by omega)]; simp; done) | (refine conv_eq ?_; simp; done)⟩, trivial⟩ ⟨⟨fun _ _ => okIds_clk _ _, .inl ⟨_, rfl, _, _, rfl, Nat.le_refl _, Nat.zero_le _, Nat.zero_le _, fun q hq => conv_eq (by have e : outC (bareT p t) 0 zeroC q = zeroC := (by unfold outC; simp); rw [e]; exact agg_ext (fun i => by match i with | 0 | 1 | 2 | 3 | 4 | 5 => rfl | i + 6 => rfl))⟩⟩, ⟨fun _ _ => okIds_2 _ _, .inr ⟨rfl, 75, _, rfl, by decide⟩⟩, trivial⟩ rfl
        · rintro j hj
          refine WP.seq ?_
          refine WP.reg hT hE [] rfl ?_ ?_
          · first | trivial | (simp [holdsC, under, slOk, slB, capEq] <;> grind)
          refine WP.seq ?_
          refine WP.cond rfl (fun h13 => ?_) (fun h13 => ?_)
          · have hjl : j < t.length := by simpa using h13
            have hle := clk_le hbok j (by rw [bareT_len]; exact hjl)
            have hgo := hok.2 j hjl
            have hctl := confTo_len p t j (by omega)
            refine WP.skip ?_
            refine WP.seq ?_
            refine WP.block ?_
            refine WP.seq ?_
            refine WP.reg hT hE [] rfl ?_ ?_
            · first | trivial | (simp [holdsC, under, slOk, slB, capEq] <;> grind)
            refine WP.seq ?_
            refine WP.seq ?_
            refine WP.reg hT hE [] rfl ?_ ?_
            · first | trivial | (simp [holdsC, under, slOk, slB, capEq] <;> grind)
            refine WP.block ?_
            refine WP.loop (α := Nat) (fun i => mkSt [(1, evts g t), (2, .rp 26 (encProg p)), (7, .row 97 false t.length (fun q => tchs false (bareL p (eAt t q)))), (10, .own (.s 45 0) t.length 0 t.length none), (11, .own (.s 146 0) (confTo p t j).length 0 (confTo p t j).length none), (12, .int j), (47, .int t.length), (48, .int j), (51, .int j), (52, .int i)] [(.s 45 0, .cells ⟨106, t.length, fun q => encClk (outC (bareT p t) j (accC (bareT p t) j i) q), 0⟩), (.s 146 0, cells2 (confTo p t j))]) (fun i => i ≤ j) (fun i => j - i) ?_ ?_
            · refine ⟨0, ?_, ?_⟩
              · exact Nat.zero_le _
              · refine Ent.mk hT [] trivial ⟨⟨rfl, _, rfl, by first | exact conv_eq rfl | (refine conv_eq ?_; rw [wrap_id (by omega) (by omega)]; simp; done) | (refine conv_eq ?_; simp; done)⟩, ⟨rfl, _, rfl, by first | exact conv_eq rfl | (refine conv_eq ?_; rw [wrap_id (by omega) (by omega)]; simp; done) | (refine conv_eq ?_; simp; done)⟩, ⟨rfl, _, rfl, by first | exact conv_eq rfl | (refine conv_eq ?_; rw [wrap_id (by omega) (by omega)]; simp; done) | (refine conv_eq ?_; simp; done)⟩, ⟨rfl, _, rfl, by first | exact conv_eq rfl | (refine conv_eq ?_; rw [wrap_id (by omega) (by omega)]; simp; done) | (refine conv_eq ?_; simp; done)⟩, ⟨rfl, _, rfl, by first | exact conv_eq rfl | (refine conv_eq ?_; rw [wrap_id (by omega) (by omega)]; simp; done) | (refine conv_eq ?_; simp; done)⟩, ⟨rfl, _, rfl, by first | exact conv_eq rfl | (refine conv_eq ?_; rw [wrap_id (by omega) (by omega)]; simp; done) | (refine conv_eq ?_; simp; done)⟩, ⟨rfl, _, rfl, by first | exact conv_eq rfl | (refine conv_eq ?_; rw [wrap_id (by omega) (by omega)]; simp; done) | (refine conv_eq ?_; simp; done)⟩, ⟨rfl, _, rfl, by first | exact conv_eq rfl | (refine conv_eq ?_; rw [wrap_id (by omega) (by omega)]; simp; done) | (refine conv_eq ?_; simp; done)⟩, ⟨rfl, _, rfl, by first | exact conv_eq rfl | (refine conv_eq ?_; rw [wrap_id (by omega) (by omega)]; simp; done) | (refine conv_eq ?_; simp; done)⟩, ⟨rfl, _, rfl, by first | exact conv_eq rfl | (refine conv_eq ?_; rw [wrap_id (by omega) (by omega)]; simp; done) | (refine conv_eq ?_; simp; done)⟩, trivial⟩ ⟨⟨fun _ _ => rfl, .inl ⟨_, rfl, _, _, rfl, Nat.le_refl _, Nat.zero_le _, by first | exact Nat.zero_le _ | omega, fun q hq => by first | exact conv_eq rfl | (obtain rfl : q = 0 := (by simp at hq; exact hq); exact conv_eq rfl)⟩⟩, ⟨fun _ _ => rfl, .inl ⟨_, rfl, _, _, rfl, Nat.le_refl _, Nat.zero_le _, by first | exact Nat.zero_le _ | omega, fun q hq => by first | exact conv_eq rfl | (obtain rfl : q = 0 := (by simp at hq; exact hq); exact conv_eq rfl)⟩⟩, trivial⟩ rfl
            · rintro i hi
              refine WP.seq ?_
              refine WP.reg hT hE [] rfl ?_ ?_
              · first | trivial | (simp [holdsC, under, slOk, slB, capEq] <;> grind)
              refine WP.seq ?_
              refine WP.cond rfl (fun h16 => ?_) (fun h16 => ?_)
              · have hil : i < j := by simpa using h16
                refine WP.skip ?_
                refine WP.seq ?_
                refine WP.block ?_
                refine WP.seq ?_
                refine WP.reg hT hE [] rfl ?_ ?_
                · first | trivial | (simp [holdsC, under, slOk, slB, capEq] <;> grind)
                refine WP.seq ?_
                refine WP.drw hT hE hM [CG.pure (.bool (clashB (bareL p (eAt t i)) (bareL p (eAt t j))))] rfl ?_ ?_
                · have hd := clash_ac false false (bareL p (eAt t i)) (bareL p (eAt t j))
                  simp [holdsC, under, CG.pure]
                  exact ⟨⟨by omega, by omega⟩, hd⟩
                refine WP.cond rfl (fun h18 => ?_) (fun h18 => ?_)
                · have hdp : depB (eAt (bareT p t) i) (eAt (bareT p t) j) = true := by rw [bare_dep (by omega) hjl]; exact h18
                  refine WP.drw hT hE hM [CG.pure (.tup [encClk (joinC (accC (bareT p t) j i) (clkOf (bareT p t) i)), .int 0])] rfl ?_ ?_
                  · have hjn := join_ac (accC (bareT p t) j i) (clkOf (bareT p t) i) ((hle.2 i (by omega)).ok (by omega)) ((clk_le hbok i (by rw [bareT_len]; omega)).1.ok (by omega))
                    have e1 : outC (bareT p t) j (accC (bareT p t) j i) (j : Int).toNat = accC (bareT p t) j i := outC_at
                    have e2 : outC (bareT p t) j (accC (bareT p t) j i) (i : Int).toNat = clkOf (bareT p t) i := outC_lt hil
                    have hjn2 : AC Tryz.prog T tysN 59 [encClk (outC (bareT p t) j (accC (bareT p t) j i) (j : Int).toNat), encClk (outC (bareT p t) j (accC (bareT p t) j i) (i : Int).toNat)] [] (.tup [encClk (joinC (accC (bareT p t) j i) (clkOf (bareT p t) i)), .int 0]) [] := by rw [e1, e2]; exact hjn
                    simp [holdsC, under, CG.pure]
                    exact ⟨⟨⟨by omega, by omega⟩, hjn2⟩, by omega⟩
                  refine WP.reg hT hE [] rfl ?_ ?_
                  · first | trivial | (simp [holdsC, under, slOk, slB, capEq] <;> grind)
                  refine ⟨i + 1, ?_, ?_, ?_⟩
                  · exact hil
                  · refine Ent.mk hT [] trivial ⟨⟨rfl, _, rfl, by first | exact conv_eq rfl | (refine conv_eq ?_; rw [wrap_id (by omega) (by omega)]; simp; done) | (refine conv_eq ?_; simp; done)⟩, ⟨rfl, _, rfl, by first | exact conv_eq rfl | (refine conv_eq ?_; rw [wrap_id (by omega) (by omega)]; simp; done) | (refine conv_eq ?_; simp; done)⟩, ⟨rfl, _, rfl, by first | exact conv_eq rfl | (refine conv_eq ?_; rw [wrap_id (by omega) (by omega)]; simp; done) | (refine conv_eq ?_; simp; done)⟩, ⟨rfl, _, rfl, by first | exact conv_eq rfl | (refine conv_eq ?_; rw [wrap_id (by omega) (by omega)]; simp; done) | (refine conv_eq ?_; simp; done)⟩, ⟨rfl, _, rfl, by first | exact conv_eq rfl | (refine conv_eq ?_; rw [wrap_id (by omega) (by omega)]; simp; done) | (refine conv_eq ?_; simp; done)⟩, ⟨rfl, _, rfl, by first | exact conv_eq rfl | (refine conv_eq ?_; rw [wrap_id (by omega) (by omega)]; simp; done) | (refine conv_eq ?_; simp; done)⟩, ⟨rfl, _, rfl, by first | exact conv_eq rfl | (refine conv_eq ?_; rw [wrap_id (by omega) (by omega)]; simp; done) | (refine conv_eq ?_; simp; done)⟩, ⟨rfl, _, rfl, by first | exact conv_eq rfl | (refine conv_eq ?_; rw [wrap_id (by omega) (by omega)]; simp; done) | (refine conv_eq ?_; simp; done)⟩, ⟨rfl, _, rfl, by first | exact conv_eq rfl | (refine conv_eq ?_; rw [wrap_id (by omega) (by omega)]; simp; done) | (refine conv_eq ?_; simp; done)⟩, ⟨rfl, _, rfl, by first | exact conv_eq rfl | (refine conv_eq ?_; rw [wrap_id (by omega) (by omega)]; simp; done) | (refine conv_eq ?_; simp; done)⟩, trivial⟩ ⟨⟨fun _ _ => okIds_clk _ _, .inl ⟨_, rfl, _, _, rfl, Nat.le_refl _, Nat.zero_le _, Nat.zero_le _, fun q hq => conv_eq ((outC_set (i := j) (acc' := joinC (accC (bareT p t) j i) (clkOf (bareT p t) i)) q).trans (by rw [accC_succ (bareT p t) hil, if_pos hdp]))⟩⟩, ⟨fun _ _ => rfl, .inl ⟨_, rfl, _, _, rfl, Nat.le_refl _, Nat.zero_le _, by first | exact Nat.zero_le _ | omega, fun q hq => by first | exact conv_eq rfl | (obtain rfl : q = 0 := (by simp at hq; exact hq); exact conv_eq rfl)⟩⟩, trivial⟩ rfl
                  · (try simp only []); first | omega | grind
                · have hdp : depB (eAt (bareT p t) i) (eAt (bareT p t) j) = false := by rw [bare_dep (by omega) hjl]; exact h18
                  refine WP.skip ?_
                  refine WP.reg hT hE [] rfl ?_ ?_
                  · first | trivial | (simp [holdsC, under, slOk, slB, capEq] <;> grind)
                  refine ⟨i + 1, ?_, ?_, ?_⟩
                  · exact hil
                  · refine Ent.mk hT [] trivial ⟨⟨rfl, _, rfl, by first | exact conv_eq rfl | (refine conv_eq ?_; rw [wrap_id (by omega) (by omega)]; simp; done) | (refine conv_eq ?_; simp; done)⟩, ⟨rfl, _, rfl, by first | exact conv_eq rfl | (refine conv_eq ?_; rw [wrap_id (by omega) (by omega)]; simp; done) | (refine conv_eq ?_; simp; done)⟩, ⟨rfl, _, rfl, by first | exact conv_eq rfl | (refine conv_eq ?_; rw [wrap_id (by omega) (by omega)]; simp; done) | (refine conv_eq ?_; simp; done)⟩, ⟨rfl, _, rfl, by first | exact conv_eq rfl | (refine conv_eq ?_; rw [wrap_id (by omega) (by omega)]; simp; done) | (refine conv_eq ?_; simp; done)⟩, ⟨rfl, _, rfl, by first | exact conv_eq rfl | (refine conv_eq ?_; rw [wrap_id (by omega) (by omega)]; simp; done) | (refine conv_eq ?_; simp; done)⟩, ⟨rfl, _, rfl, by first | exact conv_eq rfl | (refine conv_eq ?_; rw [wrap_id (by omega) (by omega)]; simp; done) | (refine conv_eq ?_; simp; done)⟩, ⟨rfl, _, rfl, by first | exact conv_eq rfl | (refine conv_eq ?_; rw [wrap_id (by omega) (by omega)]; simp; done) | (refine conv_eq ?_; simp; done)⟩, ⟨rfl, _, rfl, by first | exact conv_eq rfl | (refine conv_eq ?_; rw [wrap_id (by omega) (by omega)]; simp; done) | (refine conv_eq ?_; simp; done)⟩, ⟨rfl, _, rfl, by first | exact conv_eq rfl | (refine conv_eq ?_; rw [wrap_id (by omega) (by omega)]; simp; done) | (refine conv_eq ?_; simp; done)⟩, ⟨rfl, _, rfl, by first | exact conv_eq rfl | (refine conv_eq ?_; rw [wrap_id (by omega) (by omega)]; simp; done) | (refine conv_eq ?_; simp; done)⟩, trivial⟩ ⟨⟨fun _ _ => okIds_clk _ _, .inl ⟨_, rfl, _, _, rfl, Nat.le_refl _, Nat.zero_le _, Nat.zero_le _, fun q hq => conv_eq (by rw [accC_succ (bareT p t) hil, hdp]; rfl)⟩⟩, ⟨fun _ _ => rfl, .inl ⟨_, rfl, _, _, rfl, Nat.le_refl _, Nat.zero_le _, by first | exact Nat.zero_le _ | omega, fun q hq => by first | exact conv_eq rfl | (obtain rfl : q = 0 := (by simp at hq; exact hq); exact conv_eq rfl)⟩⟩, trivial⟩ rfl
                  · (try simp only []); first | omega | grind
              · have hil : i = j := by simp at h16; omega
                subst hil
                have hgN : goN (bareT p t) i = (eAt t i).go.toNat := by rw [goN, bareT_go hjl]
                refine WP.exit ?_
                refine WP.seq ?_
                refine WP.drw hT hE hM [CG.pure (.tup [encClk (clkOf (bareT p t) i), .int 0])] rfl ?_ ?_
                · have hjn := tick_ac (accC (bareT p t) i i) (eAt t i).go ((hle.2 i (Nat.le_refl _)).ok (by omega)) hgo (by have := ((hle.2 i (Nat.le_refl _)).2 (eAt t i).go.toNat (by omega)).2; omega)
                  have e1 : outC (bareT p t) i (accC (bareT p t) i i) (i : Int).toNat = accC (bareT p t) i i := outC_at
                  have hjn2 : AC Tryz.prog T tysN 60 [encClk (outC (bareT p t) i (accC (bareT p t) i i) (i : Int).toNat), .int (eAt t i).go] [] (.tup [encClk (clkOf (bareT p t) i), .int 0]) [] := by rw [e1, clkOf_eq, hgN]; exact hjn
                  simp [holdsC, under, CG.pure]
                  exact ⟨⟨by omega, hjn2⟩, by omega⟩
                refine WP.seq ?_
                refine WP.reg hT hE [] rfl ?_ ?_
                · first | trivial | (simp [holdsC, under, slOk, slB, capEq] <;> grind)
                refine WP.block ?_
                refine WP.loop (α := Nat) (fun k => mkSt [(1, evts g t), (2, .rp 26 (encProg p)), (7, .row 97 false t.length (fun q => tchs false (bareL p (eAt t q)))), (10, .own (.s 45 0) t.length 0 t.length none), (11, .own (.s 146 0) (confTo p t i ++ confAt p t i k).length 0 (confTo p t i ++ confAt p t i k).length none), (12, .int i), (47, .int t.length), (48, .int i), (96, .int i), (97, .int k)] [(.s 45 0, .cells ⟨106, t.length, fun q => encClk (outC (bareT p t) (i + 1) zeroC q), 0⟩), (.s 146 0, cells2 (confTo p t i ++ confAt p t i k))]) (fun k => k ≤ i) (fun k => i - k) ?_ ?_
                · refine ⟨0, ?_, ?_⟩
                  · exact Nat.zero_le _
                  · refine Ent.mk hT [] trivial ⟨⟨rfl, _, rfl, by first | exact conv_eq rfl | (refine conv_eq ?_; rw [wrap_id (by omega) (by omega)]; simp; done) | (refine conv_eq ?_; simp; done)⟩, ⟨rfl, _, rfl, by first | exact conv_eq rfl | (refine conv_eq ?_; rw [wrap_id (by omega) (by omega)]; simp; done) | (refine conv_eq ?_; simp; done)⟩, ⟨rfl, _, rfl, by first | exact conv_eq rfl | (refine conv_eq ?_; rw [wrap_id (by omega) (by omega)]; simp; done) | (refine conv_eq ?_; simp; done)⟩, ⟨rfl, _, rfl, by first | exact conv_eq rfl | (refine conv_eq ?_; rw [wrap_id (by omega) (by omega)]; simp; done) | (refine conv_eq ?_; simp; done)⟩, ⟨rfl, _, rfl, conv_eq (by rw [confAt, List.append_nil])⟩, ⟨rfl, _, rfl, by first | exact conv_eq rfl | (refine conv_eq ?_; rw [wrap_id (by omega) (by omega)]; simp; done) | (refine conv_eq ?_; simp; done)⟩, ⟨rfl, _, rfl, by first | exact conv_eq rfl | (refine conv_eq ?_; rw [wrap_id (by omega) (by omega)]; simp; done) | (refine conv_eq ?_; simp; done)⟩, ⟨rfl, _, rfl, by first | exact conv_eq rfl | (refine conv_eq ?_; rw [wrap_id (by omega) (by omega)]; simp; done) | (refine conv_eq ?_; simp; done)⟩, ⟨rfl, _, rfl, by first | exact conv_eq rfl | (refine conv_eq ?_; rw [wrap_id (by omega) (by omega)]; simp; done) | (refine conv_eq ?_; simp; done)⟩, ⟨rfl, _, rfl, by first | exact conv_eq rfl | (refine conv_eq ?_; rw [wrap_id (by omega) (by omega)]; simp; done) | (refine conv_eq ?_; simp; done)⟩, trivial⟩ ⟨⟨fun _ _ => okIds_clk _ _, .inl ⟨_, rfl, _, _, rfl, Nat.le_refl _, Nat.zero_le _, Nat.zero_le _, fun q hq => conv_eq ((outC_set (i := i) (acc' := clkOf (bareT p t) i) q).trans (by rw [outC_next]))⟩⟩, ob_list (fun _ => okIds_2 _ _) rfl rfl (by rw [confAt, List.append_nil]) rfl rfl (fun q hq => by rw [confAt, List.append_nil]), trivial⟩ rfl
                · rintro k hk
                  refine WP.seq ?_
                  refine WP.reg hT hE [] rfl ?_ ?_
                  · first | trivial | (simp [holdsC, under, slOk, slB, capEq] <;> grind)
                  refine WP.seq ?_
                  refine WP.cond rfl (fun h23 => ?_) (fun h23 => ?_)
                  · have hkl : k < i := by simpa using h23
                    have hcal := confAt_len p t i k
                    have hgk := hok.2 k (by omega)
                    have ok1 : outC (bareT p t) (i + 1) zeroC k = clkOf (bareT p t) k := outC_lt (by omega)
                    have ok2 : outC (bareT p t) (i + 1) zeroC i = clkOf (bareT p t) i := outC_lt (by omega)
                    refine WP.skip ?_
                    refine WP.seq ?_
                    refine WP.block ?_
                    refine WP.seq ?_
                    refine WP.reg hT hE [] rfl ?_ ?_
                    · first | trivial | (simp [holdsC, under, slOk, slB, capEq] <;> grind)
                    refine WP.seq ?_
                    refine WP.reg hT hE [] rfl ?_ ?_
                    · first | trivial | (simp [holdsC, under, slOk, slB, capEq] <;> grind)
                    refine WP.seq ?_
                    refine WP.drw hT hE hM [CG.pure (ints false (bothF p (eAt t k) (eAt t i)))] rfl ?_ ?_
                    · have hc := both_ac p (eAt t k) (eAt t i) (chk_evt hv.2 (by omega)) (chk_evt hv.2 hjl) hv.1
                      simp only [holdsC, under, CG.pure]
                      repeat' with_reducible refine And.intro ?_ ?_
                      all_goals (try with_reducible intros)
                      all_goals (first | exact trivial | assumption | omega | exact hc)
                    refine WP.cond rfl (fun h26 => ?_) (fun h26 => ?_)
                    · have hcf : confB p t k i = true := by
                        have e := h26
                        simp only [band, Int.toNat_natCast, Nat.add_zero, ok1, ok2] at e
                        rw [confB, ← e]
                        rfl
                      refine WP.reg hT hE [] rfl ?_ ?_
                      · have hbt : (T 75).bytes = 16 := rfl
                        simp [holdsC, under, hbt]
                        omega
                      refine WP.reg hT hE [] rfl ?_ ?_
                      · first | trivial | (simp [holdsC, under, slOk, slB, capEq] <;> grind)
                      refine ⟨k + 1, ?_, ?_, ?_⟩
                      · exact hkl
                      · refine Ent.mk hT [] trivial ⟨⟨rfl, _, rfl, by first | exact conv_eq rfl | (refine conv_eq ?_; rw [wrap_id (by omega) (by omega)]; simp; done) | (refine conv_eq ?_; simp; done)⟩, ⟨rfl, _, rfl, by first | exact conv_eq rfl | (refine conv_eq ?_; rw [wrap_id (by omega) (by omega)]; simp; done) | (refine conv_eq ?_; simp; done)⟩, ⟨rfl, _, rfl, by first | exact conv_eq rfl | (refine conv_eq ?_; rw [wrap_id (by omega) (by omega)]; simp; done) | (refine conv_eq ?_; simp; done)⟩, ⟨rfl, _, rfl, by first | exact conv_eq rfl | (refine conv_eq ?_; rw [wrap_id (by omega) (by omega)]; simp; done) | (refine conv_eq ?_; simp; done)⟩, ⟨rfl, _, rfl, conv_eq (by rw [confAt, if_pos hcf, ← List.append_assoc, len_snoc])⟩, ⟨rfl, _, rfl, by first | exact conv_eq rfl | (refine conv_eq ?_; rw [wrap_id (by omega) (by omega)]; simp; done) | (refine conv_eq ?_; simp; done)⟩, ⟨rfl, _, rfl, by first | exact conv_eq rfl | (refine conv_eq ?_; rw [wrap_id (by omega) (by omega)]; simp; done) | (refine conv_eq ?_; simp; done)⟩, ⟨rfl, _, rfl, by first | exact conv_eq rfl | (refine conv_eq ?_; rw [wrap_id (by omega) (by omega)]; simp; done) | (refine conv_eq ?_; simp; done)⟩, ⟨rfl, _, rfl, by first | exact conv_eq rfl | (refine conv_eq ?_; rw [wrap_id (by omega) (by omega)]; simp; done) | (refine conv_eq ?_; simp; done)⟩, ⟨rfl, _, rfl, by first | exact conv_eq rfl | (refine conv_eq ?_; rw [wrap_id (by omega) (by omega)]; simp; done) | (refine conv_eq ?_; simp; done)⟩, trivial⟩ ⟨⟨fun _ _ => rfl, .inl ⟨_, rfl, _, _, rfl, Nat.le_refl _, Nat.zero_le _, by first | exact Nat.zero_le _ | omega, fun q hq => by first | exact conv_eq rfl | (obtain rfl : q = 0 := (by simp at hq; exact hq); exact conv_eq rfl)⟩⟩, ob_list (fun _ => okIds_2 _ _) rfl rfl (by rw [confAt, if_pos hcf, ← List.append_assoc, len_snoc]) rfl rfl (by rw [confAt, if_pos hcf, ← List.append_assoc]; exact appL (z := (T 75).zero) rfl (enc2_of k i) (fun q hq => rfl)), trivial⟩ rfl
                      · (try simp only []); first | omega | grind
                    · have hcf : confB p t k i = false := by
                        have e := h26
                        simp only [band, Int.toNat_natCast, Nat.add_zero, ok1, ok2] at e
                        rw [confB, ← e]
                        rfl
                      refine WP.skip ?_
                      refine WP.reg hT hE [] rfl ?_ ?_
                      · first | trivial | (simp [holdsC, under, slOk, slB, capEq] <;> grind)
                      refine ⟨k + 1, ?_, ?_, ?_⟩
                      · exact hkl
                      · refine Ent.mk hT [] trivial ⟨⟨rfl, _, rfl, by first | exact conv_eq rfl | (refine conv_eq ?_; rw [wrap_id (by omega) (by omega)]; simp; done) | (refine conv_eq ?_; simp; done)⟩, ⟨rfl, _, rfl, by first | exact conv_eq rfl | (refine conv_eq ?_; rw [wrap_id (by omega) (by omega)]; simp; done) | (refine conv_eq ?_; simp; done)⟩, ⟨rfl, _, rfl, by first | exact conv_eq rfl | (refine conv_eq ?_; rw [wrap_id (by omega) (by omega)]; simp; done) | (refine conv_eq ?_; simp; done)⟩, ⟨rfl, _, rfl, by first | exact conv_eq rfl | (refine conv_eq ?_; rw [wrap_id (by omega) (by omega)]; simp; done) | (refine conv_eq ?_; simp; done)⟩, ⟨rfl, _, rfl, conv_eq (by rw [confAt, if_neg (by rw [hcf]; decide), List.append_nil])⟩, ⟨rfl, _, rfl, by first | exact conv_eq rfl | (refine conv_eq ?_; rw [wrap_id (by omega) (by omega)]; simp; done) | (refine conv_eq ?_; simp; done)⟩, ⟨rfl, _, rfl, by first | exact conv_eq rfl | (refine conv_eq ?_; rw [wrap_id (by omega) (by omega)]; simp; done) | (refine conv_eq ?_; simp; done)⟩, ⟨rfl, _, rfl, by first | exact conv_eq rfl | (refine conv_eq ?_; rw [wrap_id (by omega) (by omega)]; simp; done) | (refine conv_eq ?_; simp; done)⟩, ⟨rfl, _, rfl, by first | exact conv_eq rfl | (refine conv_eq ?_; rw [wrap_id (by omega) (by omega)]; simp; done) | (refine conv_eq ?_; simp; done)⟩, ⟨rfl, _, rfl, by first | exact conv_eq rfl | (refine conv_eq ?_; rw [wrap_id (by omega) (by omega)]; simp; done) | (refine conv_eq ?_; simp; done)⟩, trivial⟩ ⟨⟨fun _ _ => rfl, .inl ⟨_, rfl, _, _, rfl, Nat.le_refl _, Nat.zero_le _, by first | exact Nat.zero_le _ | omega, fun q hq => by first | exact conv_eq rfl | (obtain rfl : q = 0 := (by simp at hq; exact hq); exact conv_eq rfl)⟩⟩, ob_list (fun _ => okIds_2 _ _) rfl rfl (by rw [confAt, if_neg (by rw [hcf]; decide), List.append_nil]) rfl rfl (fun q hq => by rw [confAt, if_neg (by rw [hcf]; decide), List.append_nil]), trivial⟩ rfl
                      · (try simp only []); first | omega | grind
                  · have hkl : k = i := by simp at h23; omega
                    subst hkl
                    refine WP.exit ?_
                    refine WP.reg hT hE [] rfl ?_ ?_
                    · first | trivial | (simp [holdsC, under, slOk, slB, capEq] <;> grind)
                    refine ⟨k + 1, ?_, ?_, ?_⟩
                    · exact hjl
                    · refine Ent.mk hT [] trivial ⟨⟨rfl, _, rfl, by first | exact conv_eq rfl | (refine conv_eq ?_; rw [wrap_id (by omega) (by omega)]; simp; done) | (refine conv_eq ?_; simp; done)⟩, ⟨rfl, _, rfl, by first | exact conv_eq rfl | (refine conv_eq ?_; rw [wrap_id (by omega) (by omega)]; simp; done) | (refine conv_eq ?_; simp; done)⟩, ⟨rfl, _, rfl, by first | exact conv_eq rfl | (refine conv_eq ?_; rw [wrap_id (by omega) (by omega)]; simp; done) | (refine conv_eq ?_; simp; done)⟩, ⟨rfl, _, rfl, by first | exact conv_eq rfl | (refine conv_eq ?_; rw [wrap_id (by omega) (by omega)]; simp; done) | (refine conv_eq ?_; simp; done)⟩, ⟨rfl, _, rfl, by first | exact conv_eq rfl | (refine conv_eq ?_; rw [wrap_id (by omega) (by omega)]; simp; done) | (refine conv_eq ?_; simp; done)⟩, ⟨rfl, _, rfl, by first | exact conv_eq rfl | (refine conv_eq ?_; rw [wrap_id (by omega) (by omega)]; simp; done) | (refine conv_eq ?_; simp; done)⟩, ⟨rfl, _, rfl, by first | exact conv_eq rfl | (refine conv_eq ?_; rw [wrap_id (by omega) (by omega)]; simp; done) | (refine conv_eq ?_; simp; done)⟩, trivial⟩ ⟨⟨fun _ _ => rfl, .inl ⟨_, rfl, _, _, rfl, Nat.le_refl _, Nat.zero_le _, by first | exact Nat.zero_le _ | omega, fun q hq => by first | exact conv_eq rfl | (obtain rfl : q = 0 := (by simp at hq; exact hq); exact conv_eq rfl)⟩⟩, ⟨fun _ _ => rfl, .inl ⟨_, rfl, _, _, rfl, Nat.le_refl _, Nat.zero_le _, by first | exact Nat.zero_le _ | omega, fun q hq => by first | exact conv_eq rfl | (obtain rfl : q = 0 := (by simp at hq; exact hq); exact conv_eq rfl)⟩⟩, trivial⟩ rfl
                    · (try simp only []); first | omega | grind
          · have hjl : j = t.length := by simp at h13; omega
            subst hjl
            have hctl := confTo_len p t t.length h256
            have hsl : (sortP (confTo p t t.length)).length = (confTo p t t.length).length := sortBy_len swo2 _
            refine WP.exit ?_
            refine WP.seq ?_
            refine WP.reg hT hE [⟨true, [.s 146 0], .tup [], [cells2 (sortP (confTo p t t.length))]⟩] rfl ?_ ?_
            · have hs := confSort_ac (confTo p t t.length) (by omega)
              simp [holdsC, under]
              refine ⟨⟨fun _ _ => okIds_2 _ _, trivial⟩, ⟨fun _ _ => okIds_2 _ _, trivial⟩, ?_⟩
              have e : renO (sig [.s 146 0] 0) (cells2 (confTo p t t.length)) = cells2 (confTo p t t.length) := renO_list (fun a => ren_2 _ a)
              rw [e]
              exact hs
            refine WP.seq ?_
            refine WP.reg hT hE [] rfl ?_ ?_
            · first | trivial | (simp [holdsC, under, slOk, slB, capEq] <;> grind)
            refine WP.ret ?_
            change Fin _ _ _ _ _ _ _ _
            rw [confL, if_pos hz, hz]
            refine fin_mk hT [(.s 146 0, (confTo p t t.length).length)] (ts := [(4, prs false (sortP (confTo p t t.length))), (5, .int 0)]) (l := [prs false (sortP (confTo p t t.length)), .int 0]) ⟨⟨_, rfl, by rw [← hsl]; exact Nat.le_refl _⟩, trivial⟩ ⟨⟨rfl, _, rfl, ?_⟩, ⟨rfl, _, rfl, conv_eq rfl⟩, trivial⟩ trivial rfl rfl rfl
            refine conv_of_eq (x' := .own (.s 146 0) (sortP (confTo p t t.length)).length 0 (sortP (confTo p t t.length)).length none) (by rw [hsl]) ?_
            exact conv_row rfl rfl rfl (fun h => by cases h) (by simp [lookF, idbeq_self, hsl]) (fun q hq => by rw [Nat.zero_add]; exact ⟨noIds_2 _, AEq.refl _⟩)
end Go.Ab


/- By clocks or by what depends on what: the same. -/
set_option autoImplicit false
set_option linter.unusedSimpArgs false
set_option linter.unusedVariables false
namespace Go.Ab
open Go.Proofs
/-- What happens before what. -/
inductive HB (t : List Evt) : Nat → Nat → Prop
  | dep {i j : Nat} : i < j → depB (eAt t i) (eAt t j) = true → HB t i j
  | step {i m j : Nat} : HB t i m → m < j → depB (eAt t m) (eAt t j) = true → HB t i j
section
variable {t : List Evt}
theorem HB.lt {i j : Nat} (h : HB t i j) : i < j := by
  induction h with
  | dep h _ => exact h
  | step _ h _ ih => omega
theorem HB.trans {i m j : Nat} (h : HB t i m) (k : HB t m j) : HB t i j := by
  induction k with
  | dep h1 h2 => exact .step h h1 h2
  | step _ h1 h2 ih => exact .step ih h1 h2
theorem HB.last {i j : Nat} (h : HB t i j) : ∃ m, m < j ∧ depB (eAt t m) (eAt t j) = true ∧ (i = m ∨ HB t i m) := by
  cases h with
  | dep h1 h2 => exact ⟨i, h1, h2, .inl rfl⟩
  | step h h1 h2 => exact ⟨_, h1, h2, .inr h⟩
theorem HB.of {i m j : Nat} (h1 : m < j) (h2 : depB (eAt t m) (eAt t j) = true) (h : i = m ∨ HB t i m) : HB t i j := by
  rcases h with rfl | h
  · exact .dep h1 h2
  · exact .step h h1 h2
theorem colTo_iff {B : BT} {j : Nat} (hB : ∀ i k, k < j → (B i k = true ↔ HB t i k)) : ∀ d, d ≤ j → ∀ i, colTo t B j d i = true ↔ ∃ m, j - d ≤ m ∧ m < j ∧ depB (eAt t m) (eAt t j) = true ∧ (i = m ∨ HB t i m)
  | 0, _, i => by
    constructor
    · intro h; cases h
    · rintro ⟨m, h1, h2, _⟩; omega
  | d + 1, hd, i => by
    have ih := colTo_iff hB d (by omega)
    obtain ⟨x, hx⟩ : ∃ x, x = j - 1 - d := ⟨_, rfl⟩
    have hxj : x < j := by omega
    rw [colTo, ← hx, stepC]
    have hsub : (∃ m, j - d ≤ m ∧ m < j ∧ depB (eAt t m) (eAt t j) = true ∧ (i = m ∨ HB t i m)) → ∃ m, j - (d + 1) ≤ m ∧ m < j ∧ depB (eAt t m) (eAt t j) = true ∧ (i = m ∨ HB t i m) := by
      rintro ⟨m, h1, h2⟩; exact ⟨m, by omega, h2⟩
    by_cases hc : (colTo t B j d x || !depB (eAt t x) (eAt t j)) = true
    · rw [if_pos hc, ih i]
      refine ⟨hsub, ?_⟩
      rintro ⟨m, h1, h2, h3, h4⟩
      by_cases e : j - d ≤ m
      · exact ⟨m, e, h2, h3, h4⟩
      · obtain rfl : m = x := by omega
        rw [Bool.or_eq_true] at hc
        rcases hc with hc | hc
        · obtain ⟨m', k1, k2, k3, k4⟩ := (ih m).1 hc
          refine ⟨m', k1, k2, k3, .inr ?_⟩
          have h5 : HB t m m' := by
            rcases k4 with rfl | k4
            · omega
            · exact k4
          rcases h4 with rfl | h4
          · exact h5
          · exact h4.trans h5
        · rw [h3] at hc; cases hc
    · rw [if_neg hc]
      have hdep : depB (eAt t x) (eAt t j) = true := by
        cases h : depB (eAt t x) (eAt t j) with
        | true => rfl
        | false => rw [h] at hc; simp at hc
      constructor
      · intro h
        split at h
        · rename_i e; subst e; exact ⟨i, by omega, hxj, hdep, .inl rfl⟩
        · split at h
          · rw [Bool.or_eq_true] at h
            rcases h with h | h
            · exact hsub ((ih i).1 h)
            · exact ⟨x, by omega, hxj, hdep, .inr ((hB i x hxj).1 h)⟩
          · exact hsub ((ih i).1 h)
      · rintro ⟨m, h1, h2, h3, h4⟩
        by_cases e : j - d ≤ m
        · have h5 := (ih i).2 ⟨m, e, h2, h3, h4⟩
          split
          · rfl
          · split
            · rw [h5]; rfl
            · exact h5
        · obtain rfl : m = x := by omega
          rcases h4 with rfl | h4
          · rw [if_pos rfl]
          · have hlt := h4.lt
            rw [if_neg (by omega), if_pos hlt, (hB i m hxj).2 h4, Bool.or_true]
theorem refB_iff : ∀ (n i k : Nat), refB t n i k = true ↔ k < n ∧ HB t i k
  | 0, i, k => by
    constructor
    · intro h; cases h
    · rintro ⟨h, _⟩; omega
  | n + 1, i, k => by
    have ih := refB_iff n
    rw [refB, mixB]
    by_cases e : k = n
    · subst e
      rw [if_pos rfl, colTo_iff (fun i q hq => by rw [ih]; exact ⟨fun h => h.2, fun h => ⟨hq, h⟩⟩) k (Nat.le_refl _)]
      constructor
      · rintro ⟨m, _, h2, h3, h4⟩; exact ⟨by omega, .of h2 h3 h4⟩
      · rintro ⟨_, h⟩
        obtain ⟨m, h1, h2, h3⟩ := h.last
        exact ⟨m, by omega, h1, h2, h3⟩
    · rw [if_neg e, ih]
      constructor
      · rintro ⟨h1, h2⟩; exact ⟨by omega, h2⟩
      · rintro ⟨h1, h2⟩; exact ⟨by omega, h2⟩
theorem refT_iff {i j : Nat} (hj : j < t.length) : refT t i j = true ↔ HB t i j := by
  rw [refT, refB_iff]
  exact ⟨fun h => h.2, fun h => ⟨hj, h⟩⟩
theorem own_at {x : Evt} : ∀ {n : Nat}, ownE x n = true → ∃ i, i < n ∧ (i : Int) < x.n ∧ tAt x i = ⟨5, x.go, true⟩
  | 0, h => by cases h
  | n + 1, h => by
    rw [ownE, Bool.or_eq_true] at h
    rcases h with h | h
    · obtain ⟨i, h1, h2⟩ := own_at h
      exact ⟨i, by omega, h2⟩
    · simp only [Bool.and_eq_true, decide_eq_true_eq] at h
      exact ⟨n, by omega, h.1, h.2⟩
theorem right_own {x : Evt} (h : rightE x = true) : (⟨5, x.go, true⟩ : Tch) ∈ touchL x := by
  simp only [rightE, Bool.and_eq_true, decide_eq_true_eq] at h
  obtain ⟨i, h1, h2, h3⟩ := own_at h.2.2
  rw [touchL, List.mem_map]
  refine ⟨i, ?_, h3⟩
  rw [List.mem_range]
  unfold clampN
  split <;> (try split) <;> omega
theorem own_dep {x y : Evt} (hx : rightE x = true) (hy : rightE y = true) (e : x.go = y.go) : depB x y = true := by
  rw [depB, clashB, List.any_eq_true]
  refine ⟨_, right_own hx, ?_⟩
  rw [List.any_eq_true]
  exact ⟨_, right_own hy, by simp [clB, e]⟩
theorem chk_ev (h : chkE t = 0) {i : Nat} (hi : i < t.length) : rightE (eAt t i) = true := by
  unfold chkE at h
  split at h
  · cases h
  · split at h
    · cases h
    · rename_i h2
      cases hz : rightE (eAt t i) with
      | true => rfl
      | false => exact absurd (anyE_yes hi (show badE (eAt t i) = true by simp [badE, hz])) h2
theorem same_dep (h : chkE t = 0) {i j : Nat} (hi : i < t.length) (hj : j < t.length) (e : goN t i = goN t j) : depB (eAt t i) (eAt t j) = true := by
  have h1 := (chk_right h).2 i hi
  have h2 := (chk_right h).2 j hj
  refine own_dep (chk_ev h hi) (chk_ev h hj) ?_
  unfold goN at e
  omega
theorem mx_ge (x y : Int) : x ≤ mx x y ∧ y ≤ mx x y ∧ (mx x y = x ∨ mx x y = y) := by
  unfold mx; split <;> omega
theorem acc_ge (q : Nat) (hq : q < 6) {j : Nat} : ∀ {m : Nat}, m ≤ j → ∀ k, k < m → depB (eAt t k) (eAt t j) = true → (clkOf t k).getD q 0 ≤ (accC t j m).getD q 0
  | 0, _, k, hk, _ => by omega
  | m + 1, hm, k, hk, hd => by
    rw [accC_succ t (by omega)]
    by_cases e : k = m
    · subst e
      rw [if_pos hd, joinC_get hq]
      exact (mx_ge _ _).2.1
    · have ih := acc_ge q hq (m := m) (by omega) k (by omega) hd
      split
      · rw [joinC_get hq]
        exact Int.le_trans ih (mx_ge _ _).1
      · exact ih
theorem zeroC_get (q : Nat) : zeroC.getD q 0 = 0 := by
  match q with
  | 0 | 1 | 2 | 3 | 4 | 5 => rfl
  | q + 6 => rfl
theorem acc_wit (q : Nat) (hq : q < 6) {j : Nat} : ∀ {m : Nat}, m ≤ j → (accC t j m).getD q 0 = 0 ∨ ∃ k, k < m ∧ depB (eAt t k) (eAt t j) = true ∧ (accC t j m).getD q 0 = (clkOf t k).getD q 0
  | 0, _ => .inl (zeroC_get q)
  | m + 1, hm => by
    have ih := acc_wit q hq (j := j) (m := m) (by omega)
    have up : ((accC t j m).getD q 0 = 0 ∨ ∃ k, k < m ∧ depB (eAt t k) (eAt t j) = true ∧ (accC t j m).getD q 0 = (clkOf t k).getD q 0) → ((accC t j m).getD q 0 = 0 ∨ ∃ k, k < m + 1 ∧ depB (eAt t k) (eAt t j) = true ∧ (accC t j m).getD q 0 = (clkOf t k).getD q 0) := by
      rintro (h | ⟨k, h1, h2⟩)
      · exact .inl h
      · exact .inr ⟨k, by omega, h2⟩
    rw [accC_succ t (by omega)]
    split
    · rename_i hd
      rw [joinC_get hq]
      rcases (mx_ge ((accC t j m).getD q 0) ((clkOf t m).getD q 0)).2.2 with e | e
      · rw [e]; exact up ih
      · rw [e]; exact .inr ⟨m, by omega, hd, rfl⟩
    · exact up ih
variable (h : chkE t = 0)
include h
theorem clk_get {j q : Nat} (hj : j < t.length) : (clkOf t j).getD q 0 = (accC t j j).getD q 0 + if q = goN t j then 1 else 0 := by
  have hok := chk_right h
  rw [clkOf_eq]
  exact tickC_get ((clk_le hok j hj).2 j (Nat.le_refl _)).1 (goN_lt hok hj)
theorem clk_mono {i j : Nat} (hb : HB t i j) : j < t.length → ∀ q, q < 6 → (clkOf t i).getD q 0 ≤ (accC t j j).getD q 0 := by
  induction hb with
  | dep h1 h2 => intro hj q hq; exact acc_ge q hq (Nat.le_refl _) _ h1 h2
  | @step m j hb h1 h2 ih =>
    intro hj q hq
    have e1 := ih (by omega) q hq
    have e2 := acc_ge (t := t) q hq (Nat.le_refl j) m h1 h2
    have e3 := clk_get h (show m < t.length by omega) (q := q)
    split at e3 <;> omega
theorem clk_wit (q : Nat) (hq : q < 6) : ∀ j, j < t.length → (clkOf t j).getD q 0 = 0 ∨ ∃ k, (k = j ∨ HB t k j) ∧ goN t k = q ∧ (clkOf t k).getD q 0 = (clkOf t j).getD q 0 := by
  intro j
  induction j using Nat.strongRecOn with
  | _ j ih =>
    intro hj
    by_cases e : q = goN t j
    · exact .inr ⟨j, .inl rfl, e.symm, rfl⟩
    · have hg := clk_get h hj (q := q)
      rw [if_neg e, Int.add_zero] at hg
      rcases acc_wit (t := t) q hq (Nat.le_refl j) with hw | ⟨m, h1, h2, h3⟩
      · exact .inl (by rw [hg, hw])
      · rcases ih m h1 (by omega) with h4 | ⟨k, h4, h5, h6⟩
        · exact .inl (by rw [hg, h3, h4])
        · exact .inr ⟨k, .inr (.of h1 h2 h4), h5, by rw [hg, h3, h6]⟩
theorem befB_iff {i j : Nat} (hi : i < t.length) (hj : j < t.length) : befB t i j = true ↔ HB t i j := by
  have hok := chk_right h
  have hg := goN_lt hok hi
  rw [befB, Bool.and_eq_true, decide_eq_true_eq, decide_eq_true_eq]
  constructor
  · rintro ⟨h1, h2⟩
    have e1 := clk_get h hi (q := goN t i)
    rw [if_pos rfl] at e1
    have e2 := ((clk_le hok i hi).2 i (Nat.le_refl _)).2 _ hg
    rcases clk_wit h (goN t i) hg j hj with h3 | ⟨k, h3, h4, h5⟩
    · omega
    · have hk : k ≤ j := by
        rcases h3 with rfl | h3
        · exact Nat.le_refl _
        · exact Nat.le_of_lt h3.lt
      rcases Nat.lt_trichotomy k i with hki | rfl | hki
      · exfalso
        have hb : HB t k i := .dep hki (same_dep h (by omega) hi h4)
        have := clk_mono h hb hi (goN t i) hg
        omega
      · rcases h3 with rfl | h3
        · omega
        · exact h3
      · have hb : HB t i k := .dep hki (same_dep h hi (by omega) h4.symm)
        rcases h3 with rfl | h3
        · exact hb
        · exact hb.trans h3
  · intro hb
    refine ⟨hb.lt, ?_⟩
    have e1 := clk_mono h hb hj _ hg
    have e2 := clk_get h hj (q := goN t i)
    split at e2 <;> omega
end
end Go.Ab


/- The edges are the reference's. -/
set_option autoImplicit false
set_option linter.unusedSimpArgs false
set_option linter.unusedVariables false
namespace Go.Ab
open Go.Proofs
section
variable {t : List Evt}
theorem mem_past {j : Nat} : ∀ {d : Nat}, d ≤ j → ∀ i, i ∈ pastTo t j d ↔ j - d ≤ i ∧ i < j ∧ befB t i j = true
  | 0, _, i => by
    constructor
    · intro h; cases h
    · rintro ⟨h1, h2, _⟩; omega
  | d + 1, hd, i => by
    have ih := mem_past (j := j) (d := d) (by omega) i
    rw [pastTo, List.mem_append, ih]
    constructor
    · rintro (⟨h1, h2⟩ | h)
      · exact ⟨by omega, h2⟩
      · split at h
        · rename_i hb
          simp at h
          subst h
          exact ⟨by omega, by omega, hb⟩
        · cases h
    · rintro ⟨h1, h2, h3⟩
      by_cases e : j - d ≤ i
      · exact .inl ⟨e, h2, h3⟩
      · right
        have e2 : j - 1 - d = i := by omega
        rw [e2, if_pos h3]
        simp
theorem bef_lt {i j : Nat} (h : befB t i j = true) : i < j := by
  rw [befB, Bool.and_eq_true, decide_eq_true_eq] at h
  exact h.1
variable (h : chkE t = 0)
include h
theorem bef_trans {i k j : Nat} (hi : i < t.length) (hk : k < t.length) (hj : j < t.length) (h1 : befB t i k = true) (h2 : befB t k j = true) : befB t i j = true :=
  (befB_iff h hi hj).2 (((befB_iff h hi hk).1 h1).trans ((befB_iff h hk hj).1 h2))
theorem near_iff {j : Nat} (hj : j < t.length) : ∀ {d : Nat}, d ≤ j → ∀ i, i ∈ nearS t (pastTo t j d) ↔ i ∈ pastTo t j d ∧ ∀ k ∈ pastTo t j d, befB t i k = false
  | 0, _, i => by simp [pastTo, nearS]
  | d + 1, hd, i => by
    have ih := near_iff hj (d := d) (by omega)
    have hm := mem_past (t := t) (j := j) (d := d) (by omega)
    rw [pastTo]
    split
    · rename_i hb
      obtain ⟨x, hx⟩ : ∃ x, x = j - 1 - d := ⟨_, rfl⟩
      rw [← hx] at hb ⊢
      have old : ∀ i, i ∈ pastTo t j d → befB t i x = false := fun i hi => by
        have := (hm i).1 hi
        cases e : befB t i x with
        | false => rfl
        | true => have := bef_lt e; omega
      by_cases hy : ((nearS t (pastTo t j d)).any fun k => befB t x k) = true
      · rw [near_yes hy]
        rw [List.any_eq_true] at hy
        obtain ⟨k0, hk0, hb0⟩ := hy
        have hk1 := ((ih k0).1 hk0).1
        constructor
        · intro hi
          obtain ⟨h1, h2⟩ := (ih i).1 hi
          refine ⟨List.mem_append_left _ h1, fun k hk => ?_⟩
          rcases List.mem_append.1 hk with hk | hk
          · exact h2 k hk
          · simp at hk; subst hk; exact old i h1
        · rintro ⟨h1, h2⟩
          rcases List.mem_append.1 h1 with h1 | h1
          · exact (ih i).2 ⟨h1, fun k hk => h2 k (List.mem_append_left _ hk)⟩
          · simp at h1; subst h1
            have := h2 k0 (List.mem_append_left _ hk1)
            rw [hb0] at this; cases this
      · have hy' : ((nearS t (pastTo t j d)).any fun k => befB t x k) = false := by simpa using hy
        rw [near_no hy', List.mem_append, List.mem_append]
        have top : ∀ q k, j - k ≤ q → k ∈ pastTo t j d → ∃ k', k' ∈ nearS t (pastTo t j d) ∧ (k = k' ∨ befB t k k' = true) := by
          intro q
          induction q with
          | zero => intro k hk hkm; have := (hm k).1 hkm; omega
          | succ q ihq =>
            intro k hk hkm
            have hkm2 := (hm k).1 hkm
            by_cases hall : ∀ k2 ∈ pastTo t j d, befB t k k2 = false
            · exact ⟨k, (ih k).2 ⟨hkm, hall⟩, .inl rfl⟩
            · simp only [Classical.not_forall] at hall
              obtain ⟨k2, hk2, hb2⟩ := hall
              have hb2' : befB t k k2 = true := by simpa using hb2
              have hlt := bef_lt hb2'
              have hk2m := (hm k2).1 hk2
              obtain ⟨k', h1, h2⟩ := ihq k2 (by omega) hk2
              have hk'm := (hm k').1 ((ih k').1 h1).1
              refine ⟨k', h1, .inr ?_⟩
              rcases h2 with rfl | h2
              · exact hb2'
              · exact bef_trans h (by omega) (by omega) (by omega) hb2' h2
        rw [List.any_eq_false] at hy'
        constructor
        · rintro (hi | hi)
          · obtain ⟨h1, h2⟩ := (ih i).1 hi
            refine ⟨.inl h1, fun k hk => ?_⟩
            rcases List.mem_append.1 hk with hk | hk
            · exact h2 k hk
            · simp at hk; subst hk; exact old i h1
          · simp at hi; subst hi
            refine ⟨.inr (by simp), fun k hk => ?_⟩
            cases e : befB t i k with
            | false => rfl
            | true =>
              exfalso
              rcases List.mem_append.1 hk with hk | hk
              · obtain ⟨k', h1, h2⟩ := top j k (by omega) hk
                have hkm := (hm k).1 hk
                have hk'm := (hm k').1 ((ih k').1 h1).1
                have := hy' k' h1
                rcases h2 with rfl | h2
                · exact this e
                · exact this (bef_trans h (by omega) (by omega) (by omega) e h2)
              · simp at hk; subst hk
                have := bef_lt e; omega
        · rintro ⟨h1, h2⟩
          rcases h1 with h1 | h1
          · exact .inl ((ih i).2 ⟨h1, fun k hk => h2 k (List.mem_append_left _ hk)⟩)
          · exact .inr h1
    · rw [List.append_nil]; exact ih i
theorem near_edge {i j : Nat} (hj : j < t.length) : i ∈ nearL t j ↔ i < j ∧ edgeB (refT t) i j = true := by
  have hm := mem_past (t := t) (j := j) (Nat.le_refl j)
  rw [nearL, pastL, near_iff h hj (Nat.le_refl j), hm, edgeB, Bool.and_eq_true, betB, List.all_eq_true]
  constructor
  · rintro ⟨⟨_, h1, h2⟩, h3⟩
    refine ⟨h1, (refT_iff hj).2 ((befB_iff h (by omega) hj).1 h2), fun k hk => ?_⟩
    have hk' : k < j := by simpa using hk
    cases e : (refT t i k && refT t k j) with
    | false => simp
    | true =>
      rw [Bool.and_eq_true] at e
      have a := (refT_iff (show k < t.length by omega)).1 e.1
      have b := (refT_iff hj).1 e.2
      have := h3 k ((hm k).2 ⟨by omega, hk', (befB_iff h (by omega) hj).2 b⟩)
      rw [(befB_iff h (by omega) (by omega)).2 a] at this
      cases this
  · rintro ⟨h1, h2, h3⟩
    refine ⟨⟨by omega, h1, (befB_iff h (by omega) hj).2 ((refT_iff hj).1 h2)⟩, fun k hk => ?_⟩
    obtain ⟨_, k1, k2⟩ := (hm k).1 hk
    cases e : befB t i k with
    | false => rfl
    | true =>
      have hik := bef_lt e
      have := h3 k (by simpa using k1)
      rw [(refT_iff (show k < t.length by omega)).2 ((befB_iff h (by omega) (by omega)).1 e), (refT_iff hj).2 ((befB_iff h (by omega) hj).1 k2)] at this
      simp [hik] at this
omit h in
theorem near_nodup {j : Nat} : ∀ {d : Nat}, d ≤ j → (nearS t (pastTo t j d)).Nodup
  | 0, _ => by simp [pastTo, nearS]
  | d + 1, hd => by
    have ih := near_nodup (j := j) (d := d) (by omega)
    rw [pastTo]
    split
    · rw [nearS_snoc, nearStep]
      split
      · exact ih
      · rw [List.nodup_append]
        refine ⟨ih, by simp, fun a ha b hb e => ?_⟩
        simp at hb
        have := (mem_past (t := t) (j := j) (d := d) (by omega) a).1 (nearS_mem ha)
        omega
    · rw [List.append_nil]; exact ih
omit h in
theorem edgesTo_mem {x : Pr} : ∀ {n : Nat}, x ∈ edgesTo t n ↔ ∃ b, b < n ∧ ∃ a, a ∈ nearL t b ∧ x = ((a : Int), (b : Int))
  | 0 => by
    constructor
    · intro h; cases h
    · rintro ⟨b, h, _⟩; omega
  | n + 1 => by
    rw [edgesTo, List.mem_append, edgesTo_mem, pairsAt, List.mem_map]
    constructor
    · rintro (⟨b, h1, h2⟩ | ⟨a, h1, h2⟩)
      · exact ⟨b, by omega, h2⟩
      · exact ⟨n, by omega, a, h1, h2.symm⟩
    · rintro ⟨b, h1, a, h2, h3⟩
      by_cases e : b = n
      · subst e; exact .inr ⟨a, h2, h3.symm⟩
      · exact .inl ⟨b, by omega, a, h2, h3⟩
omit h in
theorem edgesTo_nodup : ∀ n, (edgesTo t n).Nodup
  | 0 => List.nodup_nil
  | n + 1 => by
    rw [edgesTo, List.nodup_append]
    refine ⟨edgesTo_nodup n, ?_, fun x hx y hy e => ?_⟩
    · rw [pairsAt, List.Nodup, List.pairwise_map]
      refine (near_nodup (t := t) (Nat.le_refl n)).imp ?_
      intro a b hab e
      simp at e
      exact hab (by omega)
    · subst e
      obtain ⟨b, h1, a, _, h3⟩ := edgesTo_mem.1 hx
      simp only [pairsAt, List.mem_map] at hy
      obtain ⟨i, _, h4⟩ := hy
      rw [h3] at h4
      simp at h4
      omega
end
theorem rowTo_mem {B : BT} {i : Nat} {x : Pr} : ∀ {m : Nat}, x ∈ rowTo B i m ↔ ∃ b, b < m ∧ i < b ∧ edgeB B i b = true ∧ x = ((i : Int), (b : Int))
  | 0 => by
    constructor
    · intro h; cases h
    · rintro ⟨b, h, _⟩; omega
  | m + 1 => by
    rw [rowTo, List.mem_append, rowTo_mem]
    constructor
    · rintro (⟨b, h1, h2⟩ | h)
      · exact ⟨b, by omega, h2⟩
      · split at h
        · rename_i hc
          simp at h
          exact ⟨m, by omega, hc.1, hc.2, h⟩
        · cases h
    · rintro ⟨b, h1, h2, h3, h4⟩
      by_cases e : b = m
      · subst e; right; rw [if_pos ⟨h2, h3⟩, h4]; simp
      · exact .inl ⟨b, by omega, h2, h3, h4⟩
theorem edgesR_mem {B : BT} {n : Nat} {x : Pr} : ∀ {m : Nat}, x ∈ edgesR B n m ↔ ∃ a, a < m ∧ ∃ b, b < n ∧ a < b ∧ edgeB B a b = true ∧ x = ((a : Int), (b : Int))
  | 0 => by
    constructor
    · intro h; cases h
    · rintro ⟨b, h, _⟩; omega
  | m + 1 => by
    rw [edgesR, List.mem_append, edgesR_mem, rowTo_mem]
    constructor
    · rintro (⟨a, h1, h2⟩ | h)
      · exact ⟨a, by omega, h2⟩
      · exact ⟨m, by omega, h⟩
    · rintro ⟨a, h1, h2⟩
      by_cases e : a = m
      · subst e; exact .inr h2
      · exact .inl ⟨a, by omega, h2⟩
abbrev ltP (x y : Pr) : Prop := x.1 < y.1 ∨ x.1 = y.1 ∧ x.2 < y.2
theorem rowTo_sorted {B : BT} {i : Nat} : ∀ m, (rowTo B i m).Pairwise ltP
  | 0 => List.Pairwise.nil
  | m + 1 => by
    rw [rowTo, List.pairwise_append]
    refine ⟨rowTo_sorted m, by split <;> simp, fun x hx y hy => ?_⟩
    obtain ⟨b, h1, _, _, rfl⟩ := rowTo_mem.1 hx
    split at hy
    · simp at hy; subst hy
      right; simp; omega
    · cases hy
theorem edgesR_sorted {B : BT} {n : Nat} : ∀ m, (edgesR B n m).Pairwise ltP
  | 0 => List.Pairwise.nil
  | m + 1 => by
    rw [edgesR, List.pairwise_append]
    refine ⟨edgesR_sorted m, rowTo_sorted n, fun x hx y hy => ?_⟩
    obtain ⟨a, h1, b, _, _, _, rfl⟩ := edgesR_mem.1 hx
    obtain ⟨c, _, _, _, rfl⟩ := rowTo_mem.1 hy
    left; simp; omega
theorem sortP_eq {l l' : List Pr} (hl : l.Nodup) (hs : l'.Pairwise ltP) (hm : ∀ x, x ∈ l ↔ x ∈ l') : sortP l = l' := by
  have hn : l'.Nodup := hs.imp (fun {a b} hab e => by subst e; rcases hab with h | h <;> omega)
  refine List.Perm.eq_of_pairwise (le := fun x y => Go.Proofs.ltOf cmp2 y x = false) (fun a b _ _ h1 h2 => ?_) (Go.Ab.sortBy_sorted swo2 l) (hs.imp fun {a b} hab => ?_) ((Go.Ab.sortBy_perm swo2 l).trans ((List.perm_ext_iff_of_nodup hl hn).2 hm))
  · rw [lt_cmp2] at h1 h2
    simp at h1 h2
    exact Prod.ext (by omega) (by omega)
  · rw [lt_cmp2]
    simp only [decide_eq_false_iff_not]
    rcases hab with h | h <;> omega
theorem edges_eq {t : List Evt} (h : chkE t = 0) : edgesL t = edgesR (refT t) t.length t.length := by
  refine sortP_eq (edgesTo_nodup _) (edgesR_sorted _) (fun x => ?_)
  rw [edgesTo_mem, edgesR_mem]
  constructor
  · rintro ⟨b, h1, a, h2, h3⟩
    obtain ⟨h4, h5⟩ := (near_edge h h1).1 h2
    exact ⟨a, by omega, b, h1, h4, h5, h3⟩
  · rintro ⟨a, h1, b, h2, h3, h4, h5⟩
    exact ⟨b, h2, a, (near_edge h h2).2 ⟨h3, h4⟩, h5⟩
theorem races_eq {t : List Evt} (h : chkE t = 0) : racesL t = refPairs t := by
  rw [racesL, pairsF, if_pos h, edges_eq h, refPairs, keepL]
  congr 1
  funext x
  simp [delP, goNe]
end Go.Ab


/- What every statement of the chapter asks first; lists compared. -/
set_option autoImplicit false
set_option maxRecDepth 20000
set_option maxHeartbeats 4000000
set_option linter.unusedSimpArgs false
set_option linter.unusedVariables false
namespace Go.Ab
open Go.Proofs Go.Sort
def storedE (g : Int) : Evt := ⟨g, 0, 0, 51, 0, 0, 0, [⟨1, 0, true⟩, ⟨5, g, true⟩], 2⟩
def leastP : PProg := ⟨[⟨false, 0⟩], 0, [], [⟨0, 0, [⟨45, 0, 0, 0, 0⟩], []⟩]⟩
def trc3 : List Evt := [storedE 1, storedE 2, storedE 3]
theorem stored_ac (g : Int) : AC Tryz.prog T tysN 49 [.int g] [] (encE (storedE g)) [] := by
  refine AC_intro hT Tryz.func49 rfl rfl (Nat.le_of_ble_eq_true rfl) ?_
  refine WP.seq ?_
  refine WP.reg hT hE [] rfl ?_ ?_
  · first | trivial | (simp [holdsC, under, slOk, slB, capEq] <;> grind)
  refine WP.seq ?_
  refine WP.reg hT hE [] rfl ?_ ?_
  · first | trivial | (simp [holdsC, under, slOk, slB, capEq] <;> grind)
  refine WP.seq ?_
  refine WP.reg hT hE [] rfl ?_ ?_
  · first | trivial | (simp [holdsC, under, slOk, slB, capEq] <;> grind)
  refine WP.seq ?_
  refine WP.reg hT hE [] rfl ?_ ?_
  · first | trivial | (simp [holdsC, under, slOk, slB, capEq] <;> grind)
  refine WP.seq ?_
  refine WP.reg hT hE [] rfl ?_ ?_
  · first | trivial | (simp [holdsC, under, slOk, slB, capEq] <;> grind)
  refine WP.ret ?_
  change Fin _ _ _ _ _ _ _ _
  refine fin_cell hT rfl rfl rfl rfl rfl (conv_eq (agg_ext (fun q => ?_))) (noIds_E _) ?_ rfl
  · match q with
    | 0 | 1 | 2 | 3 | 4 | 5 | 6 | 8 | q + 9 => rfl
    | 7 =>
      refine agg_ext (fun j => ?_)
      match j with
      | 0 => exact agg_ext (fun q => by match q with | 0 | 1 | 2 | q + 3 => rfl)
      | 1 => exact agg_ext (fun q => by match q with | 0 | 1 | 2 | q + 3 => rfl)
      | j + 2 => rfl
  · refine okIds_agg (fun i hi => ?_)
    match i, hi with
    | 0, _ | 1, _ | 2, _ | 3, _ | 4, _ | 5, _ | 6, _ | 8, _ => rfl
    | 7, _ => exact okIds_agg (fun j _ => okIds_tch _ _)
theorem least_ac (_ : Unit) : AC Tryz.prog T tysN 50 [] [] (encProg leastP) [] := by
  refine AC_intro hT Tryz.func50 rfl rfl (Nat.le_of_ble_eq_true rfl) ?_
  refine WP.seq ?_
  refine WP.reg hT hE [] rfl ?_ ?_
  · first | trivial | (simp [holdsC, under, slOk, slB, capEq] <;> grind)
  refine WP.seq ?_
  refine WP.reg hT hE [] rfl ?_ ?_
  · first | trivial | (simp [holdsC, under, slOk, slB, capEq] <;> grind)
  refine WP.ret ?_
  change Fin _ _ _ _ _ _ _ _
  refine fin_cell hT rfl rfl rfl rfl rfl ?_ rfl rfl rfl
  refine ⟨_, rfl, fun i hi => ?_⟩
  match i, hi with
  | 0, _ =>
    refine conv_rowL (fun h => by cases h) (fun j hj => ?_)
    match j, hj with
    | 0, _ => exact agg_ext (fun q => by match q with | 0 | 1 | q + 2 => rfl)
  | 1, _ => exact conv_eq rfl
  | 2, _ => exact conv_nil_row (by decide)
  | 3, _ =>
    refine ⟨_, _, rfl, fun h => (by cases h), fun j hj => ?_⟩
    match j, hj with
    | 0, _ =>
      refine ⟨_, rfl, fun i hi => ?_⟩
      match i, hi with
      | 0, _ | 1, _ => exact conv_eq rfl
      | 2, _ =>
        refine conv_rowL (fun h => by cases h) (fun j hj => ?_)
        match j, hj with
        | 0, _ => exact agg_ext (fun q => by match q with | 0 | 1 | 2 | 3 | 4 | q + 5 => rfl)
      | 3, _ => exact conv_nil_row (by decide)
theorem fit3 : fitF leastP trc3 = 0 := by kernel_rfl
theorem data3 : dataL leastP trc3 = [(0, 1), (1, 2)] := by
  rw [dataL, if_pos fit3, pairsF, if_pos (by kernel_rfl), edges_eq (by kernel_rfl)]
  kernel_rfl
theorem conf3 : (confL leastP trc3).length = 3 := by
  rw [confL, if_pos fit3, sortP, sortBy_len swo2]
  kernel_rfl
theorem out3 : outTo leastP trc3 (dataL leastP trc3) (dataL leastP trc3).length = [fnd0, fnd0] := by
  rw [data3]
  kernel_rfl
theorem races3 : racesFs leastP trc3 = [fnd0] := by
  have h : sortFs [fnd0, fnd0] = [fnd0, fnd0] := by
    have hp := sortBy_perm swoF [fnd0, fnd0]
    exact (List.perm_replicate (n := 2) (a := fnd0)).1 hp
  rw [racesFs, out3, h]
  decide
theorem speaks_ac (_ : Unit) : AC Tryz.prog T tysN 13 [] [] (.bool true) [] := by
  refine AC_intro hT Tryz.func13 rfl rfl (Nat.le_of_ble_eq_true rfl) ?_
  refine WP.seq ?_
  refine WP.reg hT hE [] rfl ?_ ?_
  · first | trivial | (simp [holdsC, under, slOk, slB, capEq] <;> grind)
  refine WP.seq ?_
  refine WP.reg hT hE [CG.pure (encE (storedE 1)), CG.pure (encE (storedE 2)), CG.pure (encE (storedE 3))] rfl ?_ ?_
  · have h1 := stored_ac 1
    have h2 := stored_ac 2
    have h3 := stored_ac 3
    simp only [holdsC, under, CG.pure]
    repeat' with_reducible refine And.intro ?_ ?_
    all_goals (try with_reducible intros)
    all_goals (first | exact trivial | assumption | omega | exact h1 | exact h2 | exact h3)
  refine WP.seq ?_
  refine WP.ent (st' := mkSt [(1, evts true trc3)] []) ?_ ?_
  · refine Ent.mk hT [] trivial ⟨⟨rfl, _, rfl, conv_rowL (fun h => h) (fun j hj => by match j, hj with | 0, _ | 1, _ | 2, _ => rfl)⟩, trivial⟩ trivial rfl
  refine WP.reg hT hE [CG.pure (encProg leastP), CG.pure (.tup [prs false (dataL leastP trc3), .int (fitF leastP trc3)])] rfl ?_ ?_
  · have h1 := least_ac ()
    have h2 := data_ac true leastP trc3
    simp only [holdsC, under, CG.pure]
    repeat' with_reducible refine And.intro ?_ ?_
    all_goals (try with_reducible intros)
    all_goals (first | exact trivial | assumption | omega | exact h1 | exact h2)
  refine WP.seq ?_
  refine WP.reg hT hE [CG.pure (encProg leastP), CG.pure (.tup [prs false (confL leastP trc3), .int (fitF leastP trc3)])] rfl ?_ ?_
  · have h1 := least_ac ()
    have h2 := conf_ac true leastP trc3
    simp only [holdsC, under, CG.pure]
    repeat' with_reducible refine And.intro ?_ ?_
    all_goals (try with_reducible intros)
    all_goals (first | exact trivial | assumption | omega | exact h1 | exact h2)
  refine WP.seq ?_
  refine WP.reg hT hE [CG.pure (encProg leastP), CG.pure (.tup [fnds false (racesFs leastP trc3), .int (fitF leastP trc3)])] rfl ?_ ?_
  · have h1 := least_ac ()
    have h2 := racesF_ac true leastP trc3
    simp only [holdsC, under, CG.pure]
    repeat' with_reducible refine And.intro ?_ ?_
    all_goals (try with_reducible intros)
    all_goals (first | exact trivial | assumption | omega | exact h1 | exact h2)
  refine WP.seq ?_
  refine WP.ent (st' := mkSt [(2, prs false [(0, 1), (1, 2)]), (3, .int 0), (4, prs false (confL leastP trc3)), (5, .int 0), (6, fnds false [fnd0]), (7, .int 0)] []) ?_ ?_
  · refine Ent.mk hT [] trivial ⟨⟨rfl, _, rfl, conv_eq (by rw [data3]; rfl)⟩, ⟨rfl, _, rfl, conv_eq (by rw [fit3])⟩, ⟨rfl, _, rfl, by first | exact conv_eq rfl | (refine conv_eq ?_; rw [wrap_id (by omega) (by omega)]; simp; done) | (refine conv_eq ?_; simp; done)⟩, ⟨rfl, _, rfl, conv_eq (by rw [fit3])⟩, ⟨rfl, _, rfl, conv_eq (by rw [races3]; rfl)⟩, ⟨rfl, _, rfl, conv_eq (by rw [fit3])⟩, trivial⟩ trivial rfl
  refine WP.reg hT hE [] rfl ?_ ?_
  · simp [holdsC, under]
  refine WP.ret ?_
  change Fin _ _ _ _ _ _ _ _
  refine fin1 hT (by rfl) ?_
  rw [conf3]
  rfl
theorem eq2_v (a b : Pr) : (a == b) = ((true && a.1 == b.1) && a.2 == b.2) := by
  obtain ⟨x, y⟩ := a
  obtain ⟨z, w⟩ := b
  rw [Bool.eq_iff_iff]
  simp
theorem same_ac (f g : Bool) (a b : List Pr) : AC Tryz.prog T tysN 14 [prs f a, prs g b] [] (.bool (decide (a = b))) [] := by
  refine AC_intro hT Tryz.func14 rfl rfl (Nat.le_of_ble_eq_true rfl) ?_
  refine WP.rowlen 0 rfl (fun hla => ?_)
  refine WP.seq ?_
  refine WP.reg hT hE [] rfl ?_ ?_
  · first | trivial | (simp [holdsC, under, slOk, slB, capEq] <;> grind)
  refine WP.seq ?_
  refine WP.seq ?_
  refine WP.reg hT hE [] rfl ?_ ?_
  · first | trivial | (simp [holdsC, under, slOk, slB, capEq] <;> grind)
  refine WP.cond rfl (fun h1 => ?_) (fun h1 => ?_)
  · have hne : a.length ≠ b.length := by simp at h1; omega
    refine WP.seq ?_
    refine WP.reg hT hE [] rfl ?_ ?_
    · first | trivial | (simp [holdsC, under, slOk, slB, capEq] <;> grind)
    refine WP.ret ?_
    change Fin _ _ _ _ _ _ _ _
    exact fin1 hT (by rfl) (by simp; rintro rfl; exact hne rfl)
  · have hlen : a.length = b.length := by simp at h1; omega
    refine WP.skip ?_
    refine WP.seq ?_
    refine WP.seq ?_
    refine WP.reg hT hE [] rfl ?_ ?_
    · first | trivial | (simp [holdsC, under, slOk, slB, capEq] <;> grind)
    refine WP.block ?_
    refine WP.loop (α := Nat) (fun i => mkSt [(0, prs f a), (1, prs g b), (5, .int i)] []) (fun i => i ≤ a.length ∧ ∀ j, j < i → a.getD j (0, 0) = b.getD j (0, 0)) (fun i => a.length - i) ?_ ?_
    · refine ⟨0, ?_, ?_⟩
      · exact ⟨Nat.zero_le _, fun j hj => by omega⟩
      · refine Ent.mk hT [] trivial ⟨⟨rfl, _, rfl, by first | exact conv_eq rfl | (refine conv_eq ?_; rw [wrap_id (by omega) (by omega)]; simp; done) | (refine conv_eq ?_; simp; done)⟩, ⟨rfl, _, rfl, by first | exact conv_eq rfl | (refine conv_eq ?_; rw [wrap_id (by omega) (by omega)]; simp; done) | (refine conv_eq ?_; simp; done)⟩, ⟨rfl, _, rfl, by first | exact conv_eq rfl | (refine conv_eq ?_; rw [wrap_id (by omega) (by omega)]; simp; done) | (refine conv_eq ?_; simp; done)⟩, trivial⟩ trivial rfl
    · rintro i ⟨hi, heq⟩
      refine WP.seq ?_
      refine WP.seq ?_
      refine WP.reg hT hE [] rfl ?_ ?_
      · first | trivial | (simp [holdsC, under, slOk, slB, capEq] <;> grind)
      refine WP.cond rfl (fun h4 => ?_) (fun h4 => ?_)
      · have hil : i < a.length := by simpa using h4
        refine WP.skip ?_
        refine WP.seq ?_
        refine WP.block ?_
        refine WP.seq ?_
        refine WP.drw hT hE hM [] rfl ?_ ?_
        · simp only [holdsC, under, CG.pure]
          repeat' with_reducible refine And.intro ?_ ?_
          all_goals (try with_reducible intros)
          all_goals (first | exact trivial | assumption | omega)
        refine WP.cond rfl (fun h6 => ?_) (fun h6 => ?_)
        · have hne : a.getD i (0, 0) ≠ b.getD i (0, 0) := by
            have e : (!(a.getD i (0, 0) == b.getD i (0, 0))) = true := (congrArg Bool.not (eq2_v _ _)).trans h6
            simpa using e
          refine WP.seq ?_
          refine WP.reg hT hE [] rfl ?_ ?_
          · first | trivial | (simp [holdsC, under, slOk, slB, capEq] <;> grind)
          refine WP.ret ?_
          change Fin _ _ _ _ _ _ _ _
          exact fin1 hT (by rfl) (by simp; rintro rfl; exact hne rfl)
        · have he : a.getD i (0, 0) = b.getD i (0, 0) := by
            have e : (!(a.getD i (0, 0) == b.getD i (0, 0))) = false := (congrArg Bool.not (eq2_v _ _)).trans h6
            simpa using e
          refine WP.skip ?_
          refine WP.reg hT hE [] rfl ?_ ?_
          · first | trivial | (simp [holdsC, under, slOk, slB, capEq] <;> grind)
          refine ⟨i + 1, ?_, ?_, ?_⟩
          · refine ⟨hil, fun j hj => ?_⟩
            rcases Nat.lt_or_ge j i with h | h
            · exact heq j h
            · obtain rfl : j = i := by omega
              exact he
          · refine Ent.mk hT [] trivial ⟨⟨rfl, _, rfl, by first | exact conv_eq rfl | (refine conv_eq ?_; rw [wrap_id (by omega) (by omega)]; simp; done) | (refine conv_eq ?_; simp; done)⟩, ⟨rfl, _, rfl, by first | exact conv_eq rfl | (refine conv_eq ?_; rw [wrap_id (by omega) (by omega)]; simp; done) | (refine conv_eq ?_; simp; done)⟩, ⟨rfl, _, rfl, by first | exact conv_eq rfl | (refine conv_eq ?_; rw [wrap_id (by omega) (by omega)]; simp; done) | (refine conv_eq ?_; simp; done)⟩, trivial⟩ trivial rfl
          · (try simp only []); first | omega | grind
      · have hil : i = a.length := by simp at h4; omega
        subst hil
        refine WP.exit ?_
        refine WP.seq ?_
        refine WP.reg hT hE [] rfl ?_ ?_
        · first | trivial | (simp [holdsC, under, slOk, slB, capEq] <;> grind)
        refine WP.ret ?_
        change Fin _ _ _ _ _ _ _ _
        refine fin1 hT (by rfl) ?_
        symm
        simp only [decide_eq_true_eq]
        refine List.ext_getElem hlen (fun j h1 h2 => ?_)
        have := heq j h1
        simpa [h1, h2] using this
theorem sameFs_ac (f g : Bool) (a b : List Fnd) : AC Tryz.prog T tysN 12 [fnds f a, fnds g b] [] (.bool (decide (a = b))) [] := by
  refine AC_intro hT Tryz.func12 rfl rfl (Nat.le_of_ble_eq_true rfl) ?_
  refine WP.rowlen 0 rfl (fun hla => ?_)
  refine WP.seq ?_
  refine WP.reg hT hE [] rfl ?_ ?_
  · first | trivial | (simp [holdsC, under, slOk, slB, capEq] <;> grind)
  refine WP.seq ?_
  refine WP.seq ?_
  refine WP.reg hT hE [] rfl ?_ ?_
  · first | trivial | (simp [holdsC, under, slOk, slB, capEq] <;> grind)
  refine WP.cond rfl (fun h1 => ?_) (fun h1 => ?_)
  · have hne : a.length ≠ b.length := by simp at h1; omega
    refine WP.seq ?_
    refine WP.reg hT hE [] rfl ?_ ?_
    · first | trivial | (simp [holdsC, under, slOk, slB, capEq] <;> grind)
    refine WP.ret ?_
    change Fin _ _ _ _ _ _ _ _
    exact fin1 hT (by rfl) (by simp; rintro rfl; exact hne rfl)
  · have hlen : a.length = b.length := by simp at h1; omega
    refine WP.skip ?_
    refine WP.seq ?_
    refine WP.seq ?_
    refine WP.reg hT hE [] rfl ?_ ?_
    · first | trivial | (simp [holdsC, under, slOk, slB, capEq] <;> grind)
    refine WP.block ?_
    refine WP.loop (α := Nat) (fun i => mkSt [(0, fnds f a), (1, fnds g b), (12, .int a.length), (13, .int i)] []) (fun i => i ≤ a.length ∧ ∀ j, j < i → a.getD j fnd0 = b.getD j fnd0) (fun i => a.length - i) ?_ ?_
    · refine ⟨0, ?_, ?_⟩
      · exact ⟨Nat.zero_le _, fun j hj => by omega⟩
      · refine Ent.mk hT [] trivial ⟨⟨rfl, _, rfl, by first | exact conv_eq rfl | (refine conv_eq ?_; rw [wrap_id (by omega) (by omega)]; simp; done) | (refine conv_eq ?_; simp; done)⟩, ⟨rfl, _, rfl, by first | exact conv_eq rfl | (refine conv_eq ?_; rw [wrap_id (by omega) (by omega)]; simp; done) | (refine conv_eq ?_; simp; done)⟩, ⟨rfl, _, rfl, by first | exact conv_eq rfl | (refine conv_eq ?_; rw [wrap_id (by omega) (by omega)]; simp; done) | (refine conv_eq ?_; simp; done)⟩, ⟨rfl, _, rfl, by first | exact conv_eq rfl | (refine conv_eq ?_; rw [wrap_id (by omega) (by omega)]; simp; done) | (refine conv_eq ?_; simp; done)⟩, trivial⟩ trivial rfl
    · rintro i ⟨hi, heq⟩
      refine WP.seq ?_
      refine WP.reg hT hE [] rfl ?_ ?_
      · first | trivial | (simp [holdsC, under, slOk, slB, capEq] <;> grind)
      refine WP.seq ?_
      refine WP.cond rfl (fun h4 => ?_) (fun h4 => ?_)
      · have hil : i < a.length := by simpa using h4
        refine WP.skip ?_
        refine WP.seq ?_
        refine WP.block ?_
        refine WP.seq ?_
        refine WP.reg hT hE [] rfl ?_ ?_
        · first | trivial | (simp [holdsC, under, slOk, slB, capEq] <;> grind)
        refine WP.seq ?_
        refine WP.drw hT hE hM [] rfl ?_ ?_
        · simp only [holdsC, under, CG.pure]
          repeat' with_reducible refine And.intro ?_ ?_
          all_goals (try with_reducible intros)
          all_goals (first | exact trivial | assumption | omega)
        refine WP.cond rfl (fun h6 => ?_) (fun h6 => ?_)
        · have hne : a.getD i fnd0 ≠ b.getD i fnd0 := by
            have e : (!(a.getD i fnd0 == b.getD i fnd0)) = true := (congrArg Bool.not (eqF_v _ _)).trans h6
            simpa using e
          refine WP.seq ?_
          refine WP.reg hT hE [] rfl ?_ ?_
          · first | trivial | (simp [holdsC, under, slOk, slB, capEq] <;> grind)
          refine WP.ret ?_
          change Fin _ _ _ _ _ _ _ _
          exact fin1 hT (by rfl) (by simp; rintro rfl; exact hne rfl)
        · have he : a.getD i fnd0 = b.getD i fnd0 := by
            have e : (!(a.getD i fnd0 == b.getD i fnd0)) = false := (congrArg Bool.not (eqF_v _ _)).trans h6
            simpa using e
          refine WP.skip ?_
          refine WP.reg hT hE [] rfl ?_ ?_
          · first | trivial | (simp [holdsC, under, slOk, slB, capEq] <;> grind)
          refine ⟨i + 1, ?_, ?_, ?_⟩
          · refine ⟨hil, fun j hj => ?_⟩
            rcases Nat.lt_or_ge j i with h | h
            · exact heq j h
            · obtain rfl : j = i := by omega
              exact he
          · refine Ent.mk hT [] trivial ⟨⟨rfl, _, rfl, by first | exact conv_eq rfl | (refine conv_eq ?_; rw [wrap_id (by omega) (by omega)]; simp; done) | (refine conv_eq ?_; simp; done)⟩, ⟨rfl, _, rfl, by first | exact conv_eq rfl | (refine conv_eq ?_; rw [wrap_id (by omega) (by omega)]; simp; done) | (refine conv_eq ?_; simp; done)⟩, ⟨rfl, _, rfl, by first | exact conv_eq rfl | (refine conv_eq ?_; rw [wrap_id (by omega) (by omega)]; simp; done) | (refine conv_eq ?_; simp; done)⟩, ⟨rfl, _, rfl, by first | exact conv_eq rfl | (refine conv_eq ?_; rw [wrap_id (by omega) (by omega)]; simp; done) | (refine conv_eq ?_; simp; done)⟩, trivial⟩ trivial rfl
          · (try simp only []); first | omega | grind
      · have hil : i = a.length := by simp at h4; omega
        subst hil
        refine WP.exit ?_
        refine WP.seq ?_
        refine WP.reg hT hE [] rfl ?_ ?_
        · first | trivial | (simp [holdsC, under, slOk, slB, capEq] <;> grind)
        refine WP.ret ?_
        change Fin _ _ _ _ _ _ _ _
        refine fin1 hT (by rfl) ?_
        symm
        simp only [decide_eq_true_eq]
        refine List.ext_getElem hlen (fun j h1 h2 => ?_)
        have := heq j h1
        simpa [h1, h2] using this
end Go.Ab


/- RacePairs: the walk. -/
set_option autoImplicit false
set_option maxRecDepth 20000
set_option maxHeartbeats 4000000
set_option linter.unusedSimpArgs false
set_option linter.unusedVariables false
namespace Go.Ab
open Go.Proofs Go.Sort
theorem racePairsLaw_ac (g : Bool) (t : List Evt) : AC Tryz.prog T tysN 4 [evts g t] [] (.bool true) [] := by
  refine AC_intro hT Tryz.func4 rfl rfl (Nat.le_of_ble_eq_true rfl) ?_
  refine WP.seq ?_
  refine WP.reg hT hE [] rfl ?_ ?_
  · first | trivial | (simp [holdsC, under, slOk, slB, capEq] <;> grind)
  refine WP.seq ?_
  refine WP.reg hT hE [CG.pure (.tup [prs false (racesL t), .int (chkE t)])] rfl ?_ ?_
  · have h1 := racePairs_ac g t
    simp only [holdsC, under, CG.pure]
    repeat' with_reducible refine And.intro ?_ ?_
    all_goals (try with_reducible intros)
    all_goals (first | exact trivial | assumption | omega | exact h1 | (simp; done))
  refine WP.seq ?_
  refine WP.reg hT hE [CG.pure (.int (chkE t))] rfl ?_ ?_
  · have h1 := rcheck_ac g t
    simp only [holdsC, under, CG.pure]
    repeat' with_reducible refine And.intro ?_ ?_
    all_goals (try with_reducible intros)
    all_goals (first | exact trivial | assumption | omega | exact h1 | (simp; done))
  refine WP.seq ?_
  refine WP.seq ?_
  refine WP.reg hT hE [CG.pure (.bool true)] rfl ?_ ?_
  · have h1 := speaks_ac ()
    simp only [holdsC, under, CG.pure]
    repeat' with_reducible refine And.intro ?_ ?_
    all_goals (try with_reducible intros)
    all_goals (first | exact trivial | assumption | omega | exact h1 | (simp; done))
  refine WP.cond rfl (fun h3 => ?_) (fun h3 => ?_)
  · exfalso
    have e : (bif (chkE t != chkE t) then true else false) = true := h3
    simp at e
  · refine WP.skip ?_
    refine WP.seq ?_
    refine WP.seq ?_
    refine WP.reg hT hE [] rfl ?_ ?_
    · first | trivial | (simp [holdsC, under, slOk, slB, capEq] <;> grind)
    refine WP.cond rfl (fun h5 => ?_) (fun h5 => ?_)
    · have hbad : chkE t ≠ 0 := by simpa using h5
      refine WP.seq ?_
      refine WP.reg hT hE [] rfl ?_ ?_
      · first | trivial | (simp [holdsC, under, slOk, slB, capEq] <;> grind)
      refine WP.ret ?_
      change Fin _ _ _ _ _ _ _ _
      refine fin1 hT (by rfl) ?_
      rw [racesL, pairsF, if_neg hbad]; rfl
    · have hz : chkE t = 0 := by simpa using h5
      have he := races_eq hz
      refine WP.skip ?_
      refine WP.seq ?_
      refine WP.reg hT hE [CG.pure (prs false (refPairs t)), CG.pure (.bool true)] rfl ?_ ?_
      · have h1 := rpairs_ac g t (chk_right hz)
        have h2 := same_ac false false (racesL t) (refPairs t)
        rw [show decide (racesL t = refPairs t) = true from decide_eq_true he] at h2
        simp only [holdsC, under, CG.pure]
        repeat' with_reducible refine And.intro ?_ ?_
        all_goals (try with_reducible intros)
        all_goals (first | exact trivial | assumption | omega | exact h1 | exact h2 | (simp; done))
      refine WP.ret ?_
      change Fin _ _ _ _ _ _ _ _
      exact fin1 hT (by rfl) rfl
end Go.Ab


/- Ab, part 47: what a slice inside of data reads as. -/
set_option autoImplicit false
set_option linter.unusedVariables false
set_option linter.unusedSimpArgs false
namespace Go.Ab
open Go.Proofs
section
variable {P : Program} {T : Nat → TI} {N : Nat}
theorem cells?_spot {w : World} {base : Nat} {a : Addr} {n : Nat} {cs : List Value} (h : w.cells? base a n = some cs) (hn : 0 < n) : a.spot = none := by
  obtain ⟨_, h2⟩ := cells?_get h
  have h3 := h2 0 hn
  have hl : 0 < cs.length := by rw [(cells?_get h).1]; exact hn
  rw [List.getElem?_eq_getElem hl, show a.add 0 = a from rfl] at h3
  unfold World.cell? at h3
  split at h3
  · split at h3
    · cases h3
    · rename_i hs
      simpa using hs
  · cases h3
theorem Dec.slice (hT : TOK P T N) {t e : Nat} {α : Type} {enc : α → AV} {Q : α → Prop} (d0 : α) (hu : P.underlying t = some (.slice e)) (hk : (T t).kind.isAgg = false) (he : e < N) (hd : Dec P T N e enc Q) : Dec P T N t (rowL e enc d0 false) (fun l => ∀ a ∈ l, Q a) := by
  intro H eh w fuel cs d ps hr
  have hfit : ∀ l, fit T t (rowL e enc d0 false l) = true := fun l => by
    show (!(T t).kind.isAgg) = true
    rw [hk]; rfl
  cases fuel with
  | zero => simp [DataW.trod] at hr
  | succ fuel =>
  unfold DataW.trod at hr
  rw [hu] at hr
  have hsz := hT.cellsOf he
  have hpos := hT.size_pos he
  obtain ⟨v, rfl⟩ : ∃ v, cs = [v] := by
    rcases cs with _ | ⟨v, _ | ⟨u, r⟩⟩
    · simp at hr
    · exact ⟨v, rfl⟩
    · simp at hr
  cases v <;> try (simp at hr; done)
  rename_i a len cap
  cases a with
  | none =>
    have h0 : len = 0 ∧ cap = 0 := by
      cases len <;> cases cap <;> simp_all
    obtain ⟨rfl, rfl⟩ := h0
    exact ⟨[], fun a ha => by simp at ha, .row0 he, hfit _⟩
  | some a =>
    simp only [Option.ite_none_right_eq_some, if_true, Option.bind_eq_some_iff, Option.map_eq_some_iff] at hr
    obtain ⟨⟨_, h1, hmax⟩, elems, hel, rest, hrest, _⟩ := hr
    have hcap : cap < 2 ^ 63 := by
      unfold maxLen at hmax
      omega
    rcases Nat.eq_zero_or_pos cap with hc0 | hc0
    · subst hc0
      obtain rfl : len = 0 := by omega
      exact ⟨[], fun a ha => by simp at ha, .row0 he, hfit _⟩
    · have hspot : a.spot = none := by
        rcases Nat.eq_zero_or_pos len with hl0 | hl0
        · subst hl0
          obtain ⟨_, hat⟩ := mapM_at hrest
          obtain ⟨y, _, h6⟩ := hat 0 0 (by simp [hc0])
          simp only [Option.bind_eq_some_iff] at h6
          obtain ⟨seg, h7, _⟩ := h6
          have h8 := cells?_spot h7 (by rw [hsz]; exact hpos)
          simpa [Addr.add] using h8
        · obtain ⟨_, hat⟩ := mapM_at hel
          obtain ⟨y, _, h6⟩ := hat 0 0 (by simp [hl0])
          simp only [Option.bind_eq_some_iff] at h6
          obtain ⟨seg, h7, _⟩ := h6
          have h8 := cells?_spot h7 (by rw [hsz]; exact hpos)
          simpa [Addr.add] using h8
      obtain ⟨b, off, spot⟩ := a
      simp only at hspot
      subst hspot
      obtain ⟨hlen, hat⟩ := mapM_at hel
      have hex : ∀ i, ∃ (a : α) (seg : List Value), i < len → Q a ∧ Rep T N (memI w) noPl (enc a) seg ∧ fit T e (enc a) = true ∧ seg.length = (T e).size ∧ ∀ o, o < (T e).size → memI w b (off + (i * (T e).size + o)) = seg[o]? := by
        intro i
        by_cases hi : i < len
        · obtain ⟨y, h5, h6⟩ := hat i i (by simp [hi])
          simp only [Option.bind_eq_some_iff] at h6
          obtain ⟨seg, h7, h8⟩ := h6
          obtain ⟨a, q1, q2, q3⟩ := hd H eh w fuel seg y.1 y.2 h8
          obtain ⟨c1, c2⟩ := cells?_get h7
          rw [hsz] at c1 c2
          refine ⟨a, seg, fun _ => ⟨q1, q2, q3, c1, fun o ho => ?_⟩⟩
          rw [← c2 o ho]
          simp only [memI, add_none, Nat.add_assoc]
        · exact ⟨d0, [], fun h => absurd h hi⟩
      have hch := fun i => Classical.choose_spec (Classical.choose_spec (hex i))
      generalize hA : (fun i => Classical.choose (hex i)) = A at hch
      have hA' : ∀ i, Classical.choose (hex i) = A i := fun i => congrFun hA i
      refine ⟨(List.range len).map A, fun a ha => ?_, ?_, hfit _⟩
      · simp only [List.mem_map, List.mem_range] at ha
        obtain ⟨i, hi, rfl⟩ := ha
        have := (hch i hi).1
        rwa [hA'] at this
      · have hg : ∀ i, i < len → ((List.range len).map A).getD i d0 = A i := fun i hi => by simp [hi]
        have := Rep.row (T := T) (N := N) (I := memI w) (ρ := noPl) (e := e) (full := false) (len := ((List.range len).map A).length) (get := fun i => enc (((List.range len).map A).getD i d0)) b off cap (fun i => Classical.choose (Classical.choose_spec (hex i))) he (by simpa using h1) hcap (fun h => by cases h)
          (fun i hi => by have hi' : i < len := by simpa using hi
                          rw [hg i hi', ← hA']; exact (hch i hi').2.1)
          (fun i hi => by have hi' : i < len := by simpa using hi
                          rw [hg i hi', ← hA']; exact (hch i hi').2.2.1)
          (fun i hi => (hch i (by simpa using hi)).2.2.2.1)
          (fun i hi o ho => (hch i (by simpa using hi)).2.2.2.2 o ho)
        simpa [rowL] using this
theorem okWide_agg (hT : TOK P T N) {t : Nat} {fs : List Nat} (hk : (T t).kind = .struct fs) {w : World} {r : Reach} {base : Nat} {v : Value} (h : Value.okWide P w r base t v) : ∃ cs, v = .agg cs := by
  have htN := hT.lt (t := t) (by rw [hk]; simp)
  obtain ⟨dd, hd1, hd2, hd3⟩ := hT.und t htN
  rw [hk] at hd2
  cases dd <;> simp only [kindOf, reduceCtorEq, TK.struct.injEq] at hd2
  unfold Value.okWide at h
  rw [hd1] at h
  obtain ⟨cs, h1, _⟩ := h
  exact ⟨cs, h1⟩
end
end Go.Ab

/- What arguments read as; the program's facts for rows. -/
set_option autoImplicit false
set_option maxRecDepth 20000
set_option linter.unusedVariables false
namespace Go.Ab
open Go.Proofs Go.ChangeShapes Go.WideShapes Go.ChangeAt Go.RowKit
theorem tryOwn : ownKnob Tryz.prog.godebug = none := by kernel_rfl
theorem tryLaid : laidOutB Tryz.prog = true := by kernel_rfl
theorem uI64 : Tryz.prog.underlying 2 = some (.int .i64) := by kernel_rfl
theorem uInt : Tryz.prog.underlying 3 = some (.int .i64) := by kernel_rfl
theorem uBool : Tryz.prog.underlying 4 = some .bool := by kernel_rfl
theorem uOp : Tryz.prog.underlying 68 = some (.int .i64) := by kernel_rfl
theorem uInts : Tryz.prog.underlying 23 = some (.slice 3) := by kernel_rfl
theorem uEvts : Tryz.prog.underlying 27 = some (.slice 73) := by kernel_rfl
theorem uVars : Tryz.prog.underlying 22 = some (.slice 101) := by kernel_rfl
theorem uFuns : Tryz.prog.underlying 24 = some (.slice 166) := by kernel_rfl
theorem uInss : Tryz.prog.underlying 163 = some (.slice 162) := by kernel_rfl
theorem uSels : Tryz.prog.underlying 164 = some (.slice 221) := by kernel_rfl
theorem uCases : Tryz.prog.underlying 219 = some (.slice 223) := by kernel_rfl
def Rng (n : Int) : Prop := IntKind.i64.min ≤ n ∧ n ≤ IntKind.i64.max
theorem decInt : Dec Tryz.prog T tysN 3 (fun n : Int => .int n) Rng := Dec.int uInt rfl
theorem decI64 : Dec Tryz.prog T tysN 2 (fun n : Int => .int n) Rng := Dec.int uI64 rfl
theorem decOp : Dec Tryz.prog T tysN 68 (fun n : Int => .int n) Rng := Dec.int uOp rfl
theorem decBool : Dec Tryz.prog T tysN 4 (fun b : Bool => .bool b) (fun _ => True) := Dec.bool uBool rfl
theorem decTch : Dec Tryz.prog T tysN 70 encTch (fun _ => True) :=
  (Dec.struct (t := 70) hT (show (T 70).kind = .struct [3, 3, 4] from rfl) (DecL.cons decInt (DecL.cons decInt (DecL.cons decBool DecL.nil)))).map (fun x => ⟨x.1, x.2.1, x.2.2.1⟩) (fun _ => rfl) (fun _ _ => trivial)
theorem decTs : Dec Tryz.prog T tysN 71 encTs (fun _ => True) :=
  (Dec.array hT tch0 (show (T 71).kind = .array 6 70 from rfl) decTch).map (fun l => l) (fun _ => rfl) (fun _ _ => trivial)
theorem decEvt : Dec Tryz.prog T tysN 73 encE (fun e => Rng e.tag) :=
  (Dec.struct (t := 73) hT (show (T 73).kind = .struct [3, 3, 3, 68, 3, 2, 2, 71, 3] from rfl) (DecL.cons decInt (DecL.cons decInt (DecL.cons decInt (DecL.cons decOp (DecL.cons decInt (DecL.cons decI64 (DecL.cons decI64 (DecL.cons decTs (DecL.cons decInt DecL.nil)))))))))).map (fun x => ⟨x.1, x.2.1, x.2.2.1, x.2.2.2.1, x.2.2.2.2.1, x.2.2.2.2.2.1, x.2.2.2.2.2.2.1, x.2.2.2.2.2.2.2.1, x.2.2.2.2.2.2.2.2.1⟩) (fun _ => rfl) (fun x hx => hx.2.2.2.2.2.2.1)
theorem decInts : Dec Tryz.prog T tysN 23 (fun l : List Int => ints false l) (fun l => ∀ n ∈ l, Rng n) := (Dec.slice hT 0 uInts rfl (Nat.le_of_ble_eq_true rfl) decInt).map (fun l => l) (fun _ => rfl) (fun _ h => h)
theorem decVar : Dec Tryz.prog T tysN 101 encVar (fun v => Rng v.init) :=
  (Dec.struct (t := 101) hT (show (T 101).kind = .struct [4, 2] from rfl) (DecL.cons decBool (DecL.cons decI64 DecL.nil))).map (fun x => ⟨x.1, x.2.1⟩) (fun _ => rfl) (fun x hx => hx.2.1)
def rngIns (x : PIns) : Prop := Rng x.op ∧ Rng x.a ∧ Rng x.b ∧ Rng x.c ∧ Rng x.n
theorem decIns : Dec Tryz.prog T tysN 162 encIns rngIns :=
  (Dec.struct (t := 162) hT (show (T 162).kind = .struct [68, 3, 3, 3, 2] from rfl) (DecL.cons decOp (DecL.cons decInt (DecL.cons decInt (DecL.cons decInt (DecL.cons decI64 DecL.nil)))))).map (fun x => ⟨x.1, x.2.1, x.2.2.1, x.2.2.2.1, x.2.2.2.2.1⟩) (fun _ => rfl) (fun x hx => ⟨hx.1, hx.2.1, hx.2.2.1, hx.2.2.2.1, hx.2.2.2.2.1⟩)
def rngCase (x : PCase) : Prop := Rng x.chan ∧ Rng x.reg ∧ Rng x.to
theorem decCase : Dec Tryz.prog T tysN 223 encCase rngCase :=
  (Dec.struct (t := 223) hT (show (T 223).kind = .struct [4, 3, 3, 3] from rfl) (DecL.cons decBool (DecL.cons decInt (DecL.cons decInt (DecL.cons decInt DecL.nil))))).map (fun x => ⟨x.1, x.2.1, x.2.2.1, x.2.2.2.1⟩) (fun _ => rfl) (fun x hx => ⟨hx.2.1, hx.2.2.1, hx.2.2.2.1⟩)
def rngSel (x : PSel) : Prop := (∀ c ∈ x.cases, rngCase c) ∧ Rng x.els
theorem decSel : Dec Tryz.prog T tysN 221 encSel rngSel :=
  (Dec.struct (t := 221) hT (show (T 221).kind = .struct [219, 3] from rfl) (DecL.cons (Dec.slice hT case0 uCases rfl (Nat.le_of_ble_eq_true rfl) decCase) (DecL.cons decInt DecL.nil))).map (fun x => ⟨x.1, x.2.1⟩) (fun _ => rfl) (fun x hx => ⟨hx.1, hx.2.1⟩)
def rngFun (x : PFun) : Prop := Rng x.params ∧ Rng x.regs ∧ (∀ c ∈ x.code, rngIns c) ∧ ∀ s ∈ x.sels, rngSel s
theorem decFun : Dec Tryz.prog T tysN 166 encFun rngFun :=
  (Dec.struct (t := 166) hT (show (T 166).kind = .struct [3, 3, 163, 164] from rfl) (DecL.cons decInt (DecL.cons decInt (DecL.cons (Dec.slice hT ins0 uInss rfl (Nat.le_of_ble_eq_true rfl) decIns) (DecL.cons (Dec.slice hT sel0 uSels rfl (Nat.le_of_ble_eq_true rfl) decSel) DecL.nil))))).map (fun x => ⟨x.1, x.2.1, x.2.2.1, x.2.2.2.1⟩) (fun _ => rfl) (fun x hx => ⟨hx.1, hx.2.1, hx.2.2.1, hx.2.2.2.1⟩)
def rngProg (x : PProg) : Prop := (∀ v ∈ x.vars, Rng v.init) ∧ Rng x.locks ∧ (∀ c ∈ x.chans, Rng c) ∧ ∀ f ∈ x.funcs, rngFun f
theorem decProg : Dec Tryz.prog T tysN 26 encProg rngProg :=
  (Dec.struct (t := 26) hT (show (T 26).kind = .struct [22, 3, 23, 24] from rfl) (DecL.cons (Dec.slice hT var0 uVars rfl (Nat.le_of_ble_eq_true rfl) decVar) (DecL.cons decInt (DecL.cons decInts (DecL.cons (Dec.slice hT fun0 uFuns rfl (Nat.le_of_ble_eq_true rfl) decFun) DecL.nil))))).map (fun x => ⟨x.1, x.2.1, x.2.2.1, x.2.2.2.1⟩) (fun _ => rfl) (fun x hx => ⟨hx.1, hx.2.1, hx.2.2.1, hx.2.2.2.1⟩)
theorem arg_int {H : Type} {eh : TypeId × Value → H} {W : World} {base : Nat} {v : Value} {d : DataW H} {p : List MemPlace} (h : DataW.Trod eh Tryz.prog W 0 (fun _ => true) true 3 v d p) (hok : Value.okWide Tryz.prog W .any base 3 v) : ∃ n : Int, Rng n ∧ RepV T tysN (memI W) noPl (.int n) v := by
  obtain ⟨n, rfl, rfl, rfl, wn⟩ := open_int uInt hok h
  simp only [Lit.wf, Bool.and_eq_true, decide_eq_true_eq] at wn
  exact ⟨n, wn, .one ⟨[_], .v rfl, rfl⟩⟩
theorem arg_evts {H : Type} {eh : TypeId × Value → H} {W : World} {base : Nat} {v : Value} {d : DataW H} {p : List MemPlace} (h : DataW.Trod eh Tryz.prog W 0 (fun _ => true) true 27 v d p) (hok : Value.okWide Tryz.prog W .any base 27 v) : ∃ l : List Evt, (∀ e ∈ l, Rng e.tag) ∧ RepV T tysN (memI W) noPl (evts false l) v := by
  obtain ⟨fuel, h⟩ := h
  obtain ⟨l, hq, hl⟩ := dec_slice hT evt0 uEvts (Nat.le_of_ble_eq_true rfl) decEvt h hok
  exact ⟨l, hq, hl⟩
theorem arg_ints {H : Type} {eh : TypeId × Value → H} {W : World} {base : Nat} {v : Value} {d : DataW H} {p : List MemPlace} (h : DataW.Trod eh Tryz.prog W 0 (fun _ => true) true 23 v d p) (hok : Value.okWide Tryz.prog W .any base 23 v) : ∃ l : List Int, (∀ e ∈ l, Rng e) ∧ RepV T tysN (memI W) noPl (ints false l) v := by
  obtain ⟨fuel, h⟩ := h
  obtain ⟨l, hq, hl⟩ := dec_slice hT 0 uInts (Nat.le_of_ble_eq_true rfl) decInt h hok
  exact ⟨l, hq, hl⟩
theorem arg_prog {H : Type} {eh : TypeId × Value → H} {W : World} {base : Nat} {v : Value} {d : DataW H} {p : List MemPlace} (h : DataW.Trod eh Tryz.prog W 0 (fun _ => true) true 26 v d p) (hok : Value.okWide Tryz.prog W .any base 26 v) : ∃ x : PProg, rngProg x ∧ RepV T tysN (memI W) noPl (encProg x) v := by
  obtain ⟨fuel, h⟩ := h
  obtain ⟨x, hq, hl, _⟩ := decProg H eh W fuel _ d p h
  obtain ⟨cs, rfl⟩ := okWide_agg hT (show (T 26).kind = .struct [22, 3, 23, 24] from rfl) hok
  exact ⟨x, hq, .one ⟨(Value.agg cs).cells.toList, hl, by simp [packV, encProg, stru, Value.cells]⟩⟩
theorem reps1 {W : World} {a : AV} {v0 : Value} (h0 : RepV T tysN (memI W) noPl a v0) :
    ∀ (i : Nat) (x : AV) (v : Value), [a][i]? = some x → (#[v0] : Array Value).toList[i]? = some v → RepV T tysN (memI W) noPl x v := by
  intro i x v hx hv
  match i with
  | 0 => simp at hx hv; subst hx hv; exact h0
  | 1 => first | (simp at hx; done) | (simp at hx hv; subst hx hv; exact h1)
  | 2 => first | (simp at hx; done) | (simp at hx hv; subst hx hv; exact h2)
  | i + 3 => simp at hx
theorem reps2 {W : World} {a b : AV} {v0 v1 : Value} (h0 : RepV T tysN (memI W) noPl a v0) (h1 : RepV T tysN (memI W) noPl b v1) :
    ∀ (i : Nat) (x : AV) (v : Value), [a, b][i]? = some x → (#[v0, v1] : Array Value).toList[i]? = some v → RepV T tysN (memI W) noPl x v := by
  intro i x v hx hv
  match i with
  | 0 => simp at hx hv; subst hx hv; exact h0
  | 1 => first | (simp at hx; done) | (simp at hx hv; subst hx hv; exact h1)
  | 2 => first | (simp at hx; done) | (simp at hx hv; subst hx hv; exact h2)
  | i + 3 => simp at hx
theorem reps3 {W : World} {a b c : AV} {v0 v1 v2 : Value} (h0 : RepV T tysN (memI W) noPl a v0) (h1 : RepV T tysN (memI W) noPl b v1) (h2 : RepV T tysN (memI W) noPl c v2) :
    ∀ (i : Nat) (x : AV) (v : Value), [a, b, c][i]? = some x → (#[v0, v1, v2] : Array Value).toList[i]? = some v → RepV T tysN (memI W) noPl x v := by
  intro i x v hx hv
  match i with
  | 0 => simp at hx hv; subst hx hv; exact h0
  | 1 => first | (simp at hx; done) | (simp at hx hv; subst hx hv; exact h1)
  | 2 => first | (simp at hx; done) | (simp at hx hv; subst hx hv; exact h2)
  | i + 3 => simp at hx
end Go.Ab


/- RacePairs: the row. -/
set_option autoImplicit false
set_option maxRecDepth 20000
set_option linter.unusedVariables false
namespace Go.Proofs.YtkdnjnbocjpmfaaGreat
open Go.Ab Go.ChangeShapes Go.WideShapes Go.ChangeAt Go.RowKit
set_option maxRecDepth 100000 in
theorem racePairs_lifted (os : Os) (started : os.Started) (H : Type) (enc : TypeId × Value → H) :
    ReturnsInHanded {} Tryz.checked os 4 .any (Rows.racePairsSpec.pre6 enc Tryz.prog Tryz.f4 Rows.racePairsRow.domain false) (Rows.racePairsSpec.post enc Tryz.prog Tryz.f4 false true false false) := by
  refine returnsInHanded_of_change_sized (C := Tryz.checked) tryOwn started (by kernel_rfl) Tryz.func4
    (ChangeSpec.witness6 (enc := enc) (C := Tryz.checked) false ⟨#[], #[.slice none 0 0], []⟩ 8 (by kernel_rfl) (by kernel_rfl) (by kernel_rfl) (by kernel_rfl)) ?_
  intro W base args ds gs before hval0 hW _ hz _
  have hval : ∀ (j : Nat) t v, Tryz.f4.params[j]? = some t → args[j]? = some v → Value.okWide Tryz.prog W .any base t v := hval0
  have hW' : DataW.Whole enc Tryz.prog Tryz.f4.params.toList Rows.racePairsSpec.vars false W args.toList ds gs before := hW
  obtain ⟨p, q, hA0, hV, _, _, _⟩ := hW
  have hA : DataW.TrodAll enc Tryz.prog W 0 (fun _ => true) true Tryz.f4.params.toList args.toList ds p := hA0
  rw [Tryz.params4] at hA hval
  obtain ⟨v0, d0, rfl, rfl, h0⟩ := trodAll_one hA
  obtain ⟨a0, q0, r0⟩ := arg_evts h0 (hval 0 27 v0 rfl rfl)
  exact law_calls (tb := 4) tryLaid (by kernel_rfl) (by rfl) uBool rfl (fun ds hd => by match ds, hd with | [x0], _ => rfl) hW' (racePairsLaw_ac false a0) rfl (reps1 r0)
theorem racePairs_holds : Rows.RacePairsSaid :=
  OpenClaim.holds_of_wide 4 Tryz.f4 rfl rfl rfl rfl rfl rfl rfl ⟨rfl, rfl, rfl, rfl, rfl⟩ rfl rfl rfl rfl rfl (by kernel_rfl) Tryz.func4 (by kernel_rfl)
    (of_decide_eq_true (by kernel_rfl)) (by unfold Func.isWrapper; first | (rw [if_pos (by decide +kernel)]; kernel_rfl) | (rw [if_neg (by decide +kernel)]; exact ⟨rfl, rfl⟩))
    (fun os started H enc _ => racePairs_lifted os started H enc)
end Go.Proofs.YtkdnjnbocjpmfaaGreat

