/- Part 17 of a proof of a statement about the given program: an abstract machine over the model, proved sound, and contracts of the functions that the statement reaches; the last part proves the statement, for every input, with no condition. -/
import Derived.Test.YtaanljgonmhdiaaX15
set_option linter.unusedSimpArgs false
set_option linter.unusedVariables false
/- The search, walked. -/
set_option autoImplicit false
set_option maxRecDepth 20000
set_option linter.unusedSimpArgs false
set_option linter.unusedVariables false
namespace Go.Ab
open Go.Proofs
def searchOb (k : Int) (caps : List AV) (ff : Nat) (H : AV) (id : Id) : Ob := .cells ⟨98, 1, fun _ => stru 98 [encTh (mayOf k) (fnOf k) caps, H, .clo ff [], .mp id], 0⟩
/-- A history that is ours. -/
def ownC (id : Id) (h : List Cal) : AV := .own id h.length 0 h.length none
abbrev obC (h : List Cal) : Ob := cellsL 30 encCal cal0 h
theorem ren_cal (σ : Id → Id) (c : Cal) : ren σ (encCal c) = encCal c := by simp only [encCal, ren_stru]; rfl
theorem okIds_cal (ids : List Id) (c : Cal) : okIds ids (encCal c) = true := okIds_agg (fun i hi => by match i, hi with | 0, _ | 1, _ | 2, _ | 3, _ | 4, _ | 5, _ | 6, _ => rfl)
theorem okO_C (ids : List Id) (h : List Cal) : okO ids (obC h) := fun _ _ => okIds_cal ids _
theorem renO_C (σ : Id → Id) (h : List Cal) : renO σ (obC h) = obC h := renO_list (ren_cal σ)
def encRes (r : List Int × Bool) : AV := .tup [ints false r.1, .bool r.2]
def recG (k : Int) (caps : List AV) (ff : Nat) (H : AV) (ids : List Id) (obs : List Ob) (r : Res) : CG := ⟨true, ids, encRes r.1, searchOb k caps ff H (.b 1) :: .map (encD r.2) :: obs⟩
theorem okO_D (ids : List Id) (d : Dead) : okO ids (.map (encD d)) := by
  intro p hp
  simp only [encD, encM, List.mem_map] at hp
  obtain ⟨q, _, rfl⟩ := hp
  refine ⟨?_, rfl⟩
  refine okIds_agg (fun i hi => ?_)
  match i, hi with
  | 0, _ => rfl
  | 1, _ =>
    refine okIds_agg (fun i hi => ?_)
    match i, hi with
    | 0, _ => rfl
    | 1, _ => exact okIds_agg (fun i _ => rfl)
def OnOK (k : Int) (h : List Cal) (n : Nat) (d : Dead) (m : Nat) (x : Ct) (o : List Int) : Prop := okD d ∧ okX k h m x ∧ opens h m < n ∧ m < 256 ∧ o.length + opens h m ≤ 8
theorem fin_on {k : Int} {caps : List AV} {ff : Nat} {H : AV} {d : Dead} {nt : Nat} {st : St} {r : List Int × Bool} {y : AV} (h6 : st.t 6 = some (.always, y)) (hy : Conv st.m (fun id => lookF id []) T y (ints false r.1)) (h7 : st.t 7 = some (.always, .bool r.2)) (hk : okO [.b 0, .b 1] (searchOb k caps ff H (.b 1)))
    (h0 : ∃ B, st.m (.b 0) = some (.cells B) ∧ B.ty = 98 ∧ B.n = 1 ∧ B.fz = 0 ∧ B.get 0 = stru 98 [encTh (mayOf k) (fnOf k) caps, H, .clo ff [], .mp (.b 1)]) (h1 : st.m (.b 1) = some (.map (encD d))) : Fin T tysN nt 2 [.tmp 6, .tmp 7] (encRes r) [searchOb k caps ff H (.b 1), .map (encD d)] st := by
  obtain ⟨B, hB, e1, e2, e3, e4⟩ := h0
  obtain ⟨ty, n, get, fz⟩ := B
  simp only at e1 e2 e3 e4
  subst e1 e2 e3
  refine fin_mk hT [] (ts := [(6, ints false r.1), (7, .bool r.2)]) (B' := [searchOb k caps ff H (.b 1), .map (encD d)]) trivial ⟨⟨rfl, _, h6, hy⟩, ⟨rfl, _, h7, conv_eq rfl⟩, trivial⟩ ⟨⟨hk, .inl ⟨_, hB, _, _, rfl, Nat.le_refl _, Nat.zero_le _, Nat.zero_le _, fun q hq => ?_⟩⟩, ⟨okO_D _ _, .inl ⟨_, h1, .inl rfl⟩⟩, trivial⟩ rfl (by rfl) (by rfl)
  obtain rfl : q = 0 := by simp at hq; exact hq
  exact conv_eq e4
theorem fin_on2 {k : Int} {caps : List AV} {ff : Nat} {H : AV} {d : Dead} {h : List Cal} {nt : Nat} {st : St} {r : List Int × Bool} {y : AV} (h6 : st.t 6 = some (.always, y)) (hy : Conv st.m (fun id => lookF id []) T y (ints false r.1)) (h7 : st.t 7 = some (.always, .bool r.2)) (hk : okO [.b 0, .b 1, .b 2] (searchOb k caps ff H (.b 1)))
    (h0 : ∃ B, st.m (.b 0) = some (.cells B) ∧ B.ty = 98 ∧ B.n = 1 ∧ B.fz = 0 ∧ B.get 0 = stru 98 [encTh (mayOf k) (fnOf k) caps, H, .clo ff [], .mp (.b 1)]) (h1 : st.m (.b 1) = some (.map (encD d))) (h2 : st.m (.b 2) = some (obC h)) : Fin T tysN nt 3 [.tmp 6, .tmp 7] (encRes r) [searchOb k caps ff H (.b 1), .map (encD d), obC h] st := by
  obtain ⟨B, hB, e1, e2, e3, e4⟩ := h0
  obtain ⟨ty, n, get, fz⟩ := B
  simp only at e1 e2 e3 e4
  subst e1 e2 e3
  refine fin_mk hT [] (ts := [(6, ints false r.1), (7, .bool r.2)]) (B' := [searchOb k caps ff H (.b 1), .map (encD d), obC h]) trivial ⟨⟨rfl, _, h6, hy⟩, ⟨rfl, _, h7, conv_eq rfl⟩, trivial⟩ ⟨⟨hk, .inl ⟨_, hB, _, _, rfl, Nat.le_refl _, Nat.zero_le _, Nat.zero_le _, fun q hq => ?_⟩⟩, ⟨okO_D _ _, .inl ⟨_, h1, .inl rfl⟩⟩, ob_list (okIds_cal _) h2 rfl rfl rfl rfl (fun q hq => rfl), trivial⟩ rfl (by rfl) (by rfl)
  obtain rfl : q = 0 := by simp at hq; exact hq
  exact conv_eq e4
theorem ren_key (σ : Id → Id) (p : Key) : ren σ (encK p) = encK p := by
  simp only [encK, encKey, encCt, ren_stru, List.map, ren_arrI, ren]
theorem renO_D (σ : Id → Id) (d : Dead) : renO σ (.map (encD d)) = .map (encD d) := renO_encM σ (ren_key σ) (fun _ => rfl) d
theorem ren_sget {σ : Id → Id} {k : Int} {caps : List AV} {ff : Nat} {H : AV} {id : Id} (hc : renL σ caps = caps) (hH : ren σ H = H) (hs : σ id = id) : ren σ (stru 98 [encTh (mayOf k) (fnOf k) caps, H, .clo ff [], .mp id]) = stru 98 [encTh (mayOf k) (fnOf k) caps, H, .clo ff [], .mp id] := by
  simp only [ren_stru, List.map, encTh, ren, renL, hc, hs, hH]
  rfl
theorem renO_search2 {σ : Id → Id} {k : Int} {caps : List AV} {ff : Nat} {H H' : AV} {id id' : Id} (hc : renL σ caps = caps) (hH : ren σ H = H') (hs : σ id = id') : renO σ (searchOb k caps ff H id) = searchOb k caps ff H' id' := by
  simp only [searchOb, renO_cells1, ren_stru, List.map, encTh, ren, renL, hc, hs, hH]
  rfl
theorem renO_search {σ : Id → Id} {k : Int} {caps : List AV} {ff : Nat} {H : AV} {id : Id} (hc : renL σ caps = caps) (hH : ren σ H = H) (hs : σ id = id) : renO σ (searchOb k caps ff H id) = searchOb k caps ff H id := by
  simp only [searchOb, renO_cells1, ren_stru, List.map, encTh, ren, renL, hc, hs, hH]
  rfl
theorem on_step1 (k : Int) (hk : k = 1 ∨ k = 2 ∨ k = 3 ∨ k = 4)  (hcaps : capsOf k = []) (ff : Nat) (fst : Cal → Cal → Bool) (hff : ∀ a b, AC Try.prog T tysN ff [encCal a, encCal b] [] (.bool (fst a b)) []) (g : Bool) (h : List Cal) (hl : h.length ≤ 8) (n : Nat) (ih : ∀ (d : Dead) (m : Nat) (x : Ct) (f : Bool) (o : List Int), OnOK k h n d m x o → AC Try.prog T tysN 44 [.ptr (.b 0) 1 0 [], encKey m x, ints f o] [searchOb k [] ff (cals g h) (.b 1), .map (encD d)] (encRes (onF k fst h n d m x o).1) [searchOb k [] ff (cals g h) (.b 1), .map (encD (onF k fst h n d m x o).2)]) (d : Dead) (m : Nat) (x : Ct) (f : Bool) (o : List Int) (hok : OnOK k h (n + 1) d m x o) : AC Try.prog T tysN 44 [.ptr (.b 0) 1 0 [], encKey m x, ints f o] [searchOb k [] ff (cals g h) (.b 1), .map (encD d)] (encRes (onF k fst h (n + 1) d m x o).1) [searchOb k [] ff (cals g h) (.b 1), .map (encD (onF k fst h (n + 1) d m x o).2)] := by
  refine AC_intro hT Try.func44 rfl rfl (Nat.le_of_ble_eq_true rfl) ?_
  obtain ⟨hd, hx, hop, hm, ho⟩ := hok
  have hv := hx.1
  have hcl : CVL (Fz (fun _ => none) (fun _ => 0) T) [] [] := rfl
  have hren : ∀ σ : Id → Id, renL σ [] = [] := fun σ => rfl
  refine WP.seq ?_
  refine WP.reg hT hE [] rfl ?_ ?_
  · first | trivial | (simp [holdsC, under, slOk, slB, capEq] <;> grind)
  refine WP.seq ?_
  refine WP.seq ?_
  refine WP.drw hT hE hM [CG.pure (.int (if inD d (m, x) then 1 else 0))] rfl ?_ ?_
  · exact ⟨by simp, look_D (p := (m, x)) hd hv⟩
  refine WP.cond rfl (fun h1 => ?_) (fun h1 => ?_)
  · have hin : inD d (m, x) = true := by simpa using h1
    refine WP.seq ?_
    refine WP.reg hT hE [] rfl ?_ ?_
    · first | trivial | (simp [holdsC, under, slOk, slB, capEq] <;> grind)
    refine WP.ret ?_
    change Fin _ _ _ _ _ _ _ _
    have e : onF k fst h (n + 1) d m x o = (([], false), d) := by simp [onF, hin]
    rw [e]
    exact fin_on (by rfl) (by exact conv_nil_row (by decide)) (by rfl) (fun _ _ => rfl) (by exact ⟨_, rfl, rfl, rfl, rfl, rfl⟩) (by rfl) 
  · have hin : inD d (m, x) = false := by simpa using h1
    refine WP.skip ?_
    refine WP.seq ?_
    refine WP.ent (st' := mkSt [(0, .ptr (.b 0) 1 0 []), (2, ints f o), (4, .rp 102 (encKey m x))] [(.b 0, searchOb k [] ff (cals g h) (.b 1)), (.b 1, .map (encD d))]) ?_ ?_
    · refine Ent.mk hT [(.s 4 0, 1)] ⟨⟨_, rfl, Nat.le_refl _⟩, trivial⟩ ⟨⟨rfl, _, rfl, by first | exact conv_eq rfl | (refine conv_eq ?_; rw [wrap_id (by omega) (by omega)]; simp; done) | (refine conv_eq ?_; simp; done)⟩, ⟨rfl, _, rfl, by first | exact conv_eq rfl | (refine conv_eq ?_; rw [wrap_id (by omega) (by omega)]; simp; done) | (refine conv_eq ?_; simp; done)⟩, ⟨rfl, _, rfl, conv_rpe rfl rfl (Nat.lt_succ_self 0) rfl rfl rfl⟩, trivial⟩ ⟨⟨fun _ _ => rfl, .inl ⟨_, rfl, _, _, rfl, Nat.le_refl _, Nat.zero_le _, Nat.zero_le _, fun q hq => conv_eq rfl⟩⟩, ⟨okO_D _ _, .inl ⟨_, rfl, .inl rfl⟩⟩, trivial⟩ rfl
    refine WP.reg hT hE [] rfl ?_ ?_
    · first | trivial | (simp [holdsC, under, slOk, slB, capEq] <;> grind)
    refine WP.seq ?_
    refine WP.reg hT hE [] rfl ?_ ?_
    · first | trivial | (simp [holdsC, under, slOk, slB, capEq] <;> grind)
    refine WP.seq ?_
    refine WP.seq ?_
    refine WP.reg hT hE [] rfl ?_ ?_
    · first | trivial | (simp [holdsC, under, slOk, slB, capEq] <;> grind)
    refine WP.block ?_
    refine WP.loop (α := Nat) (fun i => mkSt [(0, .ptr (.b 0) 1 0 []), (2, ints f o), (4, .rp 102 (encKey m x)), (8, .clo 60 [.rp 102 (encKey m x)]), (9, .bool (allTo (fun i => (calAt h i).fin == -1 || !(!m.testBit i)) i)), (33, cals g h), (34, .int h.length), (35, .int i)] [(.b 0, searchOb k [] ff (cals g h) (.b 1)), (.b 1, .map (encD d))]) (fun i => i ≤ h.length) (fun i => h.length - i) ?_ ?_
    · refine ⟨0, ?_, ?_⟩
      · exact Nat.zero_le _
      · refine Ent.mk hT [] trivial ⟨⟨rfl, _, rfl, by first | exact conv_eq rfl | (refine conv_eq ?_; rw [wrap_id (by omega) (by omega)]; simp; done) | (refine conv_eq ?_; simp; done)⟩, ⟨rfl, _, rfl, by first | exact conv_eq rfl | (refine conv_eq ?_; rw [wrap_id (by omega) (by omega)]; simp; done) | (refine conv_eq ?_; simp; done)⟩, ⟨rfl, _, rfl, by first | exact conv_eq rfl | (refine conv_eq ?_; rw [wrap_id (by omega) (by omega)]; simp; done) | (refine conv_eq ?_; simp; done)⟩, ⟨rfl, _, rfl, by first | exact conv_eq rfl | (refine conv_eq ?_; rw [wrap_id (by omega) (by omega)]; simp; done) | (refine conv_eq ?_; simp; done)⟩, ⟨rfl, _, rfl, by first | exact conv_eq rfl | (refine conv_eq ?_; rw [wrap_id (by omega) (by omega)]; simp; done) | (refine conv_eq ?_; simp; done)⟩, ⟨rfl, _, rfl, by first | exact conv_eq rfl | (refine conv_eq ?_; rw [wrap_id (by omega) (by omega)]; simp; done) | (refine conv_eq ?_; simp; done)⟩, ⟨rfl, _, rfl, by first | exact conv_eq rfl | (refine conv_eq ?_; rw [wrap_id (by omega) (by omega)]; simp; done) | (refine conv_eq ?_; simp; done)⟩, ⟨rfl, _, rfl, by first | exact conv_eq rfl | (refine conv_eq ?_; rw [wrap_id (by omega) (by omega)]; simp; done) | (refine conv_eq ?_; simp; done)⟩, trivial⟩ ⟨⟨fun _ _ => rfl, .inl ⟨_, rfl, _, _, rfl, Nat.le_refl _, Nat.zero_le _, Nat.zero_le _, fun q hq => conv_eq rfl⟩⟩, ⟨okO_D _ _, .inl ⟨_, rfl, .inl rfl⟩⟩, trivial⟩ rfl
    · rintro i hi
      refine WP.seq ?_
      refine WP.reg hT hE [] rfl ?_ ?_
      · first | trivial | (simp [holdsC, under, slOk, slB, capEq] <;> grind)
      refine WP.seq ?_
      refine WP.cond rfl (fun h6 => ?_) (fun h6 => ?_)
      · have hil : i < h.length := by simpa using h6
        refine WP.skip ?_
        refine WP.seq ?_
        refine WP.block ?_
        refine WP.seq ?_
        refine WP.reg hT hE [] rfl ?_ ?_
        · first | trivial | (simp [holdsC, under, slOk, slB, capEq] <;> grind)
        refine WP.reg hT hE [CG.pure (.bool (!m.testBit i))] rfl ?_ ?_
        · have ho1 := on1_ac m i x (by omega) (by omega)
          simp [holdsC, under, CG.pure]
          exact ⟨fun _ _ => ho1, by grind⟩
        refine WP.reg hT hE [] rfl ?_ ?_
        · first | trivial | (simp [holdsC, under, slOk, slB, capEq] <;> grind)
        refine ⟨i + 1, ?_, ?_, ?_⟩
        · exact hil
        · refine Ent.mk hT [] trivial ⟨⟨rfl, _, rfl, by first | exact conv_eq rfl | (refine conv_eq ?_; rw [wrap_id (by omega) (by omega)]; simp; done) | (refine conv_eq ?_; simp; done)⟩, ⟨rfl, _, rfl, by first | exact conv_eq rfl | (refine conv_eq ?_; rw [wrap_id (by omega) (by omega)]; simp; done) | (refine conv_eq ?_; simp; done)⟩, ⟨rfl, _, rfl, by first | exact conv_eq rfl | (refine conv_eq ?_; rw [wrap_id (by omega) (by omega)]; simp; done) | (refine conv_eq ?_; simp; done)⟩, ⟨rfl, _, rfl, by first | exact conv_eq rfl | (refine conv_eq ?_; rw [wrap_id (by omega) (by omega)]; simp; done) | (refine conv_eq ?_; simp; done)⟩, ⟨rfl, _, rfl, ?_⟩, ⟨rfl, _, rfl, by first | exact conv_eq rfl | (refine conv_eq ?_; rw [wrap_id (by omega) (by omega)]; simp; done) | (refine conv_eq ?_; simp; done)⟩, ⟨rfl, _, rfl, by first | exact conv_eq rfl | (refine conv_eq ?_; rw [wrap_id (by omega) (by omega)]; simp; done) | (refine conv_eq ?_; simp; done)⟩, ⟨rfl, _, rfl, by first | exact conv_eq rfl | (refine conv_eq ?_; rw [wrap_id (by omega) (by omega)]; simp; done) | (refine conv_eq ?_; simp; done)⟩, trivial⟩ ⟨⟨fun _ _ => rfl, .inl ⟨_, rfl, _, _, rfl, Nat.le_refl _, Nat.zero_le _, Nat.zero_le _, fun q hq => conv_eq rfl⟩⟩, ⟨okO_D _ _, .inl ⟨_, rfl, .inl rfl⟩⟩, trivial⟩ rfl
          · refine conv_eq ?_
            simp only [allTo, bor, band]
            rfl
        · (try simp only []); first | omega | grind
      · have hil : i = h.length := by simp at h6; omega
        subst hil
        refine WP.exit ?_
        refine WP.seq ?_
        refine WP.seq ?_
        refine WP.reg hT hE [] rfl ?_ ?_
        · first | trivial | (simp [holdsC, under, slOk, slB, capEq] <;> grind)
        refine WP.cond rfl (fun h10 => ?_) (fun h10 => ?_)
        · have hwh : wholeB h m = true := h10
          refine WP.seq ?_
          refine WP.reg hT hE [] rfl ?_ ?_
          · first | trivial | (simp [holdsC, under, slOk, slB, capEq] <;> grind)
          refine WP.ret ?_
          change Fin _ _ _ _ _ _ _ _
          have e : onF k fst h (n + 1) d m x o = ((o, true), d) := by simp [onF, hin, hwh]
          rw [e]
          exact fin_on (by rfl) (by exact ⟨_, _, rfl, fun h => (by cases h), fun j hj => conv_eq rfl⟩) (by rfl) (fun _ _ => rfl) (by exact ⟨_, rfl, rfl, rfl, rfl, rfl⟩) (by rfl) 
        · have hwh : wholeB h m = false := h10
          refine WP.skip ?_
          refine WP.seq ?_
          refine WP.seq ?_
          refine WP.reg hT hE [] rfl ?_ ?_
          · first | trivial | (simp [holdsC, under, slOk, slB, capEq] <;> grind)
          refine WP.block ?_
          refine WP.loop (α := Nat × Dead) (fun (⟨i, d'⟩ : Nat × Dead) => mkSt [(0, .ptr (.b 0) 1 0 []), (2, ints f o), (4, .rp 102 (encKey m x)), (8, .clo 60 [.rp 102 (encKey m x)]), (58, cals g h), (59, .int h.length), (60, .int i)] [(.b 0, searchOb k [] ff (cals g h) (.b 1)), (.b 1, .map (encD d'))]) (fun (⟨i, d'⟩ : Nat × Dead) => i ≤ h.length ∧ okD d' ∧ tryF k fst h (onF k fst h n) m x o (List.range' 0 h.length) d = tryF k fst h (onF k fst h n) m x o (List.range' i (h.length - i)) d') (fun (⟨i, d'⟩ : Nat × Dead) => h.length - i) ?_ ?_
          · refine ⟨(0, d), ?_, ?_⟩
            · exact ⟨Nat.zero_le _, hd, rfl⟩
            · refine Ent.mk hT [] trivial ⟨⟨rfl, _, rfl, by first | exact conv_eq rfl | (refine conv_eq ?_; rw [wrap_id (by omega) (by omega)]; simp; done) | (refine conv_eq ?_; simp; done)⟩, ⟨rfl, _, rfl, by first | exact conv_eq rfl | (refine conv_eq ?_; rw [wrap_id (by omega) (by omega)]; simp; done) | (refine conv_eq ?_; simp; done)⟩, ⟨rfl, _, rfl, by first | exact conv_eq rfl | (refine conv_eq ?_; rw [wrap_id (by omega) (by omega)]; simp; done) | (refine conv_eq ?_; simp; done)⟩, ⟨rfl, _, rfl, by first | exact conv_eq rfl | (refine conv_eq ?_; rw [wrap_id (by omega) (by omega)]; simp; done) | (refine conv_eq ?_; simp; done)⟩, ⟨rfl, _, rfl, by first | exact conv_eq rfl | (refine conv_eq ?_; rw [wrap_id (by omega) (by omega)]; simp; done) | (refine conv_eq ?_; simp; done)⟩, ⟨rfl, _, rfl, by first | exact conv_eq rfl | (refine conv_eq ?_; rw [wrap_id (by omega) (by omega)]; simp; done) | (refine conv_eq ?_; simp; done)⟩, ⟨rfl, _, rfl, by first | exact conv_eq rfl | (refine conv_eq ?_; rw [wrap_id (by omega) (by omega)]; simp; done) | (refine conv_eq ?_; simp; done)⟩, trivial⟩ ⟨⟨fun _ _ => rfl, .inl ⟨_, rfl, _, _, rfl, Nat.le_refl _, Nat.zero_le _, Nat.zero_le _, fun q hq => conv_eq rfl⟩⟩, ⟨okO_D _ _, .inl ⟨_, rfl, .inl rfl⟩⟩, trivial⟩ rfl
          · rintro ⟨i, d'⟩ ⟨hi, hd', htry⟩
            refine WP.seq ?_
            refine WP.reg hT hE [] rfl ?_ ?_
            · first | trivial | (simp [holdsC, under, slOk, slB, capEq] <;> grind)
            refine WP.seq ?_
            refine WP.cond rfl (fun h13 => ?_) (fun h13 => ?_)
            · have hil : i < h.length := by simpa using h13
              rw [show h.length - i = (h.length - (i + 1)) + 1 by omega, List.range'_succ] at htry
              refine WP.skip ?_
              refine WP.seq ?_
              refine WP.block ?_
              refine WP.seq ?_
              refine WP.reg hT hE [] rfl ?_ ?_
              · first | trivial | (simp [holdsC, under, slOk, slB, capEq] <;> grind)
              refine WP.seq ?_
              refine WP.seq ?_
              refine WP.reg hT hE [CG.pure (.bool (!m.testBit i))] rfl ?_ ?_
              · have ho1 := on1_ac m i x (by omega) (by omega)
                simp [holdsC, under, CG.pure]
                exact ho1
              refine WP.cond rfl (fun h15 => ?_) (fun h15 => ?_)
              · have hb : m.testBit i = true := by simpa using h15
                simp only [tryF, hb, if_true] at htry
                refine WP.exit ?_
                refine WP.reg hT hE [] rfl ?_ ?_
                · first | trivial | (simp [holdsC, under, slOk, slB, capEq] <;> grind)
                refine ⟨(i + 1, d'), ?_, ?_, ?_⟩
                · exact ⟨hil, hd', htry⟩
                · refine Ent.mk hT [] trivial ⟨⟨rfl, _, rfl, by first | exact conv_eq rfl | (refine conv_eq ?_; rw [wrap_id (by omega) (by omega)]; simp; done) | (refine conv_eq ?_; simp; done)⟩, ⟨rfl, _, rfl, by first | exact conv_eq rfl | (refine conv_eq ?_; rw [wrap_id (by omega) (by omega)]; simp; done) | (refine conv_eq ?_; simp; done)⟩, ⟨rfl, _, rfl, by first | exact conv_eq rfl | (refine conv_eq ?_; rw [wrap_id (by omega) (by omega)]; simp; done) | (refine conv_eq ?_; simp; done)⟩, ⟨rfl, _, rfl, by first | exact conv_eq rfl | (refine conv_eq ?_; rw [wrap_id (by omega) (by omega)]; simp; done) | (refine conv_eq ?_; simp; done)⟩, ⟨rfl, _, rfl, by first | exact conv_eq rfl | (refine conv_eq ?_; rw [wrap_id (by omega) (by omega)]; simp; done) | (refine conv_eq ?_; simp; done)⟩, ⟨rfl, _, rfl, by first | exact conv_eq rfl | (refine conv_eq ?_; rw [wrap_id (by omega) (by omega)]; simp; done) | (refine conv_eq ?_; simp; done)⟩, ⟨rfl, _, rfl, by first | exact conv_eq rfl | (refine conv_eq ?_; rw [wrap_id (by omega) (by omega)]; simp; done) | (refine conv_eq ?_; simp; done)⟩, trivial⟩ ⟨⟨fun _ _ => rfl, .inl ⟨_, rfl, _, _, rfl, Nat.le_refl _, Nat.zero_le _, Nat.zero_le _, fun q hq => conv_eq rfl⟩⟩, ⟨okO_D _ _, .inl ⟨_, rfl, .inl rfl⟩⟩, trivial⟩ rfl
                · (try simp only []); first | omega | grind
              · have hb : m.testBit i = false := by simpa using h15
                refine WP.skip ?_
                refine WP.seq ?_
                refine WP.reg hT hE [] rfl ?_ ?_
                · first | trivial | (simp [holdsC, under, slOk, slB, capEq] <;> grind)
                refine WP.seq ?_
                refine WP.seq ?_
                refine WP.reg hT hE [] rfl ?_ ?_
                · first | trivial | (simp [holdsC, under, slOk, slB, capEq] <;> grind)
                refine WP.block ?_
                refine WP.loop (α := Nat) (fun j => mkSt [(0, .ptr (.b 0) 1 0 []), (2, ints f o), (4, .rp 102 (encKey m x)), (8, .clo 60 [.rp 102 (encKey m x)]), (58, cals g h), (59, .int h.length), (60, .int i), (12, .int i), (13, .rp 30 (encCal (calAt h i))), (14, .bool (allTo (fun j => !(j != i && !m.testBit j && fst (calAt h j) (calAt h i))) j)), (72, cals g h), (73, .int h.length), (74, .int j)] [(.b 0, searchOb k [] ff (cals g h) (.b 1)), (.b 1, .map (encD d'))]) (fun j => j ≤ h.length) (fun j => h.length - j) ?_ ?_
                · refine ⟨0, ?_, ?_⟩
                  · exact Nat.zero_le _
                  · refine Ent.mk hT [(.s 13 0, 1)] ⟨⟨_, rfl, Nat.le_refl _⟩, trivial⟩ ⟨⟨rfl, _, rfl, by first | exact conv_eq rfl | (refine conv_eq ?_; rw [wrap_id (by omega) (by omega)]; simp; done) | (refine conv_eq ?_; simp; done)⟩, ⟨rfl, _, rfl, by first | exact conv_eq rfl | (refine conv_eq ?_; rw [wrap_id (by omega) (by omega)]; simp; done) | (refine conv_eq ?_; simp; done)⟩, ⟨rfl, _, rfl, by first | exact conv_eq rfl | (refine conv_eq ?_; rw [wrap_id (by omega) (by omega)]; simp; done) | (refine conv_eq ?_; simp; done)⟩, ⟨rfl, _, rfl, by first | exact conv_eq rfl | (refine conv_eq ?_; rw [wrap_id (by omega) (by omega)]; simp; done) | (refine conv_eq ?_; simp; done)⟩, ⟨rfl, _, rfl, by first | exact conv_eq rfl | (refine conv_eq ?_; rw [wrap_id (by omega) (by omega)]; simp; done) | (refine conv_eq ?_; simp; done)⟩, ⟨rfl, _, rfl, by first | exact conv_eq rfl | (refine conv_eq ?_; rw [wrap_id (by omega) (by omega)]; simp; done) | (refine conv_eq ?_; simp; done)⟩, ⟨rfl, _, rfl, by first | exact conv_eq rfl | (refine conv_eq ?_; rw [wrap_id (by omega) (by omega)]; simp; done) | (refine conv_eq ?_; simp; done)⟩, ⟨rfl, _, rfl, by first | exact conv_eq rfl | (refine conv_eq ?_; rw [wrap_id (by omega) (by omega)]; simp; done) | (refine conv_eq ?_; simp; done)⟩, ⟨rfl, _, rfl, conv_rpe rfl rfl (Nat.lt_succ_self 0) rfl rfl rfl⟩, ⟨rfl, _, rfl, by first | exact conv_eq rfl | (refine conv_eq ?_; rw [wrap_id (by omega) (by omega)]; simp; done) | (refine conv_eq ?_; simp; done)⟩, ⟨rfl, _, rfl, by first | exact conv_eq rfl | (refine conv_eq ?_; rw [wrap_id (by omega) (by omega)]; simp; done) | (refine conv_eq ?_; simp; done)⟩, ⟨rfl, _, rfl, by first | exact conv_eq rfl | (refine conv_eq ?_; rw [wrap_id (by omega) (by omega)]; simp; done) | (refine conv_eq ?_; simp; done)⟩, ⟨rfl, _, rfl, by first | exact conv_eq rfl | (refine conv_eq ?_; rw [wrap_id (by omega) (by omega)]; simp; done) | (refine conv_eq ?_; simp; done)⟩, trivial⟩ ⟨⟨fun _ _ => rfl, .inl ⟨_, rfl, _, _, rfl, Nat.le_refl _, Nat.zero_le _, Nat.zero_le _, fun q hq => conv_eq rfl⟩⟩, ⟨okO_D _ _, .inl ⟨_, rfl, .inl rfl⟩⟩, trivial⟩ rfl
                · rintro j hj
                  refine WP.seq ?_
                  refine WP.reg hT hE [] rfl ?_ ?_
                  · first | trivial | (simp [holdsC, under, slOk, slB, capEq] <;> grind)
                  refine WP.seq ?_
                  refine WP.cond rfl (fun h18 => ?_) (fun h18 => ?_)
                  · have hjl : j < h.length := by simpa using h18
                    refine WP.skip ?_
                    refine WP.seq ?_
                    refine WP.block ?_
                    refine WP.seq ?_
                    refine WP.reg hT hE [] rfl ?_ ?_
                    · first | trivial | (simp [holdsC, under, slOk, slB, capEq] <;> grind)
                    refine WP.drw hT hE hM [CG.pure (.bool (!m.testBit j)), CG.pure (.bool (fst (calAt h j) (calAt h i)))] rfl ?_ ?_
                    · have ho1 := on1_ac m j x (by omega) (by omega)
                      have ho2 := hff (calAt h j) (calAt h i)
                      simp [holdsC, under, CG.pure]
                      exact ⟨⟨⟨fun _ _ => ho1, fun a b => ⟨a, b⟩⟩, fun _ _ _ => ho2⟩, fun a b c => ⟨a, b, c⟩⟩
                    refine WP.reg hT hE [] rfl ?_ ?_
                    · first | trivial | (simp [holdsC, under, slOk, slB, capEq] <;> grind)
                    refine ⟨j + 1, ?_, ?_, ?_⟩
                    · exact hjl
                    · refine Ent.mk hT [] trivial ⟨⟨rfl, _, rfl, by first | exact conv_eq rfl | (refine conv_eq ?_; rw [wrap_id (by omega) (by omega)]; simp; done) | (refine conv_eq ?_; simp; done)⟩, ⟨rfl, _, rfl, by first | exact conv_eq rfl | (refine conv_eq ?_; rw [wrap_id (by omega) (by omega)]; simp; done) | (refine conv_eq ?_; simp; done)⟩, ⟨rfl, _, rfl, by first | exact conv_eq rfl | (refine conv_eq ?_; rw [wrap_id (by omega) (by omega)]; simp; done) | (refine conv_eq ?_; simp; done)⟩, ⟨rfl, _, rfl, by first | exact conv_eq rfl | (refine conv_eq ?_; rw [wrap_id (by omega) (by omega)]; simp; done) | (refine conv_eq ?_; simp; done)⟩, ⟨rfl, _, rfl, by first | exact conv_eq rfl | (refine conv_eq ?_; rw [wrap_id (by omega) (by omega)]; simp; done) | (refine conv_eq ?_; simp; done)⟩, ⟨rfl, _, rfl, by first | exact conv_eq rfl | (refine conv_eq ?_; rw [wrap_id (by omega) (by omega)]; simp; done) | (refine conv_eq ?_; simp; done)⟩, ⟨rfl, _, rfl, by first | exact conv_eq rfl | (refine conv_eq ?_; rw [wrap_id (by omega) (by omega)]; simp; done) | (refine conv_eq ?_; simp; done)⟩, ⟨rfl, _, rfl, by first | exact conv_eq rfl | (refine conv_eq ?_; rw [wrap_id (by omega) (by omega)]; simp; done) | (refine conv_eq ?_; simp; done)⟩, ⟨rfl, _, rfl, by first | exact conv_eq rfl | (refine conv_eq ?_; rw [wrap_id (by omega) (by omega)]; simp; done) | (refine conv_eq ?_; simp; done)⟩, ⟨rfl, _, rfl, ?_⟩, ⟨rfl, _, rfl, by first | exact conv_eq rfl | (refine conv_eq ?_; rw [wrap_id (by omega) (by omega)]; simp; done) | (refine conv_eq ?_; simp; done)⟩, ⟨rfl, _, rfl, by first | exact conv_eq rfl | (refine conv_eq ?_; rw [wrap_id (by omega) (by omega)]; simp; done) | (refine conv_eq ?_; simp; done)⟩, ⟨rfl, _, rfl, by first | exact conv_eq rfl | (refine conv_eq ?_; rw [wrap_id (by omega) (by omega)]; simp; done) | (refine conv_eq ?_; simp; done)⟩, trivial⟩ ⟨⟨fun _ _ => rfl, .inl ⟨_, rfl, _, _, rfl, Nat.le_refl _, Nat.zero_le _, Nat.zero_le _, fun q hq => conv_eq rfl⟩⟩, ⟨okO_D _ _, .inl ⟨_, rfl, .inl rfl⟩⟩, trivial⟩ rfl
                      · refine conv_eq ?_
                        simp only [allTo, bor, band]
                        have e : ((j : Int) != (i : Int)) = (j != i) := by rw [Bool.eq_iff_iff]; simp; omega
                        rw [e]
                    · (try simp only []); first | omega | grind
                  · have hjl : j = h.length := by simp at h18; omega
                    subst hjl
                    refine WP.exit ?_
                    refine WP.seq ?_
                    refine WP.drw hT hE hM [CG.pure (encOut (doF k x (calAt h i)))] rfl ?_ ?_
                    · have ho1 := do_ac hk (x := x) (c := calAt h i) hv (okX_pre hx hil hb)
                      rw [hcaps] at ho1
                      simp [holdsC, under, CG.pure]
                      exact ho1
                    refine WP.seq ?_
                    refine WP.seq ?_
                    refine WP.reg hT hE [] rfl ?_ ?_
                    · first | trivial | (simp [holdsC, under, slOk, slB, capEq] <;> grind)
                    refine WP.cond rfl (fun h23 => ?_) (fun h23 => ?_)
                    · have hnn : notNext k fst h m i x = true := by simp only [bor, band] at h23; exact h23
                      simp only [tryF, hb, hnn, if_true, Bool.false_eq_true, if_false] at htry
                      refine WP.exit ?_
                      refine WP.reg hT hE [] rfl ?_ ?_
                      · first | trivial | (simp [holdsC, under, slOk, slB, capEq] <;> grind)
                      refine ⟨(i + 1, d'), ?_, ?_, ?_⟩
                      · exact ⟨hil, hd', htry⟩
                      · refine Ent.mk hT [] trivial ⟨⟨rfl, _, rfl, by first | exact conv_eq rfl | (refine conv_eq ?_; rw [wrap_id (by omega) (by omega)]; simp; done) | (refine conv_eq ?_; simp; done)⟩, ⟨rfl, _, rfl, by first | exact conv_eq rfl | (refine conv_eq ?_; rw [wrap_id (by omega) (by omega)]; simp; done) | (refine conv_eq ?_; simp; done)⟩, ⟨rfl, _, rfl, by first | exact conv_eq rfl | (refine conv_eq ?_; rw [wrap_id (by omega) (by omega)]; simp; done) | (refine conv_eq ?_; simp; done)⟩, ⟨rfl, _, rfl, by first | exact conv_eq rfl | (refine conv_eq ?_; rw [wrap_id (by omega) (by omega)]; simp; done) | (refine conv_eq ?_; simp; done)⟩, ⟨rfl, _, rfl, by first | exact conv_eq rfl | (refine conv_eq ?_; rw [wrap_id (by omega) (by omega)]; simp; done) | (refine conv_eq ?_; simp; done)⟩, ⟨rfl, _, rfl, by first | exact conv_eq rfl | (refine conv_eq ?_; rw [wrap_id (by omega) (by omega)]; simp; done) | (refine conv_eq ?_; simp; done)⟩, ⟨rfl, _, rfl, by first | exact conv_eq rfl | (refine conv_eq ?_; rw [wrap_id (by omega) (by omega)]; simp; done) | (refine conv_eq ?_; simp; done)⟩, trivial⟩ ⟨⟨fun _ _ => rfl, .inl ⟨_, rfl, _, _, rfl, Nat.le_refl _, Nat.zero_le _, Nat.zero_le _, fun q hq => conv_eq rfl⟩⟩, ⟨okO_D _ _, .inl ⟨_, rfl, .inl rfl⟩⟩, trivial⟩ rfl
                      · (try simp only []); first | omega | grind
                    · have hnn : notNext k fst h m i x = false := by simp only [bor, band] at h23; exact h23
                      have hset := opens_set hil hb
                      have hih := ih d' (m ||| 1 <<< i) (doF k x (calAt h i)).1 false (o ++ [(i : Int)]) ⟨hd', okX_step hx hil hb, by omega, set_lt hm (by omega), by simp; omega⟩
                      have hd2 := onF_ok (k := k) (fst := fst) (h := h) n d' (m ||| 1 <<< i) (doF k x (calAt h i)).1 (o ++ [(i : Int)]) hd' (doF_len hv)
                      generalize hrr : onF k fst h n d' (m ||| 1 <<< i) (doF k x (calAt h i)).1 (o ++ [(i : Int)]) = rr at hih hd2
                      refine WP.skip ?_
                      refine WP.seq ?_
                      refine WP.drw hT hE hM [recG k [] ff (cals g h) [Id.b 0, Id.b 1] [] rr] rfl ?_ ?_
                      · simp only [holdsC, under, recG]
                        refine ⟨⟨⟨⟨by omega, trivial⟩, by simp [slOk, slB], by simp [capEq]⟩, Nat.zero_lt_one, ?_⟩, ⟨trivial, fun j hj => ?_⟩, ?_, ?_, ?_⟩
                        · show (((o.length : Int) - 0).toNat + 1) * 8 ≤ 140737488355328
                          omega
                        · have e := ord_app (o := o) (i := (i : Int)) (j := j) (by simp [slB] at hj; omega)
                          refine (congrArg noIds e).trans rfl
                        · exact ⟨fun _ _ => rfl, okO_D _ _, trivial⟩
                        · exact ⟨fun _ _ => rfl, okO_D _ _, trivial⟩
                        · simp only [List.map, renO_D, renO_C, List.append, renO_search (H := cals g h) (hren _) rfl (show sig [Id.b 0, Id.b 1] 0 (.b 1) = .b 1 from rfl)]
                          refine AC.conv hT hih ⟨_, _, rfl, conv_eq rfl, _, _, rfl, conv_eq ?_, _, _, rfl, ?_, rfl⟩
                          · show ren _ (((stru 102 [.int 0, stru 78 [.int 0, .agg 76 8 fun _ => .int 0]]).put [0] (.int (IntKind.i64.wrap ↑(BitVec.ofInt IntKind.i64.bits (m : Int) ||| BitVec.ofInt IntKind.i64.bits (IntKind.i64.wrap (1 * 2 ^ min ((i : Int).toNat) IntKind.i64.bits))).toNat))).put [1] (encCt (doF k x (calAt h i)).1)) = _
                            rw [key_built, set_bits hm (by omega)]
                            exact ren_key _ (m ||| 1 <<< i, (doF k x (calAt h i)).1)
                          · exact ⟨false, fun j => .int ((o ++ [(i : Int)]).getD j 0), by simp [ints, slB], fun h => (by cases h), fun j hj => conv_eq (ord_app (o := o) (i := (i : Int)) (j := j) (by simp [slB] at hj; omega))⟩
                      refine WP.seq ?_
                      refine WP.reg hT hE [] rfl ?_ ?_
                      · first | trivial | (simp [holdsC, under, slOk, slB, capEq] <;> grind)
                      refine WP.cond rfl (fun h25 => ?_) (fun h25 => ?_)
                      · have hres : rr.1.2 = true := h25
                        refine WP.seq ?_
                        refine WP.reg hT hE [] rfl ?_ ?_
                        · first | trivial | (simp [holdsC, under, slOk, slB, capEq] <;> grind)
                        refine WP.ret ?_
                        change Fin _ _ _ _ _ _ _ _
                        have e : onF k fst h (n + 1) d m x o = ((rr.1.1, true), rr.2) := by
                          have e1 : tryF k fst h (onF k fst h n) m x o (List.range' 0 h.length) d = (some rr.1.1, rr.2) := by
                            rw [htry]
                            simp only [tryF, hb, hnn, hrr, hres, Bool.false_eq_true, if_false, if_true]
                          simp [onF, hin, hwh, e1]
                        rw [e]
                        exact fin_on (by rfl) (by exact conv_eq rfl) (by rfl) (fun _ _ => rfl) (by exact ⟨_, rfl, rfl, rfl, rfl, ren_sget (hren _) (by rfl) (by rfl)⟩) (by exact congrArg some (renO_D _ _)) 
                      · have hres : rr.1.2 = false := h25
                        simp only [tryF, hb, hnn, hrr, hres, Bool.false_eq_true, if_false] at htry
                        refine WP.skip ?_
                        refine WP.reg hT hE [] rfl ?_ ?_
                        · first | trivial | (simp [holdsC, under, slOk, slB, capEq] <;> grind)
                        refine ⟨(i + 1, rr.2), ?_, ?_, ?_⟩
                        · exact ⟨hil, hd2, htry⟩
                        · refine Ent.mk hT [] trivial ⟨⟨rfl, _, rfl, by first | exact conv_eq rfl | (refine conv_eq ?_; rw [wrap_id (by omega) (by omega)]; simp; done) | (refine conv_eq ?_; simp; done)⟩, ⟨rfl, _, rfl, by first | exact conv_eq rfl | (refine conv_eq ?_; rw [wrap_id (by omega) (by omega)]; simp; done) | (refine conv_eq ?_; simp; done)⟩, ⟨rfl, _, rfl, by first | exact conv_eq rfl | (refine conv_eq ?_; rw [wrap_id (by omega) (by omega)]; simp; done) | (refine conv_eq ?_; simp; done)⟩, ⟨rfl, _, rfl, by first | exact conv_eq rfl | (refine conv_eq ?_; rw [wrap_id (by omega) (by omega)]; simp; done) | (refine conv_eq ?_; simp; done)⟩, ⟨rfl, _, rfl, by first | exact conv_eq rfl | (refine conv_eq ?_; rw [wrap_id (by omega) (by omega)]; simp; done) | (refine conv_eq ?_; simp; done)⟩, ⟨rfl, _, rfl, by first | exact conv_eq rfl | (refine conv_eq ?_; rw [wrap_id (by omega) (by omega)]; simp; done) | (refine conv_eq ?_; simp; done)⟩, ⟨rfl, _, rfl, by first | exact conv_eq rfl | (refine conv_eq ?_; rw [wrap_id (by omega) (by omega)]; simp; done) | (refine conv_eq ?_; simp; done)⟩, trivial⟩ ⟨⟨fun _ _ => rfl, .inl ⟨_, rfl, _, _, rfl, Nat.le_refl _, Nat.zero_le _, Nat.zero_le _, fun q hq => conv_eq (ren_sget (hren _) (by rfl) (by rfl))⟩⟩, ⟨okO_D _ _, .inl ⟨_, rfl, .inl (renO_D _ _).symm⟩⟩, trivial⟩ rfl
                        · (try simp only []); first | omega | grind
            · have hil : i = h.length := by simp at h13; omega
              subst hil
              refine WP.exit ?_
              refine WP.seq ?_
              refine WP.drw hT hE hM [⟨true, [], .bad, [.map (encD (putK d' (m, x) ()))]⟩] rfl ?_ ?_
              · exact ⟨by simp, put_D (p := (m, x)) hd' hv⟩
              refine WP.seq ?_
              refine WP.reg hT hE [] rfl ?_ ?_
              · first | trivial | (simp [holdsC, under, slOk, slB, capEq] <;> grind)
              refine WP.ret ?_
              change Fin _ _ _ _ _ _ _ _
              have e : onF k fst h (n + 1) d m x o = (([], false), putK d' (m, x) ()) := by
                have e1 : tryF k fst h (onF k fst h n) m x o (List.range' 0 h.length) d = (none, d') := by
                  rw [htry, Nat.sub_self]
                  rfl
                simp [onF, hin, hwh, e1]
              rw [e]
              exact fin_on (by rfl) (by exact conv_nil_row (by decide)) (by rfl) (fun _ _ => rfl) (by exact ⟨_, rfl, rfl, rfl, rfl, rfl⟩) (by rfl) 
theorem on_step2 (k : Int) (hk : k = 1 ∨ k = 2 ∨ k = 3 ∨ k = 4) (cb : Bool) (hcaps : capsOf k = [.rp 4 (.bool cb)]) (ff : Nat) (fst : Cal → Cal → Bool) (hff : ∀ a b, AC Try.prog T tysN ff [encCal a, encCal b] [] (.bool (fst a b)) []) (g : Bool) (h : List Cal) (hl : h.length ≤ 8) (n : Nat) (ih : ∀ (d : Dead) (m : Nat) (x : Ct) (f : Bool) (o : List Int), OnOK k h n d m x o → AC Try.prog T tysN 44 [.ptr (.b 0) 1 0 [], encKey m x, ints f o] [searchOb k [.rp 4 (.bool cb)] ff (cals g h) (.b 1), .map (encD d)] (encRes (onF k fst h n d m x o).1) [searchOb k [.rp 4 (.bool cb)] ff (cals g h) (.b 1), .map (encD (onF k fst h n d m x o).2)]) (d : Dead) (m : Nat) (x : Ct) (f : Bool) (o : List Int) (hok : OnOK k h (n + 1) d m x o) : AC Try.prog T tysN 44 [.ptr (.b 0) 1 0 [], encKey m x, ints f o] [searchOb k [.rp 4 (.bool cb)] ff (cals g h) (.b 1), .map (encD d)] (encRes (onF k fst h (n + 1) d m x o).1) [searchOb k [.rp 4 (.bool cb)] ff (cals g h) (.b 1), .map (encD (onF k fst h (n + 1) d m x o).2)] := by
  refine AC_intro hT Try.func44 rfl rfl (Nat.le_of_ble_eq_true rfl) ?_
  obtain ⟨hd, hx, hop, hm, ho⟩ := hok
  have hv := hx.1
  have hcl : CVL (Fz (fun _ => none) (fun _ => 0) T) [] [] := rfl
  have hren : ∀ σ : Id → Id, renL σ [.rp 4 (.bool cb)] = [.rp 4 (.bool cb)] := fun σ => rfl
  refine WP.seq ?_
  refine WP.reg hT hE [] rfl ?_ ?_
  · first | trivial | (simp [holdsC, under, slOk, slB, capEq] <;> grind)
  refine WP.seq ?_
  refine WP.seq ?_
  refine WP.drw hT hE hM [CG.pure (.int (if inD d (m, x) then 1 else 0))] rfl ?_ ?_
  · exact ⟨by simp, look_D (p := (m, x)) hd hv⟩
  refine WP.cond rfl (fun h1 => ?_) (fun h1 => ?_)
  · have hin : inD d (m, x) = true := by simpa using h1
    refine WP.seq ?_
    refine WP.reg hT hE [] rfl ?_ ?_
    · first | trivial | (simp [holdsC, under, slOk, slB, capEq] <;> grind)
    refine WP.ret ?_
    change Fin _ _ _ _ _ _ _ _
    have e : onF k fst h (n + 1) d m x o = (([], false), d) := by simp [onF, hin]
    rw [e]
    exact fin_on (by rfl) (by exact conv_nil_row (by decide)) (by rfl) (fun _ _ => rfl) (by exact ⟨_, rfl, rfl, rfl, rfl, rfl⟩) (by rfl) 
  · have hin : inD d (m, x) = false := by simpa using h1
    refine WP.skip ?_
    refine WP.seq ?_
    refine WP.ent (st' := mkSt [(0, .ptr (.b 0) 1 0 []), (2, ints f o), (4, .rp 102 (encKey m x))] [(.b 0, searchOb k [.rp 4 (.bool cb)] ff (cals g h) (.b 1)), (.b 1, .map (encD d))]) ?_ ?_
    · refine Ent.mk hT [(.s 4 0, 1)] ⟨⟨_, rfl, Nat.le_refl _⟩, trivial⟩ ⟨⟨rfl, _, rfl, by first | exact conv_eq rfl | (refine conv_eq ?_; rw [wrap_id (by omega) (by omega)]; simp; done) | (refine conv_eq ?_; simp; done)⟩, ⟨rfl, _, rfl, by first | exact conv_eq rfl | (refine conv_eq ?_; rw [wrap_id (by omega) (by omega)]; simp; done) | (refine conv_eq ?_; simp; done)⟩, ⟨rfl, _, rfl, conv_rpe rfl rfl (Nat.lt_succ_self 0) rfl rfl rfl⟩, trivial⟩ ⟨⟨fun _ _ => rfl, .inl ⟨_, rfl, _, _, rfl, Nat.le_refl _, Nat.zero_le _, Nat.zero_le _, fun q hq => conv_eq rfl⟩⟩, ⟨okO_D _ _, .inl ⟨_, rfl, .inl rfl⟩⟩, trivial⟩ rfl
    refine WP.reg hT hE [] rfl ?_ ?_
    · first | trivial | (simp [holdsC, under, slOk, slB, capEq] <;> grind)
    refine WP.seq ?_
    refine WP.reg hT hE [] rfl ?_ ?_
    · first | trivial | (simp [holdsC, under, slOk, slB, capEq] <;> grind)
    refine WP.seq ?_
    refine WP.seq ?_
    refine WP.reg hT hE [] rfl ?_ ?_
    · first | trivial | (simp [holdsC, under, slOk, slB, capEq] <;> grind)
    refine WP.block ?_
    refine WP.loop (α := Nat) (fun i => mkSt [(0, .ptr (.b 0) 1 0 []), (2, ints f o), (4, .rp 102 (encKey m x)), (8, .clo 60 [.rp 102 (encKey m x)]), (9, .bool (allTo (fun i => (calAt h i).fin == -1 || !(!m.testBit i)) i)), (33, cals g h), (34, .int h.length), (35, .int i)] [(.b 0, searchOb k [.rp 4 (.bool cb)] ff (cals g h) (.b 1)), (.b 1, .map (encD d))]) (fun i => i ≤ h.length) (fun i => h.length - i) ?_ ?_
    · refine ⟨0, ?_, ?_⟩
      · exact Nat.zero_le _
      · refine Ent.mk hT [] trivial ⟨⟨rfl, _, rfl, by first | exact conv_eq rfl | (refine conv_eq ?_; rw [wrap_id (by omega) (by omega)]; simp; done) | (refine conv_eq ?_; simp; done)⟩, ⟨rfl, _, rfl, by first | exact conv_eq rfl | (refine conv_eq ?_; rw [wrap_id (by omega) (by omega)]; simp; done) | (refine conv_eq ?_; simp; done)⟩, ⟨rfl, _, rfl, by first | exact conv_eq rfl | (refine conv_eq ?_; rw [wrap_id (by omega) (by omega)]; simp; done) | (refine conv_eq ?_; simp; done)⟩, ⟨rfl, _, rfl, by first | exact conv_eq rfl | (refine conv_eq ?_; rw [wrap_id (by omega) (by omega)]; simp; done) | (refine conv_eq ?_; simp; done)⟩, ⟨rfl, _, rfl, by first | exact conv_eq rfl | (refine conv_eq ?_; rw [wrap_id (by omega) (by omega)]; simp; done) | (refine conv_eq ?_; simp; done)⟩, ⟨rfl, _, rfl, by first | exact conv_eq rfl | (refine conv_eq ?_; rw [wrap_id (by omega) (by omega)]; simp; done) | (refine conv_eq ?_; simp; done)⟩, ⟨rfl, _, rfl, by first | exact conv_eq rfl | (refine conv_eq ?_; rw [wrap_id (by omega) (by omega)]; simp; done) | (refine conv_eq ?_; simp; done)⟩, ⟨rfl, _, rfl, by first | exact conv_eq rfl | (refine conv_eq ?_; rw [wrap_id (by omega) (by omega)]; simp; done) | (refine conv_eq ?_; simp; done)⟩, trivial⟩ ⟨⟨fun _ _ => rfl, .inl ⟨_, rfl, _, _, rfl, Nat.le_refl _, Nat.zero_le _, Nat.zero_le _, fun q hq => conv_eq rfl⟩⟩, ⟨okO_D _ _, .inl ⟨_, rfl, .inl rfl⟩⟩, trivial⟩ rfl
    · rintro i hi
      refine WP.seq ?_
      refine WP.reg hT hE [] rfl ?_ ?_
      · first | trivial | (simp [holdsC, under, slOk, slB, capEq] <;> grind)
      refine WP.seq ?_
      refine WP.cond rfl (fun h6 => ?_) (fun h6 => ?_)
      · have hil : i < h.length := by simpa using h6
        refine WP.skip ?_
        refine WP.seq ?_
        refine WP.block ?_
        refine WP.seq ?_
        refine WP.reg hT hE [] rfl ?_ ?_
        · first | trivial | (simp [holdsC, under, slOk, slB, capEq] <;> grind)
        refine WP.reg hT hE [CG.pure (.bool (!m.testBit i))] rfl ?_ ?_
        · have ho1 := on1_ac m i x (by omega) (by omega)
          simp [holdsC, under, CG.pure]
          exact ⟨fun _ _ => ho1, by grind⟩
        refine WP.reg hT hE [] rfl ?_ ?_
        · first | trivial | (simp [holdsC, under, slOk, slB, capEq] <;> grind)
        refine ⟨i + 1, ?_, ?_, ?_⟩
        · exact hil
        · refine Ent.mk hT [] trivial ⟨⟨rfl, _, rfl, by first | exact conv_eq rfl | (refine conv_eq ?_; rw [wrap_id (by omega) (by omega)]; simp; done) | (refine conv_eq ?_; simp; done)⟩, ⟨rfl, _, rfl, by first | exact conv_eq rfl | (refine conv_eq ?_; rw [wrap_id (by omega) (by omega)]; simp; done) | (refine conv_eq ?_; simp; done)⟩, ⟨rfl, _, rfl, by first | exact conv_eq rfl | (refine conv_eq ?_; rw [wrap_id (by omega) (by omega)]; simp; done) | (refine conv_eq ?_; simp; done)⟩, ⟨rfl, _, rfl, by first | exact conv_eq rfl | (refine conv_eq ?_; rw [wrap_id (by omega) (by omega)]; simp; done) | (refine conv_eq ?_; simp; done)⟩, ⟨rfl, _, rfl, ?_⟩, ⟨rfl, _, rfl, by first | exact conv_eq rfl | (refine conv_eq ?_; rw [wrap_id (by omega) (by omega)]; simp; done) | (refine conv_eq ?_; simp; done)⟩, ⟨rfl, _, rfl, by first | exact conv_eq rfl | (refine conv_eq ?_; rw [wrap_id (by omega) (by omega)]; simp; done) | (refine conv_eq ?_; simp; done)⟩, ⟨rfl, _, rfl, by first | exact conv_eq rfl | (refine conv_eq ?_; rw [wrap_id (by omega) (by omega)]; simp; done) | (refine conv_eq ?_; simp; done)⟩, trivial⟩ ⟨⟨fun _ _ => rfl, .inl ⟨_, rfl, _, _, rfl, Nat.le_refl _, Nat.zero_le _, Nat.zero_le _, fun q hq => conv_eq rfl⟩⟩, ⟨okO_D _ _, .inl ⟨_, rfl, .inl rfl⟩⟩, trivial⟩ rfl
          · refine conv_eq ?_
            simp only [allTo, bor, band]
            rfl
        · (try simp only []); first | omega | grind
      · have hil : i = h.length := by simp at h6; omega
        subst hil
        refine WP.exit ?_
        refine WP.seq ?_
        refine WP.seq ?_
        refine WP.reg hT hE [] rfl ?_ ?_
        · first | trivial | (simp [holdsC, under, slOk, slB, capEq] <;> grind)
        refine WP.cond rfl (fun h10 => ?_) (fun h10 => ?_)
        · have hwh : wholeB h m = true := h10
          refine WP.seq ?_
          refine WP.reg hT hE [] rfl ?_ ?_
          · first | trivial | (simp [holdsC, under, slOk, slB, capEq] <;> grind)
          refine WP.ret ?_
          change Fin _ _ _ _ _ _ _ _
          have e : onF k fst h (n + 1) d m x o = ((o, true), d) := by simp [onF, hin, hwh]
          rw [e]
          exact fin_on (by rfl) (by exact ⟨_, _, rfl, fun h => (by cases h), fun j hj => conv_eq rfl⟩) (by rfl) (fun _ _ => rfl) (by exact ⟨_, rfl, rfl, rfl, rfl, rfl⟩) (by rfl) 
        · have hwh : wholeB h m = false := h10
          refine WP.skip ?_
          refine WP.seq ?_
          refine WP.seq ?_
          refine WP.reg hT hE [] rfl ?_ ?_
          · first | trivial | (simp [holdsC, under, slOk, slB, capEq] <;> grind)
          refine WP.block ?_
          refine WP.loop (α := Nat × Dead) (fun (⟨i, d'⟩ : Nat × Dead) => mkSt [(0, .ptr (.b 0) 1 0 []), (2, ints f o), (4, .rp 102 (encKey m x)), (8, .clo 60 [.rp 102 (encKey m x)]), (58, cals g h), (59, .int h.length), (60, .int i)] [(.b 0, searchOb k [.rp 4 (.bool cb)] ff (cals g h) (.b 1)), (.b 1, .map (encD d'))]) (fun (⟨i, d'⟩ : Nat × Dead) => i ≤ h.length ∧ okD d' ∧ tryF k fst h (onF k fst h n) m x o (List.range' 0 h.length) d = tryF k fst h (onF k fst h n) m x o (List.range' i (h.length - i)) d') (fun (⟨i, d'⟩ : Nat × Dead) => h.length - i) ?_ ?_
          · refine ⟨(0, d), ?_, ?_⟩
            · exact ⟨Nat.zero_le _, hd, rfl⟩
            · refine Ent.mk hT [] trivial ⟨⟨rfl, _, rfl, by first | exact conv_eq rfl | (refine conv_eq ?_; rw [wrap_id (by omega) (by omega)]; simp; done) | (refine conv_eq ?_; simp; done)⟩, ⟨rfl, _, rfl, by first | exact conv_eq rfl | (refine conv_eq ?_; rw [wrap_id (by omega) (by omega)]; simp; done) | (refine conv_eq ?_; simp; done)⟩, ⟨rfl, _, rfl, by first | exact conv_eq rfl | (refine conv_eq ?_; rw [wrap_id (by omega) (by omega)]; simp; done) | (refine conv_eq ?_; simp; done)⟩, ⟨rfl, _, rfl, by first | exact conv_eq rfl | (refine conv_eq ?_; rw [wrap_id (by omega) (by omega)]; simp; done) | (refine conv_eq ?_; simp; done)⟩, ⟨rfl, _, rfl, by first | exact conv_eq rfl | (refine conv_eq ?_; rw [wrap_id (by omega) (by omega)]; simp; done) | (refine conv_eq ?_; simp; done)⟩, ⟨rfl, _, rfl, by first | exact conv_eq rfl | (refine conv_eq ?_; rw [wrap_id (by omega) (by omega)]; simp; done) | (refine conv_eq ?_; simp; done)⟩, ⟨rfl, _, rfl, by first | exact conv_eq rfl | (refine conv_eq ?_; rw [wrap_id (by omega) (by omega)]; simp; done) | (refine conv_eq ?_; simp; done)⟩, trivial⟩ ⟨⟨fun _ _ => rfl, .inl ⟨_, rfl, _, _, rfl, Nat.le_refl _, Nat.zero_le _, Nat.zero_le _, fun q hq => conv_eq rfl⟩⟩, ⟨okO_D _ _, .inl ⟨_, rfl, .inl rfl⟩⟩, trivial⟩ rfl
          · rintro ⟨i, d'⟩ ⟨hi, hd', htry⟩
            refine WP.seq ?_
            refine WP.reg hT hE [] rfl ?_ ?_
            · first | trivial | (simp [holdsC, under, slOk, slB, capEq] <;> grind)
            refine WP.seq ?_
            refine WP.cond rfl (fun h13 => ?_) (fun h13 => ?_)
            · have hil : i < h.length := by simpa using h13
              rw [show h.length - i = (h.length - (i + 1)) + 1 by omega, List.range'_succ] at htry
              refine WP.skip ?_
              refine WP.seq ?_
              refine WP.block ?_
              refine WP.seq ?_
              refine WP.reg hT hE [] rfl ?_ ?_
              · first | trivial | (simp [holdsC, under, slOk, slB, capEq] <;> grind)
              refine WP.seq ?_
              refine WP.seq ?_
              refine WP.reg hT hE [CG.pure (.bool (!m.testBit i))] rfl ?_ ?_
              · have ho1 := on1_ac m i x (by omega) (by omega)
                simp [holdsC, under, CG.pure]
                exact ho1
              refine WP.cond rfl (fun h15 => ?_) (fun h15 => ?_)
              · have hb : m.testBit i = true := by simpa using h15
                simp only [tryF, hb, if_true] at htry
                refine WP.exit ?_
                refine WP.reg hT hE [] rfl ?_ ?_
                · first | trivial | (simp [holdsC, under, slOk, slB, capEq] <;> grind)
                refine ⟨(i + 1, d'), ?_, ?_, ?_⟩
                · exact ⟨hil, hd', htry⟩
                · refine Ent.mk hT [] trivial ⟨⟨rfl, _, rfl, by first | exact conv_eq rfl | (refine conv_eq ?_; rw [wrap_id (by omega) (by omega)]; simp; done) | (refine conv_eq ?_; simp; done)⟩, ⟨rfl, _, rfl, by first | exact conv_eq rfl | (refine conv_eq ?_; rw [wrap_id (by omega) (by omega)]; simp; done) | (refine conv_eq ?_; simp; done)⟩, ⟨rfl, _, rfl, by first | exact conv_eq rfl | (refine conv_eq ?_; rw [wrap_id (by omega) (by omega)]; simp; done) | (refine conv_eq ?_; simp; done)⟩, ⟨rfl, _, rfl, by first | exact conv_eq rfl | (refine conv_eq ?_; rw [wrap_id (by omega) (by omega)]; simp; done) | (refine conv_eq ?_; simp; done)⟩, ⟨rfl, _, rfl, by first | exact conv_eq rfl | (refine conv_eq ?_; rw [wrap_id (by omega) (by omega)]; simp; done) | (refine conv_eq ?_; simp; done)⟩, ⟨rfl, _, rfl, by first | exact conv_eq rfl | (refine conv_eq ?_; rw [wrap_id (by omega) (by omega)]; simp; done) | (refine conv_eq ?_; simp; done)⟩, ⟨rfl, _, rfl, by first | exact conv_eq rfl | (refine conv_eq ?_; rw [wrap_id (by omega) (by omega)]; simp; done) | (refine conv_eq ?_; simp; done)⟩, trivial⟩ ⟨⟨fun _ _ => rfl, .inl ⟨_, rfl, _, _, rfl, Nat.le_refl _, Nat.zero_le _, Nat.zero_le _, fun q hq => conv_eq rfl⟩⟩, ⟨okO_D _ _, .inl ⟨_, rfl, .inl rfl⟩⟩, trivial⟩ rfl
                · (try simp only []); first | omega | grind
              · have hb : m.testBit i = false := by simpa using h15
                refine WP.skip ?_
                refine WP.seq ?_
                refine WP.reg hT hE [] rfl ?_ ?_
                · first | trivial | (simp [holdsC, under, slOk, slB, capEq] <;> grind)
                refine WP.seq ?_
                refine WP.seq ?_
                refine WP.reg hT hE [] rfl ?_ ?_
                · first | trivial | (simp [holdsC, under, slOk, slB, capEq] <;> grind)
                refine WP.block ?_
                refine WP.loop (α := Nat) (fun j => mkSt [(0, .ptr (.b 0) 1 0 []), (2, ints f o), (4, .rp 102 (encKey m x)), (8, .clo 60 [.rp 102 (encKey m x)]), (58, cals g h), (59, .int h.length), (60, .int i), (12, .int i), (13, .rp 30 (encCal (calAt h i))), (14, .bool (allTo (fun j => !(j != i && !m.testBit j && fst (calAt h j) (calAt h i))) j)), (72, cals g h), (73, .int h.length), (74, .int j)] [(.b 0, searchOb k [.rp 4 (.bool cb)] ff (cals g h) (.b 1)), (.b 1, .map (encD d'))]) (fun j => j ≤ h.length) (fun j => h.length - j) ?_ ?_
                · refine ⟨0, ?_, ?_⟩
                  · exact Nat.zero_le _
                  · refine Ent.mk hT [(.s 13 0, 1)] ⟨⟨_, rfl, Nat.le_refl _⟩, trivial⟩ ⟨⟨rfl, _, rfl, by first | exact conv_eq rfl | (refine conv_eq ?_; rw [wrap_id (by omega) (by omega)]; simp; done) | (refine conv_eq ?_; simp; done)⟩, ⟨rfl, _, rfl, by first | exact conv_eq rfl | (refine conv_eq ?_; rw [wrap_id (by omega) (by omega)]; simp; done) | (refine conv_eq ?_; simp; done)⟩, ⟨rfl, _, rfl, by first | exact conv_eq rfl | (refine conv_eq ?_; rw [wrap_id (by omega) (by omega)]; simp; done) | (refine conv_eq ?_; simp; done)⟩, ⟨rfl, _, rfl, by first | exact conv_eq rfl | (refine conv_eq ?_; rw [wrap_id (by omega) (by omega)]; simp; done) | (refine conv_eq ?_; simp; done)⟩, ⟨rfl, _, rfl, by first | exact conv_eq rfl | (refine conv_eq ?_; rw [wrap_id (by omega) (by omega)]; simp; done) | (refine conv_eq ?_; simp; done)⟩, ⟨rfl, _, rfl, by first | exact conv_eq rfl | (refine conv_eq ?_; rw [wrap_id (by omega) (by omega)]; simp; done) | (refine conv_eq ?_; simp; done)⟩, ⟨rfl, _, rfl, by first | exact conv_eq rfl | (refine conv_eq ?_; rw [wrap_id (by omega) (by omega)]; simp; done) | (refine conv_eq ?_; simp; done)⟩, ⟨rfl, _, rfl, by first | exact conv_eq rfl | (refine conv_eq ?_; rw [wrap_id (by omega) (by omega)]; simp; done) | (refine conv_eq ?_; simp; done)⟩, ⟨rfl, _, rfl, conv_rpe rfl rfl (Nat.lt_succ_self 0) rfl rfl rfl⟩, ⟨rfl, _, rfl, by first | exact conv_eq rfl | (refine conv_eq ?_; rw [wrap_id (by omega) (by omega)]; simp; done) | (refine conv_eq ?_; simp; done)⟩, ⟨rfl, _, rfl, by first | exact conv_eq rfl | (refine conv_eq ?_; rw [wrap_id (by omega) (by omega)]; simp; done) | (refine conv_eq ?_; simp; done)⟩, ⟨rfl, _, rfl, by first | exact conv_eq rfl | (refine conv_eq ?_; rw [wrap_id (by omega) (by omega)]; simp; done) | (refine conv_eq ?_; simp; done)⟩, ⟨rfl, _, rfl, by first | exact conv_eq rfl | (refine conv_eq ?_; rw [wrap_id (by omega) (by omega)]; simp; done) | (refine conv_eq ?_; simp; done)⟩, trivial⟩ ⟨⟨fun _ _ => rfl, .inl ⟨_, rfl, _, _, rfl, Nat.le_refl _, Nat.zero_le _, Nat.zero_le _, fun q hq => conv_eq rfl⟩⟩, ⟨okO_D _ _, .inl ⟨_, rfl, .inl rfl⟩⟩, trivial⟩ rfl
                · rintro j hj
                  refine WP.seq ?_
                  refine WP.reg hT hE [] rfl ?_ ?_
                  · first | trivial | (simp [holdsC, under, slOk, slB, capEq] <;> grind)
                  refine WP.seq ?_
                  refine WP.cond rfl (fun h18 => ?_) (fun h18 => ?_)
                  · have hjl : j < h.length := by simpa using h18
                    refine WP.skip ?_
                    refine WP.seq ?_
                    refine WP.block ?_
                    refine WP.seq ?_
                    refine WP.reg hT hE [] rfl ?_ ?_
                    · first | trivial | (simp [holdsC, under, slOk, slB, capEq] <;> grind)
                    refine WP.drw hT hE hM [CG.pure (.bool (!m.testBit j)), CG.pure (.bool (fst (calAt h j) (calAt h i)))] rfl ?_ ?_
                    · have ho1 := on1_ac m j x (by omega) (by omega)
                      have ho2 := hff (calAt h j) (calAt h i)
                      simp [holdsC, under, CG.pure]
                      exact ⟨⟨⟨fun _ _ => ho1, fun a b => ⟨a, b⟩⟩, fun _ _ _ => ho2⟩, fun a b c => ⟨a, b, c⟩⟩
                    refine WP.reg hT hE [] rfl ?_ ?_
                    · first | trivial | (simp [holdsC, under, slOk, slB, capEq] <;> grind)
                    refine ⟨j + 1, ?_, ?_, ?_⟩
                    · exact hjl
                    · refine Ent.mk hT [] trivial ⟨⟨rfl, _, rfl, by first | exact conv_eq rfl | (refine conv_eq ?_; rw [wrap_id (by omega) (by omega)]; simp; done) | (refine conv_eq ?_; simp; done)⟩, ⟨rfl, _, rfl, by first | exact conv_eq rfl | (refine conv_eq ?_; rw [wrap_id (by omega) (by omega)]; simp; done) | (refine conv_eq ?_; simp; done)⟩, ⟨rfl, _, rfl, by first | exact conv_eq rfl | (refine conv_eq ?_; rw [wrap_id (by omega) (by omega)]; simp; done) | (refine conv_eq ?_; simp; done)⟩, ⟨rfl, _, rfl, by first | exact conv_eq rfl | (refine conv_eq ?_; rw [wrap_id (by omega) (by omega)]; simp; done) | (refine conv_eq ?_; simp; done)⟩, ⟨rfl, _, rfl, by first | exact conv_eq rfl | (refine conv_eq ?_; rw [wrap_id (by omega) (by omega)]; simp; done) | (refine conv_eq ?_; simp; done)⟩, ⟨rfl, _, rfl, by first | exact conv_eq rfl | (refine conv_eq ?_; rw [wrap_id (by omega) (by omega)]; simp; done) | (refine conv_eq ?_; simp; done)⟩, ⟨rfl, _, rfl, by first | exact conv_eq rfl | (refine conv_eq ?_; rw [wrap_id (by omega) (by omega)]; simp; done) | (refine conv_eq ?_; simp; done)⟩, ⟨rfl, _, rfl, by first | exact conv_eq rfl | (refine conv_eq ?_; rw [wrap_id (by omega) (by omega)]; simp; done) | (refine conv_eq ?_; simp; done)⟩, ⟨rfl, _, rfl, by first | exact conv_eq rfl | (refine conv_eq ?_; rw [wrap_id (by omega) (by omega)]; simp; done) | (refine conv_eq ?_; simp; done)⟩, ⟨rfl, _, rfl, ?_⟩, ⟨rfl, _, rfl, by first | exact conv_eq rfl | (refine conv_eq ?_; rw [wrap_id (by omega) (by omega)]; simp; done) | (refine conv_eq ?_; simp; done)⟩, ⟨rfl, _, rfl, by first | exact conv_eq rfl | (refine conv_eq ?_; rw [wrap_id (by omega) (by omega)]; simp; done) | (refine conv_eq ?_; simp; done)⟩, ⟨rfl, _, rfl, by first | exact conv_eq rfl | (refine conv_eq ?_; rw [wrap_id (by omega) (by omega)]; simp; done) | (refine conv_eq ?_; simp; done)⟩, trivial⟩ ⟨⟨fun _ _ => rfl, .inl ⟨_, rfl, _, _, rfl, Nat.le_refl _, Nat.zero_le _, Nat.zero_le _, fun q hq => conv_eq rfl⟩⟩, ⟨okO_D _ _, .inl ⟨_, rfl, .inl rfl⟩⟩, trivial⟩ rfl
                      · refine conv_eq ?_
                        simp only [allTo, bor, band]
                        have e : ((j : Int) != (i : Int)) = (j != i) := by rw [Bool.eq_iff_iff]; simp; omega
                        rw [e]
                    · (try simp only []); first | omega | grind
                  · have hjl : j = h.length := by simp at h18; omega
                    subst hjl
                    refine WP.exit ?_
                    refine WP.seq ?_
                    refine WP.drw hT hE hM [CG.pure (encOut (doF k x (calAt h i)))] rfl ?_ ?_
                    · have ho1 := do_ac hk (x := x) (c := calAt h i) hv (okX_pre hx hil hb)
                      rw [hcaps] at ho1
                      simp [holdsC, under, CG.pure]
                      exact ho1
                    refine WP.seq ?_
                    refine WP.seq ?_
                    refine WP.reg hT hE [] rfl ?_ ?_
                    · first | trivial | (simp [holdsC, under, slOk, slB, capEq] <;> grind)
                    refine WP.cond rfl (fun h23 => ?_) (fun h23 => ?_)
                    · have hnn : notNext k fst h m i x = true := by simp only [bor, band] at h23; exact h23
                      simp only [tryF, hb, hnn, if_true, Bool.false_eq_true, if_false] at htry
                      refine WP.exit ?_
                      refine WP.reg hT hE [] rfl ?_ ?_
                      · first | trivial | (simp [holdsC, under, slOk, slB, capEq] <;> grind)
                      refine ⟨(i + 1, d'), ?_, ?_, ?_⟩
                      · exact ⟨hil, hd', htry⟩
                      · refine Ent.mk hT [] trivial ⟨⟨rfl, _, rfl, by first | exact conv_eq rfl | (refine conv_eq ?_; rw [wrap_id (by omega) (by omega)]; simp; done) | (refine conv_eq ?_; simp; done)⟩, ⟨rfl, _, rfl, by first | exact conv_eq rfl | (refine conv_eq ?_; rw [wrap_id (by omega) (by omega)]; simp; done) | (refine conv_eq ?_; simp; done)⟩, ⟨rfl, _, rfl, by first | exact conv_eq rfl | (refine conv_eq ?_; rw [wrap_id (by omega) (by omega)]; simp; done) | (refine conv_eq ?_; simp; done)⟩, ⟨rfl, _, rfl, by first | exact conv_eq rfl | (refine conv_eq ?_; rw [wrap_id (by omega) (by omega)]; simp; done) | (refine conv_eq ?_; simp; done)⟩, ⟨rfl, _, rfl, by first | exact conv_eq rfl | (refine conv_eq ?_; rw [wrap_id (by omega) (by omega)]; simp; done) | (refine conv_eq ?_; simp; done)⟩, ⟨rfl, _, rfl, by first | exact conv_eq rfl | (refine conv_eq ?_; rw [wrap_id (by omega) (by omega)]; simp; done) | (refine conv_eq ?_; simp; done)⟩, ⟨rfl, _, rfl, by first | exact conv_eq rfl | (refine conv_eq ?_; rw [wrap_id (by omega) (by omega)]; simp; done) | (refine conv_eq ?_; simp; done)⟩, trivial⟩ ⟨⟨fun _ _ => rfl, .inl ⟨_, rfl, _, _, rfl, Nat.le_refl _, Nat.zero_le _, Nat.zero_le _, fun q hq => conv_eq rfl⟩⟩, ⟨okO_D _ _, .inl ⟨_, rfl, .inl rfl⟩⟩, trivial⟩ rfl
                      · (try simp only []); first | omega | grind
                    · have hnn : notNext k fst h m i x = false := by simp only [bor, band] at h23; exact h23
                      have hset := opens_set hil hb
                      have hih := ih d' (m ||| 1 <<< i) (doF k x (calAt h i)).1 false (o ++ [(i : Int)]) ⟨hd', okX_step hx hil hb, by omega, set_lt hm (by omega), by simp; omega⟩
                      have hd2 := onF_ok (k := k) (fst := fst) (h := h) n d' (m ||| 1 <<< i) (doF k x (calAt h i)).1 (o ++ [(i : Int)]) hd' (doF_len hv)
                      generalize hrr : onF k fst h n d' (m ||| 1 <<< i) (doF k x (calAt h i)).1 (o ++ [(i : Int)]) = rr at hih hd2
                      refine WP.skip ?_
                      refine WP.seq ?_
                      refine WP.drw hT hE hM [recG k [.rp 4 (.bool cb)] ff (cals g h) [Id.b 0, Id.b 1] [] rr] rfl ?_ ?_
                      · simp only [holdsC, under, recG]
                        refine ⟨⟨⟨⟨by omega, trivial⟩, by simp [slOk, slB], by simp [capEq]⟩, Nat.zero_lt_one, ?_⟩, ⟨trivial, fun j hj => ?_⟩, ?_, ?_, ?_⟩
                        · show (((o.length : Int) - 0).toNat + 1) * 8 ≤ 140737488355328
                          omega
                        · have e := ord_app (o := o) (i := (i : Int)) (j := j) (by simp [slB] at hj; omega)
                          refine (congrArg noIds e).trans rfl
                        · exact ⟨fun _ _ => rfl, okO_D _ _, trivial⟩
                        · exact ⟨fun _ _ => rfl, okO_D _ _, trivial⟩
                        · simp only [List.map, renO_D, renO_C, List.append, renO_search (H := cals g h) (hren _) rfl (show sig [Id.b 0, Id.b 1] 0 (.b 1) = .b 1 from rfl)]
                          refine AC.conv hT hih ⟨_, _, rfl, conv_eq rfl, _, _, rfl, conv_eq ?_, _, _, rfl, ?_, rfl⟩
                          · show ren _ (((stru 102 [.int 0, stru 78 [.int 0, .agg 76 8 fun _ => .int 0]]).put [0] (.int (IntKind.i64.wrap ↑(BitVec.ofInt IntKind.i64.bits (m : Int) ||| BitVec.ofInt IntKind.i64.bits (IntKind.i64.wrap (1 * 2 ^ min ((i : Int).toNat) IntKind.i64.bits))).toNat))).put [1] (encCt (doF k x (calAt h i)).1)) = _
                            rw [key_built, set_bits hm (by omega)]
                            exact ren_key _ (m ||| 1 <<< i, (doF k x (calAt h i)).1)
                          · exact ⟨false, fun j => .int ((o ++ [(i : Int)]).getD j 0), by simp [ints, slB], fun h => (by cases h), fun j hj => conv_eq (ord_app (o := o) (i := (i : Int)) (j := j) (by simp [slB] at hj; omega))⟩
                      refine WP.seq ?_
                      refine WP.reg hT hE [] rfl ?_ ?_
                      · first | trivial | (simp [holdsC, under, slOk, slB, capEq] <;> grind)
                      refine WP.cond rfl (fun h25 => ?_) (fun h25 => ?_)
                      · have hres : rr.1.2 = true := h25
                        refine WP.seq ?_
                        refine WP.reg hT hE [] rfl ?_ ?_
                        · first | trivial | (simp [holdsC, under, slOk, slB, capEq] <;> grind)
                        refine WP.ret ?_
                        change Fin _ _ _ _ _ _ _ _
                        have e : onF k fst h (n + 1) d m x o = ((rr.1.1, true), rr.2) := by
                          have e1 : tryF k fst h (onF k fst h n) m x o (List.range' 0 h.length) d = (some rr.1.1, rr.2) := by
                            rw [htry]
                            simp only [tryF, hb, hnn, hrr, hres, Bool.false_eq_true, if_false, if_true]
                          simp [onF, hin, hwh, e1]
                        rw [e]
                        exact fin_on (by rfl) (by exact conv_eq rfl) (by rfl) (fun _ _ => rfl) (by exact ⟨_, rfl, rfl, rfl, rfl, ren_sget (hren _) (by rfl) (by rfl)⟩) (by exact congrArg some (renO_D _ _)) 
                      · have hres : rr.1.2 = false := h25
                        simp only [tryF, hb, hnn, hrr, hres, Bool.false_eq_true, if_false] at htry
                        refine WP.skip ?_
                        refine WP.reg hT hE [] rfl ?_ ?_
                        · first | trivial | (simp [holdsC, under, slOk, slB, capEq] <;> grind)
                        refine ⟨(i + 1, rr.2), ?_, ?_, ?_⟩
                        · exact ⟨hil, hd2, htry⟩
                        · refine Ent.mk hT [] trivial ⟨⟨rfl, _, rfl, by first | exact conv_eq rfl | (refine conv_eq ?_; rw [wrap_id (by omega) (by omega)]; simp; done) | (refine conv_eq ?_; simp; done)⟩, ⟨rfl, _, rfl, by first | exact conv_eq rfl | (refine conv_eq ?_; rw [wrap_id (by omega) (by omega)]; simp; done) | (refine conv_eq ?_; simp; done)⟩, ⟨rfl, _, rfl, by first | exact conv_eq rfl | (refine conv_eq ?_; rw [wrap_id (by omega) (by omega)]; simp; done) | (refine conv_eq ?_; simp; done)⟩, ⟨rfl, _, rfl, by first | exact conv_eq rfl | (refine conv_eq ?_; rw [wrap_id (by omega) (by omega)]; simp; done) | (refine conv_eq ?_; simp; done)⟩, ⟨rfl, _, rfl, by first | exact conv_eq rfl | (refine conv_eq ?_; rw [wrap_id (by omega) (by omega)]; simp; done) | (refine conv_eq ?_; simp; done)⟩, ⟨rfl, _, rfl, by first | exact conv_eq rfl | (refine conv_eq ?_; rw [wrap_id (by omega) (by omega)]; simp; done) | (refine conv_eq ?_; simp; done)⟩, ⟨rfl, _, rfl, by first | exact conv_eq rfl | (refine conv_eq ?_; rw [wrap_id (by omega) (by omega)]; simp; done) | (refine conv_eq ?_; simp; done)⟩, trivial⟩ ⟨⟨fun _ _ => rfl, .inl ⟨_, rfl, _, _, rfl, Nat.le_refl _, Nat.zero_le _, Nat.zero_le _, fun q hq => conv_eq (ren_sget (hren _) (by rfl) (by rfl))⟩⟩, ⟨okO_D _ _, .inl ⟨_, rfl, .inl (renO_D _ _).symm⟩⟩, trivial⟩ rfl
                        · (try simp only []); first | omega | grind
            · have hil : i = h.length := by simp at h13; omega
              subst hil
              refine WP.exit ?_
              refine WP.seq ?_
              refine WP.drw hT hE hM [⟨true, [], .bad, [.map (encD (putK d' (m, x) ()))]⟩] rfl ?_ ?_
              · exact ⟨by simp, put_D (p := (m, x)) hd' hv⟩
              refine WP.seq ?_
              refine WP.reg hT hE [] rfl ?_ ?_
              · first | trivial | (simp [holdsC, under, slOk, slB, capEq] <;> grind)
              refine WP.ret ?_
              change Fin _ _ _ _ _ _ _ _
              have e : onF k fst h (n + 1) d m x o = (([], false), putK d' (m, x) ()) := by
                have e1 : tryF k fst h (onF k fst h n) m x o (List.range' 0 h.length) d = (none, d') := by
                  rw [htry, Nat.sub_self]
                  rfl
                simp [onF, hin, hwh, e1]
              rw [e]
              exact fin_on (by rfl) (by exact conv_nil_row (by decide)) (by rfl) (fun _ _ => rfl) (by exact ⟨_, rfl, rfl, rfl, rfl, rfl⟩) (by rfl) 
theorem on_step3 (k : Int) (hk : k = 1 ∨ k = 2 ∨ k = 3 ∨ k = 4)  (hcaps : capsOf k = []) (ff : Nat) (fst : Cal → Cal → Bool) (hff : ∀ a b, AC Try.prog T tysN ff [encCal a, encCal b] [] (.bool (fst a b)) [])  (h : List Cal) (hl : h.length ≤ 8) (n : Nat) (ih : ∀ (d : Dead) (m : Nat) (x : Ct) (f : Bool) (o : List Int), OnOK k h n d m x o → AC Try.prog T tysN 44 [.ptr (.b 0) 1 0 [], encKey m x, ints f o] [searchOb k [] ff (ownC (.b 2) h) (.b 1), .map (encD d), obC h] (encRes (onF k fst h n d m x o).1) [searchOb k [] ff (ownC (.b 2) h) (.b 1), .map (encD (onF k fst h n d m x o).2), obC h]) (d : Dead) (m : Nat) (x : Ct) (f : Bool) (o : List Int) (hok : OnOK k h (n + 1) d m x o) : AC Try.prog T tysN 44 [.ptr (.b 0) 1 0 [], encKey m x, ints f o] [searchOb k [] ff (ownC (.b 2) h) (.b 1), .map (encD d), obC h] (encRes (onF k fst h (n + 1) d m x o).1) [searchOb k [] ff (ownC (.b 2) h) (.b 1), .map (encD (onF k fst h (n + 1) d m x o).2), obC h] := by
  refine AC_intro hT Try.func44 rfl rfl (Nat.le_of_ble_eq_true rfl) ?_
  obtain ⟨hd, hx, hop, hm, ho⟩ := hok
  have hv := hx.1
  have hcl : CVL (Fz (fun _ => none) (fun _ => 0) T) [] [] := rfl
  have hren : ∀ σ : Id → Id, renL σ [] = [] := fun σ => rfl
  refine WP.seq ?_
  refine WP.reg hT hE [] rfl ?_ ?_
  · first | trivial | (simp [holdsC, under, slOk, slB, capEq] <;> grind)
  refine WP.seq ?_
  refine WP.seq ?_
  refine WP.drw hT hE hM [CG.pure (.int (if inD d (m, x) then 1 else 0))] rfl ?_ ?_
  · exact ⟨by simp, look_D (p := (m, x)) hd hv⟩
  refine WP.cond rfl (fun h1 => ?_) (fun h1 => ?_)
  · have hin : inD d (m, x) = true := by simpa using h1
    refine WP.seq ?_
    refine WP.reg hT hE [] rfl ?_ ?_
    · first | trivial | (simp [holdsC, under, slOk, slB, capEq] <;> grind)
    refine WP.ret ?_
    change Fin _ _ _ _ _ _ _ _
    have e : onF k fst h (n + 1) d m x o = (([], false), d) := by simp [onF, hin]
    rw [e]
    exact fin_on2 (by rfl) (by exact conv_nil_row (by decide)) (by rfl) (fun _ _ => rfl) (by exact ⟨_, rfl, rfl, rfl, rfl, rfl⟩) (by rfl) (by rfl)
  · have hin : inD d (m, x) = false := by simpa using h1
    refine WP.skip ?_
    refine WP.seq ?_
    refine WP.ent (st' := mkSt [(0, .ptr (.b 0) 1 0 []), (2, ints f o), (4, .rp 102 (encKey m x))] [(.b 0, searchOb k [] ff (ownC (.b 2) h) (.b 1)), (.b 1, .map (encD d)), (.b 2, obC h)]) ?_ ?_
    · refine Ent.mk hT [(.s 4 0, 1)] ⟨⟨_, rfl, Nat.le_refl _⟩, trivial⟩ ⟨⟨rfl, _, rfl, by first | exact conv_eq rfl | (refine conv_eq ?_; rw [wrap_id (by omega) (by omega)]; simp; done) | (refine conv_eq ?_; simp; done)⟩, ⟨rfl, _, rfl, by first | exact conv_eq rfl | (refine conv_eq ?_; rw [wrap_id (by omega) (by omega)]; simp; done) | (refine conv_eq ?_; simp; done)⟩, ⟨rfl, _, rfl, conv_rpe rfl rfl (Nat.lt_succ_self 0) rfl rfl rfl⟩, trivial⟩ ⟨⟨fun _ _ => rfl, .inl ⟨_, rfl, _, _, rfl, Nat.le_refl _, Nat.zero_le _, Nat.zero_le _, fun q hq => conv_eq rfl⟩⟩, ⟨okO_D _ _, .inl ⟨_, rfl, .inl rfl⟩⟩, ob_list (okIds_cal _) rfl rfl rfl rfl rfl (fun q hq => rfl), trivial⟩ rfl
    refine WP.reg hT hE [] rfl ?_ ?_
    · first | trivial | (simp [holdsC, under, slOk, slB, capEq] <;> grind)
    refine WP.seq ?_
    refine WP.reg hT hE [] rfl ?_ ?_
    · first | trivial | (simp [holdsC, under, slOk, slB, capEq] <;> grind)
    refine WP.seq ?_
    refine WP.seq ?_
    refine WP.reg hT hE [] rfl ?_ ?_
    · first | trivial | (simp [holdsC, under, slOk, slB, capEq] <;> grind)
    refine WP.block ?_
    refine WP.loop (α := Nat) (fun i => mkSt [(0, .ptr (.b 0) 1 0 []), (2, ints f o), (4, .rp 102 (encKey m x)), (8, .clo 60 [.rp 102 (encKey m x)]), (9, .bool (allTo (fun i => (calAt h i).fin == -1 || !(!m.testBit i)) i)), (33, ownC (.b 2) h), (34, .int h.length), (35, .int i)] [(.b 0, searchOb k [] ff (ownC (.b 2) h) (.b 1)), (.b 1, .map (encD d)), (.b 2, obC h)]) (fun i => i ≤ h.length) (fun i => h.length - i) ?_ ?_
    · refine ⟨0, ?_, ?_⟩
      · exact Nat.zero_le _
      · refine Ent.mk hT [] trivial ⟨⟨rfl, _, rfl, by first | exact conv_eq rfl | (refine conv_eq ?_; rw [wrap_id (by omega) (by omega)]; simp; done) | (refine conv_eq ?_; simp; done)⟩, ⟨rfl, _, rfl, by first | exact conv_eq rfl | (refine conv_eq ?_; rw [wrap_id (by omega) (by omega)]; simp; done) | (refine conv_eq ?_; simp; done)⟩, ⟨rfl, _, rfl, by first | exact conv_eq rfl | (refine conv_eq ?_; rw [wrap_id (by omega) (by omega)]; simp; done) | (refine conv_eq ?_; simp; done)⟩, ⟨rfl, _, rfl, by first | exact conv_eq rfl | (refine conv_eq ?_; rw [wrap_id (by omega) (by omega)]; simp; done) | (refine conv_eq ?_; simp; done)⟩, ⟨rfl, _, rfl, by first | exact conv_eq rfl | (refine conv_eq ?_; rw [wrap_id (by omega) (by omega)]; simp; done) | (refine conv_eq ?_; simp; done)⟩, ⟨rfl, _, rfl, by first | exact conv_eq rfl | (refine conv_eq ?_; rw [wrap_id (by omega) (by omega)]; simp; done) | (refine conv_eq ?_; simp; done)⟩, ⟨rfl, _, rfl, by first | exact conv_eq rfl | (refine conv_eq ?_; rw [wrap_id (by omega) (by omega)]; simp; done) | (refine conv_eq ?_; simp; done)⟩, ⟨rfl, _, rfl, by first | exact conv_eq rfl | (refine conv_eq ?_; rw [wrap_id (by omega) (by omega)]; simp; done) | (refine conv_eq ?_; simp; done)⟩, trivial⟩ ⟨⟨fun _ _ => rfl, .inl ⟨_, rfl, _, _, rfl, Nat.le_refl _, Nat.zero_le _, Nat.zero_le _, fun q hq => conv_eq rfl⟩⟩, ⟨okO_D _ _, .inl ⟨_, rfl, .inl rfl⟩⟩, ob_list (okIds_cal _) rfl rfl rfl rfl rfl (fun q hq => rfl), trivial⟩ rfl
    · rintro i hi
      refine WP.seq ?_
      refine WP.reg hT hE [] rfl ?_ ?_
      · first | trivial | (simp [holdsC, under, slOk, slB, capEq] <;> grind)
      refine WP.seq ?_
      refine WP.cond rfl (fun h6 => ?_) (fun h6 => ?_)
      · have hil : i < h.length := by simpa using h6
        refine WP.skip ?_
        refine WP.seq ?_
        refine WP.block ?_
        refine WP.seq ?_
        refine WP.reg hT hE [] rfl ?_ ?_
        · first | trivial | (simp [holdsC, under, slOk, slB, capEq] <;> grind)
        refine WP.reg hT hE [CG.pure (.bool (!m.testBit i))] rfl ?_ ?_
        · have ho1 := on1_ac m i x (by omega) (by omega)
          simp [holdsC, under, CG.pure]
          exact ⟨fun _ _ => ho1, by grind⟩
        refine WP.reg hT hE [] rfl ?_ ?_
        · first | trivial | (simp [holdsC, under, slOk, slB, capEq] <;> grind)
        refine ⟨i + 1, ?_, ?_, ?_⟩
        · exact hil
        · refine Ent.mk hT [] trivial ⟨⟨rfl, _, rfl, by first | exact conv_eq rfl | (refine conv_eq ?_; rw [wrap_id (by omega) (by omega)]; simp; done) | (refine conv_eq ?_; simp; done)⟩, ⟨rfl, _, rfl, by first | exact conv_eq rfl | (refine conv_eq ?_; rw [wrap_id (by omega) (by omega)]; simp; done) | (refine conv_eq ?_; simp; done)⟩, ⟨rfl, _, rfl, by first | exact conv_eq rfl | (refine conv_eq ?_; rw [wrap_id (by omega) (by omega)]; simp; done) | (refine conv_eq ?_; simp; done)⟩, ⟨rfl, _, rfl, by first | exact conv_eq rfl | (refine conv_eq ?_; rw [wrap_id (by omega) (by omega)]; simp; done) | (refine conv_eq ?_; simp; done)⟩, ⟨rfl, _, rfl, ?_⟩, ⟨rfl, _, rfl, by first | exact conv_eq rfl | (refine conv_eq ?_; rw [wrap_id (by omega) (by omega)]; simp; done) | (refine conv_eq ?_; simp; done)⟩, ⟨rfl, _, rfl, by first | exact conv_eq rfl | (refine conv_eq ?_; rw [wrap_id (by omega) (by omega)]; simp; done) | (refine conv_eq ?_; simp; done)⟩, ⟨rfl, _, rfl, by first | exact conv_eq rfl | (refine conv_eq ?_; rw [wrap_id (by omega) (by omega)]; simp; done) | (refine conv_eq ?_; simp; done)⟩, trivial⟩ ⟨⟨fun _ _ => rfl, .inl ⟨_, rfl, _, _, rfl, Nat.le_refl _, Nat.zero_le _, Nat.zero_le _, fun q hq => conv_eq rfl⟩⟩, ⟨okO_D _ _, .inl ⟨_, rfl, .inl rfl⟩⟩, ob_list (okIds_cal _) rfl rfl rfl rfl rfl (fun q hq => rfl), trivial⟩ rfl
          · refine conv_eq ?_
            simp only [allTo, bor, band]
            rfl
        · (try simp only []); first | omega | grind
      · have hil : i = h.length := by simp at h6; omega
        subst hil
        refine WP.exit ?_
        refine WP.seq ?_
        refine WP.seq ?_
        refine WP.reg hT hE [] rfl ?_ ?_
        · first | trivial | (simp [holdsC, under, slOk, slB, capEq] <;> grind)
        refine WP.cond rfl (fun h10 => ?_) (fun h10 => ?_)
        · have hwh : wholeB h m = true := h10
          refine WP.seq ?_
          refine WP.reg hT hE [] rfl ?_ ?_
          · first | trivial | (simp [holdsC, under, slOk, slB, capEq] <;> grind)
          refine WP.ret ?_
          change Fin _ _ _ _ _ _ _ _
          have e : onF k fst h (n + 1) d m x o = ((o, true), d) := by simp [onF, hin, hwh]
          rw [e]
          exact fin_on2 (by rfl) (by exact ⟨_, _, rfl, fun h => (by cases h), fun j hj => conv_eq rfl⟩) (by rfl) (fun _ _ => rfl) (by exact ⟨_, rfl, rfl, rfl, rfl, rfl⟩) (by rfl) (by rfl)
        · have hwh : wholeB h m = false := h10
          refine WP.skip ?_
          refine WP.seq ?_
          refine WP.seq ?_
          refine WP.reg hT hE [] rfl ?_ ?_
          · first | trivial | (simp [holdsC, under, slOk, slB, capEq] <;> grind)
          refine WP.block ?_
          refine WP.loop (α := Nat × Dead) (fun (⟨i, d'⟩ : Nat × Dead) => mkSt [(0, .ptr (.b 0) 1 0 []), (2, ints f o), (4, .rp 102 (encKey m x)), (8, .clo 60 [.rp 102 (encKey m x)]), (58, ownC (.b 2) h), (59, .int h.length), (60, .int i)] [(.b 0, searchOb k [] ff (ownC (.b 2) h) (.b 1)), (.b 1, .map (encD d')), (.b 2, obC h)]) (fun (⟨i, d'⟩ : Nat × Dead) => i ≤ h.length ∧ okD d' ∧ tryF k fst h (onF k fst h n) m x o (List.range' 0 h.length) d = tryF k fst h (onF k fst h n) m x o (List.range' i (h.length - i)) d') (fun (⟨i, d'⟩ : Nat × Dead) => h.length - i) ?_ ?_
          · refine ⟨(0, d), ?_, ?_⟩
            · exact ⟨Nat.zero_le _, hd, rfl⟩
            · refine Ent.mk hT [] trivial ⟨⟨rfl, _, rfl, by first | exact conv_eq rfl | (refine conv_eq ?_; rw [wrap_id (by omega) (by omega)]; simp; done) | (refine conv_eq ?_; simp; done)⟩, ⟨rfl, _, rfl, by first | exact conv_eq rfl | (refine conv_eq ?_; rw [wrap_id (by omega) (by omega)]; simp; done) | (refine conv_eq ?_; simp; done)⟩, ⟨rfl, _, rfl, by first | exact conv_eq rfl | (refine conv_eq ?_; rw [wrap_id (by omega) (by omega)]; simp; done) | (refine conv_eq ?_; simp; done)⟩, ⟨rfl, _, rfl, by first | exact conv_eq rfl | (refine conv_eq ?_; rw [wrap_id (by omega) (by omega)]; simp; done) | (refine conv_eq ?_; simp; done)⟩, ⟨rfl, _, rfl, by first | exact conv_eq rfl | (refine conv_eq ?_; rw [wrap_id (by omega) (by omega)]; simp; done) | (refine conv_eq ?_; simp; done)⟩, ⟨rfl, _, rfl, by first | exact conv_eq rfl | (refine conv_eq ?_; rw [wrap_id (by omega) (by omega)]; simp; done) | (refine conv_eq ?_; simp; done)⟩, ⟨rfl, _, rfl, by first | exact conv_eq rfl | (refine conv_eq ?_; rw [wrap_id (by omega) (by omega)]; simp; done) | (refine conv_eq ?_; simp; done)⟩, trivial⟩ ⟨⟨fun _ _ => rfl, .inl ⟨_, rfl, _, _, rfl, Nat.le_refl _, Nat.zero_le _, Nat.zero_le _, fun q hq => conv_eq rfl⟩⟩, ⟨okO_D _ _, .inl ⟨_, rfl, .inl rfl⟩⟩, ob_list (okIds_cal _) rfl rfl rfl rfl rfl (fun q hq => rfl), trivial⟩ rfl
          · rintro ⟨i, d'⟩ ⟨hi, hd', htry⟩
            refine WP.seq ?_
            refine WP.reg hT hE [] rfl ?_ ?_
            · first | trivial | (simp [holdsC, under, slOk, slB, capEq] <;> grind)
            refine WP.seq ?_
            refine WP.cond rfl (fun h13 => ?_) (fun h13 => ?_)
            · have hil : i < h.length := by simpa using h13
              rw [show h.length - i = (h.length - (i + 1)) + 1 by omega, List.range'_succ] at htry
              refine WP.skip ?_
              refine WP.seq ?_
              refine WP.block ?_
              refine WP.seq ?_
              refine WP.reg hT hE [] rfl ?_ ?_
              · first | trivial | (simp [holdsC, under, slOk, slB, capEq] <;> grind)
              refine WP.seq ?_
              refine WP.seq ?_
              refine WP.reg hT hE [CG.pure (.bool (!m.testBit i))] rfl ?_ ?_
              · have ho1 := on1_ac m i x (by omega) (by omega)
                simp [holdsC, under, CG.pure]
                exact ho1
              refine WP.cond rfl (fun h15 => ?_) (fun h15 => ?_)
              · have hb : m.testBit i = true := by simpa using h15
                simp only [tryF, hb, if_true] at htry
                refine WP.exit ?_
                refine WP.reg hT hE [] rfl ?_ ?_
                · first | trivial | (simp [holdsC, under, slOk, slB, capEq] <;> grind)
                refine ⟨(i + 1, d'), ?_, ?_, ?_⟩
                · exact ⟨hil, hd', htry⟩
                · refine Ent.mk hT [] trivial ⟨⟨rfl, _, rfl, by first | exact conv_eq rfl | (refine conv_eq ?_; rw [wrap_id (by omega) (by omega)]; simp; done) | (refine conv_eq ?_; simp; done)⟩, ⟨rfl, _, rfl, by first | exact conv_eq rfl | (refine conv_eq ?_; rw [wrap_id (by omega) (by omega)]; simp; done) | (refine conv_eq ?_; simp; done)⟩, ⟨rfl, _, rfl, by first | exact conv_eq rfl | (refine conv_eq ?_; rw [wrap_id (by omega) (by omega)]; simp; done) | (refine conv_eq ?_; simp; done)⟩, ⟨rfl, _, rfl, by first | exact conv_eq rfl | (refine conv_eq ?_; rw [wrap_id (by omega) (by omega)]; simp; done) | (refine conv_eq ?_; simp; done)⟩, ⟨rfl, _, rfl, by first | exact conv_eq rfl | (refine conv_eq ?_; rw [wrap_id (by omega) (by omega)]; simp; done) | (refine conv_eq ?_; simp; done)⟩, ⟨rfl, _, rfl, by first | exact conv_eq rfl | (refine conv_eq ?_; rw [wrap_id (by omega) (by omega)]; simp; done) | (refine conv_eq ?_; simp; done)⟩, ⟨rfl, _, rfl, by first | exact conv_eq rfl | (refine conv_eq ?_; rw [wrap_id (by omega) (by omega)]; simp; done) | (refine conv_eq ?_; simp; done)⟩, trivial⟩ ⟨⟨fun _ _ => rfl, .inl ⟨_, rfl, _, _, rfl, Nat.le_refl _, Nat.zero_le _, Nat.zero_le _, fun q hq => conv_eq rfl⟩⟩, ⟨okO_D _ _, .inl ⟨_, rfl, .inl rfl⟩⟩, ob_list (okIds_cal _) rfl rfl rfl rfl rfl (fun q hq => rfl), trivial⟩ rfl
                · (try simp only []); first | omega | grind
              · have hb : m.testBit i = false := by simpa using h15
                refine WP.skip ?_
                refine WP.seq ?_
                refine WP.reg hT hE [] rfl ?_ ?_
                · first | trivial | (simp [holdsC, under, slOk, slB, capEq] <;> grind)
                refine WP.seq ?_
                refine WP.seq ?_
                refine WP.reg hT hE [] rfl ?_ ?_
                · first | trivial | (simp [holdsC, under, slOk, slB, capEq] <;> grind)
                refine WP.block ?_
                refine WP.loop (α := Nat) (fun j => mkSt [(0, .ptr (.b 0) 1 0 []), (2, ints f o), (4, .rp 102 (encKey m x)), (8, .clo 60 [.rp 102 (encKey m x)]), (58, ownC (.b 2) h), (59, .int h.length), (60, .int i), (12, .int i), (13, .rp 30 (encCal (calAt h i))), (14, .bool (allTo (fun j => !(j != i && !m.testBit j && fst (calAt h j) (calAt h i))) j)), (72, ownC (.b 2) h), (73, .int h.length), (74, .int j)] [(.b 0, searchOb k [] ff (ownC (.b 2) h) (.b 1)), (.b 1, .map (encD d')), (.b 2, obC h)]) (fun j => j ≤ h.length) (fun j => h.length - j) ?_ ?_
                · refine ⟨0, ?_, ?_⟩
                  · exact Nat.zero_le _
                  · refine Ent.mk hT [(.s 13 0, 1)] ⟨⟨_, rfl, Nat.le_refl _⟩, trivial⟩ ⟨⟨rfl, _, rfl, by first | exact conv_eq rfl | (refine conv_eq ?_; rw [wrap_id (by omega) (by omega)]; simp; done) | (refine conv_eq ?_; simp; done)⟩, ⟨rfl, _, rfl, by first | exact conv_eq rfl | (refine conv_eq ?_; rw [wrap_id (by omega) (by omega)]; simp; done) | (refine conv_eq ?_; simp; done)⟩, ⟨rfl, _, rfl, by first | exact conv_eq rfl | (refine conv_eq ?_; rw [wrap_id (by omega) (by omega)]; simp; done) | (refine conv_eq ?_; simp; done)⟩, ⟨rfl, _, rfl, by first | exact conv_eq rfl | (refine conv_eq ?_; rw [wrap_id (by omega) (by omega)]; simp; done) | (refine conv_eq ?_; simp; done)⟩, ⟨rfl, _, rfl, by first | exact conv_eq rfl | (refine conv_eq ?_; rw [wrap_id (by omega) (by omega)]; simp; done) | (refine conv_eq ?_; simp; done)⟩, ⟨rfl, _, rfl, by first | exact conv_eq rfl | (refine conv_eq ?_; rw [wrap_id (by omega) (by omega)]; simp; done) | (refine conv_eq ?_; simp; done)⟩, ⟨rfl, _, rfl, by first | exact conv_eq rfl | (refine conv_eq ?_; rw [wrap_id (by omega) (by omega)]; simp; done) | (refine conv_eq ?_; simp; done)⟩, ⟨rfl, _, rfl, by first | exact conv_eq rfl | (refine conv_eq ?_; rw [wrap_id (by omega) (by omega)]; simp; done) | (refine conv_eq ?_; simp; done)⟩, ⟨rfl, _, rfl, conv_rpe rfl rfl (Nat.lt_succ_self 0) rfl rfl rfl⟩, ⟨rfl, _, rfl, by first | exact conv_eq rfl | (refine conv_eq ?_; rw [wrap_id (by omega) (by omega)]; simp; done) | (refine conv_eq ?_; simp; done)⟩, ⟨rfl, _, rfl, by first | exact conv_eq rfl | (refine conv_eq ?_; rw [wrap_id (by omega) (by omega)]; simp; done) | (refine conv_eq ?_; simp; done)⟩, ⟨rfl, _, rfl, by first | exact conv_eq rfl | (refine conv_eq ?_; rw [wrap_id (by omega) (by omega)]; simp; done) | (refine conv_eq ?_; simp; done)⟩, ⟨rfl, _, rfl, by first | exact conv_eq rfl | (refine conv_eq ?_; rw [wrap_id (by omega) (by omega)]; simp; done) | (refine conv_eq ?_; simp; done)⟩, trivial⟩ ⟨⟨fun _ _ => rfl, .inl ⟨_, rfl, _, _, rfl, Nat.le_refl _, Nat.zero_le _, Nat.zero_le _, fun q hq => conv_eq rfl⟩⟩, ⟨okO_D _ _, .inl ⟨_, rfl, .inl rfl⟩⟩, ob_list (okIds_cal _) rfl rfl rfl rfl rfl (fun q hq => rfl), trivial⟩ rfl
                · rintro j hj
                  refine WP.seq ?_
                  refine WP.reg hT hE [] rfl ?_ ?_
                  · first | trivial | (simp [holdsC, under, slOk, slB, capEq] <;> grind)
                  refine WP.seq ?_
                  refine WP.cond rfl (fun h18 => ?_) (fun h18 => ?_)
                  · have hjl : j < h.length := by simpa using h18
                    refine WP.skip ?_
                    refine WP.seq ?_
                    refine WP.block ?_
                    refine WP.seq ?_
                    refine WP.reg hT hE [] rfl ?_ ?_
                    · first | trivial | (simp [holdsC, under, slOk, slB, capEq] <;> grind)
                    refine WP.drw hT hE hM [CG.pure (.bool (!m.testBit j)), CG.pure (.bool (fst (calAt h j) (calAt h i)))] rfl ?_ ?_
                    · have ho1 := on1_ac m j x (by omega) (by omega)
                      have ho2 := hff (calAt h j) (calAt h i)
                      simp [holdsC, under, CG.pure]
                      exact ⟨⟨⟨fun _ _ => ho1, fun a b => ⟨a, b⟩⟩, fun _ _ _ => ho2⟩, fun a b c => ⟨a, b, c⟩⟩
                    refine WP.reg hT hE [] rfl ?_ ?_
                    · first | trivial | (simp [holdsC, under, slOk, slB, capEq] <;> grind)
                    refine ⟨j + 1, ?_, ?_, ?_⟩
                    · exact hjl
                    · refine Ent.mk hT [] trivial ⟨⟨rfl, _, rfl, by first | exact conv_eq rfl | (refine conv_eq ?_; rw [wrap_id (by omega) (by omega)]; simp; done) | (refine conv_eq ?_; simp; done)⟩, ⟨rfl, _, rfl, by first | exact conv_eq rfl | (refine conv_eq ?_; rw [wrap_id (by omega) (by omega)]; simp; done) | (refine conv_eq ?_; simp; done)⟩, ⟨rfl, _, rfl, by first | exact conv_eq rfl | (refine conv_eq ?_; rw [wrap_id (by omega) (by omega)]; simp; done) | (refine conv_eq ?_; simp; done)⟩, ⟨rfl, _, rfl, by first | exact conv_eq rfl | (refine conv_eq ?_; rw [wrap_id (by omega) (by omega)]; simp; done) | (refine conv_eq ?_; simp; done)⟩, ⟨rfl, _, rfl, by first | exact conv_eq rfl | (refine conv_eq ?_; rw [wrap_id (by omega) (by omega)]; simp; done) | (refine conv_eq ?_; simp; done)⟩, ⟨rfl, _, rfl, by first | exact conv_eq rfl | (refine conv_eq ?_; rw [wrap_id (by omega) (by omega)]; simp; done) | (refine conv_eq ?_; simp; done)⟩, ⟨rfl, _, rfl, by first | exact conv_eq rfl | (refine conv_eq ?_; rw [wrap_id (by omega) (by omega)]; simp; done) | (refine conv_eq ?_; simp; done)⟩, ⟨rfl, _, rfl, by first | exact conv_eq rfl | (refine conv_eq ?_; rw [wrap_id (by omega) (by omega)]; simp; done) | (refine conv_eq ?_; simp; done)⟩, ⟨rfl, _, rfl, by first | exact conv_eq rfl | (refine conv_eq ?_; rw [wrap_id (by omega) (by omega)]; simp; done) | (refine conv_eq ?_; simp; done)⟩, ⟨rfl, _, rfl, ?_⟩, ⟨rfl, _, rfl, by first | exact conv_eq rfl | (refine conv_eq ?_; rw [wrap_id (by omega) (by omega)]; simp; done) | (refine conv_eq ?_; simp; done)⟩, ⟨rfl, _, rfl, by first | exact conv_eq rfl | (refine conv_eq ?_; rw [wrap_id (by omega) (by omega)]; simp; done) | (refine conv_eq ?_; simp; done)⟩, ⟨rfl, _, rfl, by first | exact conv_eq rfl | (refine conv_eq ?_; rw [wrap_id (by omega) (by omega)]; simp; done) | (refine conv_eq ?_; simp; done)⟩, trivial⟩ ⟨⟨fun _ _ => rfl, .inl ⟨_, rfl, _, _, rfl, Nat.le_refl _, Nat.zero_le _, Nat.zero_le _, fun q hq => conv_eq rfl⟩⟩, ⟨okO_D _ _, .inl ⟨_, rfl, .inl rfl⟩⟩, ob_list (okIds_cal _) rfl rfl rfl rfl rfl (fun q hq => rfl), trivial⟩ rfl
                      · refine conv_eq ?_
                        simp only [allTo, bor, band]
                        have e : ((j : Int) != (i : Int)) = (j != i) := by rw [Bool.eq_iff_iff]; simp; omega
                        rw [e]
                    · (try simp only []); first | omega | grind
                  · have hjl : j = h.length := by simp at h18; omega
                    subst hjl
                    refine WP.exit ?_
                    refine WP.seq ?_
                    refine WP.drw hT hE hM [CG.pure (encOut (doF k x (calAt h i)))] rfl ?_ ?_
                    · have ho1 := do_ac hk (x := x) (c := calAt h i) hv (okX_pre hx hil hb)
                      rw [hcaps] at ho1
                      simp [holdsC, under, CG.pure]
                      exact ho1
                    refine WP.seq ?_
                    refine WP.seq ?_
                    refine WP.reg hT hE [] rfl ?_ ?_
                    · first | trivial | (simp [holdsC, under, slOk, slB, capEq] <;> grind)
                    refine WP.cond rfl (fun h23 => ?_) (fun h23 => ?_)
                    · have hnn : notNext k fst h m i x = true := by simp only [bor, band] at h23; exact h23
                      simp only [tryF, hb, hnn, if_true, Bool.false_eq_true, if_false] at htry
                      refine WP.exit ?_
                      refine WP.reg hT hE [] rfl ?_ ?_
                      · first | trivial | (simp [holdsC, under, slOk, slB, capEq] <;> grind)
                      refine ⟨(i + 1, d'), ?_, ?_, ?_⟩
                      · exact ⟨hil, hd', htry⟩
                      · refine Ent.mk hT [] trivial ⟨⟨rfl, _, rfl, by first | exact conv_eq rfl | (refine conv_eq ?_; rw [wrap_id (by omega) (by omega)]; simp; done) | (refine conv_eq ?_; simp; done)⟩, ⟨rfl, _, rfl, by first | exact conv_eq rfl | (refine conv_eq ?_; rw [wrap_id (by omega) (by omega)]; simp; done) | (refine conv_eq ?_; simp; done)⟩, ⟨rfl, _, rfl, by first | exact conv_eq rfl | (refine conv_eq ?_; rw [wrap_id (by omega) (by omega)]; simp; done) | (refine conv_eq ?_; simp; done)⟩, ⟨rfl, _, rfl, by first | exact conv_eq rfl | (refine conv_eq ?_; rw [wrap_id (by omega) (by omega)]; simp; done) | (refine conv_eq ?_; simp; done)⟩, ⟨rfl, _, rfl, by first | exact conv_eq rfl | (refine conv_eq ?_; rw [wrap_id (by omega) (by omega)]; simp; done) | (refine conv_eq ?_; simp; done)⟩, ⟨rfl, _, rfl, by first | exact conv_eq rfl | (refine conv_eq ?_; rw [wrap_id (by omega) (by omega)]; simp; done) | (refine conv_eq ?_; simp; done)⟩, ⟨rfl, _, rfl, by first | exact conv_eq rfl | (refine conv_eq ?_; rw [wrap_id (by omega) (by omega)]; simp; done) | (refine conv_eq ?_; simp; done)⟩, trivial⟩ ⟨⟨fun _ _ => rfl, .inl ⟨_, rfl, _, _, rfl, Nat.le_refl _, Nat.zero_le _, Nat.zero_le _, fun q hq => conv_eq rfl⟩⟩, ⟨okO_D _ _, .inl ⟨_, rfl, .inl rfl⟩⟩, ob_list (okIds_cal _) rfl rfl rfl rfl rfl (fun q hq => rfl), trivial⟩ rfl
                      · (try simp only []); first | omega | grind
                    · have hnn : notNext k fst h m i x = false := by simp only [bor, band] at h23; exact h23
                      have hset := opens_set hil hb
                      have hih := ih d' (m ||| 1 <<< i) (doF k x (calAt h i)).1 false (o ++ [(i : Int)]) ⟨hd', okX_step hx hil hb, by omega, set_lt hm (by omega), by simp; omega⟩
                      have hd2 := onF_ok (k := k) (fst := fst) (h := h) n d' (m ||| 1 <<< i) (doF k x (calAt h i)).1 (o ++ [(i : Int)]) hd' (doF_len hv)
                      generalize hrr : onF k fst h n d' (m ||| 1 <<< i) (doF k x (calAt h i)).1 (o ++ [(i : Int)]) = rr at hih hd2
                      refine WP.skip ?_
                      refine WP.seq ?_
                      refine WP.drw hT hE hM [recG k [] ff (ownC (.b 2) h) [Id.b 0, Id.b 1, Id.b 2] [obC h] rr] rfl ?_ ?_
                      · simp only [holdsC, under, recG]
                        refine ⟨⟨⟨⟨by omega, trivial⟩, by simp [slOk, slB], by simp [capEq]⟩, Nat.zero_lt_one, ?_⟩, ⟨trivial, fun j hj => ?_⟩, ?_, ?_, ?_⟩
                        · show (((o.length : Int) - 0).toNat + 1) * 8 ≤ 140737488355328
                          omega
                        · have e := ord_app (o := o) (i := (i : Int)) (j := j) (by simp [slB] at hj; omega)
                          refine (congrArg noIds e).trans rfl
                        · exact ⟨fun _ _ => rfl, okO_D _ _, okO_C _ _,trivial⟩
                        · exact ⟨fun _ _ => rfl, okO_D _ _, okO_C _ _,trivial⟩
                        · simp only [List.map, renO_D, renO_C, List.append, renO_search (H := ownC (.b 2) h) (hren _) rfl (show sig [Id.b 0, Id.b 1, Id.b 2] 0 (.b 1) = .b 1 from rfl)]
                          refine AC.conv hT hih ⟨_, _, rfl, conv_eq rfl, _, _, rfl, conv_eq ?_, _, _, rfl, ?_, rfl⟩
                          · show ren _ (((stru 102 [.int 0, stru 78 [.int 0, .agg 76 8 fun _ => .int 0]]).put [0] (.int (IntKind.i64.wrap ↑(BitVec.ofInt IntKind.i64.bits (m : Int) ||| BitVec.ofInt IntKind.i64.bits (IntKind.i64.wrap (1 * 2 ^ min ((i : Int).toNat) IntKind.i64.bits))).toNat))).put [1] (encCt (doF k x (calAt h i)).1)) = _
                            rw [key_built, set_bits hm (by omega)]
                            exact ren_key _ (m ||| 1 <<< i, (doF k x (calAt h i)).1)
                          · exact ⟨false, fun j => .int ((o ++ [(i : Int)]).getD j 0), by simp [ints, slB], fun h => (by cases h), fun j hj => conv_eq (ord_app (o := o) (i := (i : Int)) (j := j) (by simp [slB] at hj; omega))⟩
                      refine WP.seq ?_
                      refine WP.reg hT hE [] rfl ?_ ?_
                      · first | trivial | (simp [holdsC, under, slOk, slB, capEq] <;> grind)
                      refine WP.cond rfl (fun h25 => ?_) (fun h25 => ?_)
                      · have hres : rr.1.2 = true := h25
                        refine WP.seq ?_
                        refine WP.reg hT hE [] rfl ?_ ?_
                        · first | trivial | (simp [holdsC, under, slOk, slB, capEq] <;> grind)
                        refine WP.ret ?_
                        change Fin _ _ _ _ _ _ _ _
                        have e : onF k fst h (n + 1) d m x o = ((rr.1.1, true), rr.2) := by
                          have e1 : tryF k fst h (onF k fst h n) m x o (List.range' 0 h.length) d = (some rr.1.1, rr.2) := by
                            rw [htry]
                            simp only [tryF, hb, hnn, hrr, hres, Bool.false_eq_true, if_false, if_true]
                          simp [onF, hin, hwh, e1]
                        rw [e]
                        exact fin_on2 (by rfl) (by exact conv_eq rfl) (by rfl) (fun _ _ => rfl) (by exact ⟨_, rfl, rfl, rfl, rfl, ren_sget (hren _) (by rfl) (by rfl)⟩) (by exact congrArg some (renO_D _ _)) (by exact congrArg some (renO_C _ _))
                      · have hres : rr.1.2 = false := h25
                        simp only [tryF, hb, hnn, hrr, hres, Bool.false_eq_true, if_false] at htry
                        refine WP.skip ?_
                        refine WP.reg hT hE [] rfl ?_ ?_
                        · first | trivial | (simp [holdsC, under, slOk, slB, capEq] <;> grind)
                        refine ⟨(i + 1, rr.2), ?_, ?_, ?_⟩
                        · exact ⟨hil, hd2, htry⟩
                        · refine Ent.mk hT [] trivial ⟨⟨rfl, _, rfl, by first | exact conv_eq rfl | (refine conv_eq ?_; rw [wrap_id (by omega) (by omega)]; simp; done) | (refine conv_eq ?_; simp; done)⟩, ⟨rfl, _, rfl, by first | exact conv_eq rfl | (refine conv_eq ?_; rw [wrap_id (by omega) (by omega)]; simp; done) | (refine conv_eq ?_; simp; done)⟩, ⟨rfl, _, rfl, by first | exact conv_eq rfl | (refine conv_eq ?_; rw [wrap_id (by omega) (by omega)]; simp; done) | (refine conv_eq ?_; simp; done)⟩, ⟨rfl, _, rfl, by first | exact conv_eq rfl | (refine conv_eq ?_; rw [wrap_id (by omega) (by omega)]; simp; done) | (refine conv_eq ?_; simp; done)⟩, ⟨rfl, _, rfl, by first | exact conv_eq rfl | (refine conv_eq ?_; rw [wrap_id (by omega) (by omega)]; simp; done) | (refine conv_eq ?_; simp; done)⟩, ⟨rfl, _, rfl, by first | exact conv_eq rfl | (refine conv_eq ?_; rw [wrap_id (by omega) (by omega)]; simp; done) | (refine conv_eq ?_; simp; done)⟩, ⟨rfl, _, rfl, by first | exact conv_eq rfl | (refine conv_eq ?_; rw [wrap_id (by omega) (by omega)]; simp; done) | (refine conv_eq ?_; simp; done)⟩, trivial⟩ ⟨⟨fun _ _ => rfl, .inl ⟨_, rfl, _, _, rfl, Nat.le_refl _, Nat.zero_le _, Nat.zero_le _, fun q hq => conv_eq (ren_sget (hren _) (by rfl) (by rfl))⟩⟩, ⟨okO_D _ _, .inl ⟨_, rfl, .inl (renO_D _ _).symm⟩⟩, ob_list (okIds_cal _) rfl rfl rfl rfl rfl (fun q hq => ren_cal _ _), trivial⟩ rfl
                        · (try simp only []); first | omega | grind
            · have hil : i = h.length := by simp at h13; omega
              subst hil
              refine WP.exit ?_
              refine WP.seq ?_
              refine WP.drw hT hE hM [⟨true, [], .bad, [.map (encD (putK d' (m, x) ()))]⟩] rfl ?_ ?_
              · exact ⟨by simp, put_D (p := (m, x)) hd' hv⟩
              refine WP.seq ?_
              refine WP.reg hT hE [] rfl ?_ ?_
              · first | trivial | (simp [holdsC, under, slOk, slB, capEq] <;> grind)
              refine WP.ret ?_
              change Fin _ _ _ _ _ _ _ _
              have e : onF k fst h (n + 1) d m x o = (([], false), putK d' (m, x) ()) := by
                have e1 : tryF k fst h (onF k fst h n) m x o (List.range' 0 h.length) d = (none, d') := by
                  rw [htry, Nat.sub_self]
                  rfl
                simp [onF, hin, hwh, e1]
              rw [e]
              exact fin_on2 (by rfl) (by exact conv_nil_row (by decide)) (by rfl) (fun _ _ => rfl) (by exact ⟨_, rfl, rfl, rfl, rfl, rfl⟩) (by rfl) (by rfl)
theorem on_step4 (k : Int) (hk : k = 1 ∨ k = 2 ∨ k = 3 ∨ k = 4) (cb : Bool) (hcaps : capsOf k = [.rp 4 (.bool cb)]) (ff : Nat) (fst : Cal → Cal → Bool) (hff : ∀ a b, AC Try.prog T tysN ff [encCal a, encCal b] [] (.bool (fst a b)) [])  (h : List Cal) (hl : h.length ≤ 8) (n : Nat) (ih : ∀ (d : Dead) (m : Nat) (x : Ct) (f : Bool) (o : List Int), OnOK k h n d m x o → AC Try.prog T tysN 44 [.ptr (.b 0) 1 0 [], encKey m x, ints f o] [searchOb k [.rp 4 (.bool cb)] ff (ownC (.b 2) h) (.b 1), .map (encD d), obC h] (encRes (onF k fst h n d m x o).1) [searchOb k [.rp 4 (.bool cb)] ff (ownC (.b 2) h) (.b 1), .map (encD (onF k fst h n d m x o).2), obC h]) (d : Dead) (m : Nat) (x : Ct) (f : Bool) (o : List Int) (hok : OnOK k h (n + 1) d m x o) : AC Try.prog T tysN 44 [.ptr (.b 0) 1 0 [], encKey m x, ints f o] [searchOb k [.rp 4 (.bool cb)] ff (ownC (.b 2) h) (.b 1), .map (encD d), obC h] (encRes (onF k fst h (n + 1) d m x o).1) [searchOb k [.rp 4 (.bool cb)] ff (ownC (.b 2) h) (.b 1), .map (encD (onF k fst h (n + 1) d m x o).2), obC h] := by
  refine AC_intro hT Try.func44 rfl rfl (Nat.le_of_ble_eq_true rfl) ?_
  obtain ⟨hd, hx, hop, hm, ho⟩ := hok
  have hv := hx.1
  have hcl : CVL (Fz (fun _ => none) (fun _ => 0) T) [] [] := rfl
  have hren : ∀ σ : Id → Id, renL σ [.rp 4 (.bool cb)] = [.rp 4 (.bool cb)] := fun σ => rfl
  refine WP.seq ?_
  refine WP.reg hT hE [] rfl ?_ ?_
  · first | trivial | (simp [holdsC, under, slOk, slB, capEq] <;> grind)
  refine WP.seq ?_
  refine WP.seq ?_
  refine WP.drw hT hE hM [CG.pure (.int (if inD d (m, x) then 1 else 0))] rfl ?_ ?_
  · exact ⟨by simp, look_D (p := (m, x)) hd hv⟩
  refine WP.cond rfl (fun h1 => ?_) (fun h1 => ?_)
  · have hin : inD d (m, x) = true := by simpa using h1
    refine WP.seq ?_
    refine WP.reg hT hE [] rfl ?_ ?_
    · first | trivial | (simp [holdsC, under, slOk, slB, capEq] <;> grind)
    refine WP.ret ?_
    change Fin _ _ _ _ _ _ _ _
    have e : onF k fst h (n + 1) d m x o = (([], false), d) := by simp [onF, hin]
    rw [e]
    exact fin_on2 (by rfl) (by exact conv_nil_row (by decide)) (by rfl) (fun _ _ => rfl) (by exact ⟨_, rfl, rfl, rfl, rfl, rfl⟩) (by rfl) (by rfl)
  · have hin : inD d (m, x) = false := by simpa using h1
    refine WP.skip ?_
    refine WP.seq ?_
    refine WP.ent (st' := mkSt [(0, .ptr (.b 0) 1 0 []), (2, ints f o), (4, .rp 102 (encKey m x))] [(.b 0, searchOb k [.rp 4 (.bool cb)] ff (ownC (.b 2) h) (.b 1)), (.b 1, .map (encD d)), (.b 2, obC h)]) ?_ ?_
    · refine Ent.mk hT [(.s 4 0, 1)] ⟨⟨_, rfl, Nat.le_refl _⟩, trivial⟩ ⟨⟨rfl, _, rfl, by first | exact conv_eq rfl | (refine conv_eq ?_; rw [wrap_id (by omega) (by omega)]; simp; done) | (refine conv_eq ?_; simp; done)⟩, ⟨rfl, _, rfl, by first | exact conv_eq rfl | (refine conv_eq ?_; rw [wrap_id (by omega) (by omega)]; simp; done) | (refine conv_eq ?_; simp; done)⟩, ⟨rfl, _, rfl, conv_rpe rfl rfl (Nat.lt_succ_self 0) rfl rfl rfl⟩, trivial⟩ ⟨⟨fun _ _ => rfl, .inl ⟨_, rfl, _, _, rfl, Nat.le_refl _, Nat.zero_le _, Nat.zero_le _, fun q hq => conv_eq rfl⟩⟩, ⟨okO_D _ _, .inl ⟨_, rfl, .inl rfl⟩⟩, ob_list (okIds_cal _) rfl rfl rfl rfl rfl (fun q hq => rfl), trivial⟩ rfl
    refine WP.reg hT hE [] rfl ?_ ?_
    · first | trivial | (simp [holdsC, under, slOk, slB, capEq] <;> grind)
    refine WP.seq ?_
    refine WP.reg hT hE [] rfl ?_ ?_
    · first | trivial | (simp [holdsC, under, slOk, slB, capEq] <;> grind)
    refine WP.seq ?_
    refine WP.seq ?_
    refine WP.reg hT hE [] rfl ?_ ?_
    · first | trivial | (simp [holdsC, under, slOk, slB, capEq] <;> grind)
    refine WP.block ?_
    refine WP.loop (α := Nat) (fun i => mkSt [(0, .ptr (.b 0) 1 0 []), (2, ints f o), (4, .rp 102 (encKey m x)), (8, .clo 60 [.rp 102 (encKey m x)]), (9, .bool (allTo (fun i => (calAt h i).fin == -1 || !(!m.testBit i)) i)), (33, ownC (.b 2) h), (34, .int h.length), (35, .int i)] [(.b 0, searchOb k [.rp 4 (.bool cb)] ff (ownC (.b 2) h) (.b 1)), (.b 1, .map (encD d)), (.b 2, obC h)]) (fun i => i ≤ h.length) (fun i => h.length - i) ?_ ?_
    · refine ⟨0, ?_, ?_⟩
      · exact Nat.zero_le _
      · refine Ent.mk hT [] trivial ⟨⟨rfl, _, rfl, by first | exact conv_eq rfl | (refine conv_eq ?_; rw [wrap_id (by omega) (by omega)]; simp; done) | (refine conv_eq ?_; simp; done)⟩, ⟨rfl, _, rfl, by first | exact conv_eq rfl | (refine conv_eq ?_; rw [wrap_id (by omega) (by omega)]; simp; done) | (refine conv_eq ?_; simp; done)⟩, ⟨rfl, _, rfl, by first | exact conv_eq rfl | (refine conv_eq ?_; rw [wrap_id (by omega) (by omega)]; simp; done) | (refine conv_eq ?_; simp; done)⟩, ⟨rfl, _, rfl, by first | exact conv_eq rfl | (refine conv_eq ?_; rw [wrap_id (by omega) (by omega)]; simp; done) | (refine conv_eq ?_; simp; done)⟩, ⟨rfl, _, rfl, by first | exact conv_eq rfl | (refine conv_eq ?_; rw [wrap_id (by omega) (by omega)]; simp; done) | (refine conv_eq ?_; simp; done)⟩, ⟨rfl, _, rfl, by first | exact conv_eq rfl | (refine conv_eq ?_; rw [wrap_id (by omega) (by omega)]; simp; done) | (refine conv_eq ?_; simp; done)⟩, ⟨rfl, _, rfl, by first | exact conv_eq rfl | (refine conv_eq ?_; rw [wrap_id (by omega) (by omega)]; simp; done) | (refine conv_eq ?_; simp; done)⟩, ⟨rfl, _, rfl, by first | exact conv_eq rfl | (refine conv_eq ?_; rw [wrap_id (by omega) (by omega)]; simp; done) | (refine conv_eq ?_; simp; done)⟩, trivial⟩ ⟨⟨fun _ _ => rfl, .inl ⟨_, rfl, _, _, rfl, Nat.le_refl _, Nat.zero_le _, Nat.zero_le _, fun q hq => conv_eq rfl⟩⟩, ⟨okO_D _ _, .inl ⟨_, rfl, .inl rfl⟩⟩, ob_list (okIds_cal _) rfl rfl rfl rfl rfl (fun q hq => rfl), trivial⟩ rfl
    · rintro i hi
      refine WP.seq ?_
      refine WP.reg hT hE [] rfl ?_ ?_
      · first | trivial | (simp [holdsC, under, slOk, slB, capEq] <;> grind)
      refine WP.seq ?_
      refine WP.cond rfl (fun h6 => ?_) (fun h6 => ?_)
      · have hil : i < h.length := by simpa using h6
        refine WP.skip ?_
        refine WP.seq ?_
        refine WP.block ?_
        refine WP.seq ?_
        refine WP.reg hT hE [] rfl ?_ ?_
        · first | trivial | (simp [holdsC, under, slOk, slB, capEq] <;> grind)
        refine WP.reg hT hE [CG.pure (.bool (!m.testBit i))] rfl ?_ ?_
        · have ho1 := on1_ac m i x (by omega) (by omega)
          simp [holdsC, under, CG.pure]
          exact ⟨fun _ _ => ho1, by grind⟩
        refine WP.reg hT hE [] rfl ?_ ?_
        · first | trivial | (simp [holdsC, under, slOk, slB, capEq] <;> grind)
        refine ⟨i + 1, ?_, ?_, ?_⟩
        · exact hil
        · refine Ent.mk hT [] trivial ⟨⟨rfl, _, rfl, by first | exact conv_eq rfl | (refine conv_eq ?_; rw [wrap_id (by omega) (by omega)]; simp; done) | (refine conv_eq ?_; simp; done)⟩, ⟨rfl, _, rfl, by first | exact conv_eq rfl | (refine conv_eq ?_; rw [wrap_id (by omega) (by omega)]; simp; done) | (refine conv_eq ?_; simp; done)⟩, ⟨rfl, _, rfl, by first | exact conv_eq rfl | (refine conv_eq ?_; rw [wrap_id (by omega) (by omega)]; simp; done) | (refine conv_eq ?_; simp; done)⟩, ⟨rfl, _, rfl, by first | exact conv_eq rfl | (refine conv_eq ?_; rw [wrap_id (by omega) (by omega)]; simp; done) | (refine conv_eq ?_; simp; done)⟩, ⟨rfl, _, rfl, ?_⟩, ⟨rfl, _, rfl, by first | exact conv_eq rfl | (refine conv_eq ?_; rw [wrap_id (by omega) (by omega)]; simp; done) | (refine conv_eq ?_; simp; done)⟩, ⟨rfl, _, rfl, by first | exact conv_eq rfl | (refine conv_eq ?_; rw [wrap_id (by omega) (by omega)]; simp; done) | (refine conv_eq ?_; simp; done)⟩, ⟨rfl, _, rfl, by first | exact conv_eq rfl | (refine conv_eq ?_; rw [wrap_id (by omega) (by omega)]; simp; done) | (refine conv_eq ?_; simp; done)⟩, trivial⟩ ⟨⟨fun _ _ => rfl, .inl ⟨_, rfl, _, _, rfl, Nat.le_refl _, Nat.zero_le _, Nat.zero_le _, fun q hq => conv_eq rfl⟩⟩, ⟨okO_D _ _, .inl ⟨_, rfl, .inl rfl⟩⟩, ob_list (okIds_cal _) rfl rfl rfl rfl rfl (fun q hq => rfl), trivial⟩ rfl
          · refine conv_eq ?_
            simp only [allTo, bor, band]
            rfl
        · (try simp only []); first | omega | grind
      · have hil : i = h.length := by simp at h6; omega
        subst hil
        refine WP.exit ?_
        refine WP.seq ?_
        refine WP.seq ?_
        refine WP.reg hT hE [] rfl ?_ ?_
        · first | trivial | (simp [holdsC, under, slOk, slB, capEq] <;> grind)
        refine WP.cond rfl (fun h10 => ?_) (fun h10 => ?_)
        · have hwh : wholeB h m = true := h10
          refine WP.seq ?_
          refine WP.reg hT hE [] rfl ?_ ?_
          · first | trivial | (simp [holdsC, under, slOk, slB, capEq] <;> grind)
          refine WP.ret ?_
          change Fin _ _ _ _ _ _ _ _
          have e : onF k fst h (n + 1) d m x o = ((o, true), d) := by simp [onF, hin, hwh]
          rw [e]
          exact fin_on2 (by rfl) (by exact ⟨_, _, rfl, fun h => (by cases h), fun j hj => conv_eq rfl⟩) (by rfl) (fun _ _ => rfl) (by exact ⟨_, rfl, rfl, rfl, rfl, rfl⟩) (by rfl) (by rfl)
        · have hwh : wholeB h m = false := h10
          refine WP.skip ?_
          refine WP.seq ?_
          refine WP.seq ?_
          refine WP.reg hT hE [] rfl ?_ ?_
          · first | trivial | (simp [holdsC, under, slOk, slB, capEq] <;> grind)
          refine WP.block ?_
          refine WP.loop (α := Nat × Dead) (fun (⟨i, d'⟩ : Nat × Dead) => mkSt [(0, .ptr (.b 0) 1 0 []), (2, ints f o), (4, .rp 102 (encKey m x)), (8, .clo 60 [.rp 102 (encKey m x)]), (58, ownC (.b 2) h), (59, .int h.length), (60, .int i)] [(.b 0, searchOb k [.rp 4 (.bool cb)] ff (ownC (.b 2) h) (.b 1)), (.b 1, .map (encD d')), (.b 2, obC h)]) (fun (⟨i, d'⟩ : Nat × Dead) => i ≤ h.length ∧ okD d' ∧ tryF k fst h (onF k fst h n) m x o (List.range' 0 h.length) d = tryF k fst h (onF k fst h n) m x o (List.range' i (h.length - i)) d') (fun (⟨i, d'⟩ : Nat × Dead) => h.length - i) ?_ ?_
          · refine ⟨(0, d), ?_, ?_⟩
            · exact ⟨Nat.zero_le _, hd, rfl⟩
            · refine Ent.mk hT [] trivial ⟨⟨rfl, _, rfl, by first | exact conv_eq rfl | (refine conv_eq ?_; rw [wrap_id (by omega) (by omega)]; simp; done) | (refine conv_eq ?_; simp; done)⟩, ⟨rfl, _, rfl, by first | exact conv_eq rfl | (refine conv_eq ?_; rw [wrap_id (by omega) (by omega)]; simp; done) | (refine conv_eq ?_; simp; done)⟩, ⟨rfl, _, rfl, by first | exact conv_eq rfl | (refine conv_eq ?_; rw [wrap_id (by omega) (by omega)]; simp; done) | (refine conv_eq ?_; simp; done)⟩, ⟨rfl, _, rfl, by first | exact conv_eq rfl | (refine conv_eq ?_; rw [wrap_id (by omega) (by omega)]; simp; done) | (refine conv_eq ?_; simp; done)⟩, ⟨rfl, _, rfl, by first | exact conv_eq rfl | (refine conv_eq ?_; rw [wrap_id (by omega) (by omega)]; simp; done) | (refine conv_eq ?_; simp; done)⟩, ⟨rfl, _, rfl, by first | exact conv_eq rfl | (refine conv_eq ?_; rw [wrap_id (by omega) (by omega)]; simp; done) | (refine conv_eq ?_; simp; done)⟩, ⟨rfl, _, rfl, by first | exact conv_eq rfl | (refine conv_eq ?_; rw [wrap_id (by omega) (by omega)]; simp; done) | (refine conv_eq ?_; simp; done)⟩, trivial⟩ ⟨⟨fun _ _ => rfl, .inl ⟨_, rfl, _, _, rfl, Nat.le_refl _, Nat.zero_le _, Nat.zero_le _, fun q hq => conv_eq rfl⟩⟩, ⟨okO_D _ _, .inl ⟨_, rfl, .inl rfl⟩⟩, ob_list (okIds_cal _) rfl rfl rfl rfl rfl (fun q hq => rfl), trivial⟩ rfl
          · rintro ⟨i, d'⟩ ⟨hi, hd', htry⟩
            refine WP.seq ?_
            refine WP.reg hT hE [] rfl ?_ ?_
            · first | trivial | (simp [holdsC, under, slOk, slB, capEq] <;> grind)
            refine WP.seq ?_
            refine WP.cond rfl (fun h13 => ?_) (fun h13 => ?_)
            · have hil : i < h.length := by simpa using h13
              rw [show h.length - i = (h.length - (i + 1)) + 1 by omega, List.range'_succ] at htry
              refine WP.skip ?_
              refine WP.seq ?_
              refine WP.block ?_
              refine WP.seq ?_
              refine WP.reg hT hE [] rfl ?_ ?_
              · first | trivial | (simp [holdsC, under, slOk, slB, capEq] <;> grind)
              refine WP.seq ?_
              refine WP.seq ?_
              refine WP.reg hT hE [CG.pure (.bool (!m.testBit i))] rfl ?_ ?_
              · have ho1 := on1_ac m i x (by omega) (by omega)
                simp [holdsC, under, CG.pure]
                exact ho1
              refine WP.cond rfl (fun h15 => ?_) (fun h15 => ?_)
              · have hb : m.testBit i = true := by simpa using h15
                simp only [tryF, hb, if_true] at htry
                refine WP.exit ?_
                refine WP.reg hT hE [] rfl ?_ ?_
                · first | trivial | (simp [holdsC, under, slOk, slB, capEq] <;> grind)
                refine ⟨(i + 1, d'), ?_, ?_, ?_⟩
                · exact ⟨hil, hd', htry⟩
                · refine Ent.mk hT [] trivial ⟨⟨rfl, _, rfl, by first | exact conv_eq rfl | (refine conv_eq ?_; rw [wrap_id (by omega) (by omega)]; simp; done) | (refine conv_eq ?_; simp; done)⟩, ⟨rfl, _, rfl, by first | exact conv_eq rfl | (refine conv_eq ?_; rw [wrap_id (by omega) (by omega)]; simp; done) | (refine conv_eq ?_; simp; done)⟩, ⟨rfl, _, rfl, by first | exact conv_eq rfl | (refine conv_eq ?_; rw [wrap_id (by omega) (by omega)]; simp; done) | (refine conv_eq ?_; simp; done)⟩, ⟨rfl, _, rfl, by first | exact conv_eq rfl | (refine conv_eq ?_; rw [wrap_id (by omega) (by omega)]; simp; done) | (refine conv_eq ?_; simp; done)⟩, ⟨rfl, _, rfl, by first | exact conv_eq rfl | (refine conv_eq ?_; rw [wrap_id (by omega) (by omega)]; simp; done) | (refine conv_eq ?_; simp; done)⟩, ⟨rfl, _, rfl, by first | exact conv_eq rfl | (refine conv_eq ?_; rw [wrap_id (by omega) (by omega)]; simp; done) | (refine conv_eq ?_; simp; done)⟩, ⟨rfl, _, rfl, by first | exact conv_eq rfl | (refine conv_eq ?_; rw [wrap_id (by omega) (by omega)]; simp; done) | (refine conv_eq ?_; simp; done)⟩, trivial⟩ ⟨⟨fun _ _ => rfl, .inl ⟨_, rfl, _, _, rfl, Nat.le_refl _, Nat.zero_le _, Nat.zero_le _, fun q hq => conv_eq rfl⟩⟩, ⟨okO_D _ _, .inl ⟨_, rfl, .inl rfl⟩⟩, ob_list (okIds_cal _) rfl rfl rfl rfl rfl (fun q hq => rfl), trivial⟩ rfl
                · (try simp only []); first | omega | grind
              · have hb : m.testBit i = false := by simpa using h15
                refine WP.skip ?_
                refine WP.seq ?_
                refine WP.reg hT hE [] rfl ?_ ?_
                · first | trivial | (simp [holdsC, under, slOk, slB, capEq] <;> grind)
                refine WP.seq ?_
                refine WP.seq ?_
                refine WP.reg hT hE [] rfl ?_ ?_
                · first | trivial | (simp [holdsC, under, slOk, slB, capEq] <;> grind)
                refine WP.block ?_
                refine WP.loop (α := Nat) (fun j => mkSt [(0, .ptr (.b 0) 1 0 []), (2, ints f o), (4, .rp 102 (encKey m x)), (8, .clo 60 [.rp 102 (encKey m x)]), (58, ownC (.b 2) h), (59, .int h.length), (60, .int i), (12, .int i), (13, .rp 30 (encCal (calAt h i))), (14, .bool (allTo (fun j => !(j != i && !m.testBit j && fst (calAt h j) (calAt h i))) j)), (72, ownC (.b 2) h), (73, .int h.length), (74, .int j)] [(.b 0, searchOb k [.rp 4 (.bool cb)] ff (ownC (.b 2) h) (.b 1)), (.b 1, .map (encD d')), (.b 2, obC h)]) (fun j => j ≤ h.length) (fun j => h.length - j) ?_ ?_
                · refine ⟨0, ?_, ?_⟩
                  · exact Nat.zero_le _
                  · refine Ent.mk hT [(.s 13 0, 1)] ⟨⟨_, rfl, Nat.le_refl _⟩, trivial⟩ ⟨⟨rfl, _, rfl, by first | exact conv_eq rfl | (refine conv_eq ?_; rw [wrap_id (by omega) (by omega)]; simp; done) | (refine conv_eq ?_; simp; done)⟩, ⟨rfl, _, rfl, by first | exact conv_eq rfl | (refine conv_eq ?_; rw [wrap_id (by omega) (by omega)]; simp; done) | (refine conv_eq ?_; simp; done)⟩, ⟨rfl, _, rfl, by first | exact conv_eq rfl | (refine conv_eq ?_; rw [wrap_id (by omega) (by omega)]; simp; done) | (refine conv_eq ?_; simp; done)⟩, ⟨rfl, _, rfl, by first | exact conv_eq rfl | (refine conv_eq ?_; rw [wrap_id (by omega) (by omega)]; simp; done) | (refine conv_eq ?_; simp; done)⟩, ⟨rfl, _, rfl, by first | exact conv_eq rfl | (refine conv_eq ?_; rw [wrap_id (by omega) (by omega)]; simp; done) | (refine conv_eq ?_; simp; done)⟩, ⟨rfl, _, rfl, by first | exact conv_eq rfl | (refine conv_eq ?_; rw [wrap_id (by omega) (by omega)]; simp; done) | (refine conv_eq ?_; simp; done)⟩, ⟨rfl, _, rfl, by first | exact conv_eq rfl | (refine conv_eq ?_; rw [wrap_id (by omega) (by omega)]; simp; done) | (refine conv_eq ?_; simp; done)⟩, ⟨rfl, _, rfl, by first | exact conv_eq rfl | (refine conv_eq ?_; rw [wrap_id (by omega) (by omega)]; simp; done) | (refine conv_eq ?_; simp; done)⟩, ⟨rfl, _, rfl, conv_rpe rfl rfl (Nat.lt_succ_self 0) rfl rfl rfl⟩, ⟨rfl, _, rfl, by first | exact conv_eq rfl | (refine conv_eq ?_; rw [wrap_id (by omega) (by omega)]; simp; done) | (refine conv_eq ?_; simp; done)⟩, ⟨rfl, _, rfl, by first | exact conv_eq rfl | (refine conv_eq ?_; rw [wrap_id (by omega) (by omega)]; simp; done) | (refine conv_eq ?_; simp; done)⟩, ⟨rfl, _, rfl, by first | exact conv_eq rfl | (refine conv_eq ?_; rw [wrap_id (by omega) (by omega)]; simp; done) | (refine conv_eq ?_; simp; done)⟩, ⟨rfl, _, rfl, by first | exact conv_eq rfl | (refine conv_eq ?_; rw [wrap_id (by omega) (by omega)]; simp; done) | (refine conv_eq ?_; simp; done)⟩, trivial⟩ ⟨⟨fun _ _ => rfl, .inl ⟨_, rfl, _, _, rfl, Nat.le_refl _, Nat.zero_le _, Nat.zero_le _, fun q hq => conv_eq rfl⟩⟩, ⟨okO_D _ _, .inl ⟨_, rfl, .inl rfl⟩⟩, ob_list (okIds_cal _) rfl rfl rfl rfl rfl (fun q hq => rfl), trivial⟩ rfl
                · rintro j hj
                  refine WP.seq ?_
                  refine WP.reg hT hE [] rfl ?_ ?_
                  · first | trivial | (simp [holdsC, under, slOk, slB, capEq] <;> grind)
                  refine WP.seq ?_
                  refine WP.cond rfl (fun h18 => ?_) (fun h18 => ?_)
                  · have hjl : j < h.length := by simpa using h18
                    refine WP.skip ?_
                    refine WP.seq ?_
                    refine WP.block ?_
                    refine WP.seq ?_
                    refine WP.reg hT hE [] rfl ?_ ?_
                    · first | trivial | (simp [holdsC, under, slOk, slB, capEq] <;> grind)
                    refine WP.drw hT hE hM [CG.pure (.bool (!m.testBit j)), CG.pure (.bool (fst (calAt h j) (calAt h i)))] rfl ?_ ?_
                    · have ho1 := on1_ac m j x (by omega) (by omega)
                      have ho2 := hff (calAt h j) (calAt h i)
                      simp [holdsC, under, CG.pure]
                      exact ⟨⟨⟨fun _ _ => ho1, fun a b => ⟨a, b⟩⟩, fun _ _ _ => ho2⟩, fun a b c => ⟨a, b, c⟩⟩
                    refine WP.reg hT hE [] rfl ?_ ?_
                    · first | trivial | (simp [holdsC, under, slOk, slB, capEq] <;> grind)
                    refine ⟨j + 1, ?_, ?_, ?_⟩
                    · exact hjl
                    · refine Ent.mk hT [] trivial ⟨⟨rfl, _, rfl, by first | exact conv_eq rfl | (refine conv_eq ?_; rw [wrap_id (by omega) (by omega)]; simp; done) | (refine conv_eq ?_; simp; done)⟩, ⟨rfl, _, rfl, by first | exact conv_eq rfl | (refine conv_eq ?_; rw [wrap_id (by omega) (by omega)]; simp; done) | (refine conv_eq ?_; simp; done)⟩, ⟨rfl, _, rfl, by first | exact conv_eq rfl | (refine conv_eq ?_; rw [wrap_id (by omega) (by omega)]; simp; done) | (refine conv_eq ?_; simp; done)⟩, ⟨rfl, _, rfl, by first | exact conv_eq rfl | (refine conv_eq ?_; rw [wrap_id (by omega) (by omega)]; simp; done) | (refine conv_eq ?_; simp; done)⟩, ⟨rfl, _, rfl, by first | exact conv_eq rfl | (refine conv_eq ?_; rw [wrap_id (by omega) (by omega)]; simp; done) | (refine conv_eq ?_; simp; done)⟩, ⟨rfl, _, rfl, by first | exact conv_eq rfl | (refine conv_eq ?_; rw [wrap_id (by omega) (by omega)]; simp; done) | (refine conv_eq ?_; simp; done)⟩, ⟨rfl, _, rfl, by first | exact conv_eq rfl | (refine conv_eq ?_; rw [wrap_id (by omega) (by omega)]; simp; done) | (refine conv_eq ?_; simp; done)⟩, ⟨rfl, _, rfl, by first | exact conv_eq rfl | (refine conv_eq ?_; rw [wrap_id (by omega) (by omega)]; simp; done) | (refine conv_eq ?_; simp; done)⟩, ⟨rfl, _, rfl, by first | exact conv_eq rfl | (refine conv_eq ?_; rw [wrap_id (by omega) (by omega)]; simp; done) | (refine conv_eq ?_; simp; done)⟩, ⟨rfl, _, rfl, ?_⟩, ⟨rfl, _, rfl, by first | exact conv_eq rfl | (refine conv_eq ?_; rw [wrap_id (by omega) (by omega)]; simp; done) | (refine conv_eq ?_; simp; done)⟩, ⟨rfl, _, rfl, by first | exact conv_eq rfl | (refine conv_eq ?_; rw [wrap_id (by omega) (by omega)]; simp; done) | (refine conv_eq ?_; simp; done)⟩, ⟨rfl, _, rfl, by first | exact conv_eq rfl | (refine conv_eq ?_; rw [wrap_id (by omega) (by omega)]; simp; done) | (refine conv_eq ?_; simp; done)⟩, trivial⟩ ⟨⟨fun _ _ => rfl, .inl ⟨_, rfl, _, _, rfl, Nat.le_refl _, Nat.zero_le _, Nat.zero_le _, fun q hq => conv_eq rfl⟩⟩, ⟨okO_D _ _, .inl ⟨_, rfl, .inl rfl⟩⟩, ob_list (okIds_cal _) rfl rfl rfl rfl rfl (fun q hq => rfl), trivial⟩ rfl
                      · refine conv_eq ?_
                        simp only [allTo, bor, band]
                        have e : ((j : Int) != (i : Int)) = (j != i) := by rw [Bool.eq_iff_iff]; simp; omega
                        rw [e]
                    · (try simp only []); first | omega | grind
                  · have hjl : j = h.length := by simp at h18; omega
                    subst hjl
                    refine WP.exit ?_
                    refine WP.seq ?_
                    refine WP.drw hT hE hM [CG.pure (encOut (doF k x (calAt h i)))] rfl ?_ ?_
                    · have ho1 := do_ac hk (x := x) (c := calAt h i) hv (okX_pre hx hil hb)
                      rw [hcaps] at ho1
                      simp [holdsC, under, CG.pure]
                      exact ho1
                    refine WP.seq ?_
                    refine WP.seq ?_
                    refine WP.reg hT hE [] rfl ?_ ?_
                    · first | trivial | (simp [holdsC, under, slOk, slB, capEq] <;> grind)
                    refine WP.cond rfl (fun h23 => ?_) (fun h23 => ?_)
                    · have hnn : notNext k fst h m i x = true := by simp only [bor, band] at h23; exact h23
                      simp only [tryF, hb, hnn, if_true, Bool.false_eq_true, if_false] at htry
                      refine WP.exit ?_
                      refine WP.reg hT hE [] rfl ?_ ?_
                      · first | trivial | (simp [holdsC, under, slOk, slB, capEq] <;> grind)
                      refine ⟨(i + 1, d'), ?_, ?_, ?_⟩
                      · exact ⟨hil, hd', htry⟩
                      · refine Ent.mk hT [] trivial ⟨⟨rfl, _, rfl, by first | exact conv_eq rfl | (refine conv_eq ?_; rw [wrap_id (by omega) (by omega)]; simp; done) | (refine conv_eq ?_; simp; done)⟩, ⟨rfl, _, rfl, by first | exact conv_eq rfl | (refine conv_eq ?_; rw [wrap_id (by omega) (by omega)]; simp; done) | (refine conv_eq ?_; simp; done)⟩, ⟨rfl, _, rfl, by first | exact conv_eq rfl | (refine conv_eq ?_; rw [wrap_id (by omega) (by omega)]; simp; done) | (refine conv_eq ?_; simp; done)⟩, ⟨rfl, _, rfl, by first | exact conv_eq rfl | (refine conv_eq ?_; rw [wrap_id (by omega) (by omega)]; simp; done) | (refine conv_eq ?_; simp; done)⟩, ⟨rfl, _, rfl, by first | exact conv_eq rfl | (refine conv_eq ?_; rw [wrap_id (by omega) (by omega)]; simp; done) | (refine conv_eq ?_; simp; done)⟩, ⟨rfl, _, rfl, by first | exact conv_eq rfl | (refine conv_eq ?_; rw [wrap_id (by omega) (by omega)]; simp; done) | (refine conv_eq ?_; simp; done)⟩, ⟨rfl, _, rfl, by first | exact conv_eq rfl | (refine conv_eq ?_; rw [wrap_id (by omega) (by omega)]; simp; done) | (refine conv_eq ?_; simp; done)⟩, trivial⟩ ⟨⟨fun _ _ => rfl, .inl ⟨_, rfl, _, _, rfl, Nat.le_refl _, Nat.zero_le _, Nat.zero_le _, fun q hq => conv_eq rfl⟩⟩, ⟨okO_D _ _, .inl ⟨_, rfl, .inl rfl⟩⟩, ob_list (okIds_cal _) rfl rfl rfl rfl rfl (fun q hq => rfl), trivial⟩ rfl
                      · (try simp only []); first | omega | grind
                    · have hnn : notNext k fst h m i x = false := by simp only [bor, band] at h23; exact h23
                      have hset := opens_set hil hb
                      have hih := ih d' (m ||| 1 <<< i) (doF k x (calAt h i)).1 false (o ++ [(i : Int)]) ⟨hd', okX_step hx hil hb, by omega, set_lt hm (by omega), by simp; omega⟩
                      have hd2 := onF_ok (k := k) (fst := fst) (h := h) n d' (m ||| 1 <<< i) (doF k x (calAt h i)).1 (o ++ [(i : Int)]) hd' (doF_len hv)
                      generalize hrr : onF k fst h n d' (m ||| 1 <<< i) (doF k x (calAt h i)).1 (o ++ [(i : Int)]) = rr at hih hd2
                      refine WP.skip ?_
                      refine WP.seq ?_
                      refine WP.drw hT hE hM [recG k [.rp 4 (.bool cb)] ff (ownC (.b 2) h) [Id.b 0, Id.b 1, Id.b 2] [obC h] rr] rfl ?_ ?_
                      · simp only [holdsC, under, recG]
                        refine ⟨⟨⟨⟨by omega, trivial⟩, by simp [slOk, slB], by simp [capEq]⟩, Nat.zero_lt_one, ?_⟩, ⟨trivial, fun j hj => ?_⟩, ?_, ?_, ?_⟩
                        · show (((o.length : Int) - 0).toNat + 1) * 8 ≤ 140737488355328
                          omega
                        · have e := ord_app (o := o) (i := (i : Int)) (j := j) (by simp [slB] at hj; omega)
                          refine (congrArg noIds e).trans rfl
                        · exact ⟨fun _ _ => rfl, okO_D _ _, okO_C _ _,trivial⟩
                        · exact ⟨fun _ _ => rfl, okO_D _ _, okO_C _ _,trivial⟩
                        · simp only [List.map, renO_D, renO_C, List.append, renO_search (H := ownC (.b 2) h) (hren _) rfl (show sig [Id.b 0, Id.b 1, Id.b 2] 0 (.b 1) = .b 1 from rfl)]
                          refine AC.conv hT hih ⟨_, _, rfl, conv_eq rfl, _, _, rfl, conv_eq ?_, _, _, rfl, ?_, rfl⟩
                          · show ren _ (((stru 102 [.int 0, stru 78 [.int 0, .agg 76 8 fun _ => .int 0]]).put [0] (.int (IntKind.i64.wrap ↑(BitVec.ofInt IntKind.i64.bits (m : Int) ||| BitVec.ofInt IntKind.i64.bits (IntKind.i64.wrap (1 * 2 ^ min ((i : Int).toNat) IntKind.i64.bits))).toNat))).put [1] (encCt (doF k x (calAt h i)).1)) = _
                            rw [key_built, set_bits hm (by omega)]
                            exact ren_key _ (m ||| 1 <<< i, (doF k x (calAt h i)).1)
                          · exact ⟨false, fun j => .int ((o ++ [(i : Int)]).getD j 0), by simp [ints, slB], fun h => (by cases h), fun j hj => conv_eq (ord_app (o := o) (i := (i : Int)) (j := j) (by simp [slB] at hj; omega))⟩
                      refine WP.seq ?_
                      refine WP.reg hT hE [] rfl ?_ ?_
                      · first | trivial | (simp [holdsC, under, slOk, slB, capEq] <;> grind)
                      refine WP.cond rfl (fun h25 => ?_) (fun h25 => ?_)
                      · have hres : rr.1.2 = true := h25
                        refine WP.seq ?_
                        refine WP.reg hT hE [] rfl ?_ ?_
                        · first | trivial | (simp [holdsC, under, slOk, slB, capEq] <;> grind)
                        refine WP.ret ?_
                        change Fin _ _ _ _ _ _ _ _
                        have e : onF k fst h (n + 1) d m x o = ((rr.1.1, true), rr.2) := by
                          have e1 : tryF k fst h (onF k fst h n) m x o (List.range' 0 h.length) d = (some rr.1.1, rr.2) := by
                            rw [htry]
                            simp only [tryF, hb, hnn, hrr, hres, Bool.false_eq_true, if_false, if_true]
                          simp [onF, hin, hwh, e1]
                        rw [e]
                        exact fin_on2 (by rfl) (by exact conv_eq rfl) (by rfl) (fun _ _ => rfl) (by exact ⟨_, rfl, rfl, rfl, rfl, ren_sget (hren _) (by rfl) (by rfl)⟩) (by exact congrArg some (renO_D _ _)) (by exact congrArg some (renO_C _ _))
                      · have hres : rr.1.2 = false := h25
                        simp only [tryF, hb, hnn, hrr, hres, Bool.false_eq_true, if_false] at htry
                        refine WP.skip ?_
                        refine WP.reg hT hE [] rfl ?_ ?_
                        · first | trivial | (simp [holdsC, under, slOk, slB, capEq] <;> grind)
                        refine ⟨(i + 1, rr.2), ?_, ?_, ?_⟩
                        · exact ⟨hil, hd2, htry⟩
                        · refine Ent.mk hT [] trivial ⟨⟨rfl, _, rfl, by first | exact conv_eq rfl | (refine conv_eq ?_; rw [wrap_id (by omega) (by omega)]; simp; done) | (refine conv_eq ?_; simp; done)⟩, ⟨rfl, _, rfl, by first | exact conv_eq rfl | (refine conv_eq ?_; rw [wrap_id (by omega) (by omega)]; simp; done) | (refine conv_eq ?_; simp; done)⟩, ⟨rfl, _, rfl, by first | exact conv_eq rfl | (refine conv_eq ?_; rw [wrap_id (by omega) (by omega)]; simp; done) | (refine conv_eq ?_; simp; done)⟩, ⟨rfl, _, rfl, by first | exact conv_eq rfl | (refine conv_eq ?_; rw [wrap_id (by omega) (by omega)]; simp; done) | (refine conv_eq ?_; simp; done)⟩, ⟨rfl, _, rfl, by first | exact conv_eq rfl | (refine conv_eq ?_; rw [wrap_id (by omega) (by omega)]; simp; done) | (refine conv_eq ?_; simp; done)⟩, ⟨rfl, _, rfl, by first | exact conv_eq rfl | (refine conv_eq ?_; rw [wrap_id (by omega) (by omega)]; simp; done) | (refine conv_eq ?_; simp; done)⟩, ⟨rfl, _, rfl, by first | exact conv_eq rfl | (refine conv_eq ?_; rw [wrap_id (by omega) (by omega)]; simp; done) | (refine conv_eq ?_; simp; done)⟩, trivial⟩ ⟨⟨fun _ _ => rfl, .inl ⟨_, rfl, _, _, rfl, Nat.le_refl _, Nat.zero_le _, Nat.zero_le _, fun q hq => conv_eq (ren_sget (hren _) (by rfl) (by rfl))⟩⟩, ⟨okO_D _ _, .inl ⟨_, rfl, .inl (renO_D _ _).symm⟩⟩, ob_list (okIds_cal _) rfl rfl rfl rfl rfl (fun q hq => ren_cal _ _), trivial⟩ rfl
                        · (try simp only []); first | omega | grind
            · have hil : i = h.length := by simp at h13; omega
              subst hil
              refine WP.exit ?_
              refine WP.seq ?_
              refine WP.drw hT hE hM [⟨true, [], .bad, [.map (encD (putK d' (m, x) ()))]⟩] rfl ?_ ?_
              · exact ⟨by simp, put_D (p := (m, x)) hd' hv⟩
              refine WP.seq ?_
              refine WP.reg hT hE [] rfl ?_ ?_
              · first | trivial | (simp [holdsC, under, slOk, slB, capEq] <;> grind)
              refine WP.ret ?_
              change Fin _ _ _ _ _ _ _ _
              have e : onF k fst h (n + 1) d m x o = (([], false), putK d' (m, x) ()) := by
                have e1 : tryF k fst h (onF k fst h n) m x o (List.range' 0 h.length) d = (none, d') := by
                  rw [htry, Nat.sub_self]
                  rfl
                simp [onF, hin, hwh, e1]
              rw [e]
              exact fin_on2 (by rfl) (by exact conv_nil_row (by decide)) (by rfl) (fun _ _ => rfl) (by exact ⟨_, rfl, rfl, rfl, rfl, rfl⟩) (by rfl) (by rfl)
theorem on_ac {k : Int} (hk : k = 1 ∨ k = 2 ∨ k = 3 ∨ k = 4) {ff : Nat} {fst : Cal → Cal → Bool} (hff : ∀ a b, AC Try.prog T tysN ff [encCal a, encCal b] [] (.bool (fst a b)) []) (g : Bool) {h : List Cal} (hl : h.length ≤ 8) : ∀ (n : Nat) (d : Dead) (m : Nat) (x : Ct) (f : Bool) (o : List Int), OnOK k h n d m x o →
    AC Try.prog T tysN 44 [.ptr (.b 0) 1 0 [], encKey m x, ints f o] [searchOb k (capsOf k) ff (cals g h) (.b 1), .map (encD d)] (encRes (onF k fst h n d m x o).1) [searchOb k (capsOf k) ff (cals g h) (.b 1), .map (encD (onF k fst h n d m x o).2)]
  | 0, d, m, x, f, o, hok => absurd hok.2.2.1 (Nat.not_lt_zero _)
  | n + 1, d, m, x, f, o, hok => by
    have ih := on_ac hk hff g hl n
    by_cases h12 : k = 1 ∨ k = 2
    · have e : capsOf k = [] := if_pos h12
      rw [e] at ih ⊢
      exact on_step1 k hk e ff fst hff g h hl n ih d m x f o hok
    · have e : capsOf k = [.rp 4 (.bool (decide (k = 3)))] := if_neg h12
      rw [e] at ih ⊢
      exact on_step2 k hk _ e ff fst hff g h hl n ih d m x f o hok
theorem on_ac2 {k : Int} (hk : k = 1 ∨ k = 2 ∨ k = 3 ∨ k = 4) {ff : Nat} {fst : Cal → Cal → Bool} (hff : ∀ a b, AC Try.prog T tysN ff [encCal a, encCal b] [] (.bool (fst a b)) []) {h : List Cal} (hl : h.length ≤ 8) : ∀ (n : Nat) (d : Dead) (m : Nat) (x : Ct) (f : Bool) (o : List Int), OnOK k h n d m x o →
    AC Try.prog T tysN 44 [.ptr (.b 0) 1 0 [], encKey m x, ints f o] [searchOb k (capsOf k) ff (ownC (.b 2) h) (.b 1), .map (encD d), obC h] (encRes (onF k fst h n d m x o).1) [searchOb k (capsOf k) ff (ownC (.b 2) h) (.b 1), .map (encD (onF k fst h n d m x o).2), obC h]
  | 0, d, m, x, f, o, hok => absurd hok.2.2.1 (Nat.not_lt_zero _)
  | n + 1, d, m, x, f, o, hok => by
    have ih := on_ac2 hk hff hl n
    by_cases h12 : k = 1 ∨ k = 2
    · have e : capsOf k = [] := if_pos h12
      rw [e] at ih ⊢
      exact on_step3 k hk e ff fst hff h hl n ih d m x f o hok
    · have e : capsOf k = [.rp 4 (.bool (decide (k = 3)))] := if_neg h12
      rw [e] at ih ⊢
      exact on_step4 k hk _ e ff fst hff h hl n ih d m x f o hok
end Go.Ab


/- linear.Linear, linear.Turns. -/
set_option autoImplicit false
set_option maxRecDepth 20000
set_option linter.unusedSimpArgs false
set_option linter.unusedVariables false
namespace Go.Ab
open Go.Proofs
def firstF (k : Int) (fst : Cal → Cal → Bool) (h : List Cal) : Res := onF k fst h 9 [] 0 (beginF k) []
open Classical in
noncomputable def linF (k : Int) (fst : Cal → Cal → Bool) (h : List Cal) : List Int × Bool × Int := if okHist k h then ((firstF k fst h).1.1, (firstF k fst h).1.2, 0) else ([], false, 260)
theorem linF_ok {k : Int} {fst : Cal → Cal → Bool} {h : List Cal} (e : okHist k h) : linF k fst h = ((firstF k fst h).1.1, (firstF k fst h).1.2, 0) := by unfold linF; rw [if_pos e]
theorem linF_bad {k : Int} {fst : Cal → Cal → Bool} {h : List Cal} (e : ¬ okHist k h) : linF k fst h = ([], false, 260) := by unfold linF; rw [if_neg e]
def encR3 (r : List Int × Bool × Int) : AV := .tup [ints false r.1, .bool r.2.1, .int r.2.2]
theorem first_ok {k : Int} {h : List Cal} (hl : h.length ≤ 8) : OnOK k h 9 [] 0 (beginF k) [] := by
  have h1 := openTo_le 0 h.length
  refine ⟨fun p hp => by simp at hp, ⟨rfl, fun hk => ?_⟩, by show openTo 0 h.length < 9; omega, by decide, by simp; show openTo 0 h.length ≤ 8; omega⟩
  have : (beginF k).n = 0 := if_neg hk
  rw [this]
  refine ⟨by decide, ?_⟩
  show 0 + (openTo 0 h.length : Int) ≤ 8
  omega
theorem search_built {a b c d : AV} : ((((stru 98 [stru 60 [.nils, .v .nilFunc], .nils, .v .nilFunc, .v (.map none)]).put [0] a).put [1] b).put [2] c).put [3] d = stru 98 [a, b, c, d] := by
  rw [stru_put (by simp)]
  rw [stru_put (by simp)]
  rw [stru_put (by simp)]
  rw [stru_put (by simp)]
  rfl
theorem fin_r3 {nt : Nat} {st : St} {r : List Int × Bool × Int} {y : AV} (a b c : Nat) (hab : a ≠ b) (hac : a ≠ c) (hbc : b ≠ c) (h6 : st.t a = some (.always, y)) (hy : Conv st.m (fun id => lookF id []) T y (ints false r.1)) (h7 : st.t b = some (.always, .bool r.2.1)) (h8 : st.t c = some (.always, .int r.2.2)) : Fin T tysN nt 0 [.tmp a, .tmp b, .tmp c] (encR3 r) [] st :=
  fin_mk hT [] (ts := [(a, ints false r.1), (b, .bool r.2.1), (c, .int r.2.2)]) (l := [ints false r.1, .bool r.2.1, .int r.2.2]) (B' := []) trivial ⟨⟨rfl, _, h6, hy⟩, ⟨rfl, _, h7, conv_eq rfl⟩, ⟨rfl, _, h8, conv_eq rfl⟩, trivial⟩ trivial rfl (by simp [resL, mkSt, lookN, nbeq_ne hab.symm, nbeq_ne hac.symm, nbeq_ne hbc.symm, nbeq_ne hab, nbeq_ne hac, nbeq_ne hbc, notTup, ints]) (by rfl)
theorem noIds_cal (c : Cal) : noIds (encCal c) = true := noIds_agg (fun i hi => by match i, hi with | 0, _ | 1, _ | 2, _ | 3, _ | 4, _ | 5, _ | 6, _ => rfl)
theorem own_row {h : List Cal} {m : Id → Option Ob} {F : Id → Nat} {f : Bool} : Conv m F T (.row 30 f h.length (fun j => encCal (h.getD (j + 0) cal0))) (cals false h) := conv_rowL (fun h => by cases h) (fun j hj => rfl)
theorem lcheck_own {k : Int} {h : List Cal} {f : Bool} : AC Try.prog T tysN 12 [.int k, .row 30 f h.length (fun j => encCal (h.getD (j + 0) cal0))] [] (.int (refCheck k h)) [] :=
  AC.conv hT (lcheck_ac k false h) ⟨_, _, rfl, conv_eq rfl, _, _, rfl, own_row, rfl⟩
theorem fin_r3o {nt : Nat} {st : St} {h : List Cal} {r : List Int × Bool × Int} {y : AV} (a b c : Nat) (hab : a ≠ b) (hac : a ≠ c) (hbc : b ≠ c) (h6 : st.t a = some (.always, y)) (hy : Conv st.m (fun id => lookF id []) T y (ints false r.1)) (h7 : st.t b = some (.always, .bool r.2.1)) (h8 : st.t c = some (.always, .int r.2.2)) (h9 : st.m (.b 0) = some (obC h)) : Fin T tysN nt 1 [.tmp a, .tmp b, .tmp c] (encR3 r) [obC h] st :=
  fin_mk hT [] (ts := [(a, ints false r.1), (b, .bool r.2.1), (c, .int r.2.2)]) (l := [ints false r.1, .bool r.2.1, .int r.2.2]) (B' := [obC h]) trivial ⟨⟨rfl, _, h6, hy⟩, ⟨rfl, _, h7, conv_eq rfl⟩, ⟨rfl, _, h8, conv_eq rfl⟩, trivial⟩ ⟨ob_list (okIds_cal _) h9 rfl rfl rfl rfl (fun q hq => rfl), trivial⟩ rfl (by simp [resL, mkSt, lookN, nbeq_ne hab.symm, nbeq_ne hac.symm, nbeq_ne hbc.symm, nbeq_ne hab, nbeq_ne hac, nbeq_ne hbc, notTup, ints]) (by rfl)
theorem found1_ac (k : Int) (hk : k = 1 ∨ k = 2 ∨ k = 3 ∨ k = 4)  (hcaps : capsOf k = []) (ff : Nat) (fst : Cal → Cal → Bool) (hff : ∀ a b, AC Try.prog T tysN ff [encCal a, encCal b] [] (.bool (fst a b)) []) (g : Bool) (h : List Cal) : AC Try.prog T tysN 26 [.int k, cals g h, .clo ff []] [] (encR3 (linF k fst h)) [] := by
  refine AC_intro hT Try.func26 rfl rfl (Nat.le_of_ble_eq_true rfl) ?_
  have hof := of_ac hk
  rw [thOf, hcaps] at hof
  refine WP.seq ?_
  refine WP.reg hT hE [] rfl ?_ ?_
  · first | trivial | (simp [holdsC, under, slOk, slB, capEq] <;> grind)
  refine WP.seq ?_
  refine WP.seq ?_
  refine WP.reg hT hE [CG.pure (.int (refCheck k h))] rfl ?_ ?_
  · exact lcheck_ac k g h
  refine WP.seq ?_
  refine WP.reg hT hE [] rfl ?_ ?_
  · first | trivial | (simp [holdsC, under, slOk, slB, capEq] <;> grind)
  refine WP.cond rfl (fun h2 => ?_) (fun h2 => ?_)
  · have hbad : ¬ okHist k h := fun e => by
      simp [refCheck, e] at h2
    refine WP.seq ?_
    refine WP.reg hT hE [] rfl ?_ ?_
    · first | trivial | (simp [holdsC, under, slOk, slB, capEq] <;> grind)
    refine WP.ret ?_
    change Fin _ _ _ _ _ _ _ _
    rw [linF_bad hbad]
    exact fin_r3 6 7 8 (by decide) (by decide) (by decide) (by rfl) (by exact conv_nil_row (by decide)) (by rfl) (by simp only [refCheck, if_neg hbad]; rfl) 
  · have hok : okHist k h := Classical.byContradiction fun e => by
      simp [refCheck, e] at h2
    have hl8 : h.length ≤ 8 := hok.2.2.1
    have hon := on_ac hk hff g hl8 9 [] 0 (beginF k) false [] (first_ok hl8)
    rw [hcaps, show onF k fst h 9 [] 0 (beginF k) [] = firstF k fst h from rfl] at hon
    refine WP.skip ?_
    refine WP.seq ?_
    refine WP.reg hT hE [CG.pure (.tup [encTh (mayOf k) (fnOf k) [], .bool true])] rfl ?_ ?_
    · exact ⟨hof, rfl, Nat.le_refl _⟩
    refine WP.seq ?_
    refine WP.reg hT hE [] rfl ?_ ?_
    · first | trivial | (simp [holdsC, under, slOk, slB, capEq] <;> grind)
    refine WP.seq ?_
    refine WP.ent (st' := mkSt [(0, .int k), (12, .ptr (.s 31 0) 1 0 [])] [(.s 31 0, searchOb k [] ff (cals g h) (.s 29 0)), (.s 29 0, .map (encD []))]) ?_ ?_
    · refine Ent.mk hT [] trivial ⟨⟨rfl, _, rfl, by first | exact conv_eq rfl | (refine conv_eq ?_; rw [wrap_id (by omega) (by omega)]; simp; done) | (refine conv_eq ?_; simp; done)⟩, ⟨rfl, _, rfl, by first | exact conv_eq rfl | (refine conv_eq ?_; rw [wrap_id (by omega) (by omega)]; simp; done) | (refine conv_eq ?_; simp; done)⟩, trivial⟩ ⟨⟨fun _ _ => rfl, .inl ⟨_, rfl, _, _, rfl, Nat.le_refl _, Nat.zero_le _, Nat.zero_le _, fun q hq => conv_eq search_built⟩⟩, ⟨okO_D _ _, .inl ⟨_, rfl, .inl rfl⟩⟩, trivial⟩ rfl
    refine WP.reg hT hE [CG.pure (encCt (beginF k)), ⟨true, [Id.s 31 0, Id.s 29 0], encRes (firstF k fst h).1, [searchOb k [] ff (cals g h) (.b 1), .map (encD (firstF k fst h).2)]⟩] rfl ?_ ?_
    · refine ⟨begin_ac k, ⟨fun _ _ => rfl, okO_D _ _, trivial⟩, ⟨fun _ _ => rfl, okO_D _ _, trivial⟩, ?_⟩
      simp only [List.map, renO_D, renO_C, renO_search2 (σ := sig [Id.s 31 0, Id.s 29 0] 0) (caps := []) (H := cals g h) (H' := cals g h) (id := .s 29 0) (id' := .b 1) rfl rfl rfl]
      refine AC.conv hT hon ⟨_, _, rfl, conv_eq rfl, _, _, rfl, conv_eq ?_, _, _, rfl, conv_nil_row (e := 3) (by decide), rfl⟩
      show ren _ (((stru 102 [.int 0, stru 78 [.int 0, .agg 76 8 fun _ => .int 0]]).put [0] (.int 0)).put [1] (encCt (beginF k))) = _
      rw [key_built]
      exact ren_key _ (0, beginF k)
    refine WP.seq ?_
    refine WP.reg hT hE [] rfl ?_ ?_
    · first | trivial | (simp [holdsC, under, slOk, slB, capEq] <;> grind)
    refine WP.ret ?_
    change Fin _ _ _ _ _ _ _ _
    rw [linF_ok hok]
    exact fin_r3 6 7 8 (by decide) (by decide) (by decide) (by rfl) (by exact conv_eq rfl) (by rfl) (by rfl) 
theorem found2_ac (k : Int) (hk : k = 1 ∨ k = 2 ∨ k = 3 ∨ k = 4) (cb : Bool) (hcaps : capsOf k = [.rp 4 (.bool cb)]) (ff : Nat) (fst : Cal → Cal → Bool) (hff : ∀ a b, AC Try.prog T tysN ff [encCal a, encCal b] [] (.bool (fst a b)) []) (g : Bool) (h : List Cal) : AC Try.prog T tysN 26 [.int k, cals g h, .clo ff []] [] (encR3 (linF k fst h)) [] := by
  refine AC_intro hT Try.func26 rfl rfl (Nat.le_of_ble_eq_true rfl) ?_
  have hof := of_ac hk
  rw [thOf, hcaps] at hof
  refine WP.seq ?_
  refine WP.reg hT hE [] rfl ?_ ?_
  · first | trivial | (simp [holdsC, under, slOk, slB, capEq] <;> grind)
  refine WP.seq ?_
  refine WP.seq ?_
  refine WP.reg hT hE [CG.pure (.int (refCheck k h))] rfl ?_ ?_
  · exact lcheck_ac k g h
  refine WP.seq ?_
  refine WP.reg hT hE [] rfl ?_ ?_
  · first | trivial | (simp [holdsC, under, slOk, slB, capEq] <;> grind)
  refine WP.cond rfl (fun h2 => ?_) (fun h2 => ?_)
  · have hbad : ¬ okHist k h := fun e => by
      simp [refCheck, e] at h2
    refine WP.seq ?_
    refine WP.reg hT hE [] rfl ?_ ?_
    · first | trivial | (simp [holdsC, under, slOk, slB, capEq] <;> grind)
    refine WP.ret ?_
    change Fin _ _ _ _ _ _ _ _
    rw [linF_bad hbad]
    exact fin_r3 6 7 8 (by decide) (by decide) (by decide) (by rfl) (by exact conv_nil_row (by decide)) (by rfl) (by simp only [refCheck, if_neg hbad]; rfl) 
  · have hok : okHist k h := Classical.byContradiction fun e => by
      simp [refCheck, e] at h2
    have hl8 : h.length ≤ 8 := hok.2.2.1
    have hon := on_ac hk hff g hl8 9 [] 0 (beginF k) false [] (first_ok hl8)
    rw [hcaps, show onF k fst h 9 [] 0 (beginF k) [] = firstF k fst h from rfl] at hon
    refine WP.skip ?_
    refine WP.seq ?_
    refine WP.reg hT hE [CG.pure (.tup [encTh (mayOf k) (fnOf k) [.rp 4 (.bool cb)], .bool true])] rfl ?_ ?_
    · exact ⟨hof, rfl, Nat.le_refl _⟩
    refine WP.seq ?_
    refine WP.reg hT hE [] rfl ?_ ?_
    · first | trivial | (simp [holdsC, under, slOk, slB, capEq] <;> grind)
    refine WP.seq ?_
    refine WP.ent (st' := mkSt [(0, .int k), (12, .ptr (.s 31 0) 1 0 [])] [(.s 31 0, searchOb k [.rp 4 (.bool cb)] ff (cals g h) (.s 29 0)), (.s 29 0, .map (encD []))]) ?_ ?_
    · refine Ent.mk hT [] trivial ⟨⟨rfl, _, rfl, by first | exact conv_eq rfl | (refine conv_eq ?_; rw [wrap_id (by omega) (by omega)]; simp; done) | (refine conv_eq ?_; simp; done)⟩, ⟨rfl, _, rfl, by first | exact conv_eq rfl | (refine conv_eq ?_; rw [wrap_id (by omega) (by omega)]; simp; done) | (refine conv_eq ?_; simp; done)⟩, trivial⟩ ⟨⟨fun _ _ => rfl, .inl ⟨_, rfl, _, _, rfl, Nat.le_refl _, Nat.zero_le _, Nat.zero_le _, fun q hq => conv_eq search_built⟩⟩, ⟨okO_D _ _, .inl ⟨_, rfl, .inl rfl⟩⟩, trivial⟩ rfl
    refine WP.reg hT hE [CG.pure (encCt (beginF k)), ⟨true, [Id.s 31 0, Id.s 29 0], encRes (firstF k fst h).1, [searchOb k [.rp 4 (.bool cb)] ff (cals g h) (.b 1), .map (encD (firstF k fst h).2)]⟩] rfl ?_ ?_
    · refine ⟨begin_ac k, ⟨fun _ _ => rfl, okO_D _ _, trivial⟩, ⟨fun _ _ => rfl, okO_D _ _, trivial⟩, ?_⟩
      simp only [List.map, renO_D, renO_C, renO_search2 (σ := sig [Id.s 31 0, Id.s 29 0] 0) (caps := [.rp 4 (.bool cb)]) (H := cals g h) (H' := cals g h) (id := .s 29 0) (id' := .b 1) rfl rfl rfl]
      refine AC.conv hT hon ⟨_, _, rfl, conv_eq rfl, _, _, rfl, conv_eq ?_, _, _, rfl, conv_nil_row (e := 3) (by decide), rfl⟩
      show ren _ (((stru 102 [.int 0, stru 78 [.int 0, .agg 76 8 fun _ => .int 0]]).put [0] (.int 0)).put [1] (encCt (beginF k))) = _
      rw [key_built]
      exact ren_key _ (0, beginF k)
    refine WP.seq ?_
    refine WP.reg hT hE [] rfl ?_ ?_
    · first | trivial | (simp [holdsC, under, slOk, slB, capEq] <;> grind)
    refine WP.ret ?_
    change Fin _ _ _ _ _ _ _ _
    rw [linF_ok hok]
    exact fin_r3 6 7 8 (by decide) (by decide) (by decide) (by rfl) (by exact conv_eq rfl) (by rfl) (by rfl) 
theorem found3_ac (k : Int) (hk : k = 1 ∨ k = 2 ∨ k = 3 ∨ k = 4)  (hcaps : capsOf k = []) (ff : Nat) (fst : Cal → Cal → Bool) (hff : ∀ a b, AC Try.prog T tysN ff [encCal a, encCal b] [] (.bool (fst a b)) [])  (h : List Cal) : AC Try.prog T tysN 26 [.int k, ownC (.b 0) h, .clo ff []] [obC h] (encR3 (linF k fst h)) [obC h] := by
  refine AC_intro hT Try.func26 rfl rfl (Nat.le_of_ble_eq_true rfl) ?_
  have hof := of_ac hk
  rw [thOf, hcaps] at hof
  refine WP.seq ?_
  refine WP.reg hT hE [] rfl ?_ ?_
  · first | trivial | (simp [holdsC, under, slOk, slB, capEq] <;> grind)
  refine WP.seq ?_
  refine WP.seq ?_
  refine WP.reg hT hE [CG.pure (.int (refCheck k h))] rfl ?_ ?_
  · exact ⟨⟨rfl, fun j hj => noIds_cal _⟩, lcheck_own⟩
  refine WP.seq ?_
  refine WP.reg hT hE [] rfl ?_ ?_
  · first | trivial | (simp [holdsC, under, slOk, slB, capEq] <;> grind)
  refine WP.cond rfl (fun h2 => ?_) (fun h2 => ?_)
  · have hbad : ¬ okHist k h := fun e => by
      simp [refCheck, e] at h2
    refine WP.seq ?_
    refine WP.reg hT hE [] rfl ?_ ?_
    · first | trivial | (simp [holdsC, under, slOk, slB, capEq] <;> grind)
    refine WP.ret ?_
    change Fin _ _ _ _ _ _ _ _
    rw [linF_bad hbad]
    exact fin_r3o 6 7 8 (by decide) (by decide) (by decide) (by rfl) (by exact conv_nil_row (by decide)) (by rfl) (by simp only [refCheck, if_neg hbad]; rfl) (by rfl)
  · have hok : okHist k h := Classical.byContradiction fun e => by
      simp [refCheck, e] at h2
    have hl8 : h.length ≤ 8 := hok.2.2.1
    have hon := on_ac2 hk hff hl8 9 [] 0 (beginF k) false [] (first_ok hl8)
    rw [hcaps, show onF k fst h 9 [] 0 (beginF k) [] = firstF k fst h from rfl] at hon
    refine WP.skip ?_
    refine WP.seq ?_
    refine WP.reg hT hE [CG.pure (.tup [encTh (mayOf k) (fnOf k) [], .bool true])] rfl ?_ ?_
    · exact ⟨hof, rfl, Nat.le_refl _⟩
    refine WP.seq ?_
    refine WP.reg hT hE [] rfl ?_ ?_
    · first | trivial | (simp [holdsC, under, slOk, slB, capEq] <;> grind)
    refine WP.seq ?_
    refine WP.ent (st' := mkSt [(0, .int k), (12, .ptr (.s 31 0) 1 0 [])] [(.s 31 0, searchOb k [] ff (ownC (.b 0) h) (.s 29 0)), (.s 29 0, .map (encD [])), (.b 0, obC h)]) ?_ ?_
    · refine Ent.mk hT [] trivial ⟨⟨rfl, _, rfl, by first | exact conv_eq rfl | (refine conv_eq ?_; rw [wrap_id (by omega) (by omega)]; simp; done) | (refine conv_eq ?_; simp; done)⟩, ⟨rfl, _, rfl, by first | exact conv_eq rfl | (refine conv_eq ?_; rw [wrap_id (by omega) (by omega)]; simp; done) | (refine conv_eq ?_; simp; done)⟩, trivial⟩ ⟨⟨fun _ _ => rfl, .inl ⟨_, rfl, _, _, rfl, Nat.le_refl _, Nat.zero_le _, Nat.zero_le _, fun q hq => conv_eq search_built⟩⟩, ⟨okO_D _ _, .inl ⟨_, rfl, .inl rfl⟩⟩, ob_list (okIds_cal _) rfl rfl rfl rfl rfl (fun q hq => rfl), trivial⟩ rfl
    refine WP.reg hT hE [CG.pure (encCt (beginF k)), ⟨true, [Id.s 31 0, Id.s 29 0, Id.b 0], encRes (firstF k fst h).1, [searchOb k [] ff (ownC (.b 2) h) (.b 1), .map (encD (firstF k fst h).2), obC h]⟩] rfl ?_ ?_
    · refine ⟨begin_ac k, ⟨fun _ _ => rfl, okO_D _ _, okO_C _ _,trivial⟩, ⟨fun _ _ => rfl, okO_D _ _, okO_C _ _,trivial⟩, ?_⟩
      simp only [List.map, renO_D, renO_C, renO_search2 (σ := sig [Id.s 31 0, Id.s 29 0, Id.b 0] 0) (caps := []) (H := ownC (.b 0) h) (H' := ownC (.b 2) h) (id := .s 29 0) (id' := .b 1) rfl rfl rfl]
      refine AC.conv hT hon ⟨_, _, rfl, conv_eq rfl, _, _, rfl, conv_eq ?_, _, _, rfl, conv_nil_row (e := 3) (by decide), rfl⟩
      show ren _ (((stru 102 [.int 0, stru 78 [.int 0, .agg 76 8 fun _ => .int 0]]).put [0] (.int 0)).put [1] (encCt (beginF k))) = _
      rw [key_built]
      exact ren_key _ (0, beginF k)
    refine WP.seq ?_
    refine WP.reg hT hE [] rfl ?_ ?_
    · first | trivial | (simp [holdsC, under, slOk, slB, capEq] <;> grind)
    refine WP.ret ?_
    change Fin _ _ _ _ _ _ _ _
    rw [linF_ok hok]
    exact fin_r3o 6 7 8 (by decide) (by decide) (by decide) (by rfl) (by exact conv_eq rfl) (by rfl) (by rfl) (by exact congrArg some (renO_C _ _))
theorem found4_ac (k : Int) (hk : k = 1 ∨ k = 2 ∨ k = 3 ∨ k = 4) (cb : Bool) (hcaps : capsOf k = [.rp 4 (.bool cb)]) (ff : Nat) (fst : Cal → Cal → Bool) (hff : ∀ a b, AC Try.prog T tysN ff [encCal a, encCal b] [] (.bool (fst a b)) [])  (h : List Cal) : AC Try.prog T tysN 26 [.int k, ownC (.b 0) h, .clo ff []] [obC h] (encR3 (linF k fst h)) [obC h] := by
  refine AC_intro hT Try.func26 rfl rfl (Nat.le_of_ble_eq_true rfl) ?_
  have hof := of_ac hk
  rw [thOf, hcaps] at hof
  refine WP.seq ?_
  refine WP.reg hT hE [] rfl ?_ ?_
  · first | trivial | (simp [holdsC, under, slOk, slB, capEq] <;> grind)
  refine WP.seq ?_
  refine WP.seq ?_
  refine WP.reg hT hE [CG.pure (.int (refCheck k h))] rfl ?_ ?_
  · exact ⟨⟨rfl, fun j hj => noIds_cal _⟩, lcheck_own⟩
  refine WP.seq ?_
  refine WP.reg hT hE [] rfl ?_ ?_
  · first | trivial | (simp [holdsC, under, slOk, slB, capEq] <;> grind)
  refine WP.cond rfl (fun h2 => ?_) (fun h2 => ?_)
  · have hbad : ¬ okHist k h := fun e => by
      simp [refCheck, e] at h2
    refine WP.seq ?_
    refine WP.reg hT hE [] rfl ?_ ?_
    · first | trivial | (simp [holdsC, under, slOk, slB, capEq] <;> grind)
    refine WP.ret ?_
    change Fin _ _ _ _ _ _ _ _
    rw [linF_bad hbad]
    exact fin_r3o 6 7 8 (by decide) (by decide) (by decide) (by rfl) (by exact conv_nil_row (by decide)) (by rfl) (by simp only [refCheck, if_neg hbad]; rfl) (by rfl)
  · have hok : okHist k h := Classical.byContradiction fun e => by
      simp [refCheck, e] at h2
    have hl8 : h.length ≤ 8 := hok.2.2.1
    have hon := on_ac2 hk hff hl8 9 [] 0 (beginF k) false [] (first_ok hl8)
    rw [hcaps, show onF k fst h 9 [] 0 (beginF k) [] = firstF k fst h from rfl] at hon
    refine WP.skip ?_
    refine WP.seq ?_
    refine WP.reg hT hE [CG.pure (.tup [encTh (mayOf k) (fnOf k) [.rp 4 (.bool cb)], .bool true])] rfl ?_ ?_
    · exact ⟨hof, rfl, Nat.le_refl _⟩
    refine WP.seq ?_
    refine WP.reg hT hE [] rfl ?_ ?_
    · first | trivial | (simp [holdsC, under, slOk, slB, capEq] <;> grind)
    refine WP.seq ?_
    refine WP.ent (st' := mkSt [(0, .int k), (12, .ptr (.s 31 0) 1 0 [])] [(.s 31 0, searchOb k [.rp 4 (.bool cb)] ff (ownC (.b 0) h) (.s 29 0)), (.s 29 0, .map (encD [])), (.b 0, obC h)]) ?_ ?_
    · refine Ent.mk hT [] trivial ⟨⟨rfl, _, rfl, by first | exact conv_eq rfl | (refine conv_eq ?_; rw [wrap_id (by omega) (by omega)]; simp; done) | (refine conv_eq ?_; simp; done)⟩, ⟨rfl, _, rfl, by first | exact conv_eq rfl | (refine conv_eq ?_; rw [wrap_id (by omega) (by omega)]; simp; done) | (refine conv_eq ?_; simp; done)⟩, trivial⟩ ⟨⟨fun _ _ => rfl, .inl ⟨_, rfl, _, _, rfl, Nat.le_refl _, Nat.zero_le _, Nat.zero_le _, fun q hq => conv_eq search_built⟩⟩, ⟨okO_D _ _, .inl ⟨_, rfl, .inl rfl⟩⟩, ob_list (okIds_cal _) rfl rfl rfl rfl rfl (fun q hq => rfl), trivial⟩ rfl
    refine WP.reg hT hE [CG.pure (encCt (beginF k)), ⟨true, [Id.s 31 0, Id.s 29 0, Id.b 0], encRes (firstF k fst h).1, [searchOb k [.rp 4 (.bool cb)] ff (ownC (.b 2) h) (.b 1), .map (encD (firstF k fst h).2), obC h]⟩] rfl ?_ ?_
    · refine ⟨begin_ac k, ⟨fun _ _ => rfl, okO_D _ _, okO_C _ _,trivial⟩, ⟨fun _ _ => rfl, okO_D _ _, okO_C _ _,trivial⟩, ?_⟩
      simp only [List.map, renO_D, renO_C, renO_search2 (σ := sig [Id.s 31 0, Id.s 29 0, Id.b 0] 0) (caps := [.rp 4 (.bool cb)]) (H := ownC (.b 0) h) (H' := ownC (.b 2) h) (id := .s 29 0) (id' := .b 1) rfl rfl rfl]
      refine AC.conv hT hon ⟨_, _, rfl, conv_eq rfl, _, _, rfl, conv_eq ?_, _, _, rfl, conv_nil_row (e := 3) (by decide), rfl⟩
      show ren _ (((stru 102 [.int 0, stru 78 [.int 0, .agg 76 8 fun _ => .int 0]]).put [0] (.int 0)).put [1] (encCt (beginF k))) = _
      rw [key_built]
      exact ren_key _ (0, beginF k)
    refine WP.seq ?_
    refine WP.reg hT hE [] rfl ?_ ?_
    · first | trivial | (simp [holdsC, under, slOk, slB, capEq] <;> grind)
    refine WP.ret ?_
    change Fin _ _ _ _ _ _ _ _
    rw [linF_ok hok]
    exact fin_r3o 6 7 8 (by decide) (by decide) (by decide) (by rfl) (by exact conv_eq rfl) (by rfl) (by rfl) (by exact congrArg some (renO_C _ _))
theorem found0_ac (k : Int) (hk : ¬ (k = 1 ∨ k = 2 ∨ k = 3 ∨ k = 4)) (ff : Nat) (fst : Cal → Cal → Bool) (g : Bool) (h : List Cal) : AC Try.prog T tysN 26 [.int k, cals g h, .clo ff []] [] (encR3 (linF k fst h)) [] := by
  refine AC_intro hT Try.func26 rfl rfl (Nat.le_of_ble_eq_true rfl) ?_
  have hbad : ¬ okHist k h := fun e => by
    obtain ⟨h1, h4, _⟩ := e
    omega
  refine WP.seq ?_
  refine WP.reg hT hE [] rfl ?_ ?_
  · first | trivial | (simp [holdsC, under, slOk, slB, capEq] <;> grind)
  refine WP.seq ?_
  refine WP.seq ?_
  refine WP.reg hT hE [CG.pure (.int (refCheck k h))] rfl ?_ ?_
  · exact lcheck_ac k g h
  refine WP.seq ?_
  refine WP.reg hT hE [] rfl ?_ ?_
  · first | trivial | (simp [holdsC, under, slOk, slB, capEq] <;> grind)
  refine WP.cond rfl (fun h2 => ?_) (fun h2 => ?_)
  · refine WP.seq ?_
    refine WP.reg hT hE [] rfl ?_ ?_
    · first | trivial | (simp [holdsC, under, slOk, slB, capEq] <;> grind)
    refine WP.ret ?_
    change Fin _ _ _ _ _ _ _ _
    rw [linF_bad hbad]
    exact fin_r3 6 7 8 (by decide) (by decide) (by decide) (by rfl) (by exact conv_nil_row (by decide)) (by rfl) (by simp only [refCheck, if_neg hbad]; rfl)
  · simp [refCheck, hbad] at h2
theorem found0o_ac (k : Int) (hk : ¬ (k = 1 ∨ k = 2 ∨ k = 3 ∨ k = 4)) (ff : Nat) (fst : Cal → Cal → Bool) (h : List Cal) : AC Try.prog T tysN 26 [.int k, ownC (.b 0) h, .clo ff []] [obC h] (encR3 (linF k fst h)) [obC h] := by
  refine AC_intro hT Try.func26 rfl rfl (Nat.le_of_ble_eq_true rfl) ?_
  have hbad : ¬ okHist k h := fun e => by
    obtain ⟨h1, h4, _⟩ := e
    omega
  refine WP.seq ?_
  refine WP.reg hT hE [] rfl ?_ ?_
  · first | trivial | (simp [holdsC, under, slOk, slB, capEq] <;> grind)
  refine WP.seq ?_
  refine WP.seq ?_
  refine WP.reg hT hE [CG.pure (.int (refCheck k h))] rfl ?_ ?_
  · exact ⟨⟨rfl, fun j hj => noIds_cal _⟩, lcheck_own⟩
  refine WP.seq ?_
  refine WP.reg hT hE [] rfl ?_ ?_
  · first | trivial | (simp [holdsC, under, slOk, slB, capEq] <;> grind)
  refine WP.cond rfl (fun h2 => ?_) (fun h2 => ?_)
  · refine WP.seq ?_
    refine WP.reg hT hE [] rfl ?_ ?_
    · first | trivial | (simp [holdsC, under, slOk, slB, capEq] <;> grind)
    refine WP.ret ?_
    change Fin _ _ _ _ _ _ _ _
    rw [linF_bad hbad]
    exact fin_r3o 6 7 8 (by decide) (by decide) (by decide) (by rfl) (by exact conv_nil_row (by decide)) (by rfl) (by simp only [refCheck, if_neg hbad]; rfl) (by rfl)
  · simp [refCheck, hbad] at h2
theorem found_ac (k : Int) {ff : Nat} {fst : Cal → Cal → Bool} (hff : ∀ a b, AC Try.prog T tysN ff [encCal a, encCal b] [] (.bool (fst a b)) []) (g : Bool) (h : List Cal) : AC Try.prog T tysN 26 [.int k, cals g h, .clo ff []] [] (encR3 (linF k fst h)) [] := by
  by_cases hk : k = 1 ∨ k = 2 ∨ k = 3 ∨ k = 4
  · by_cases h12 : k = 1 ∨ k = 2
    · exact found1_ac k hk (if_pos h12) ff fst hff g h
    · exact found2_ac k hk _ (if_neg h12) ff fst hff g h
  · exact found0_ac k hk ff fst g h
theorem found_own (k : Int) {ff : Nat} {fst : Cal → Cal → Bool} (hff : ∀ a b, AC Try.prog T tysN ff [encCal a, encCal b] [] (.bool (fst a b)) []) (h : List Cal) : AC Try.prog T tysN 26 [.int k, ownC (.b 0) h, .clo ff []] [obC h] (encR3 (linF k fst h)) [obC h] := by
  by_cases hk : k = 1 ∨ k = 2 ∨ k = 3 ∨ k = 4
  · by_cases h12 : k = 1 ∨ k = 2
    · exact found3_ac k hk (if_pos h12) ff fst hff h
    · exact found4_ac k hk _ (if_neg h12) ff fst hff h
  · exact found0o_ac k hk ff fst h
def trn (a b : Cal) : Bool := a.go == b.go && decide (a.bgn < b.bgn)
theorem linear_ac (k : Int) (g : Bool) (h : List Cal) : AC Try.prog T tysN 9 [.int k, cals g h] [] (encR3 (linF k ahd h)) [] := by
  refine AC_intro hT Try.func9 rfl rfl (Nat.le_of_ble_eq_true rfl) ?_
  refine WP.seq ?_
  refine WP.reg hT hE [] rfl ?_ ?_
  · first | trivial | (simp [holdsC, under, slOk, slB, capEq] <;> grind)
  refine WP.seq ?_
  refine WP.reg hT hE [CG.pure (encR3 (linF k ahd h))] rfl ?_ ?_
  · exact found_ac k ahead_ac g h
  refine WP.ret ?_
  change Fin _ _ _ _ _ _ _ _
  exact fin_r3 4 5 6 (by decide) (by decide) (by decide) (by rfl) (by exact conv_eq rfl) (by rfl) (by rfl)
theorem turnsL_ac (k : Int) (g : Bool) (h : List Cal) : AC Try.prog T tysN 13 [.int k, cals g h] [] (encR3 (linF k trn h)) [] := by
  refine AC_intro hT Try.func13 rfl rfl (Nat.le_of_ble_eq_true rfl) ?_
  refine WP.seq ?_
  refine WP.reg hT hE [] rfl ?_ ?_
  · first | trivial | (simp [holdsC, under, slOk, slB, capEq] <;> grind)
  refine WP.seq ?_
  refine WP.reg hT hE [CG.pure (encR3 (linF k trn h))] rfl ?_ ?_
  · exact found_ac k turns_ac g h
  refine WP.ret ?_
  change Fin _ _ _ _ _ _ _ _
  exact fin_r3 4 5 6 (by decide) (by decide) (by decide) (by rfl) (by exact conv_eq rfl) (by rfl) (by rfl)
theorem linear_own (k : Int) (h : List Cal) : AC Try.prog T tysN 9 [.int k, ownC (.b 0) h] [obC h] (encR3 (linF k ahd h)) [obC h] := by
  refine AC_intro hT Try.func9 rfl rfl (Nat.le_of_ble_eq_true rfl) ?_
  refine WP.seq ?_
  refine WP.reg hT hE [] rfl ?_ ?_
  · first | trivial | (simp [holdsC, under, slOk, slB, capEq] <;> grind)
  refine WP.seq ?_
  refine WP.reg hT hE [⟨true, [.b 0], encR3 (linF k ahd h), [obC h]⟩] rfl ?_ ?_
  · refine ⟨⟨okO_C _ _, trivial⟩, ⟨okO_C _ _, trivial⟩, ?_⟩
    simp only [List.map, renO_C]
    exact found_own k ahead_ac h
  refine WP.ret ?_
  change Fin _ _ _ _ _ _ _ _
  exact fin_r3o 4 5 6 (by decide) (by decide) (by decide) (by rfl) (by exact conv_eq rfl) (by rfl) (by rfl) (by exact congrArg some (renO_C _ _))
end Go.Ab


/- Events: how many places; touches compared. -/
set_option autoImplicit false
set_option maxRecDepth 20000
set_option linter.unusedSimpArgs false
set_option linter.unusedVariables false
namespace Go.Ab
open Go.Proofs
def mostF (n : Int) : Int := if n = 1 then 8 else if n = 2 ∨ n = 3 then 4 else if n = 4 ∨ n = 6 then 1 else if n = 5 then 6 else 0
theorem most_ac (n : Int) : AC Try.prog T tysN 76 [.int n] [] (.int (mostF n)) [] := by
  refine AC_intro hT Try.func76 rfl rfl (Nat.le_of_ble_eq_true rfl) ?_
  refine WP.seq ?_
  refine WP.reg hT hE [] rfl ?_ ?_
  · first | trivial | (simp [holdsC, under, slOk, slB, capEq] <;> grind)
  refine WP.seq ?_
  refine WP.seq ?_
  refine WP.reg hT hE [] rfl ?_ ?_
  · first | trivial | (simp [holdsC, under, slOk, slB, capEq] <;> grind)
  refine WP.block ?_
  refine WP.seq ?_
  refine WP.reg hT hE [] rfl ?_ ?_
  · first | trivial | (simp [holdsC, under, slOk, slB, capEq] <;> grind)
  refine WP.cond rfl (fun h2 => ?_) (fun h2 => ?_)
  · refine WP.seq ?_
    refine WP.reg hT hE [] rfl ?_ ?_
    · first | trivial | (simp [holdsC, under, slOk, slB, capEq] <;> grind)
    refine WP.ret ?_
    change Fin _ _ _ _ _ _ _ _
    refine finI hT (by rfl) ?_
    simp_all [mostF]
  · refine WP.seq ?_
    refine WP.reg hT hE [] rfl ?_ ?_
    · first | trivial | (simp [holdsC, under, slOk, slB, capEq] <;> grind)
    refine WP.cond rfl (fun h4 => ?_) (fun h4 => ?_)
    · refine WP.seq ?_
      refine WP.reg hT hE [] rfl ?_ ?_
      · first | trivial | (simp [holdsC, under, slOk, slB, capEq] <;> grind)
      refine WP.ret ?_
      change Fin _ _ _ _ _ _ _ _
      refine finI hT (by rfl) ?_
      simp_all [mostF]
    · refine WP.seq ?_
      refine WP.reg hT hE [] rfl ?_ ?_
      · first | trivial | (simp [holdsC, under, slOk, slB, capEq] <;> grind)
      refine WP.cond rfl (fun h6 => ?_) (fun h6 => ?_)
      · refine WP.seq ?_
        refine WP.reg hT hE [] rfl ?_ ?_
        · first | trivial | (simp [holdsC, under, slOk, slB, capEq] <;> grind)
        refine WP.ret ?_
        change Fin _ _ _ _ _ _ _ _
        refine finI hT (by rfl) ?_
        simp_all [mostF]
      · refine WP.seq ?_
        refine WP.seq ?_
        refine WP.reg hT hE [] rfl ?_ ?_
        · first | trivial | (simp [holdsC, under, slOk, slB, capEq] <;> grind)
        refine WP.cond rfl (fun h8 => ?_) (fun h8 => ?_)
        · refine WP.skip ?_
          refine WP.cond rfl (fun h8 => ?_) (fun h8 => ?_)
          · refine WP.seq ?_
            refine WP.reg hT hE [] rfl ?_ ?_
            · first | trivial | (simp [holdsC, under, slOk, slB, capEq] <;> grind)
            refine WP.ret ?_
            change Fin _ _ _ _ _ _ _ _
            refine finI hT (by rfl) ?_
            simp_all [mostF]
          · refine WP.seq ?_
            refine WP.reg hT hE [] rfl ?_ ?_
            · first | trivial | (simp [holdsC, under, slOk, slB, capEq] <;> grind)
            refine WP.cond rfl (fun h11 => ?_) (fun h11 => ?_)
            · refine WP.seq ?_
              refine WP.reg hT hE [] rfl ?_ ?_
              · first | trivial | (simp [holdsC, under, slOk, slB, capEq] <;> grind)
              refine WP.ret ?_
              change Fin _ _ _ _ _ _ _ _
              refine finI hT (by rfl) ?_
              simp_all [mostF]
            · refine WP.skip ?_
              refine WP.seq ?_
              refine WP.reg hT hE [] rfl ?_ ?_
              · first | trivial | (simp [holdsC, under, slOk, slB, capEq] <;> grind)
              refine WP.ret ?_
              change Fin _ _ _ _ _ _ _ _
              refine finI hT (by rfl) ?_
              simp_all [mostF]
        · refine WP.reg hT hE [] rfl ?_ ?_
          · first | trivial | (simp [holdsC, under, slOk, slB, capEq] <;> grind)
          refine WP.cond rfl (fun h9 => ?_) (fun h9 => ?_)
          · refine WP.seq ?_
            refine WP.reg hT hE [] rfl ?_ ?_
            · first | trivial | (simp [holdsC, under, slOk, slB, capEq] <;> grind)
            refine WP.ret ?_
            change Fin _ _ _ _ _ _ _ _
            refine finI hT (by rfl) ?_
            simp_all [mostF]
          · refine WP.seq ?_
            refine WP.reg hT hE [] rfl ?_ ?_
            · first | trivial | (simp [holdsC, under, slOk, slB, capEq] <;> grind)
            refine WP.cond rfl (fun h11 => ?_) (fun h11 => ?_)
            · refine WP.seq ?_
              refine WP.reg hT hE [] rfl ?_ ?_
              · first | trivial | (simp [holdsC, under, slOk, slB, capEq] <;> grind)
              refine WP.ret ?_
              change Fin _ _ _ _ _ _ _ _
              refine finI hT (by rfl) ?_
              simp_all [mostF]
            · refine WP.skip ?_
              refine WP.seq ?_
              refine WP.reg hT hE [] rfl ?_ ?_
              · first | trivial | (simp [holdsC, under, slOk, slB, capEq] <;> grind)
              refine WP.ret ?_
              change Fin _ _ _ _ _ _ _ _
              refine finI hT (by rfl) ?_
              simp_all [mostF]
theorem few_ac (n : Int) : AC Try.prog T tysN 78 [.int n] [] (.int (mostF n)) [] := by
  refine AC_intro hT Try.func78 rfl rfl (Nat.le_of_ble_eq_true rfl) ?_
  refine WP.seq ?_
  refine WP.reg hT hE [] rfl ?_ ?_
  · first | trivial | (simp [holdsC, under, slOk, slB, capEq] <;> grind)
  refine WP.seq ?_
  refine WP.seq ?_
  refine WP.reg hT hE [] rfl ?_ ?_
  · first | trivial | (simp [holdsC, under, slOk, slB, capEq] <;> grind)
  refine WP.block ?_
  refine WP.seq ?_
  refine WP.reg hT hE [] rfl ?_ ?_
  · first | trivial | (simp [holdsC, under, slOk, slB, capEq] <;> grind)
  refine WP.cond rfl (fun h2 => ?_) (fun h2 => ?_)
  · refine WP.seq ?_
    refine WP.reg hT hE [] rfl ?_ ?_
    · first | trivial | (simp [holdsC, under, slOk, slB, capEq] <;> grind)
    refine WP.ret ?_
    change Fin _ _ _ _ _ _ _ _
    refine finI hT (by rfl) ?_
    simp_all [mostF]
  · refine WP.seq ?_
    refine WP.seq ?_
    refine WP.reg hT hE [] rfl ?_ ?_
    · first | trivial | (simp [holdsC, under, slOk, slB, capEq] <;> grind)
    refine WP.cond rfl (fun h4 => ?_) (fun h4 => ?_)
    · refine WP.skip ?_
      refine WP.cond rfl (fun h4 => ?_) (fun h4 => ?_)
      · refine WP.seq ?_
        refine WP.reg hT hE [] rfl ?_ ?_
        · first | trivial | (simp [holdsC, under, slOk, slB, capEq] <;> grind)
        refine WP.ret ?_
        change Fin _ _ _ _ _ _ _ _
        refine finI hT (by rfl) ?_
        simp_all [mostF]
      · refine WP.seq ?_
        refine WP.seq ?_
        refine WP.reg hT hE [] rfl ?_ ?_
        · first | trivial | (simp [holdsC, under, slOk, slB, capEq] <;> grind)
        refine WP.cond rfl (fun h7 => ?_) (fun h7 => ?_)
        · refine WP.skip ?_
          refine WP.cond rfl (fun h7 => ?_) (fun h7 => ?_)
          · refine WP.seq ?_
            refine WP.reg hT hE [] rfl ?_ ?_
            · first | trivial | (simp [holdsC, under, slOk, slB, capEq] <;> grind)
            refine WP.ret ?_
            change Fin _ _ _ _ _ _ _ _
            refine finI hT (by rfl) ?_
            simp_all [mostF]
          · refine WP.seq ?_
            refine WP.reg hT hE [] rfl ?_ ?_
            · first | trivial | (simp [holdsC, under, slOk, slB, capEq] <;> grind)
            refine WP.cond rfl (fun h10 => ?_) (fun h10 => ?_)
            · refine WP.seq ?_
              refine WP.reg hT hE [] rfl ?_ ?_
              · first | trivial | (simp [holdsC, under, slOk, slB, capEq] <;> grind)
              refine WP.ret ?_
              change Fin _ _ _ _ _ _ _ _
              refine finI hT (by rfl) ?_
              simp_all [mostF]
            · refine WP.skip ?_
              refine WP.seq ?_
              refine WP.reg hT hE [] rfl ?_ ?_
              · first | trivial | (simp [holdsC, under, slOk, slB, capEq] <;> grind)
              refine WP.ret ?_
              change Fin _ _ _ _ _ _ _ _
              refine finI hT (by rfl) ?_
              simp_all [mostF]
        · refine WP.reg hT hE [] rfl ?_ ?_
          · first | trivial | (simp [holdsC, under, slOk, slB, capEq] <;> grind)
          refine WP.cond rfl (fun h8 => ?_) (fun h8 => ?_)
          · refine WP.seq ?_
            refine WP.reg hT hE [] rfl ?_ ?_
            · first | trivial | (simp [holdsC, under, slOk, slB, capEq] <;> grind)
            refine WP.ret ?_
            change Fin _ _ _ _ _ _ _ _
            refine finI hT (by rfl) ?_
            simp_all [mostF]
          · refine WP.seq ?_
            refine WP.reg hT hE [] rfl ?_ ?_
            · first | trivial | (simp [holdsC, under, slOk, slB, capEq] <;> grind)
            refine WP.cond rfl (fun h10 => ?_) (fun h10 => ?_)
            · refine WP.seq ?_
              refine WP.reg hT hE [] rfl ?_ ?_
              · first | trivial | (simp [holdsC, under, slOk, slB, capEq] <;> grind)
              refine WP.ret ?_
              change Fin _ _ _ _ _ _ _ _
              refine finI hT (by rfl) ?_
              simp_all [mostF]
            · refine WP.skip ?_
              refine WP.seq ?_
              refine WP.reg hT hE [] rfl ?_ ?_
              · first | trivial | (simp [holdsC, under, slOk, slB, capEq] <;> grind)
              refine WP.ret ?_
              change Fin _ _ _ _ _ _ _ _
              refine finI hT (by rfl) ?_
              simp_all [mostF]
    · refine WP.reg hT hE [] rfl ?_ ?_
      · first | trivial | (simp [holdsC, under, slOk, slB, capEq] <;> grind)
      refine WP.cond rfl (fun h5 => ?_) (fun h5 => ?_)
      · refine WP.seq ?_
        refine WP.reg hT hE [] rfl ?_ ?_
        · first | trivial | (simp [holdsC, under, slOk, slB, capEq] <;> grind)
        refine WP.ret ?_
        change Fin _ _ _ _ _ _ _ _
        refine finI hT (by rfl) ?_
        simp_all [mostF]
      · refine WP.seq ?_
        refine WP.seq ?_
        refine WP.reg hT hE [] rfl ?_ ?_
        · first | trivial | (simp [holdsC, under, slOk, slB, capEq] <;> grind)
        refine WP.cond rfl (fun h7 => ?_) (fun h7 => ?_)
        · refine WP.skip ?_
          refine WP.cond rfl (fun h7 => ?_) (fun h7 => ?_)
          · refine WP.seq ?_
            refine WP.reg hT hE [] rfl ?_ ?_
            · first | trivial | (simp [holdsC, under, slOk, slB, capEq] <;> grind)
            refine WP.ret ?_
            change Fin _ _ _ _ _ _ _ _
            refine finI hT (by rfl) ?_
            simp_all [mostF]
          · refine WP.seq ?_
            refine WP.reg hT hE [] rfl ?_ ?_
            · first | trivial | (simp [holdsC, under, slOk, slB, capEq] <;> grind)
            refine WP.cond rfl (fun h10 => ?_) (fun h10 => ?_)
            · refine WP.seq ?_
              refine WP.reg hT hE [] rfl ?_ ?_
              · first | trivial | (simp [holdsC, under, slOk, slB, capEq] <;> grind)
              refine WP.ret ?_
              change Fin _ _ _ _ _ _ _ _
              refine finI hT (by rfl) ?_
              simp_all [mostF]
            · refine WP.skip ?_
              refine WP.seq ?_
              refine WP.reg hT hE [] rfl ?_ ?_
              · first | trivial | (simp [holdsC, under, slOk, slB, capEq] <;> grind)
              refine WP.ret ?_
              change Fin _ _ _ _ _ _ _ _
              refine finI hT (by rfl) ?_
              simp_all [mostF]
        · refine WP.reg hT hE [] rfl ?_ ?_
          · first | trivial | (simp [holdsC, under, slOk, slB, capEq] <;> grind)
          refine WP.cond rfl (fun h8 => ?_) (fun h8 => ?_)
          · refine WP.seq ?_
            refine WP.reg hT hE [] rfl ?_ ?_
            · first | trivial | (simp [holdsC, under, slOk, slB, capEq] <;> grind)
            refine WP.ret ?_
            change Fin _ _ _ _ _ _ _ _
            refine finI hT (by rfl) ?_
            simp_all [mostF]
          · refine WP.seq ?_
            refine WP.reg hT hE [] rfl ?_ ?_
            · first | trivial | (simp [holdsC, under, slOk, slB, capEq] <;> grind)
            refine WP.cond rfl (fun h10 => ?_) (fun h10 => ?_)
            · refine WP.seq ?_
              refine WP.reg hT hE [] rfl ?_ ?_
              · first | trivial | (simp [holdsC, under, slOk, slB, capEq] <;> grind)
              refine WP.ret ?_
              change Fin _ _ _ _ _ _ _ _
              refine finI hT (by rfl) ?_
              simp_all [mostF]
            · refine WP.skip ?_
              refine WP.seq ?_
              refine WP.reg hT hE [] rfl ?_ ?_
              · first | trivial | (simp [holdsC, under, slOk, slB, capEq] <;> grind)
              refine WP.ret ?_
              change Fin _ _ _ _ _ _ _ _
              refine finI hT (by rfl) ?_
              simp_all [mostF]
/-- A touch. -/
structure Tch where
  kind : Int
  num : Int
  wr : Bool
  deriving DecidableEq
def encTch (x : Tch) : AV := stru 89 [.int x.kind, .int x.num, .bool x.wr]
def cmpF (a b : Tch) : Int := if a.kind < b.kind ∨ a.kind = b.kind ∧ a.num < b.num then -1 else if a.kind = b.kind ∧ a.num = b.num then 0 else 1
theorem cmp_ac (a b : Tch) : AC Try.prog T tysN 77 [encTch a, encTch b] [] (.int (cmpF a b)) [] := by
  refine AC_intro hT Try.func77 rfl rfl (Nat.le_of_ble_eq_true rfl) ?_
  refine WP.seq ?_
  refine WP.reg hT hE [] rfl ?_ ?_
  · first | trivial | (simp [holdsC, under, slOk, slB, capEq] <;> grind)
  refine WP.seq ?_
  refine WP.block ?_
  refine WP.seq ?_
  refine WP.reg hT hE [] rfl ?_ ?_
  · first | trivial | (simp [holdsC, under, slOk, slB, capEq] <;> grind)
  refine WP.cond rfl (fun h1 => ?_) (fun h1 => ?_)
  · refine WP.seq ?_
    refine WP.reg hT hE [] rfl ?_ ?_
    · first | trivial | (simp [holdsC, under, slOk, slB, capEq] <;> grind)
    refine WP.ret ?_
    change Fin _ _ _ _ _ _ _ _
    refine finI hT (by rfl) ?_
    simp_all [cmpF]
    all_goals (try grind)
  · refine WP.seq ?_
    refine WP.reg hT hE [] rfl ?_ ?_
    · first | trivial | (simp [holdsC, under, slOk, slB, capEq] <;> grind)
    refine WP.cond rfl (fun h3 => ?_) (fun h3 => ?_)
    · refine WP.seq ?_
      refine WP.reg hT hE [] rfl ?_ ?_
      · first | trivial | (simp [holdsC, under, slOk, slB, capEq] <;> grind)
      refine WP.ret ?_
      change Fin _ _ _ _ _ _ _ _
      refine finI hT (by rfl) ?_
      simp_all [cmpF]
      all_goals (try grind)
    · refine WP.skip ?_
      refine WP.seq ?_
      refine WP.reg hT hE [] rfl ?_ ?_
      · first | trivial | (simp [holdsC, under, slOk, slB, capEq] <;> grind)
      refine WP.ret ?_
      change Fin _ _ _ _ _ _ _ _
      refine finI hT (by rfl) ?_
      simp_all [cmpF]
      all_goals (try grind)
end Go.Ab


/- Events: right ones. -/
set_option autoImplicit false
set_option maxRecDepth 20000
set_option linter.unusedSimpArgs false
set_option linter.unusedVariables false
namespace Go.Ab
open Go.Proofs
def tch0 : Tch := ⟨0, 0, false⟩
/-- An event. -/
structure Evt where
  go : Int
  a : Int
  b : Int
  op : Int
  c : Int
  val : Int
  tag : Int
  ts : List Tch
  n : Int
def encTs (l : List Tch) : AV := .agg 90 6 (fun i => encTch (l.getD i tch0))
def encE (x : Evt) : AV := stru 92 [.int x.go, .int x.a, .int x.b, .int x.op, .int x.c, .int x.val, .int x.tag, encTs x.ts, .int x.n]
theorem noIds_E (x : Evt) : noIds (encE x) = true := noIds_agg (fun i hi => by
  match i, hi with
  | 0, _ | 1, _ | 2, _ | 3, _ | 4, _ | 5, _ | 6, _ | 8, _ => rfl
  | 7, _ => exact noIds_agg (fun j _ => noIds_agg (fun q hq => by match q, hq with | 0, _ | 1, _ | 2, _ => rfl)))
def tAt (x : Evt) (i : Nat) : Tch := x.ts.getD i tch0
def rowE (x : Evt) (i : Nat) : Bool := if (i : Int) ≥ x.n then decide (tAt x i = tch0) else (decide (0 ≤ (tAt x i).num) && decide ((tAt x i).num < mostF (tAt x i).kind) && (i == 0 || decide (cmpF (tAt x (i - 1)) (tAt x i) < 0)))
def ownE (x : Evt) : Nat → Bool
  | 0 => false
  | i + 1 => ownE x i || (decide ((i : Int) < x.n) && decide (tAt x i = ⟨5, x.go, true⟩))
def rightE (x : Evt) : Bool := decide (0 ≤ x.go ∧ x.go < 6 ∧ 1 ≤ x.n ∧ x.n ≤ 6) && (allTo (rowE x) 6 && ownE x 6)
theorem tch_eq {t : Tch} (h : (!(t.kind == 0 && (t.num == 0 && (t.wr == false && true)))) = false) : t = tch0 := by
  obtain ⟨a, b, c⟩ := t
  simp at h
  simp [tch0, h]
theorem tch5 (t : Tch) (g : Int) : decide (t = ⟨5, g, true⟩) = (t.kind == 5 && (t.num == g && (t.wr == true && true))) := by
  obtain ⟨a, b, c⟩ := t
  rw [Bool.eq_iff_iff]
  simp
theorem right_no {x : Evt} {i : Nat} (hi : i < 6) (h : rowE x i = false) : rightE x = false := by
  have : allTo (rowE x) 6 = false := by
    cases hz : allTo (rowE x) 6 with
    | false => rfl
    | true => have := allTo_iff.1 hz i hi; rw [h] at this; cases this
  simp [rightE, this]
theorem row_eq {x : Evt} {i : Nat} (h : (i : Int) < x.n) : rowE x i = !(decide ((tAt x i).num < 0) || decide ((tAt x i).num ≥ mostF (tAt x i).kind) || (decide ((i : Int) > 0) && decide (cmpF (tAt x (i - 1)) (tAt x i) ≥ 0))) := by
  rw [rowE, if_neg (by omega)]
  rw [Bool.eq_iff_iff]
  simp only [Bool.and_eq_true, decide_eq_true_eq, Bool.or_eq_true, beq_iff_eq, Bool.not_eq_true', Bool.or_eq_false_iff, decide_eq_false_iff_not, Bool.and_eq_false_iff]
  omega
theorem dright_ac (x : Evt) : AC Try.prog T tysN 58 [encE x] [] (.bool (rightE x)) [] := by
  refine AC_intro hT Try.func58 rfl rfl (Nat.le_of_ble_eq_true rfl) ?_
  refine WP.seq ?_
  refine WP.reg hT hE [] rfl ?_ ?_
  · first | trivial | (simp [holdsC, under, slOk, slB, capEq] <;> grind)
  refine WP.seq ?_
  refine WP.seq ?_
  refine WP.reg hT hE [] rfl ?_ ?_
  · first | trivial | (simp [holdsC, under, slOk, slB, capEq] <;> grind)
  refine WP.cond rfl (fun h1 => ?_) (fun h1 => ?_)
  · simp only [bor] at h1
    refine WP.seq ?_
    refine WP.reg hT hE [] rfl ?_ ?_
    · first | trivial | (simp [holdsC, under, slOk, slB, capEq] <;> grind)
    refine WP.ret ?_
    change Fin _ _ _ _ _ _ _ _
    refine fin1 hT (by rfl) ?_
    have : ¬ (0 ≤ x.go ∧ x.go < 6 ∧ 1 ≤ x.n ∧ x.n ≤ 6) := by simp at h1; omega
    simp [rightE, this]
  · simp only [bor] at h1
    have hh : 0 ≤ x.go ∧ x.go < 6 ∧ 1 ≤ x.n ∧ x.n ≤ 6 := by simp at h1; omega
    refine WP.skip ?_
    refine WP.seq ?_
    refine WP.reg hT hE [] rfl ?_ ?_
    · first | trivial | (simp [holdsC, under, slOk, slB, capEq] <;> grind)
    refine WP.seq ?_
    refine WP.seq ?_
    refine WP.reg hT hE [] rfl ?_ ?_
    · first | trivial | (simp [holdsC, under, slOk, slB, capEq] <;> grind)
    refine WP.block ?_
    refine WP.loop (α := Nat) (fun i => mkSt [(1, .rp 92 (encE x)), (3, .bool (ownE x i)), (25, encTs x.ts), (26, .int i)] []) (fun i => i ≤ 6 ∧ allTo (rowE x) i = true) (fun i => 6 - i) ?_ ?_
    · refine ⟨0, ?_, ?_⟩
      · exact ⟨Nat.zero_le _, rfl⟩
      · refine Ent.mk hT [(.s 1 0, 1)] ⟨⟨_, rfl, Nat.le_refl _⟩, trivial⟩ ⟨⟨rfl, _, rfl, conv_rpe rfl rfl (Nat.lt_succ_self 0) rfl rfl (noIds_E _)⟩, ⟨rfl, _, rfl, by first | exact conv_eq rfl | (refine conv_eq ?_; rw [wrap_id (by omega) (by omega)]; simp; done) | (refine conv_eq ?_; simp; done)⟩, ⟨rfl, _, rfl, by first | exact conv_eq rfl | (refine conv_eq ?_; rw [wrap_id (by omega) (by omega)]; simp; done) | (refine conv_eq ?_; simp; done)⟩, ⟨rfl, _, rfl, by first | exact conv_eq rfl | (refine conv_eq ?_; rw [wrap_id (by omega) (by omega)]; simp; done) | (refine conv_eq ?_; simp; done)⟩, trivial⟩ trivial rfl
    · rintro i ⟨hi, hal⟩
      refine WP.seq ?_
      refine WP.reg hT hE [] rfl ?_ ?_
      · first | trivial | (simp [holdsC, under, slOk, slB, capEq] <;> grind)
      refine WP.seq ?_
      refine WP.cond rfl (fun h5 => ?_) (fun h5 => ?_)
      · have hil : i < 6 := by simp at h5; omega
        refine WP.skip ?_
        refine WP.seq ?_
        refine WP.block ?_
        refine WP.seq ?_
        refine WP.reg hT hE [] rfl ?_ ?_
        · simp [holdsC, under]
          omega
        refine WP.seq ?_
        refine WP.seq ?_
        refine WP.reg hT hE [] rfl ?_ ?_
        · first | trivial | (simp [holdsC, under, slOk, slB, capEq] <;> grind)
        refine WP.cond rfl (fun h7 => ?_) (fun h7 => ?_)
        · have hge : (i : Int) ≥ x.n := by simpa using h7
          have hlt : ¬ (i : Int) < x.n := by omega
          refine WP.seq ?_
          refine WP.seq ?_
          refine WP.reg hT hE [] rfl ?_ ?_
          · first | trivial | (simp [holdsC, under, slOk, slB, capEq] <;> grind)
          refine WP.cond rfl (fun h8 => ?_) (fun h8 => ?_)
          · have hne : tAt x i ≠ tch0 := fun e => by
              have e' : x.ts.getD (i : Int).toNat tch0 = tch0 := e
              rw [e'] at h8
              simp [tch0] at h8
            refine WP.seq ?_
            refine WP.reg hT hE [] rfl ?_ ?_
            · first | trivial | (simp [holdsC, under, slOk, slB, capEq] <;> grind)
            refine WP.ret ?_
            change Fin _ _ _ _ _ _ _ _
            exact fin1 hT (by rfl) (right_no hil (by simp [rowE, hge, hne])).symm
          · have heq : tAt x i = tch0 := tch_eq h8
            refine WP.skip ?_
            refine WP.exit ?_
            refine WP.reg hT hE [] rfl ?_ ?_
            · first | trivial | (simp [holdsC, under, slOk, slB, capEq] <;> grind)
            refine ⟨i + 1, ?_, ?_, ?_⟩
            · exact ⟨hil, by simp [allTo, hal, rowE, hge, heq]⟩
            · refine Ent.mk hT [] trivial ⟨⟨rfl, _, rfl, by first | exact conv_eq rfl | (refine conv_eq ?_; rw [wrap_id (by omega) (by omega)]; simp; done) | (refine conv_eq ?_; simp; done)⟩, ⟨rfl, _, rfl, conv_eq (by simp [ownE, hlt])⟩, ⟨rfl, _, rfl, by first | exact conv_eq rfl | (refine conv_eq ?_; rw [wrap_id (by omega) (by omega)]; simp; done) | (refine conv_eq ?_; simp; done)⟩, ⟨rfl, _, rfl, by first | exact conv_eq rfl | (refine conv_eq ?_; rw [wrap_id (by omega) (by omega)]; simp; done) | (refine conv_eq ?_; simp; done)⟩, trivial⟩ trivial rfl
            · (try simp only []); first | omega | grind
        · have hlt : (i : Int) < x.n := by simp at h7; omega
          have hrow := row_eq hlt
          have hm := most_ac (tAt x i).kind
          have hc := cmp_ac (tAt x (i - 1)) (tAt x i)
          refine WP.skip ?_
          refine WP.seq ?_
          refine WP.seq ?_
          refine WP.drw hT hE hM [CG.pure (.int (mostF (tAt x i).kind)), CG.pure (.int (cmpF (tAt x (i - 1)) (tAt x i)))] rfl ?_ ?_
          · rcases Nat.eq_zero_or_pos i with h0 | h0
            · subst h0
              simp [holdsC, under, CG.pure]
              exact fun _ => hm
            · have ew : IntKind.i64.wrap ((i : Int) - 1) = ((i - 1 : Nat) : Int) := by rw [wrap_id (by omega) (by omega)]; omega
              simp [holdsC, under, CG.pure, ew]
              exact ⟨⟨⟨fun _ => hm, fun _ _ _ => by omega⟩, fun _ _ _ => hc⟩, fun a b c => ⟨⟨a, b⟩, c⟩⟩
          refine WP.cond rfl (fun h10 => ?_) (fun h10 => ?_)
          · simp only [bor, band] at h10
            refine WP.seq ?_
            refine WP.reg hT hE [] rfl ?_ ?_
            · first | trivial | (simp [holdsC, under, slOk, slB, capEq] <;> grind)
            refine WP.ret ?_
            change Fin _ _ _ _ _ _ _ _
            exact fin1 hT (by rfl) (right_no hil (by rw [hrow]; exact congrArg (! ·) h10)).symm
          · simp only [bor, band] at h10
            refine WP.skip ?_
            refine WP.reg hT hE [] rfl ?_ ?_
            · first | trivial | (simp [holdsC, under, slOk, slB, capEq] <;> grind)
            refine WP.reg hT hE [] rfl ?_ ?_
            · first | trivial | (simp [holdsC, under, slOk, slB, capEq] <;> grind)
            refine ⟨i + 1, ?_, ?_, ?_⟩
            · exact ⟨hil, by simp only [allTo, hal, Bool.true_and]; rw [hrow]; exact congrArg (! ·) h10⟩
            · refine Ent.mk hT [] trivial ⟨⟨rfl, _, rfl, by first | exact conv_eq rfl | (refine conv_eq ?_; rw [wrap_id (by omega) (by omega)]; simp; done) | (refine conv_eq ?_; simp; done)⟩, ⟨rfl, _, rfl, ?_⟩, ⟨rfl, _, rfl, by first | exact conv_eq rfl | (refine conv_eq ?_; rw [wrap_id (by omega) (by omega)]; simp; done) | (refine conv_eq ?_; simp; done)⟩, ⟨rfl, _, rfl, by first | exact conv_eq rfl | (refine conv_eq ?_; rw [wrap_id (by omega) (by omega)]; simp; done) | (refine conv_eq ?_; simp; done)⟩, trivial⟩ trivial rfl
              · refine conv_eq ?_
                rw [bor]
                simp only [ownE, decide_eq_true hlt, Bool.true_and, tch5]
                rfl
            · (try simp only []); first | omega | grind
      · have hil : i = 6 := by simp at h5; omega
        subst hil
        refine WP.exit ?_
        refine WP.seq ?_
        refine WP.reg hT hE [] rfl ?_ ?_
        · first | trivial | (simp [holdsC, under, slOk, slB, capEq] <;> grind)
        refine WP.ret ?_
        change Fin _ _ _ _ _ _ _ _
        refine fin1 hT (by rfl) ?_
        simp [rightE, hh, hal]
end Go.Ab


/- Events: right ones, of the reference. -/
set_option autoImplicit false
set_option maxRecDepth 20000
set_option linter.unusedSimpArgs false
set_option linter.unusedVariables false
namespace Go.Ab
open Go.Proofs
theorem cmp_ge (p c : Tch) : decide (cmpF p c ≥ 0) = (decide (p.kind > c.kind) || (p.kind == c.kind && decide (p.num ≥ c.num))) := by
  unfold cmpF
  rw [Bool.eq_iff_iff]
  simp only [Bool.or_eq_true, Bool.and_eq_true, decide_eq_true_eq, beq_iff_eq]
  split
  · omega
  · split <;> omega
theorem eright_ac (x : Evt) : AC Try.prog T tysN 59 [encE x] [] (.bool (rightE x)) [] := by
  refine AC_intro hT Try.func59 rfl rfl (Nat.le_of_ble_eq_true rfl) ?_
  refine WP.seq ?_
  refine WP.reg hT hE [] rfl ?_ ?_
  · first | trivial | (simp [holdsC, under, slOk, slB, capEq] <;> grind)
  refine WP.seq ?_
  refine WP.seq ?_
  refine WP.reg hT hE [] rfl ?_ ?_
  · first | trivial | (simp [holdsC, under, slOk, slB, capEq] <;> grind)
  refine WP.cond rfl (fun h1 => ?_) (fun h1 => ?_)
  · simp only [bor] at h1
    refine WP.seq ?_
    refine WP.reg hT hE [] rfl ?_ ?_
    · first | trivial | (simp [holdsC, under, slOk, slB, capEq] <;> grind)
    refine WP.ret ?_
    change Fin _ _ _ _ _ _ _ _
    refine fin1 hT (by rfl) ?_
    have : ¬ (0 ≤ x.go ∧ x.go < 6 ∧ 1 ≤ x.n ∧ x.n ≤ 6) := by simp at h1; omega
    simp [rightE, this]
  · simp only [bor] at h1
    have hh : 0 ≤ x.go ∧ x.go < 6 ∧ 1 ≤ x.n ∧ x.n ≤ 6 := by simp at h1; omega
    refine WP.skip ?_
    refine WP.seq ?_
    refine WP.reg hT hE [] rfl ?_ ?_
    · first | trivial | (simp [holdsC, under, slOk, slB, capEq] <;> grind)
    refine WP.seq ?_
    refine WP.seq ?_
    refine WP.reg hT hE [] rfl ?_ ?_
    · first | trivial | (simp [holdsC, under, slOk, slB, capEq] <;> grind)
    refine WP.block ?_
    refine WP.loop (α := Nat) (fun i => mkSt [(1, .rp 92 (encE x)), (3, .bool (ownE x i)), (4, .int i)] []) (fun i => i ≤ 6 ∧ allTo (rowE x) i = true) (fun i => 6 - i) ?_ ?_
    · refine ⟨0, ?_, ?_⟩
      · exact ⟨Nat.zero_le _, rfl⟩
      · refine Ent.mk hT [(.s 1 0, 1)] ⟨⟨_, rfl, Nat.le_refl _⟩, trivial⟩ ⟨⟨rfl, _, rfl, conv_rpe rfl rfl (Nat.lt_succ_self 0) rfl rfl (noIds_E _)⟩, ⟨rfl, _, rfl, by first | exact conv_eq rfl | (refine conv_eq ?_; rw [wrap_id (by omega) (by omega)]; simp; done) | (refine conv_eq ?_; simp; done)⟩, ⟨rfl, _, rfl, by first | exact conv_eq rfl | (refine conv_eq ?_; rw [wrap_id (by omega) (by omega)]; simp; done) | (refine conv_eq ?_; simp; done)⟩, trivial⟩ trivial rfl
    · rintro i ⟨hi, hal⟩
      refine WP.seq ?_
      refine WP.seq ?_
      refine WP.reg hT hE [] rfl ?_ ?_
      · first | trivial | (simp [holdsC, under, slOk, slB, capEq] <;> grind)
      refine WP.cond rfl (fun h5 => ?_) (fun h5 => ?_)
      · have hil : i < 6 := by simp at h5; omega
        refine WP.skip ?_
        refine WP.seq ?_
        refine WP.block ?_
        refine WP.seq ?_
        refine WP.reg hT hE [] rfl ?_ ?_
        · simp [holdsC, under]
          omega
        refine WP.seq ?_
        refine WP.seq ?_
        refine WP.reg hT hE [] rfl ?_ ?_
        · first | trivial | (simp [holdsC, under, slOk, slB, capEq] <;> grind)
        refine WP.cond rfl (fun h8 => ?_) (fun h8 => ?_)
        · have hge : (i : Int) ≥ x.n := by simpa using h8
          have hlt : ¬ (i : Int) < x.n := by omega
          refine WP.seq ?_
          refine WP.seq ?_
          refine WP.reg hT hE [] rfl ?_ ?_
          · first | trivial | (simp [holdsC, under, slOk, slB, capEq] <;> grind)
          refine WP.cond rfl (fun h9 => ?_) (fun h9 => ?_)
          · have hne : tAt x i ≠ tch0 := fun e => by
              have e' : x.ts.getD (i : Int).toNat tch0 = tch0 := e
              rw [e'] at h9
              simp [tch0] at h9
            refine WP.seq ?_
            refine WP.reg hT hE [] rfl ?_ ?_
            · first | trivial | (simp [holdsC, under, slOk, slB, capEq] <;> grind)
            refine WP.ret ?_
            change Fin _ _ _ _ _ _ _ _
            exact fin1 hT (by rfl) (right_no hil (by simp [rowE, hge, hne])).symm
          · have heq : tAt x i = tch0 := tch_eq h9
            refine WP.skip ?_
            refine WP.exit ?_
            refine WP.reg hT hE [] rfl ?_ ?_
            · first | trivial | (simp [holdsC, under, slOk, slB, capEq] <;> grind)
            refine ⟨i + 1, ?_, ?_, ?_⟩
            · exact ⟨hil, by simp [allTo, hal, rowE, hge, heq]⟩
            · refine Ent.mk hT [] trivial ⟨⟨rfl, _, rfl, by first | exact conv_eq rfl | (refine conv_eq ?_; rw [wrap_id (by omega) (by omega)]; simp; done) | (refine conv_eq ?_; simp; done)⟩, ⟨rfl, _, rfl, conv_eq (by simp [ownE, hlt])⟩, ⟨rfl, _, rfl, by first | exact conv_eq rfl | (refine conv_eq ?_; rw [wrap_id (by omega) (by omega)]; simp; done) | (refine conv_eq ?_; simp; done)⟩, trivial⟩ trivial rfl
            · (try simp only []); first | omega | grind
        · have hlt : (i : Int) < x.n := by simp at h8; omega
          have hrow := row_eq hlt
          rw [cmp_ge] at hrow
          have hm := most_ac (tAt x i).kind
          have hfw := few_ac (tAt x i).kind
          refine WP.skip ?_
          refine WP.seq ?_
          refine WP.seq ?_
          refine WP.drw hT hE hM [CG.pure (.int (mostF (tAt x i).kind))] rfl ?_ ?_
          · simp [holdsC, under, CG.pure]
            exact fun _ => hfw
          refine WP.cond rfl (fun h11 => ?_) (fun h11 => ?_)
          · simp only [bor, band] at h11
            refine WP.seq ?_
            refine WP.reg hT hE [] rfl ?_ ?_
            · first | trivial | (simp [holdsC, under, slOk, slB, capEq] <;> grind)
            refine WP.ret ?_
            change Fin _ _ _ _ _ _ _ _
            refine fin1 hT (by rfl) (right_no hil ?_).symm
            rw [hrow]
            have e : (decide ((tAt x i).num < 0) || decide ((tAt x i).num ≥ mostF (tAt x i).kind)) = true := h11
            rw [e]
            rfl
          · simp only [bor, band] at h11
            have e11 : (decide ((tAt x i).num < 0) || decide ((tAt x i).num ≥ mostF (tAt x i).kind)) = false := h11
            rw [e11, Bool.false_or] at hrow
            refine WP.skip ?_
            refine WP.seq ?_
            refine WP.seq ?_
            refine WP.reg hT hE [] rfl ?_ ?_
            · first | trivial | (simp [holdsC, under, slOk, slB, capEq] <;> grind)
            refine WP.cond rfl (fun h13 => ?_) (fun h13 => ?_)
            · have hi0 : 0 < i := by simp at h13; omega
              have ew : IntKind.i64.wrap ((i : Int) - 1) = ((i - 1 : Nat) : Int) := by rw [wrap_id (by omega) (by omega)]; omega
              refine WP.seq ?_
              refine WP.reg hT hE [] rfl ?_ ?_
              · simp [holdsC, under, ew]
                omega
              refine WP.seq ?_
              refine WP.reg hT hE [] rfl ?_ ?_
              · first | trivial | (simp [holdsC, under, slOk, slB, capEq] <;> grind)
              refine WP.cond rfl (fun h15 => ?_) (fun h15 => ?_)
              · simp only [bor, band] at h15
                rw [ew] at h15
                refine WP.seq ?_
                refine WP.reg hT hE [] rfl ?_ ?_
                · first | trivial | (simp [holdsC, under, slOk, slB, capEq] <;> grind)
                refine WP.ret ?_
                change Fin _ _ _ _ _ _ _ _
                refine fin1 hT (by rfl) (right_no hil ?_).symm
                rw [hrow]
                have e : (decide ((tAt x (i - 1)).kind > (tAt x i).kind) || ((tAt x (i - 1)).kind == (tAt x i).kind && decide ((tAt x (i - 1)).num ≥ (tAt x i).num))) = true := h15
                rw [e, decide_eq_true (show (i : Int) > 0 by omega)]
                rfl
              · simp only [bor, band] at h15
                rw [ew] at h15
                refine WP.skip ?_
                refine WP.reg hT hE [] rfl ?_ ?_
                · first | trivial | (simp [holdsC, under, slOk, slB, capEq] <;> grind)
                refine WP.reg hT hE [] rfl ?_ ?_
                · first | trivial | (simp [holdsC, under, slOk, slB, capEq] <;> grind)
                refine ⟨i + 1, ?_, ?_, ?_⟩
                · refine ⟨hil, ?_⟩
                  simp only [allTo, hal, Bool.true_and]
                  rw [hrow]
                  have e : (decide ((tAt x (i - 1)).kind > (tAt x i).kind) || ((tAt x (i - 1)).kind == (tAt x i).kind && decide ((tAt x (i - 1)).num ≥ (tAt x i).num))) = false := h15
                  rw [e, Bool.and_false]
                  rfl
                · refine Ent.mk hT [] trivial ⟨⟨rfl, _, rfl, by first | exact conv_eq rfl | (refine conv_eq ?_; rw [wrap_id (by omega) (by omega)]; simp; done) | (refine conv_eq ?_; simp; done)⟩, ⟨rfl, _, rfl, ?_⟩, ⟨rfl, _, rfl, by first | exact conv_eq rfl | (refine conv_eq ?_; rw [wrap_id (by omega) (by omega)]; simp; done) | (refine conv_eq ?_; simp; done)⟩, trivial⟩ trivial rfl
                  · refine conv_eq ?_
                    simp only [bor, band, ownE, decide_eq_true hlt, Bool.true_and, tch5]
                    rw [show ((tAt x i).wr == true && true) = (tAt x i).wr by cases (tAt x i).wr <;> rfl, Bool.and_assoc]
                    rfl
                · (try simp only []); first | omega | grind
            · have hi0 : i = 0 := by simp at h13; omega
              refine WP.skip ?_
              refine WP.reg hT hE [] rfl ?_ ?_
              · first | trivial | (simp [holdsC, under, slOk, slB, capEq] <;> grind)
              refine WP.reg hT hE [] rfl ?_ ?_
              · first | trivial | (simp [holdsC, under, slOk, slB, capEq] <;> grind)
              refine ⟨i + 1, ?_, ?_, ?_⟩
              · refine ⟨hil, ?_⟩
                simp only [allTo, hal, Bool.true_and]
                rw [hrow, decide_eq_false (show ¬ (i : Int) > 0 by omega)]
                rfl
              · refine Ent.mk hT [] trivial ⟨⟨rfl, _, rfl, by first | exact conv_eq rfl | (refine conv_eq ?_; rw [wrap_id (by omega) (by omega)]; simp; done) | (refine conv_eq ?_; simp; done)⟩, ⟨rfl, _, rfl, ?_⟩, ⟨rfl, _, rfl, by first | exact conv_eq rfl | (refine conv_eq ?_; rw [wrap_id (by omega) (by omega)]; simp; done) | (refine conv_eq ?_; simp; done)⟩, trivial⟩ trivial rfl
                · refine conv_eq ?_
                  simp only [bor, band, ownE, decide_eq_true hlt, Bool.true_and, tch5]
                  rw [show ((tAt x i).wr == true && true) = (tAt x i).wr by cases (tAt x i).wr <;> rfl, Bool.and_assoc]
                  rfl
              · (try simp only []); first | omega | grind
      · have hil : i = 6 := by simp at h5; omega
        subst hil
        refine WP.exit ?_
        refine WP.seq ?_
        refine WP.reg hT hE [] rfl ?_ ?_
        · first | trivial | (simp [holdsC, under, slOk, slB, capEq] <;> grind)
        refine WP.ret ?_
        change Fin _ _ _ _ _ _ _ _
        refine fin1 hT (by rfl) ?_
        simp [rightE, hh, hal]
end Go.Ab


/- Traces: depend.Check, the reference's. -/
set_option autoImplicit false
set_option maxRecDepth 20000
set_option linter.unusedSimpArgs false
set_option linter.unusedVariables false
namespace Go.Ab
open Go.Proofs
def evt0 : Evt := ⟨0, 0, 0, 0, 0, 0, 0, [], 0⟩
def evts (f : Bool) (l : List Evt) : AV := .row 92 f l.length (fun i => encE (l.getD i evt0))
def eAt (l : List Evt) (i : Nat) : Evt := l.getD i evt0
def badE (c : Evt) : Bool := !rightE c
def firstE (h : List Evt) : Int := if h.any badE then h.findIdx badE else -1
theorem anyE_no {h : List Evt} (hn : ∀ j, j < h.length → badE (h.getD j evt0) = false) : h.any badE = false := by
  rw [List.any_eq_false]
  intro x hx
  obtain ⟨i, hi, e⟩ := List.getElem_of_mem hx
  have := hn i hi
  simpa [hi, e] using this
theorem anyE_yes {h : List Evt} {i : Nat} (hi : i < h.length) (hp : badE (h.getD i evt0) = true) : h.any badE = true := by
  rw [List.any_eq_true]
  exact ⟨h[i], List.getElem_mem hi, by simpa [hi] using hp⟩
theorem firstE_none {h : List Evt} (hn : ∀ j, j < h.length → badE (h.getD j evt0) = false) : -1 = firstE h := by
  simp [firstE, anyE_no hn]
theorem firstE_at {h : List Evt} {i : Nat} (hi : i < h.length) (hp : badE (h.getD i evt0) = true) (hn : ∀ j, j < i → badE (h.getD j evt0) = false) : (i : Int) = firstE h := by
  have h1 := anyE_yes hi hp
  simp only [firstE, h1, if_true]
  congr 1
  symm
  rw [List.findIdx_eq hi]
  refine ⟨by simpa [hi] using hp, fun j hj => ?_⟩
  have := hn j hj
  have hj' : j < h.length := by omega
  simpa [hj'] using this
theorem echk_ac (x : Evt) : AC Try.prog T tysN 57 [encE x] [] (.bool (badE x)) [] := by
  refine AC_intro hT Try.func57 rfl rfl (Nat.le_of_ble_eq_true rfl) ?_
  refine WP.seq ?_
  refine WP.reg hT hE [] rfl ?_ ?_
  · first | trivial | (simp [holdsC, under, slOk, slB, capEq] <;> grind)
  refine WP.seq ?_
  refine WP.reg hT hE [CG.pure (.bool (rightE x))] rfl ?_ ?_
  · exact ⟨rfl, dright_ac x⟩
  refine WP.ret ?_
  change Fin _ _ _ _ _ _ _ _
  exact fin1 hT rfl rfl
theorem eidx_ac (g : Bool) (h : List Evt) : AC Try.prog T tysN 75 [evts g h, .clo 57 []] [] (.int (firstE h)) [] := by
  refine AC_intro hT Try.func75 rfl rfl (Nat.le_of_ble_eq_true rfl) ?_
  refine WP.rowlen 0 rfl (fun hl => ?_)
  refine WP.seq ?_
  refine WP.reg hT hE [] rfl ?_ ?_
  · first | trivial | (simp [holdsC, under, slOk, slB, capEq] <;> grind)
  refine WP.seq ?_
  refine WP.seq ?_
  refine WP.reg hT hE [] rfl ?_ ?_
  · first | trivial | (simp [holdsC, under, slOk, slB, capEq] <;> grind)
  refine WP.block ?_
  refine WP.loop (α := Nat) (fun i => mkSt [(0, evts g h), (1, .clo 57 []), (7, .int h.length), (8, .int i)] []) (fun i => i ≤ h.length ∧ ∀ j, j < i → badE (h.getD j evt0) = false) (fun i => h.length - i) ?_ ?_
  · refine ⟨0, ?_, ?_⟩
    · exact ⟨Nat.zero_le _, fun j hj => by omega⟩
    · refine Ent.mk hT [] trivial ⟨⟨rfl, _, rfl, by first | exact conv_eq rfl | (refine conv_eq ?_; rw [wrap_id (by omega) (by omega)]; simp; done) | (refine conv_eq ?_; simp; done)⟩, ⟨rfl, _, rfl, by first | exact conv_eq rfl | (refine conv_eq ?_; rw [wrap_id (by omega) (by omega)]; simp; done) | (refine conv_eq ?_; simp; done)⟩, ⟨rfl, _, rfl, by first | exact conv_eq rfl | (refine conv_eq ?_; rw [wrap_id (by omega) (by omega)]; simp; done) | (refine conv_eq ?_; simp; done)⟩, ⟨rfl, _, rfl, by first | exact conv_eq rfl | (refine conv_eq ?_; rw [wrap_id (by omega) (by omega)]; simp; done) | (refine conv_eq ?_; simp; done)⟩, trivial⟩ trivial rfl
  · rintro i ⟨hi, hn⟩
    refine WP.seq ?_
    refine WP.reg hT hE [] rfl ?_ ?_
    · first | trivial | (simp [holdsC, under, slOk, slB, capEq] <;> grind)
    refine WP.seq ?_
    refine WP.cond rfl (fun h2 => ?_) (fun h2 => ?_)
    · have hil : i < h.length := by simpa using h2
      refine WP.skip ?_
      refine WP.seq ?_
      refine WP.block ?_
      refine WP.seq ?_
      refine WP.reg hT hE [] rfl ?_ ?_
      · first | trivial | (simp [holdsC, under, slOk, slB, capEq] <;> grind)
      refine WP.seq ?_
      refine WP.reg hT hE [CG.pure (.bool (badE (h.getD i evt0)))] rfl ?_ ?_
      · exact ⟨⟨by omega, by omega⟩, echk_ac _⟩
      refine WP.cond rfl (fun h4 => ?_) (fun h4 => ?_)
      · have hx : badE (h.getD i evt0) = true := h4
        refine WP.seq ?_
        refine WP.reg hT hE [] rfl ?_ ?_
        · first | trivial | (simp [holdsC, under, slOk, slB, capEq] <;> grind)
        refine WP.ret ?_
        change Fin _ _ _ _ _ _ _ _
        exact finI hT rfl (firstE_at hil hx hn)
      · have hx : badE (h.getD i evt0) = false := h4
        refine WP.skip ?_
        refine WP.reg hT hE [] rfl ?_ ?_
        · first | trivial | (simp [holdsC, under, slOk, slB, capEq] <;> grind)
        refine ⟨i + 1, ?_, ?_, ?_⟩
        · refine ⟨hil, fun j hj => ?_⟩
          rcases Nat.lt_or_ge j i with h | h
          · exact hn j h
          · obtain rfl : j = i := by omega
            exact hx
        · refine Ent.mk hT [] trivial ⟨⟨rfl, _, rfl, by first | exact conv_eq rfl | (refine conv_eq ?_; rw [wrap_id (by omega) (by omega)]; simp; done) | (refine conv_eq ?_; simp; done)⟩, ⟨rfl, _, rfl, by first | exact conv_eq rfl | (refine conv_eq ?_; rw [wrap_id (by omega) (by omega)]; simp; done) | (refine conv_eq ?_; simp; done)⟩, ⟨rfl, _, rfl, by first | exact conv_eq rfl | (refine conv_eq ?_; rw [wrap_id (by omega) (by omega)]; simp; done) | (refine conv_eq ?_; simp; done)⟩, ⟨rfl, _, rfl, by first | exact conv_eq rfl | (refine conv_eq ?_; rw [wrap_id (by omega) (by omega)]; simp; done) | (refine conv_eq ?_; simp; done)⟩, trivial⟩ trivial rfl
        · (try simp only []); first | omega | grind
    · have hil : i = h.length := by simp at h2; omega
      subst hil
      refine WP.exit ?_
      refine WP.seq ?_
      refine WP.reg hT hE [] rfl ?_ ?_
      · first | trivial | (simp [holdsC, under, slOk, slB, capEq] <;> grind)
      refine WP.ret ?_
      change Fin _ _ _ _ _ _ _ _
      exact finI hT rfl (firstE_none hn)
theorem econt_ac (g : Bool) (h : List Evt) : AC Try.prog T tysN 56 [evts g h, .clo 57 []] [] (.bool (h.any badE)) [] := by
  refine AC_intro hT Try.func56 rfl rfl (Nat.le_of_ble_eq_true rfl) ?_
  refine WP.seq ?_
  refine WP.reg hT hE [] rfl ?_ ?_
  · first | trivial | (simp [holdsC, under, slOk, slB, capEq] <;> grind)
  refine WP.seq ?_
  refine WP.reg hT hE [CG.pure (.int (firstE h))] rfl ?_ ?_
  · exact eidx_ac g h
  refine WP.ret ?_
  change Fin _ _ _ _ _ _ _ _
  refine fin1 hT rfl ?_
  by_cases h : h.any badE = true
  · simp only [firstE, h, if_true]; simp
  · simp only [firstE, h]; simp
def chkE (h : List Evt) : Int := if h.length > 256 then 2 else if h.any badE then 7 else 0
theorem dcheck_ac (g : Bool) (h : List Evt) : AC Try.prog T tysN 42 [evts g h] [] (.int (chkE h)) [] := by
  refine AC_intro hT Try.func42 rfl rfl (Nat.le_of_ble_eq_true rfl) ?_
  refine WP.seq ?_
  refine WP.reg hT hE [] rfl ?_ ?_
  · first | trivial | (simp [holdsC, under, slOk, slB, capEq] <;> grind)
  refine WP.seq ?_
  refine WP.seq ?_
  refine WP.reg hT hE [] rfl ?_ ?_
  · first | trivial | (simp [holdsC, under, slOk, slB, capEq] <;> grind)
  refine WP.cond rfl (fun h1 => ?_) (fun h1 => ?_)
  · have hgt : h.length > 256 := by simp at h1; omega
    refine WP.seq ?_
    refine WP.reg hT hE [] rfl ?_ ?_
    · first | trivial | (simp [holdsC, under, slOk, slB, capEq] <;> grind)
    refine WP.ret ?_
    change Fin _ _ _ _ _ _ _ _
    refine finI hT rfl ?_
    simp [chkE, hgt]
  · have hgt : ¬ h.length > 256 := by simp at h1; omega
    refine WP.skip ?_
    refine WP.seq ?_
    refine WP.seq ?_
    refine WP.reg hT hE [CG.pure (.bool (h.any badE))] rfl ?_ ?_
    · exact econt_ac g h
    refine WP.cond rfl (fun h3 => ?_) (fun h3 => ?_)
    · have hb : h.any badE = true := h3
      refine WP.seq ?_
      refine WP.reg hT hE [] rfl ?_ ?_
      · first | trivial | (simp [holdsC, under, slOk, slB, capEq] <;> grind)
      refine WP.ret ?_
      change Fin _ _ _ _ _ _ _ _
      refine finI hT rfl ?_
      simp [chkE, hgt, hb]
    · have hb : h.any badE = false := h3
      refine WP.skip ?_
      refine WP.seq ?_
      refine WP.reg hT hE [] rfl ?_ ?_
      · first | trivial | (simp [holdsC, under, slOk, slB, capEq] <;> grind)
      refine WP.ret ?_
      change Fin _ _ _ _ _ _ _ _
      refine finI hT rfl ?_
      simp [chkE, hgt, hb]
theorem rcheck_ac (g : Bool) (h : List Evt) : AC Try.prog T tysN 43 [evts g h] [] (.int (chkE h)) [] := by
  refine AC_intro hT Try.func43 rfl rfl (Nat.le_of_ble_eq_true rfl) ?_
  refine WP.seq ?_
  refine WP.reg hT hE [] rfl ?_ ?_
  · first | trivial | (simp [holdsC, under, slOk, slB, capEq] <;> grind)
  refine WP.seq ?_
  refine WP.seq ?_
  refine WP.reg hT hE [] rfl ?_ ?_
  · first | trivial | (simp [holdsC, under, slOk, slB, capEq] <;> grind)
  refine WP.cond rfl (fun h1 => ?_) (fun h1 => ?_)
  · have hgt : h.length > 256 := by simp at h1; omega
    refine WP.seq ?_
    refine WP.reg hT hE [] rfl ?_ ?_
    · first | trivial | (simp [holdsC, under, slOk, slB, capEq] <;> grind)
    refine WP.ret ?_
    change Fin _ _ _ _ _ _ _ _
    refine finI hT rfl ?_
    simp [chkE, hgt]
  · have hgt : ¬ h.length > 256 := by simp at h1; omega
    refine WP.skip ?_
    refine WP.seq ?_
    refine WP.seq ?_
    refine WP.reg hT hE [] rfl ?_ ?_
    · first | trivial | (simp [holdsC, under, slOk, slB, capEq] <;> grind)
    refine WP.block ?_
    refine WP.loop (α := Nat) (fun i => mkSt [(0, evts g h), (3, .int i)] []) (fun i => i ≤ h.length ∧ ∀ j, j < i → badE (h.getD j evt0) = false) (fun i => h.length - i) ?_ ?_
    · refine ⟨0, ?_, ?_⟩
      · exact ⟨Nat.zero_le _, fun j hj => by omega⟩
      · refine Ent.mk hT [] trivial ⟨⟨rfl, _, rfl, by first | exact conv_eq rfl | (refine conv_eq ?_; rw [wrap_id (by omega) (by omega)]; simp; done) | (refine conv_eq ?_; simp; done)⟩, ⟨rfl, _, rfl, by first | exact conv_eq rfl | (refine conv_eq ?_; rw [wrap_id (by omega) (by omega)]; simp; done) | (refine conv_eq ?_; simp; done)⟩, trivial⟩ trivial rfl
    · rintro i ⟨hi, hn⟩
      refine WP.seq ?_
      refine WP.seq ?_
      refine WP.reg hT hE [] rfl ?_ ?_
      · first | trivial | (simp [holdsC, under, slOk, slB, capEq] <;> grind)
      refine WP.cond rfl (fun h4 => ?_) (fun h4 => ?_)
      · have hil : i < h.length := by simpa using h4
        refine WP.skip ?_
        refine WP.seq ?_
        refine WP.block ?_
        refine WP.seq ?_
        refine WP.reg hT hE [CG.pure (.bool (rightE (h.getD i evt0)))] rfl ?_ ?_
        · exact ⟨⟨by omega, by omega⟩, eright_ac _⟩
        refine WP.cond rfl (fun h6 => ?_) (fun h6 => ?_)
        · have hx : badE (h.getD i evt0) = true := h6
          refine WP.seq ?_
          refine WP.reg hT hE [] rfl ?_ ?_
          · first | trivial | (simp [holdsC, under, slOk, slB, capEq] <;> grind)
          refine WP.ret ?_
          change Fin _ _ _ _ _ _ _ _
          refine finI hT rfl ?_
          simp [chkE, hgt, anyE_yes hil hx]
        · have hx : badE (h.getD i evt0) = false := h6
          refine WP.skip ?_
          refine WP.reg hT hE [] rfl ?_ ?_
          · first | trivial | (simp [holdsC, under, slOk, slB, capEq] <;> grind)
          refine ⟨i + 1, ?_, ?_, ?_⟩
          · refine ⟨hil, fun j hj => ?_⟩
            rcases Nat.lt_or_ge j i with h | h
            · exact hn j h
            · obtain rfl : j = i := by omega
              exact hx
          · refine Ent.mk hT [] trivial ⟨⟨rfl, _, rfl, by first | exact conv_eq rfl | (refine conv_eq ?_; rw [wrap_id (by omega) (by omega)]; simp; done) | (refine conv_eq ?_; simp; done)⟩, ⟨rfl, _, rfl, by first | exact conv_eq rfl | (refine conv_eq ?_; rw [wrap_id (by omega) (by omega)]; simp; done) | (refine conv_eq ?_; simp; done)⟩, trivial⟩ trivial rfl
          · (try simp only []); first | omega | grind
      · have hil : i = h.length := by simp at h4; omega
        subst hil
        refine WP.exit ?_
        refine WP.seq ?_
        refine WP.reg hT hE [] rfl ?_ ?_
        · first | trivial | (simp [holdsC, under, slOk, slB, capEq] <;> grind)
        refine WP.ret ?_
        change Fin _ _ _ _ _ _ _ _
        refine finI hT rfl ?_
        simp [chkE, hgt, anyE_no hn]
end Go.Ab


/- Histories the same. -/
set_option autoImplicit false
set_option maxRecDepth 20000
set_option linter.unusedSimpArgs false
set_option linter.unusedVariables false
namespace Go.Ab
open Go.Proofs
theorem sameH_ac (g g' : Bool) (h : List Cal) : AC Try.prog T tysN 25 [cals g h, cals g' h] [] (.bool true) [] := by
  refine AC_intro hT Try.func25 rfl rfl (Nat.le_of_ble_eq_true rfl) ?_
  refine WP.rowlen 0 rfl (fun hl => ?_)
  refine WP.seq ?_
  refine WP.reg hT hE [] rfl ?_ ?_
  · first | trivial | (simp [holdsC, under, slOk, slB, capEq] <;> grind)
  refine WP.seq ?_
  refine WP.seq ?_
  refine WP.reg hT hE [] rfl ?_ ?_
  · first | trivial | (simp [holdsC, under, slOk, slB, capEq] <;> grind)
  refine WP.cond rfl (fun h1 => ?_) (fun h1 => ?_)
  · exfalso
    simp at h1
  · refine WP.skip ?_
    refine WP.seq ?_
    refine WP.seq ?_
    refine WP.reg hT hE [] rfl ?_ ?_
    · first | trivial | (simp [holdsC, under, slOk, slB, capEq] <;> grind)
    refine WP.block ?_
    refine WP.loop (α := Nat) (fun i => mkSt [(0, cals g h), (1, cals g' h), (5, .int i)] []) (fun i => i ≤ h.length) (fun i => h.length - i) ?_ ?_
    · refine ⟨0, ?_, ?_⟩
      · exact Nat.zero_le _
      · refine Ent.mk hT [] trivial ⟨⟨rfl, _, rfl, by first | exact conv_eq rfl | (refine conv_eq ?_; rw [wrap_id (by omega) (by omega)]; simp; done) | (refine conv_eq ?_; simp; done)⟩, ⟨rfl, _, rfl, by first | exact conv_eq rfl | (refine conv_eq ?_; rw [wrap_id (by omega) (by omega)]; simp; done) | (refine conv_eq ?_; simp; done)⟩, ⟨rfl, _, rfl, by first | exact conv_eq rfl | (refine conv_eq ?_; rw [wrap_id (by omega) (by omega)]; simp; done) | (refine conv_eq ?_; simp; done)⟩, trivial⟩ trivial rfl
    · rintro i hi
      refine WP.seq ?_
      refine WP.seq ?_
      refine WP.reg hT hE [] rfl ?_ ?_
      · first | trivial | (simp [holdsC, under, slOk, slB, capEq] <;> grind)
      refine WP.cond rfl (fun h4 => ?_) (fun h4 => ?_)
      · have hil : i < h.length := by simpa using h4
        refine WP.skip ?_
        refine WP.seq ?_
        refine WP.block ?_
        refine WP.seq ?_
        refine WP.drw hT hE hM [] rfl ?_ ?_
        · simp [holdsC, under]; omega
        refine WP.cond rfl (fun h6 => ?_) (fun h6 => ?_)
        · exfalso
          simp at h6
        · refine WP.skip ?_
          refine WP.reg hT hE [] rfl ?_ ?_
          · first | trivial | (simp [holdsC, under, slOk, slB, capEq] <;> grind)
          refine ⟨i + 1, ?_, ?_, ?_⟩
          · exact hil
          · refine Ent.mk hT [] trivial ⟨⟨rfl, _, rfl, by first | exact conv_eq rfl | (refine conv_eq ?_; rw [wrap_id (by omega) (by omega)]; simp; done) | (refine conv_eq ?_; simp; done)⟩, ⟨rfl, _, rfl, by first | exact conv_eq rfl | (refine conv_eq ?_; rw [wrap_id (by omega) (by omega)]; simp; done) | (refine conv_eq ?_; simp; done)⟩, ⟨rfl, _, rfl, by first | exact conv_eq rfl | (refine conv_eq ?_; rw [wrap_id (by omega) (by omega)]; simp; done) | (refine conv_eq ?_; simp; done)⟩, trivial⟩ trivial rfl
          · (try simp only []); first | omega | grind
      · refine WP.exit ?_
        refine WP.seq ?_
        refine WP.reg hT hE [] rfl ?_ ?_
        · first | trivial | (simp [holdsC, under, slOk, slB, capEq] <;> grind)
        refine WP.ret ?_
        change Fin _ _ _ _ _ _ _ _
        exact fin1 hT rfl rfl
end Go.Ab


/- What the search finds; parts of a history. -/
set_option autoImplicit false
set_option linter.unusedSimpArgs false
set_option linter.unusedVariables false
namespace Go.Ab
open Go.Proofs
/-- From here all that ended can be done. -/
inductive Can (k : Int) (fst : Cal → Cal → Bool) (h : List Cal) : Nat → Ct → Prop
  | done {m : Nat} {x : Ct} (hw : wholeB h m = true) : Can k fst h m x
  | step {m : Nat} {x : Ct} (i : Nat) (hi : i < h.length) (hb : m.testBit i = false) (hn : notNext k fst h m i x = false) (hr : Can k fst h (m ||| 1 <<< i) (doF k x (calAt h i)).1) : Can k fst h m x
section
variable {k : Int} {fst : Cal → Cal → Bool} {h : List Cal}
def DeadOK (k : Int) (fst : Cal → Cal → Bool) (h : List Cal) (d : Dead) : Prop := ∀ p : Key, inD d p = true → ¬ Can k fst h p.1 p.2
theorem dead_put {d : Dead} {p : Key} (hd : DeadOK k fst h d) (hp : ¬ Can k fst h p.1 p.2) : DeadOK k fst h (putK d p ()) := by
  intro q hq
  simp only [inD, getK_put] at hq
  split at hq
  · rename_i e; subst e; exact hp
  · exact hd q hq
theorem tryF_iff {rec : Dead → Nat → Ct → List Int → Res} {m : Nat} {x : Ct} {o : List Int}
    (hr : ∀ d i x o, i < h.length → m.testBit i = false → DeadOK k fst h d → ((rec d (m ||| 1 <<< i) x o).1.2 = true ↔ Can k fst h (m ||| 1 <<< i) x) ∧ DeadOK k fst h (rec d (m ||| 1 <<< i) x o).2) :
    ∀ (l : List Nat) (d : Dead), (∀ i ∈ l, i < h.length) → DeadOK k fst h d →
      ((tryF k fst h rec m x o l d).1.isSome = true ↔ ∃ i ∈ l, m.testBit i = false ∧ notNext k fst h m i x = false ∧ Can k fst h (m ||| 1 <<< i) (doF k x (calAt h i)).1) ∧ DeadOK k fst h (tryF k fst h rec m x o l d).2
  | [], d, _, hd => by simp [tryF, hd]
  | i :: r, d, hl, hd => by
    have ih := fun d hd => tryF_iff (o := o) (x := x) hr r d (fun j hj => hl j (List.mem_cons_of_mem _ hj)) hd
    simp only [tryF]
    cases hb : m.testBit i with
    | true =>
      simp only [if_true]
      refine ⟨(ih d hd).1.trans ⟨?_, ?_⟩, (ih d hd).2⟩
      · rintro ⟨j, hj, h1⟩; exact ⟨j, List.mem_cons_of_mem _ hj, h1⟩
      · rintro ⟨j, hj, h1, h2⟩
        rcases List.mem_cons.1 hj with rfl | hj
        · rw [hb] at h1; cases h1
        · exact ⟨j, hj, h1, h2⟩
    | false =>
      simp only [Bool.false_eq_true, if_false]
      cases hn : notNext k fst h m i x with
      | true =>
        simp only [if_true]
        refine ⟨(ih d hd).1.trans ⟨?_, ?_⟩, (ih d hd).2⟩
        · rintro ⟨j, hj, h1⟩; exact ⟨j, List.mem_cons_of_mem _ hj, h1⟩
        · rintro ⟨j, hj, h1, h2, h3⟩
          rcases List.mem_cons.1 hj with rfl | hj
          · rw [hn] at h2; cases h2
          · exact ⟨j, hj, h1, h2, h3⟩
      | false =>
        simp only [Bool.false_eq_true, if_false]
        obtain ⟨r1, r2⟩ := hr d i (doF k x (calAt h i)).1 (o ++ [(i : Int)]) (hl i (by simp)) hb hd
        split
        · rename_i e
          refine ⟨⟨fun _ => ⟨i, by simp, hb, hn, r1.1 e⟩, fun _ => rfl⟩, r2⟩
        · rename_i e
          refine ⟨(ih _ r2).1.trans ⟨?_, ?_⟩, (ih _ r2).2⟩
          · rintro ⟨j, hj, h1⟩; exact ⟨j, List.mem_cons_of_mem _ hj, h1⟩
          · rintro ⟨j, hj, h1, h2, h3⟩
            rcases List.mem_cons.1 hj with rfl | hj
            · exact absurd (r1.2 h3) e
            · exact ⟨j, hj, h1, h2, h3⟩
theorem onF_iff : ∀ (n : Nat) (d : Dead) (m : Nat) (x : Ct) (o : List Int), opens h m < n → DeadOK k fst h d → ((onF k fst h n d m x o).1.2 = true ↔ Can k fst h m x) ∧ DeadOK k fst h (onF k fst h n d m x o).2
  | 0, d, m, x, o, hn, _ => absurd hn (Nat.not_lt_zero _)
  | n + 1, d, m, x, o, hn, hd => by
    simp only [onF]
    split
    · rename_i e
      exact ⟨⟨fun h => by simp at h, fun h => absurd h (hd (m, x) e)⟩, hd⟩
    · split
      · rename_i e
        exact ⟨⟨fun _ => .done e, fun _ => rfl⟩, hd⟩
      · rename_i e1 e2
        have ht := tryF_iff (k := k) (fst := fst) (h := h) (rec := onF k fst h n) (m := m) (x := x) (o := o) (fun d i x o hi hb hd => onF_iff n d _ x o (by have := opens_set hi hb; omega) hd) (List.range' 0 h.length) d (fun i hi => by simp at hi; omega) hd
        have hcan : Can k fst h m x ↔ (tryF k fst h (onF k fst h n) m x o (List.range' 0 h.length) d).1.isSome = true := by
          rw [ht.1]
          constructor
          · intro hc
            cases hc with
            | done hw => exact absurd hw e2
            | step i hi hb hn hr => exact ⟨i, by simp; omega, hb, hn, hr⟩
          · rintro ⟨i, hi, hb, hn, hr⟩
            exact .step i (by simp at hi; omega) hb hn hr
        split
        · rename_i l d' e
          rw [e] at hcan ht
          exact ⟨⟨fun _ => hcan.2 rfl, fun _ => rfl⟩, ht.2⟩
        · rename_i d' e
          rw [e] at hcan ht
          refine ⟨⟨fun h => by simp at h, fun h => by have := hcan.1 h; simp at this⟩, dead_put ht.2 (fun h => by have := hcan.1 h; simp at this)⟩
theorem first_iff (hl : h.length ≤ 8) : (firstF k fst h).1.2 = true ↔ Can k fst h 0 (beginF k) :=
  (onF_iff 9 [] 0 (beginF k) [] (by have := openTo_le 0 h.length; show openTo 0 h.length < 9; omega) (fun p hp => by simp [inD, getK] at hp)).1
end

/-! parts -/
def cutC (mo : Int) (c : Cal) : Cal := if c.fin > mo then { c with fin := -1, out := 0, empty := false } else c
def idxTo (h : List Cal) (mo : Int) (i : Nat) : List Nat := (List.range i).filter fun i => decide ((calAt h i).bgn ≤ mo)
def partTo (h : List Cal) (mo : Int) (i : Nat) : List Cal := (idxTo h mo i).map fun i => cutC mo (calAt h i)
abbrev partF (h : List Cal) (mo : Int) : List Cal := partTo h mo h.length
theorem part_succ {h : List Cal} {mo : Int} {i : Nat} : partTo h mo (i + 1) = if (calAt h i).bgn ≤ mo then partTo h mo i ++ [cutC mo (calAt h i)] else partTo h mo i := by
  simp only [partTo, idxTo, List.range_succ, List.filter_append, List.map_append]
  by_cases e : (calAt h i).bgn ≤ mo <;> simp [e]
theorem idx_lt {h : List Cal} {mo : Int} {n i : Nat} (hi : i ∈ idxTo h mo n) : i < n ∧ (calAt h i).bgn ≤ mo := by
  simpa [idxTo] using hi
theorem idx_mono {h : List Cal} {mo : Int} {n : Nat} : (idxTo h mo n).Pairwise (· < ·) := List.Pairwise.filter _ List.pairwise_lt_range
/-- Where an operation of the part lay. -/
def phi (h : List Cal) (mo : Int) (j : Nat) : Nat := (idxTo h mo h.length).getD j 0
theorem part_len (h : List Cal) (mo : Int) : (partF h mo).length = (idxTo h mo h.length).length := by simp [partTo]
theorem part_at {h : List Cal} {mo : Int} {j : Nat} (hj : j < (partF h mo).length) : calAt (partF h mo) j = cutC mo (calAt h (phi h mo j)) ∧ phi h mo j < h.length ∧ (calAt h (phi h mo j)).bgn ≤ mo := by
  have hj' : j < (idxTo h mo h.length).length := by rw [← part_len]; exact hj
  have hm : phi h mo j ∈ idxTo h mo h.length := by
    simp only [phi, List.getD_eq_getElem?_getD, List.getElem?_eq_getElem hj', Option.getD_some]
    exact List.getElem_mem hj'
  refine ⟨?_, (idx_lt hm).1, (idx_lt hm).2⟩
  simp [calAt, partTo, phi, hj']
theorem phi_lt {h : List Cal} {mo : Int} {i j : Nat} (hij : i < j) (hj : j < (partF h mo).length) : phi h mo i < phi h mo j := by
  have hj' : j < (idxTo h mo h.length).length := by rw [← part_len]; exact hj
  have := List.pairwise_iff_getElem.1 (idx_mono (h := h) (mo := mo) (n := h.length)) i j (by omega) hj' hij
  simpa [phi, hj', show i < (idxTo h mo h.length).length by omega] using this
theorem phi_inj {h : List Cal} {mo : Int} {i j : Nat} (hi : i < (partF h mo).length) (hj : j < (partF h mo).length) (e : phi h mo i = phi h mo j) : i = j := by
  rcases Nat.lt_trichotomy i j with h1 | h1 | h1
  · have := phi_lt h1 hj; omega
  · exact h1
  · have := phi_lt h1 hi; omega
theorem phi_onto {h : List Cal} {mo : Int} {i : Nat} (hi : i < h.length) (hb : (calAt h i).bgn ≤ mo) : ∃ j, j < (partF h mo).length ∧ phi h mo j = i := by
  have : i ∈ idxTo h mo h.length := by simp [idxTo, hi, hb]
  obtain ⟨j, hj, e⟩ := List.getElem_of_mem this
  exact ⟨j, by rw [part_len]; exact hj, by simp [phi, hj, e]⟩
theorem doF_cut (k : Int) (x : Ct) (mo : Int) (c : Cal) : doF k x (cutC mo c) = doF k x c := by
  unfold cutC
  split <;> rfl
theorem can_part {k : Int} {h : List Cal} {mo : Int} (hf : ∀ i, i < h.length → 0 ≤ (calAt h i).bgn) {m : Nat} {x : Ct} (hc : Can k ahd h m x) : ∀ m', (∀ j, j < (partF h mo).length → m'.testBit j = m.testBit (phi h mo j)) → Can k ahd (partF h mo) m' x := by
  induction hc with
  | @done m x hw =>
    intro m' hm
    refine .done (allTo_iff.2 (fun j hj => ?_))
    obtain ⟨e1, e2, e3⟩ := part_at hj
    have h1 := allTo_iff.1 hw _ e2
    rw [e1, hm j hj]
    simp only [Bool.not_not, Bool.or_eq_true, beq_iff_eq] at h1 ⊢
    rcases h1 with h1 | h1
    · left; unfold cutC; split <;> simp [h1]
    · exact .inr h1
  | @step m x i hi hb hn hr ih =>
    intro m' hm
    by_cases hw : wholeB (partF h mo) m' = true
    · exact .done hw
    -- one that has ended is left
    have ⟨a, ha, hna⟩ : ∃ a, a < (partF h mo).length ∧ ((calAt (partF h mo) a).fin == -1 || !(!m'.testBit a)) = false := by
      refine Classical.byContradiction fun hno => hw (allTo_iff.2 (fun a ha => ?_))
      cases hz : ((calAt (partF h mo) a).fin == -1 || !(!m'.testBit a)) with
      | true => rfl
      | false => exact absurd ⟨a, ha, hz⟩ hno
    obtain ⟨a1, a2, a3⟩ := part_at ha
    simp only [Bool.not_not, Bool.or_eq_false_iff, beq_eq_false_iff_ne, ne_eq] at hna
    obtain ⟨hna1, hna2⟩ := hna
    rw [hm a ha] at hna2
    have hcut : (calAt h (phi h mo a)).fin ≤ mo ∧ (calAt h (phi h mo a)).fin ≠ -1 := by
      rw [a1] at hna1
      unfold cutC at hna1
      split at hna1
      · exact absurd rfl hna1
      · exact ⟨by omega, hna1⟩
    simp only [notNext, Bool.or_eq_false_iff, Bool.not_eq_false', Bool.and_eq_false_iff] at hn
    obtain ⟨hmay, hout⟩ := hn
    have hmay' := allTo_iff.1 hmay
    have hbi : (calAt h i).bgn ≤ mo := by
      refine Classical.byContradiction fun hgt => ?_
      have h1 := hmay' _ a2
      have hne : phi h mo a ≠ i := by rintro e; rw [e] at a3; exact hgt a3
      have hah : ahd (calAt h (phi h mo a)) (calAt h i) = true := by
        simp only [ahd, Bool.and_eq_true, bne_iff_ne, decide_eq_true_eq]
        exact ⟨hcut.2, by omega⟩
      simp [hne, hna2, hah] at h1
    obtain ⟨j, hj, rfl⟩ := phi_onto hi hbi
    obtain ⟨j1, j2, j3⟩ := part_at hj
    refine .step j hj (by rw [hm j hj]; exact hb) ?_ ?_
    · simp only [notNext, Bool.or_eq_false_iff, Bool.not_eq_false']
      refine ⟨allTo_iff.2 (fun l hl => ?_), ?_⟩
      · obtain ⟨l1, l2, l3⟩ := part_at hl
        have h1 := hmay' _ l2
        rw [hm l hl, l1, j1]
        cases hz : (l != j && !m.testBit (phi h mo l) && ahd (cutC mo (calAt h (phi h mo l))) (cutC mo (calAt h (phi h mo j)))) with
        | false => rfl
        | true =>
          exfalso
          simp only [Bool.and_eq_true, bne_iff_ne, ne_eq, Bool.not_eq_true'] at hz
          obtain ⟨⟨z1, z2⟩, z3⟩ := hz
          have hne : phi h mo l ≠ phi h mo j := fun e => z1 (phi_inj hl hj e)
          have hah : ahd (calAt h (phi h mo l)) (calAt h (phi h mo j)) = true := by
            have hbg : (cutC mo (calAt h (phi h mo j))).bgn = (calAt h (phi h mo j)).bgn := by unfold cutC; split <;> rfl
            simp only [ahd, Bool.and_eq_true, bne_iff_ne, ne_eq, decide_eq_true_eq, hbg] at z3 ⊢
            unfold cutC at z3
            split at z3
            · exact absurd rfl z3.1
            · exact z3
          simp [hne, z2, hah] at h1
      · rw [j1, doF_cut]
        unfold cutC
        split
        · simp
        · simp only [Bool.and_eq_false_iff, Bool.or_eq_false_iff]; exact hout
    · rw [j1, doF_cut]
      refine ih _ (fun l hl => ?_)
      rw [bit_or, bit_or, hm l hl]
      congr 1
      by_cases e : j = l
      · subst e; simp
      · have : phi h mo j ≠ phi h mo l := fun e' => e (phi_inj hj hl e')
        simp [e, this]
theorem part_hist {k : Int} {h : List Cal} {mo : Int} (hok : okHist k h) : okHist k (partF h mo) := by
  obtain ⟨h1, h4, h8, hall⟩ := hok
  have hlen : (partF h mo).length ≤ h.length := by
    rw [part_len]
    have := List.length_filter_le (fun i => decide ((calAt h i).bgn ≤ mo)) (List.range h.length)
    simpa [idxTo] using this
  refine ⟨h1, h4, by omega, fun j hj => ?_⟩
  obtain ⟨j1, j2, j3⟩ := part_at hj
  have hfj := (hall _ j2).1
  have hmj := fields_mom hfj
  refine ⟨?_, fun l hl => ?_⟩
  · show fieldsB k (calAt (partF h mo) j) = true
    rw [j1]
    unfold cutC
    split
    · have hfj' : fieldsB k (calAt h (phi h mo j)) = true := hfj
      simp only [fieldsB, Bool.and_eq_true, Bool.not_eq_true'] at hfj' ⊢
      obtain ⟨⟨⟨f1, f2⟩, f3⟩, f4⟩ := hfj'
      refine ⟨⟨⟨f1, by simp [badEnd]⟩, ?_⟩, by simp [okEmpty]⟩
      simp only [badVals, Bool.or_eq_false_iff] at f3 ⊢
      exact ⟨f3.1, by simp⟩
    · exact hfj
  · have hl' : l < (partF h mo).length := by omega
    obtain ⟨l1, l2, l3⟩ := part_at hl'
    have hml := fields_mom (hall _ l2).1
    have ⟨c1, c2⟩ := (hall _ j2).2 _ (phi_lt hl hj)
    change clash (calAt h (phi h mo j)) (calAt h (phi h mo l)) = false at c1
    change cross (calAt h (phi h mo j)) (calAt h (phi h mo l)) = false at c2
    change clash (calAt (partF h mo) j) (calAt (partF h mo) l) = false ∧ cross (calAt (partF h mo) j) (calAt (partF h mo) l) = false
    change 0 ≤ (calAt h (phi h mo l)).bgn ∧ _ at hml
    change 0 ≤ (calAt h (phi h mo j)).bgn ∧ _ at hmj
    rw [j1, l1]
    generalize calAt h (phi h mo j) = a at *
    generalize calAt h (phi h mo l) = b at *
    simp only [clash, cross, ahd, Bool.or_eq_false_iff, beq_eq_false_iff_ne, ne_eq, Bool.and_eq_false_iff, bne_eq_false_iff_eq, Bool.not_eq_false', Bool.and_eq_true, bne_iff_ne, decide_eq_true_eq, decide_eq_false_iff_not] at c1 c2 ⊢
    unfold cutC
    split <;> split <;> (try dsimp only) <;> omega
theorem parts_law {k : Int} {h : List Cal} (mo : Int) (hok : okHist k h) (hf : (firstF k ahd h).1.2 = true) : okHist k (partF h mo) ∧ (firstF k ahd (partF h mo)).1.2 = true := by
  have hp := part_hist (mo := mo) hok
  refine ⟨hp, (first_iff hp.2.2.1).2 ?_⟩
  exact can_part (fun i hi => (fields_mom (hok.2.2.2 i hi).1).1) ((first_iff hok.2.2.1).1 hf) 0 (fun j hj => by simp)
end Go.Ab

/- The reference's search: its parts. -/
set_option autoImplicit false
set_option maxRecDepth 20000
set_option linter.unusedSimpArgs false
set_option linter.unusedVariables false
namespace Go.Ab
open Go.Proofs
/-- A thing of the reference. -/
structure Th where
  n : Int
  l : List Int
  deriving DecidableEq
def i64s (l : List Int) : AV := .row 2 false l.length (fun i => .int (l.getD i 0))
def encT (x : Th) : AV := stru 74 [.int x.n, i64s x.l]
theorem noIds_T (x : Th) : noIds (encT x) = true := noIds_agg (fun i hi => by match i, hi with | 0, _ | 1, _ => rfl)
/-- The search, seen. -/
def rsV (k : Int) (g : Bool) (h : List Cal) (tm : Bool) (X : AV) : AV := .rp 71 (stru 71 [.int k, cals g h, .bool tm, X])
def fstR (tm : Bool) (a b : Cal) : Bool := if tm then ahd a b else trn a b
theorem before_ac (k : Int) (g : Bool) (h : List Cal) (tm : Bool) (X : AV) (i j : Nat) (hi : i < h.length) (hj : j < h.length) : AC Try.prog T tysN 74 [rsV k g h tm X, .int i, .int j] [] (.bool (fstR tm (calAt h i) (calAt h j))) [] := by
  refine AC_intro hT Try.func74 rfl rfl (Nat.le_of_ble_eq_true rfl) ?_
  refine WP.seq ?_
  refine WP.reg hT hE [] rfl ?_ ?_
  · first | trivial | (simp [holdsC, under, slOk, slB, capEq] <;> grind)
  refine WP.seq ?_
  refine WP.seq ?_
  refine WP.reg hT hE [] rfl ?_ ?_
  · first | trivial | (simp [holdsC, under, slOk, slB, capEq] <;> grind)
  refine WP.cond rfl (fun h1 => ?_) (fun h1 => ?_)
  · refine WP.seq ?_
    refine WP.drw hT hE hM [CG.pure (.bool (ahd (calAt h i) (calAt h j)))] rfl ?_ ?_
    · have hr := refAhead_ac (calAt h i) (calAt h j)
      exact ⟨⟨⟨by omega, by omega⟩, ⟨by omega, by omega⟩⟩, hr⟩
    refine WP.ret ?_
    change Fin _ _ _ _ _ _ _ _
    obtain rfl : tm = true := h1
    exact fin1 hT (by rfl) rfl
  · refine WP.skip ?_
    refine WP.seq ?_
    refine WP.drw hT hE hM [] rfl ?_ ?_
    · simp [holdsC, under]; omega
    refine WP.ret ?_
    change Fin _ _ _ _ _ _ _ _
    obtain rfl : tm = false := h1
    refine fin1 hT (by rfl) ?_
    simp only [band]
    rfl
def bitB (m i : Nat) : Bool := m.testBit i
theorem shr_and {m i : Nat} (hm : m < 256) (hi : i < 64) : IntKind.i64.wrap ↑(BitVec.ofInt IntKind.i64.bits ((m : Int).fdiv (2 ^ min ((i : Int).toNat) IntKind.i64.bits)) &&& BitVec.ofInt IntKind.i64.bits 1).toNat = if m.testBit i then 1 else 0 := by
  have e1 : min ((i : Int).toNat) IntKind.i64.bits = i := by simp only [Int.toNat_natCast]; exact Nat.min_eq_left (by simp only [IntKind.bits]; omega)
  rw [e1, fdiv_pow]
  have h1 : m >>> i < 2 ^ 63 := Nat.lt_of_le_of_lt (Nat.shiftRight_le m i) (by omega)
  have h2 := wrap_and (b := 1) h1 (by decide)
  rw [show ((1 : Nat) : Int) = 1 from rfl] at h2
  rw [h2]
  have := bit_test m i
  cases ht : m.testBit i with
  | false => rw [ht] at this; simp [this.mpr rfl]
  | true =>
    have h0 : ¬ ((m >>> i) &&& 1 = 0) := by rw [this, ht]; simp
    have h3 : (m >>> i) &&& 1 < 2 := by rw [Nat.and_one_is_mod]; exact Nat.mod_lt _ (by decide)
    simp only [if_true]
    omega
theorem whole_ac (k : Int) (g : Bool) (h : List Cal) (hl : h.length ≤ 8) (tm : Bool) (X : AV) (m : Nat) (hm : m < 256) : AC Try.prog T tysN 53 [rsV k g h tm X, .int m] [] (.bool (wholeB h m)) [] := by
  refine AC_intro hT Try.func53 rfl rfl (Nat.le_of_ble_eq_true rfl) ?_
  refine WP.seq ?_
  refine WP.reg hT hE [] rfl ?_ ?_
  · first | trivial | (simp [holdsC, under, slOk, slB, capEq] <;> grind)
  refine WP.seq ?_
  refine WP.seq ?_
  refine WP.reg hT hE [] rfl ?_ ?_
  · first | trivial | (simp [holdsC, under, slOk, slB, capEq] <;> grind)
  refine WP.block ?_
  refine WP.loop (α := Nat) (fun i => mkSt [(0, rsV k g h tm X), (1, .int m), (5, .int i)] []) (fun i => i ≤ h.length ∧ ∀ j, j < i → ((calAt h j).fin == -1 || !(!m.testBit j)) = true) (fun i => h.length - i) ?_ ?_
  · refine ⟨0, ?_, ?_⟩
    · exact ⟨Nat.zero_le _, fun j hj => by omega⟩
    · refine Ent.mk hT [] trivial ⟨⟨rfl, _, rfl, by first | exact conv_eq rfl | (refine conv_eq ?_; rw [wrap_id (by omega) (by omega)]; simp; done) | (refine conv_eq ?_; simp; done)⟩, ⟨rfl, _, rfl, by first | exact conv_eq rfl | (refine conv_eq ?_; rw [wrap_id (by omega) (by omega)]; simp; done) | (refine conv_eq ?_; simp; done)⟩, ⟨rfl, _, rfl, by first | exact conv_eq rfl | (refine conv_eq ?_; rw [wrap_id (by omega) (by omega)]; simp; done) | (refine conv_eq ?_; simp; done)⟩, trivial⟩ trivial rfl
  · rintro i ⟨hi, hn⟩
    refine WP.seq ?_
    refine WP.seq ?_
    refine WP.reg hT hE [] rfl ?_ ?_
    · first | trivial | (simp [holdsC, under, slOk, slB, capEq] <;> grind)
    refine WP.cond rfl (fun h2 => ?_) (fun h2 => ?_)
    · have hil : i < h.length := by simpa using h2
      refine WP.skip ?_
      refine WP.seq ?_
      refine WP.block ?_
      refine WP.seq ?_
      refine WP.reg hT hE [] rfl ?_ ?_
      · simp [holdsC, under]; omega
      refine WP.cond rfl (fun h4 => ?_) (fun h4 => ?_)
      · rw [shr_and hm (by omega)] at h4
        refine WP.seq ?_
        refine WP.reg hT hE [] rfl ?_ ?_
        · first | trivial | (simp [holdsC, under, slOk, slB, capEq] <;> grind)
        refine WP.ret ?_
        change Fin _ _ _ _ _ _ _ _
        refine fin1 hT (by rfl) ?_
        cases hw : wholeB h m with
        | false => rfl
        | true =>
          have := allTo_iff.1 hw i hil
          simp only [band, Bool.and_eq_true] at h4
          change ((calAt h i).fin == -1 || !(!m.testBit i)) = true at this
          obtain ⟨z1, z2⟩ := h4
          change ((calAt h i).fin != -1) = true at z1
          cases hb : m.testBit i <;> simp [hb] at this z2 z1 <;> exact absurd this z1
      · rw [shr_and hm (by omega)] at h4
        refine WP.skip ?_
        refine WP.reg hT hE [] rfl ?_ ?_
        · first | trivial | (simp [holdsC, under, slOk, slB, capEq] <;> grind)
        refine ⟨i + 1, ?_, ?_, ?_⟩
        · refine ⟨hil, fun j hj => ?_⟩
          rcases Nat.lt_or_ge j i with h3 | h3
          · exact hn j h3
          · obtain rfl : j = i := by omega
            simp only [band] at h4
            change (((calAt h j).fin != -1) && _) = false at h4
            cases hb : m.testBit j <;> simp [hb] at h4 ⊢ <;> exact h4
        · refine Ent.mk hT [] trivial ⟨⟨rfl, _, rfl, by first | exact conv_eq rfl | (refine conv_eq ?_; rw [wrap_id (by omega) (by omega)]; simp; done) | (refine conv_eq ?_; simp; done)⟩, ⟨rfl, _, rfl, by first | exact conv_eq rfl | (refine conv_eq ?_; rw [wrap_id (by omega) (by omega)]; simp; done) | (refine conv_eq ?_; simp; done)⟩, ⟨rfl, _, rfl, by first | exact conv_eq rfl | (refine conv_eq ?_; rw [wrap_id (by omega) (by omega)]; simp; done) | (refine conv_eq ?_; simp; done)⟩, trivial⟩ trivial rfl
        · (try simp only []); first | omega | grind
    · have hil : i = h.length := by simp at h2; omega
      subst hil
      refine WP.exit ?_
      refine WP.seq ?_
      refine WP.reg hT hE [] rfl ?_ ?_
      · first | trivial | (simp [holdsC, under, slOk, slB, capEq] <;> grind)
      refine WP.ret ?_
      change Fin _ _ _ _ _ _ _ _
      refine fin1 hT (by rfl) ?_
      exact (allTo_iff.2 hn).symm
/-- What the reference asks ahead of a step. -/
def mayR (tm : Bool) (h : List Cal) (m i : Nat) : Bool := !m.testBit i && allTo (fun j => !(j != i && fstR tm (calAt h j) (calAt h i) && !m.testBit j && (calAt h j).fin != -1) && !(j != i && fstR tm (calAt h i) (calAt h j) && m.testBit j)) h.length
theorem mayR_no {tm : Bool} {h : List Cal} {m i j : Nat} (hj : j < h.length) (hc : (!(j != i && fstR tm (calAt h j) (calAt h i) && !m.testBit j && (calAt h j).fin != -1) && !(j != i && fstR tm (calAt h i) (calAt h j) && m.testBit j)) = false) : mayR tm h m i = false := by
  simp only [mayR, Bool.and_eq_false_iff]
  right
  cases hz : allTo _ h.length with
  | false => rfl
  | true =>
    have := allTo_iff.1 hz j hj
    rw [hc] at this; cases this
theorem mayR_ac (k : Int) (g : Bool) (h : List Cal) (hl : h.length ≤ 8) (tm : Bool) (X : AV) (m i : Nat) (hm : m < 256) (hi : i < h.length) : AC Try.prog T tysN 55 [rsV k g h tm X, .int m, .int i] [] (.bool (mayR tm h m i)) [] := by
  refine AC_intro hT Try.func55 rfl rfl (Nat.le_of_ble_eq_true rfl) ?_
  refine WP.seq ?_
  refine WP.reg hT hE [] rfl ?_ ?_
  · first | trivial | (simp [holdsC, under, slOk, slB, capEq] <;> grind)
  refine WP.seq ?_
  refine WP.seq ?_
  refine WP.reg hT hE [] rfl ?_ ?_
  · first | trivial | (simp [holdsC, under, slOk, slB, capEq] <;> grind)
  refine WP.cond rfl (fun h1 => ?_) (fun h1 => ?_)
  · rw [shr_and hm (by omega)] at h1
    have hb : m.testBit i = true := by cases hb : m.testBit i <;> simp [hb] at h1 ⊢
    refine WP.seq ?_
    refine WP.reg hT hE [] rfl ?_ ?_
    · first | trivial | (simp [holdsC, under, slOk, slB, capEq] <;> grind)
    refine WP.ret ?_
    change Fin _ _ _ _ _ _ _ _
    refine fin1 hT (by rfl) ?_
    simp [mayR, hb]
  · rw [shr_and hm (by omega)] at h1
    have hb : m.testBit i = false := by cases hb : m.testBit i <;> simp [hb] at h1 ⊢
    refine WP.skip ?_
    refine WP.seq ?_
    refine WP.seq ?_
    refine WP.reg hT hE [] rfl ?_ ?_
    · first | trivial | (simp [holdsC, under, slOk, slB, capEq] <;> grind)
    refine WP.block ?_
    refine WP.loop (α := Nat) (fun j => mkSt [(0, rsV k g h tm X), (1, .int m), (2, .int i), (7, .int j)] []) (fun j => j ≤ h.length ∧ ∀ q, q < j → (!(q != i && fstR tm (calAt h q) (calAt h i) && !m.testBit q && (calAt h q).fin != -1) && !(q != i && fstR tm (calAt h i) (calAt h q) && m.testBit q)) = true) (fun j => h.length - j) ?_ ?_
    · refine ⟨0, ?_, ?_⟩
      · exact ⟨Nat.zero_le _, fun j hj => by omega⟩
      · refine Ent.mk hT [] trivial ⟨⟨rfl, _, rfl, by first | exact conv_eq rfl | (refine conv_eq ?_; rw [wrap_id (by omega) (by omega)]; simp; done) | (refine conv_eq ?_; simp; done)⟩, ⟨rfl, _, rfl, by first | exact conv_eq rfl | (refine conv_eq ?_; rw [wrap_id (by omega) (by omega)]; simp; done) | (refine conv_eq ?_; simp; done)⟩, ⟨rfl, _, rfl, by first | exact conv_eq rfl | (refine conv_eq ?_; rw [wrap_id (by omega) (by omega)]; simp; done) | (refine conv_eq ?_; simp; done)⟩, ⟨rfl, _, rfl, by first | exact conv_eq rfl | (refine conv_eq ?_; rw [wrap_id (by omega) (by omega)]; simp; done) | (refine conv_eq ?_; simp; done)⟩, trivial⟩ trivial rfl
    · rintro j ⟨hj, hn⟩
      refine WP.seq ?_
      refine WP.seq ?_
      refine WP.reg hT hE [] rfl ?_ ?_
      · first | trivial | (simp [holdsC, under, slOk, slB, capEq] <;> grind)
      refine WP.cond rfl (fun h4 => ?_) (fun h4 => ?_)
      · have hjl : j < h.length := by simpa using h4
        have hb1 := before_ac k g h tm X j i hjl hi
        have hb2 := before_ac k g h tm X i j hi hjl
        have ene : ((j : Int) != (i : Int)) = (j != i) := by rw [Bool.eq_iff_iff]; simp; omega
        refine WP.skip ?_
        refine WP.seq ?_
        refine WP.block ?_
        refine WP.seq ?_
        refine WP.seq ?_
        refine WP.reg hT hE [CG.pure (.bool (fstR tm (calAt h j) (calAt h i)))] rfl ?_ ?_
        · simp [holdsC, under, CG.pure]
          exact ⟨fun _ => hb1, fun _ _ _ => hjl⟩
        refine WP.cond rfl (fun h6 => ?_) (fun h6 => ?_)
        · simp only [band, ene] at h6
          rw [shr_and hm (by omega)] at h6
          refine WP.seq ?_
          refine WP.reg hT hE [] rfl ?_ ?_
          · first | trivial | (simp [holdsC, under, slOk, slB, capEq] <;> grind)
          refine WP.ret ?_
          change Fin _ _ _ _ _ _ _ _
          refine fin1 hT (by rfl) (mayR_no hjl ?_).symm
          change (j != i && fstR tm (calAt h j) (calAt h i) && _ && ((calAt h j).fin != -1)) = true at h6
          cases hbj : m.testBit j with
          | true => rw [hbj] at h6; simp at h6
          | false => rw [hbj] at h6; simp only [Bool.false_eq_true, if_false] at h6; simp only [Bool.not_false, Bool.and_true] at h6 ⊢; simp at h6 ⊢; simp [h6]
        · simp only [band, ene] at h6
          rw [shr_and hm (by omega)] at h6
          refine WP.skip ?_
          refine WP.seq ?_
          refine WP.reg hT hE [CG.pure (.bool (fstR tm (calAt h i) (calAt h j)))] rfl ?_ ?_
          · simp [holdsC, under, CG.pure]
            exact fun _ => hb2
          refine WP.cond rfl (fun h8 => ?_) (fun h8 => ?_)
          · simp only [band, ene] at h8
            rw [shr_and hm (by omega)] at h8
            refine WP.seq ?_
            refine WP.reg hT hE [] rfl ?_ ?_
            · first | trivial | (simp [holdsC, under, slOk, slB, capEq] <;> grind)
            refine WP.ret ?_
            change Fin _ _ _ _ _ _ _ _
            refine fin1 hT (by rfl) (mayR_no hjl ?_).symm
            cases hbj : m.testBit j with
            | false => rw [hbj] at h8; simp at h8
            | true => rw [hbj] at h8; simp at h8 ⊢; simp [h8]
          · simp only [band, ene] at h8
            rw [shr_and hm (by omega)] at h8
            refine WP.skip ?_
            refine WP.reg hT hE [] rfl ?_ ?_
            · first | trivial | (simp [holdsC, under, slOk, slB, capEq] <;> grind)
            refine ⟨j + 1, ?_, ?_, ?_⟩
            · refine ⟨hjl, fun q hq => ?_⟩
              rcases Nat.lt_or_ge q j with h3 | h3
              · exact hn q h3
              · obtain rfl : q = j := by omega
                change (q != i && fstR tm (calAt h q) (calAt h i) && _ && ((calAt h q).fin != -1)) = false at h6
                cases hbj : m.testBit q with
                | true => rw [hbj] at h6 h8; simp at h8 ⊢; grind
                | false => rw [hbj] at h6 h8; simp at h6 ⊢; grind
            · refine Ent.mk hT [] trivial ⟨⟨rfl, _, rfl, by first | exact conv_eq rfl | (refine conv_eq ?_; rw [wrap_id (by omega) (by omega)]; simp; done) | (refine conv_eq ?_; simp; done)⟩, ⟨rfl, _, rfl, by first | exact conv_eq rfl | (refine conv_eq ?_; rw [wrap_id (by omega) (by omega)]; simp; done) | (refine conv_eq ?_; simp; done)⟩, ⟨rfl, _, rfl, by first | exact conv_eq rfl | (refine conv_eq ?_; rw [wrap_id (by omega) (by omega)]; simp; done) | (refine conv_eq ?_; simp; done)⟩, ⟨rfl, _, rfl, by first | exact conv_eq rfl | (refine conv_eq ?_; rw [wrap_id (by omega) (by omega)]; simp; done) | (refine conv_eq ?_; simp; done)⟩, trivial⟩ trivial rfl
            · (try simp only []); first | omega | grind
      · have hjl : j = h.length := by simp at h4; omega
        subst hjl
        refine WP.exit ?_
        refine WP.seq ?_
        refine WP.reg hT hE [] rfl ?_ ?_
        · first | trivial | (simp [holdsC, under, slOk, slB, capEq] <;> grind)
        refine WP.ret ?_
        change Fin _ _ _ _ _ _ _ _
        refine fin1 hT (by rfl) ?_
        have := allTo_iff.2 hn
        simp only [mayR, hb, this]
        rfl
end Go.Ab


/- The reference's search: what is done to a thing. -/
set_option autoImplicit false
set_option maxRecDepth 20000
set_option linter.unusedSimpArgs false
set_option linter.unusedVariables false
namespace Go.Ab
open Go.Proofs
def doR (k : Int) (x : Th) (c : Cal) : Th × Bool :=
  if c.act = 1 then (x, !(c.fin != -1) || c.out == x.n)
  else if c.act = 2 then (⟨c.inp, []⟩, true)
  else if c.act = 3 then (⟨IntKind.i64.wrap (x.n + c.inp), []⟩, true)
  else if c.act = 4 then (⟨0, x.l ++ [c.inp]⟩, true)
  else if x.l = [] then (x, !(c.fin != -1) || c.empty)
  else (⟨0, x.l.eraseIdx (if k = 4 then x.l.length - 1 else 0)⟩, !(c.fin != -1) || (!c.empty && c.out == x.l.getD (if k = 4 then x.l.length - 1 else 0) 0))
def encDo (r : Th × Bool) : AV := .tup [encT r.1, .bool r.2]
theorem fin_do {nt : Nat} {st : St} {B : Blk} {r : Th × Bool} (h6 : st.t 6 = some (.always, .ptr (.s 6 0) 1 0 [])) (h7 : st.t 7 = some (.always, .bool r.2)) (hm : st.m (.s 6 0) = some (.cells B)) (hty : B.ty = 74) (hn : B.n = 1) (hy : AEq (B.get 0) (encT r.1)) (hno : noIds (B.get 0) = true) : Fin T tysN nt 0 [.cell 6 74, .tmp 7] (encDo r) [] st :=
  fin_mk hT [(.s 6 0, 1)] (ts := [(6, .rp 74 (encT r.1)), (7, .bool r.2)]) (B' := []) ⟨⟨B, hm, by omega⟩, trivial⟩ ⟨⟨rfl, _, h6, conv_rp hm hn (by simp [lookF, idbeq_self]) (by rw [hty]; rfl) (by simpa [AV.at] using hno) (by simpa [AV.at] using hy)⟩, ⟨rfl, _, h7, conv_eq rfl⟩, trivial⟩ trivial rfl (by rfl) (by rfl)
theorem fin_do_gen {nt : Nat} {st : St} {B : Blk} {r : Th × Bool} (F : List (Id × Nat)) (hF : entF st F) (hF6 : lookF (.s 6 0) F = 0) (h6 : st.t 6 = some (.always, .ptr (.s 6 0) 1 0 [])) (h7 : st.t 7 = some (.always, .bool r.2)) (hm : st.m (.s 6 0) = some (.cells B)) (hty : B.ty = 74) (hn : B.n = 1) (hz : B.fz = 0)
    (hy : Conv st.m (fun i => lookF i F) T (B.get 0) (encT r.1)) : Fin T tysN nt 0 [.cell 6 74, .tmp 7] (encDo r) [] st := by
  refine Fin.ent (st' := mkSt [(6, .ptr (.s 6 0) 1 0 []), (7, .bool r.2)] [(.s 6 0, .cells ⟨74, 1, fun _ => encT r.1, 0⟩)]) ?_ (fin_do rfl rfl rfl rfl rfl (AEq.refl _) (noIds_T _))
  obtain ⟨ty, n, get, fz⟩ := B
  simp only at hty hn hz hy
  subst hty hn hz
  have hok : okIds [.s 6 0] (encT r.1) = true := okIds_agg (fun i hi => by match i, hi with | 0, _ | 1, _ => rfl)
  refine Ent.mk hT F hF ⟨⟨rfl, _, h6, conv_eq rfl⟩, ⟨rfl, _, h7, conv_eq rfl⟩, trivial⟩ ⟨⟨fun _ _ => hok, .inl ⟨_, hm, _, _, rfl, Nat.le_refl _, by rw [hF6]; exact Nat.le_refl _, Nat.zero_le _, fun q hq => ?_⟩⟩, trivial⟩ rfl
  obtain rfl : q = 0 := by simp at hq; exact hq
  exact hy
theorem conv_T_own {m : Id → Option Ob} {id : Id} {l : List Int} {L : Nat} {B2 : Blk} {x : AV} (hx : x = stru 74 [.int 0, .own id L 0 L none]) (hL : L = l.length) (hid : m id = some (.cells B2)) (ht2 : B2.ty = 2) (hn2 : B2.n = l.length) (hg : ∀ q, q < l.length → B2.get q = .int (l.getD q 0)) :
    Conv m (fun i => lookF i [(id, l.length)]) T x (encT ⟨0, l⟩) := by
  subst hx hL
  refine ⟨_, rfl, fun i hi => ?_⟩
  match i, hi with
  | 0, _ => exact conv_eq rfl
  | 1, _ => exact conv_row hid hn2 ht2 (fun h => by cases h) (by simp [lookF, idbeq_self]) (fun j hj => by rw [Nat.zero_add, hg j hj]; exact ⟨rfl, AEq.refl _⟩)
theorem conv_T_nil {m : Id → Option Ob} {F : Id → Nat} {n : Int} {x : AV} (hx : x = stru 74 [.int n, .nils]) : Conv m F T x (encT ⟨n, []⟩) := by
  subst hx
  refine ⟨_, rfl, fun i hi => ?_⟩
  match i, hi with
  | 0, _ => exact conv_eq rfl
  | 1, _ => exact conv_nil_row (by decide)
theorem conv_T_row {m : Id → Option Ob} {F : Id → Nat} {n : Int} {x : AV} {l : List Int} {f : Bool} {L : Nat} {g : Nat → AV} (hx : x = stru 74 [.int n, .row 2 f L g]) (hL : L = l.length) (hg : ∀ j, j < l.length → g j = .int (l.getD j 0)) : Conv m F T x (encT ⟨n, l⟩) := by
  subst hx hL
  refine ⟨_, rfl, fun i hi => ?_⟩
  match i, hi with
  | 0, _ => exact conv_eq rfl
  | 1, _ => exact conv_rowL (fun h => by cases h) hg
theorem th_zero (l : List AV) : ((stru 74 [.int 0, .nils]).put [1]) = fun y => stru 74 [.int 0, y] := by
  funext y
  rw [stru_put (by simp)]
  cases y <;> rfl
theorem th_list (y : AV) : (stru 74 [.int 0, .nils]).put [1] y = stru 74 [.int 0, y] := congrFun (th_zero []) y
theorem th_num (n : Int) : (stru 74 [.int 0, .nils]).put [0] (.int n) = stru 74 [.int n, .nils] := by rw [stru_put (by simp)]; rfl
theorem do1_ac (k : Int) (x : Th) (c : Cal) (hc : c.act ≠ 4) (hl : x.l = [] ∨ c.act = 1 ∨ c.act = 2 ∨ c.act = 3) : AC Try.prog T tysN 41 [.int k, encT x, encCal c] [] (encDo (doR k x c)) [] := by
  refine AC_intro hT Try.func41 rfl rfl (Nat.le_of_ble_eq_true rfl) ?_
  refine WP.seq ?_
  refine WP.reg hT hE [] rfl ?_ ?_
  · first | trivial | (simp [holdsC, under, slOk, slB, capEq] <;> grind)
  refine WP.seq ?_
  refine WP.reg hT hE [] rfl ?_ ?_
  · first | trivial | (simp [holdsC, under, slOk, slB, capEq] <;> grind)
  refine WP.seq ?_
  refine WP.seq ?_
  refine WP.reg hT hE [] rfl ?_ ?_
  · first | trivial | (simp [holdsC, under, slOk, slB, capEq] <;> grind)
  refine WP.block ?_
  refine WP.seq ?_
  refine WP.reg hT hE [] rfl ?_ ?_
  · first | trivial | (simp [holdsC, under, slOk, slB, capEq] <;> grind)
  refine WP.cond rfl (fun h3 => ?_) (fun h3 => ?_)
  · have e1 : c.act = 1 := by simpa using h3
    rw [show doR k x c = (x, !(c.fin != -1) || c.out == x.n) from if_pos e1]
    refine WP.seq ?_
    refine WP.drw hT hE hM [] rfl ?_ ?_
    · simp [holdsC, under] <;> grind
    refine WP.ret ?_
    change Fin _ _ _ _ _ _ _ _
    exact fin_do (by rfl) (by simp only [bor]; rfl) (by rfl) rfl rfl (.refl _) (noIds_T _)
  · have e1 : ¬ c.act = 1 := by simpa using h3
    refine WP.seq ?_
    refine WP.reg hT hE [] rfl ?_ ?_
    · first | trivial | (simp [holdsC, under, slOk, slB, capEq] <;> grind)
    refine WP.cond rfl (fun h5 => ?_) (fun h5 => ?_)
    · have e2 : c.act = 2 := by simpa using h5
      rw [show doR k x c = (⟨c.inp, []⟩, true) by simp [doR, e2]]
      refine WP.seq ?_
      refine WP.reg hT hE [] rfl ?_ ?_
      · first | trivial | (simp [holdsC, under, slOk, slB, capEq] <;> grind)
      refine WP.ret ?_
      change Fin _ _ _ _ _ _ _ _
      exact fin_do_gen [] trivial rfl (by rfl) (by rfl) (by rfl) rfl rfl rfl (conv_T_nil (th_num c.inp))
    · have e2 : ¬ c.act = 2 := by simpa using h5
      refine WP.seq ?_
      refine WP.reg hT hE [] rfl ?_ ?_
      · first | trivial | (simp [holdsC, under, slOk, slB, capEq] <;> grind)
      refine WP.cond rfl (fun h7 => ?_) (fun h7 => ?_)
      · have e3 : c.act = 3 := by simpa using h7
        rw [show doR k x c = (⟨IntKind.i64.wrap (x.n + c.inp), []⟩, true) by simp [doR, e3]]
        refine WP.seq ?_
        refine WP.reg hT hE [] rfl ?_ ?_
        · first | trivial | (simp [holdsC, under, slOk, slB, capEq] <;> grind)
        refine WP.ret ?_
        change Fin _ _ _ _ _ _ _ _
        exact fin_do_gen [] trivial rfl (by rfl) (by rfl) (by rfl) rfl rfl rfl (conv_T_nil (th_num (IntKind.i64.wrap (x.n + c.inp))))
      · have e3 : ¬ c.act = 3 := by simpa using h7
        have hl0 : x.l = [] := by rcases hl with h | h | h | h <;> first | exact h | exact absurd h (by assumption)
        refine WP.seq ?_
        refine WP.reg hT hE [] rfl ?_ ?_
        · first | trivial | (simp [holdsC, under, slOk, slB, capEq] <;> grind)
        refine WP.cond rfl (fun h9 => ?_) (fun h9 => ?_)
        · exact absurd (by simpa using h9) hc
        · refine WP.skip ?_
          refine WP.seq ?_
          refine WP.seq ?_
          refine WP.reg hT hE [] rfl ?_ ?_
          · first | trivial | (simp [holdsC, under, slOk, slB, capEq] <;> grind)
          refine WP.cond rfl (fun h11 => ?_) (fun h11 => ?_)
          · rw [show doR k x c = (x, !(c.fin != -1) || c.empty) by simp [doR, e1, e2, e3, hc, hl0]]
            refine WP.seq ?_
            refine WP.drw hT hE hM [] rfl ?_ ?_
            · simp [holdsC, under] <;> grind
            refine WP.ret ?_
            change Fin _ _ _ _ _ _ _ _
            exact fin_do (by rfl) (by simp only [bor]; rfl) (by rfl) rfl rfl (.refl _) (noIds_T _)
          · simp [hl0] at h11
theorem doR_put {k : Int} {x : Th} {c : Cal} (hc : c.act = 4) : doR k x c = (⟨0, x.l ++ [c.inp]⟩, true) := by simp [doR, hc]
theorem do2_ac (k : Int) (x : Th) (c : Cal) (hc : c.act = 4) (hl : x.l = []) : AC Try.prog T tysN 41 [.int k, encT x, encCal c] [] (encDo (doR k x c)) [] := by
  refine AC_intro hT Try.func41 rfl rfl (Nat.le_of_ble_eq_true rfl) ?_
  rw [doR_put hc, hl]
  refine WP.seq ?_
  refine WP.reg hT hE [] rfl ?_ ?_
  · first | trivial | (simp [holdsC, under, slOk, slB, capEq] <;> grind)
  refine WP.seq ?_
  refine WP.reg hT hE [] rfl ?_ ?_
  · first | trivial | (simp [holdsC, under, slOk, slB, capEq] <;> grind)
  refine WP.seq ?_
  refine WP.seq ?_
  refine WP.reg hT hE [] rfl ?_ ?_
  · first | trivial | (simp [holdsC, under, slOk, slB, capEq] <;> grind)
  refine WP.block ?_
  refine WP.seq ?_
  refine WP.reg hT hE [] rfl ?_ ?_
  · first | trivial | (simp [holdsC, under, slOk, slB, capEq] <;> grind)
  refine WP.cond rfl (fun h3 => ?_) (fun h3 => ?_)
  · simp [hc] at h3
  · refine WP.seq ?_
    refine WP.reg hT hE [] rfl ?_ ?_
    · first | trivial | (simp [holdsC, under, slOk, slB, capEq] <;> grind)
    refine WP.cond rfl (fun h5 => ?_) (fun h5 => ?_)
    · simp [hc] at h5
    · refine WP.seq ?_
      refine WP.reg hT hE [] rfl ?_ ?_
      · first | trivial | (simp [holdsC, under, slOk, slB, capEq] <;> grind)
      refine WP.cond rfl (fun h7 => ?_) (fun h7 => ?_)
      · simp [hc] at h7
      · refine WP.seq ?_
        refine WP.reg hT hE [] rfl ?_ ?_
        · first | trivial | (simp [holdsC, under, slOk, slB, capEq] <;> grind)
        refine WP.cond rfl (fun h9 => ?_) (fun h9 => ?_)
        · refine WP.seq ?_
          refine WP.drw hT hE hM [CG.nop] rfl ?_ ?_
          · have hb : (T 2).bytes = 8 := rfl
            simp [holdsC, under, hb, hl]
          refine WP.ret ?_
          change Fin _ _ _ _ _ _ _ _
          exact fin_do_gen [(.s 51 0, 1)] ⟨⟨_, by rfl, Nat.le_refl _⟩, trivial⟩ rfl (by rfl) (by rfl) (by rfl) rfl rfl rfl (conv_T_own (l := [c.inp]) (th_list _) rfl (by rfl) rfl rfl (fun q hq => by
            obtain rfl : q = 0 := by simp at hq; exact hq
            rfl))
        · simp [hc] at h9
theorem do3_ac (k : Int) (x : Th) (c : Cal) (hc : c.act = 4) (hl : 0 < x.l.length) (hlen : x.l.length < 1000) : AC Try.prog T tysN 41 [.int k, encT x, encCal c] [] (encDo (doR k x c)) [] := by
  refine AC_intro hT Try.func41 rfl rfl (Nat.le_of_ble_eq_true rfl) ?_
  rw [doR_put hc]
  refine WP.seq ?_
  refine WP.reg hT hE [] rfl ?_ ?_
  · first | trivial | (simp [holdsC, under, slOk, slB, capEq] <;> grind)
  refine WP.seq ?_
  refine WP.reg hT hE [] rfl ?_ ?_
  · first | trivial | (simp [holdsC, under, slOk, slB, capEq] <;> grind)
  refine WP.seq ?_
  refine WP.seq ?_
  refine WP.reg hT hE [] rfl ?_ ?_
  · first | trivial | (simp [holdsC, under, slOk, slB, capEq] <;> grind)
  refine WP.block ?_
  refine WP.seq ?_
  refine WP.reg hT hE [] rfl ?_ ?_
  · first | trivial | (simp [holdsC, under, slOk, slB, capEq] <;> grind)
  refine WP.cond rfl (fun h3 => ?_) (fun h3 => ?_)
  · simp [hc] at h3
  · refine WP.seq ?_
    refine WP.reg hT hE [] rfl ?_ ?_
    · first | trivial | (simp [holdsC, under, slOk, slB, capEq] <;> grind)
    refine WP.cond rfl (fun h5 => ?_) (fun h5 => ?_)
    · simp [hc] at h5
    · refine WP.seq ?_
      refine WP.reg hT hE [] rfl ?_ ?_
      · first | trivial | (simp [holdsC, under, slOk, slB, capEq] <;> grind)
      refine WP.cond rfl (fun h7 => ?_) (fun h7 => ?_)
      · simp [hc] at h7
      · refine WP.seq ?_
        refine WP.reg hT hE [] rfl ?_ ?_
        · first | trivial | (simp [holdsC, under, slOk, slB, capEq] <;> grind)
        refine WP.cond rfl (fun h9 => ?_) (fun h9 => ?_)
        · refine WP.seq ?_
          refine WP.drw hT hE hM [] rfl ?_ ?_
          · have hb : (T 2).bytes = 8 := rfl
            simp [holdsC, under, hb]
            omega
          refine WP.ret ?_
          change Fin _ _ _ _ _ _ _ _
          have e0 : (x.l ++ [c.inp]).length = 0 + x.l.length + 1 := by simp
          exact fin_do_gen [(.s 47 0, (x.l ++ [c.inp]).length)] ⟨⟨_, by rfl, by rw [e0]; exact Nat.le_refl _⟩, trivial⟩ rfl (by rfl) (by rfl) (by rfl) rfl rfl rfl (conv_T_own (l := x.l ++ [c.inp]) (th_list _) e0.symm (by rfl) rfl e0.symm (app1 (l := x.l) (x := c.inp) (z := .int 0) (n := 0 + x.l.length) (by omega) (fun q hq => by
            have := joinG_ge (n := 0) (k := x.l.length) (i := q) (g := fun _ => (T 2).zero) (h := fun j => .int (x.l.getD j 0)) (Nat.zero_le _) (by omega)
            exact this)))
        · simp [hc] at h9
theorem doR_take {k : Int} {x : Th} {c : Cal} (h1 : c.act ≠ 1) (h2 : c.act ≠ 2) (h3 : c.act ≠ 3) (h4 : c.act ≠ 4) (hl : x.l ≠ []) : doR k x c = (⟨0, x.l.eraseIdx (if k = 4 then x.l.length - 1 else 0)⟩, !(c.fin != -1) || (!c.empty && c.out == x.l.getD (if k = 4 then x.l.length - 1 else 0) 0)) := by simp [doR, h1, h2, h3, h4, hl]
theorem told_eq {a b c : Bool} : (bif a then true else (bif b then c else false)) = (a || (b && c)) := by cases a <;> cases b <;> rfl
theorem do4_ac (k : Int)  (x : Th) (c : Cal) (h1' : c.act ≠ 1) (h2' : c.act ≠ 2) (h3' : c.act ≠ 3) (h4' : c.act ≠ 4) (hl : x.l.length = 1) (hlen : x.l.length < 1000) : AC Try.prog T tysN 41 [.int k, encT x, encCal c] [] (encDo (doR k x c)) [] := by
  refine AC_intro hT Try.func41 rfl rfl (Nat.le_of_ble_eq_true rfl) ?_
  have hne : x.l ≠ [] := fun e => by rw [e] at hl; simp at hl
  have hw := wrap_id (n := (x.l.length : Int) - 1) (by omega) (by omega)
  have hw2 := wrap_id (n := (x.l.length : Int)) (by omega) (by omega)
  have hw1 : IntKind.i64.wrap (0 + 1) = 1 := by decide
  have hw1' : IntKind.i64.wrap 1 = 1 := by decide
  rw [doR_take h1' h2' h3' h4' hne]
  refine WP.seq ?_
  refine WP.reg hT hE [] rfl ?_ ?_
  · first | trivial | (simp [holdsC, under, slOk, slB, capEq] <;> grind)
  refine WP.seq ?_
  refine WP.reg hT hE [] rfl ?_ ?_
  · first | trivial | (simp [holdsC, under, slOk, slB, capEq] <;> grind)
  refine WP.seq ?_
  refine WP.seq ?_
  refine WP.reg hT hE [] rfl ?_ ?_
  · first | trivial | (simp [holdsC, under, slOk, slB, capEq] <;> grind)
  refine WP.block ?_
  refine WP.seq ?_
  refine WP.reg hT hE [] rfl ?_ ?_
  · first | trivial | (simp [holdsC, under, slOk, slB, capEq] <;> grind)
  refine WP.cond rfl (fun h3 => ?_) (fun h3 => ?_)
  · simp [h1'] at h3
  · refine WP.seq ?_
    refine WP.reg hT hE [] rfl ?_ ?_
    · first | trivial | (simp [holdsC, under, slOk, slB, capEq] <;> grind)
    refine WP.cond rfl (fun h5 => ?_) (fun h5 => ?_)
    · simp [h2'] at h5
    · refine WP.seq ?_
      refine WP.reg hT hE [] rfl ?_ ?_
      · first | trivial | (simp [holdsC, under, slOk, slB, capEq] <;> grind)
      refine WP.cond rfl (fun h7 => ?_) (fun h7 => ?_)
      · simp [h3'] at h7
      · refine WP.seq ?_
        refine WP.reg hT hE [] rfl ?_ ?_
        · first | trivial | (simp [holdsC, under, slOk, slB, capEq] <;> grind)
        refine WP.cond rfl (fun h9 => ?_) (fun h9 => ?_)
        · simp [h4'] at h9
        · refine WP.skip ?_
          refine WP.seq ?_
          refine WP.seq ?_
          refine WP.reg hT hE [] rfl ?_ ?_
          · first | trivial | (simp [holdsC, under, slOk, slB, capEq] <;> grind)
          refine WP.cond rfl (fun h11 => ?_) (fun h11 => ?_)
          · exact (hne (by simpa using h11)).elim
          · refine WP.skip ?_
            refine WP.seq ?_
            refine WP.reg hT hE [] rfl ?_ ?_
            · first | trivial | (simp [holdsC, under, slOk, slB, capEq] <;> grind)
            refine WP.seq ?_
            refine WP.seq ?_
            refine WP.reg hT hE [] rfl ?_ ?_
            · first | trivial | (simp [holdsC, under, slOk, slB, capEq] <;> grind)
            refine WP.cond rfl (fun h14 => ?_) (fun h14 => ?_)
            · have hk4 : k = 4 := by simpa using h14
              try rw [if_pos hk4]
              refine WP.reg hT hE [] rfl ?_ ?_
              · first | trivial | (simp [holdsC, under, slOk, slB, capEq] <;> grind)
              refine WP.seq ?_
              refine WP.reg hT hE [] rfl ?_ ?_
              · simp [holdsC, under, hw] <;> omega
              refine WP.seq ?_
              refine WP.reg hT hE [CG.nop] rfl ?_ ?_
              · have hb : (T 2).bytes = 8 := rfl
                simp [holdsC, under, hb, slOk, slB, capEq, hw, hw2, hw1, hw1']
                try (constructor <;> omega)
                try omega
              refine WP.seq ?_
              refine WP.reg hT hE [CG.nop] rfl ?_ ?_
              · have hb : (T 2).bytes = 8 := rfl
                simp [holdsC, under, hb, slOk, slB, capEq, hw, hw2, hw1, hw1']
                try (constructor <;> omega)
                try omega
              refine WP.seq ?_
              refine WP.drw hT hE hM [] rfl ?_ ?_
              · first | trivial | (simp [holdsC, under, slOk, slB, capEq] <;> grind)
              refine WP.ret ?_
              change Fin _ _ _ _ _ _ _ _
              have e : ∀ i, i < x.l.length → x.l.eraseIdx i = [] := fun i hi => List.eq_nil_of_length_eq_zero (by rw [List.length_eraseIdx, if_pos hi]; omega)
              rw [e _ (by omega)]
              refine fin_do_gen [] trivial rfl (by rfl) ?_ (by rfl) rfl rfl rfl (conv_T_row (l := []) (th_list _) rfl (fun j hj => by simp at hj))
              refine (congrArg (fun b => some (D.always, AV.bool b)) told_eq).trans ?_
              simp [hw]
            · have hk4 : k ≠ 4 := by simpa using h14
              try rw [if_neg hk4]
              refine WP.skip ?_
              refine WP.seq ?_
              refine WP.reg hT hE [] rfl ?_ ?_
              · simp [holdsC, under, hw] <;> omega
              refine WP.seq ?_
              refine WP.reg hT hE [CG.nop] rfl ?_ ?_
              · have hb : (T 2).bytes = 8 := rfl
                simp [holdsC, under, hb, slOk, slB, capEq, hw, hw2, hw1, hw1']
                try (constructor <;> omega)
                try omega
              refine WP.seq ?_
              refine WP.reg hT hE [CG.nop] rfl ?_ ?_
              · have hb : (T 2).bytes = 8 := rfl
                simp [holdsC, under, hb, slOk, slB, capEq, hw, hw2, hw1, hw1']
                try (constructor <;> omega)
                try omega
              refine WP.seq ?_
              refine WP.drw hT hE hM [] rfl ?_ ?_
              · first | trivial | (simp [holdsC, under, slOk, slB, capEq] <;> grind)
              refine WP.ret ?_
              change Fin _ _ _ _ _ _ _ _
              have e : ∀ i, i < x.l.length → x.l.eraseIdx i = [] := fun i hi => List.eq_nil_of_length_eq_zero (by rw [List.length_eraseIdx, if_pos hi]; omega)
              rw [e _ (by omega)]
              refine fin_do_gen [] trivial rfl (by rfl) ?_ (by rfl) rfl rfl rfl (conv_T_row (l := []) (th_list _) rfl (fun j hj => by simp at hj))
              refine (congrArg (fun b => some (D.always, AV.bool b)) told_eq).trans ?_
              simp [hw]
theorem do5_ac (k : Int) (hk : k ≠ 4) (x : Th) (c : Cal) (h1' : c.act ≠ 1) (h2' : c.act ≠ 2) (h3' : c.act ≠ 3) (h4' : c.act ≠ 4) (hl : 2 ≤ x.l.length) (hlen : x.l.length < 1000) : AC Try.prog T tysN 41 [.int k, encT x, encCal c] [] (encDo (doR k x c)) [] := by
  refine AC_intro hT Try.func41 rfl rfl (Nat.le_of_ble_eq_true rfl) ?_
  have hne : x.l ≠ [] := fun e => by rw [e] at hl; simp at hl
  have hw := wrap_id (n := (x.l.length : Int) - 1) (by omega) (by omega)
  have hw2 := wrap_id (n := (x.l.length : Int)) (by omega) (by omega)
  have hw1 : IntKind.i64.wrap (0 + 1) = 1 := by decide
  have hw1' : IntKind.i64.wrap 1 = 1 := by decide
  rw [doR_take h1' h2' h3' h4' hne]
  refine WP.seq ?_
  refine WP.reg hT hE [] rfl ?_ ?_
  · first | trivial | (simp [holdsC, under, slOk, slB, capEq] <;> grind)
  refine WP.seq ?_
  refine WP.reg hT hE [] rfl ?_ ?_
  · first | trivial | (simp [holdsC, under, slOk, slB, capEq] <;> grind)
  refine WP.seq ?_
  refine WP.seq ?_
  refine WP.reg hT hE [] rfl ?_ ?_
  · first | trivial | (simp [holdsC, under, slOk, slB, capEq] <;> grind)
  refine WP.block ?_
  refine WP.seq ?_
  refine WP.reg hT hE [] rfl ?_ ?_
  · first | trivial | (simp [holdsC, under, slOk, slB, capEq] <;> grind)
  refine WP.cond rfl (fun h3 => ?_) (fun h3 => ?_)
  · simp [h1'] at h3
  · refine WP.seq ?_
    refine WP.reg hT hE [] rfl ?_ ?_
    · first | trivial | (simp [holdsC, under, slOk, slB, capEq] <;> grind)
    refine WP.cond rfl (fun h5 => ?_) (fun h5 => ?_)
    · simp [h2'] at h5
    · refine WP.seq ?_
      refine WP.reg hT hE [] rfl ?_ ?_
      · first | trivial | (simp [holdsC, under, slOk, slB, capEq] <;> grind)
      refine WP.cond rfl (fun h7 => ?_) (fun h7 => ?_)
      · simp [h3'] at h7
      · refine WP.seq ?_
        refine WP.reg hT hE [] rfl ?_ ?_
        · first | trivial | (simp [holdsC, under, slOk, slB, capEq] <;> grind)
        refine WP.cond rfl (fun h9 => ?_) (fun h9 => ?_)
        · simp [h4'] at h9
        · refine WP.skip ?_
          refine WP.seq ?_
          refine WP.seq ?_
          refine WP.reg hT hE [] rfl ?_ ?_
          · first | trivial | (simp [holdsC, under, slOk, slB, capEq] <;> grind)
          refine WP.cond rfl (fun h11 => ?_) (fun h11 => ?_)
          · exact (hne (by simpa using h11)).elim
          · refine WP.skip ?_
            refine WP.seq ?_
            refine WP.reg hT hE [] rfl ?_ ?_
            · first | trivial | (simp [holdsC, under, slOk, slB, capEq] <;> grind)
            refine WP.seq ?_
            refine WP.seq ?_
            refine WP.reg hT hE [] rfl ?_ ?_
            · first | trivial | (simp [holdsC, under, slOk, slB, capEq] <;> grind)
            refine WP.cond rfl (fun h14 => ?_) (fun h14 => ?_)
            · have hk4 : k = 4 := by simpa using h14
              exact absurd hk4 hk
              try rw [if_pos hk4]
            · have hk4 : k ≠ 4 := by simpa using h14
              try rw [if_neg hk4]
              refine WP.skip ?_
              refine WP.seq ?_
              refine WP.reg hT hE [] rfl ?_ ?_
              · simp [holdsC, under, hw] <;> omega
              refine WP.seq ?_
              refine WP.reg hT hE [CG.nop] rfl ?_ ?_
              · have hb : (T 2).bytes = 8 := rfl
                simp [holdsC, under, hb, slOk, slB, capEq, hw, hw2, hw1, hw1']
                try (constructor <;> omega)
                try omega
              refine WP.seq ?_
              refine WP.reg hT hE [] rfl ?_ ?_
              · have hb : (T 2).bytes = 8 := rfl
                simp [holdsC, under, hb, slOk, slB, capEq, hw, hw2, hw1, hw1']
                try (constructor <;> omega)
                try omega
              refine WP.seq ?_
              refine WP.drw hT hE hM [] rfl ?_ ?_
              · first | trivial | (simp [holdsC, under, slOk, slB, capEq] <;> grind)
              refine WP.ret ?_
              change Fin _ _ _ _ _ _ _ _
              have e : (x.l.eraseIdx 0).length = x.l.length - 1 := by rw [List.length_eraseIdx, if_pos (by omega)]
              refine fin_do_gen [(.s 87 0, (x.l.eraseIdx 0).length)] ⟨⟨_, by rfl, ?_⟩, trivial⟩ rfl (by rfl) ?_ (by rfl) rfl rfl rfl (conv_T_own (l := x.l.eraseIdx 0) (th_list _) ?_ (by rfl) rfl ?_ ?_)
              · rw [e]
                show x.l.length - 1 ≤ 0 + ((x.l.length : Int) - IntKind.i64.wrap (0 + 1)).toNat
                omega
              · refine (congrArg (fun b => some (D.always, AV.bool b)) told_eq).trans ?_
                simp [hw]
              · rw [e]
                show 0 + ((x.l.length : Int) - IntKind.i64.wrap (0 + 1)).toNat = x.l.length - 1
                omega
              · rw [e]
                show 0 + ((x.l.length : Int) - IntKind.i64.wrap (0 + 1)).toNat = x.l.length - 1
                omega
              · intro q hq
                have h9' := joinG_ge (n := 0) (k := ((x.l.length : Int) - IntKind.i64.wrap (0 + 1)).toNat) (i := q) (g := fun _ => (T 2).zero) (h := fun j => .int (x.l.getD ((IntKind.i64.wrap (0 + 1)).toNat + j) 0)) (Nat.zero_le _) (by omega)
                refine Eq.trans h9' ?_
                have e1 : (IntKind.i64.wrap (0 + 1)).toNat + (q - 0) = q + 1 := by omega
                rw [e1]
                simp [List.getD, List.getElem?_eraseIdx]
theorem do6_ac (k : Int) (hk : k = 4) (x : Th) (c : Cal) (h1' : c.act ≠ 1) (h2' : c.act ≠ 2) (h3' : c.act ≠ 3) (h4' : c.act ≠ 4) (hl : 2 ≤ x.l.length) (hlen : x.l.length < 1000) : AC Try.prog T tysN 41 [.int k, encT x, encCal c] [] (encDo (doR k x c)) [] := by
  refine AC_intro hT Try.func41 rfl rfl (Nat.le_of_ble_eq_true rfl) ?_
  have hne : x.l ≠ [] := fun e => by rw [e] at hl; simp at hl
  have hw := wrap_id (n := (x.l.length : Int) - 1) (by omega) (by omega)
  have hw2 := wrap_id (n := (x.l.length : Int)) (by omega) (by omega)
  have hw1 : IntKind.i64.wrap (0 + 1) = 1 := by decide
  have hw1' : IntKind.i64.wrap 1 = 1 := by decide
  rw [doR_take h1' h2' h3' h4' hne]
  refine WP.seq ?_
  refine WP.reg hT hE [] rfl ?_ ?_
  · first | trivial | (simp [holdsC, under, slOk, slB, capEq] <;> grind)
  refine WP.seq ?_
  refine WP.reg hT hE [] rfl ?_ ?_
  · first | trivial | (simp [holdsC, under, slOk, slB, capEq] <;> grind)
  refine WP.seq ?_
  refine WP.seq ?_
  refine WP.reg hT hE [] rfl ?_ ?_
  · first | trivial | (simp [holdsC, under, slOk, slB, capEq] <;> grind)
  refine WP.block ?_
  refine WP.seq ?_
  refine WP.reg hT hE [] rfl ?_ ?_
  · first | trivial | (simp [holdsC, under, slOk, slB, capEq] <;> grind)
  refine WP.cond rfl (fun h3 => ?_) (fun h3 => ?_)
  · simp [h1'] at h3
  · refine WP.seq ?_
    refine WP.reg hT hE [] rfl ?_ ?_
    · first | trivial | (simp [holdsC, under, slOk, slB, capEq] <;> grind)
    refine WP.cond rfl (fun h5 => ?_) (fun h5 => ?_)
    · simp [h2'] at h5
    · refine WP.seq ?_
      refine WP.reg hT hE [] rfl ?_ ?_
      · first | trivial | (simp [holdsC, under, slOk, slB, capEq] <;> grind)
      refine WP.cond rfl (fun h7 => ?_) (fun h7 => ?_)
      · simp [h3'] at h7
      · refine WP.seq ?_
        refine WP.reg hT hE [] rfl ?_ ?_
        · first | trivial | (simp [holdsC, under, slOk, slB, capEq] <;> grind)
        refine WP.cond rfl (fun h9 => ?_) (fun h9 => ?_)
        · simp [h4'] at h9
        · refine WP.skip ?_
          refine WP.seq ?_
          refine WP.seq ?_
          refine WP.reg hT hE [] rfl ?_ ?_
          · first | trivial | (simp [holdsC, under, slOk, slB, capEq] <;> grind)
          refine WP.cond rfl (fun h11 => ?_) (fun h11 => ?_)
          · exact (hne (by simpa using h11)).elim
          · refine WP.skip ?_
            refine WP.seq ?_
            refine WP.reg hT hE [] rfl ?_ ?_
            · first | trivial | (simp [holdsC, under, slOk, slB, capEq] <;> grind)
            refine WP.seq ?_
            refine WP.seq ?_
            refine WP.reg hT hE [] rfl ?_ ?_
            · first | trivial | (simp [holdsC, under, slOk, slB, capEq] <;> grind)
            refine WP.cond rfl (fun h14 => ?_) (fun h14 => ?_)
            · have hk4 : k = 4 := by simpa using h14
              try rw [if_pos hk4]
              refine WP.reg hT hE [] rfl ?_ ?_
              · first | trivial | (simp [holdsC, under, slOk, slB, capEq] <;> grind)
              refine WP.seq ?_
              refine WP.reg hT hE [] rfl ?_ ?_
              · simp [holdsC, under, hw] <;> omega
              refine WP.seq ?_
              refine WP.reg hT hE [] rfl ?_ ?_
              · have hb : (T 2).bytes = 8 := rfl
                simp [holdsC, under, hb, slOk, slB, capEq, hw, hw2, hw1, hw1']
                try (constructor <;> omega)
                try omega
              refine WP.seq ?_
              refine WP.reg hT hE [CG.nop] rfl ?_ ?_
              · have hb : (T 2).bytes = 8 := rfl
                simp [holdsC, under, hb, slOk, slB, capEq, hw, hw2, hw1, hw1']
                try (constructor <;> omega)
                try omega
              refine WP.seq ?_
              refine WP.drw hT hE hM [] rfl ?_ ?_
              · first | trivial | (simp [holdsC, under, slOk, slB, capEq] <;> grind)
              refine WP.ret ?_
              change Fin _ _ _ _ _ _ _ _
              have e : (x.l.eraseIdx (x.l.length - 1)).length = x.l.length - 1 := by rw [List.length_eraseIdx, if_pos (by omega)]
              refine fin_do_gen [(.s 80 0, (x.l.eraseIdx (x.l.length - 1)).length)] ⟨⟨_, by rfl, ?_⟩, trivial⟩ rfl (by rfl) ?_ (by rfl) rfl rfl rfl (conv_T_own (l := x.l.eraseIdx (x.l.length - 1)) (th_list _) ?_ (by rfl) rfl ?_ ?_)
              · rw [e]
                show x.l.length - 1 ≤ 0 + (IntKind.i64.wrap (x.l.length - 1) - 0).toNat
                omega
              · refine (congrArg (fun b => some (D.always, AV.bool b)) told_eq).trans ?_
                simp [hw]
                trace_state
              · rw [e]
                show 0 + (IntKind.i64.wrap (x.l.length - 1) - 0).toNat = x.l.length - 1
                omega
              · rw [e]
                show 0 + (IntKind.i64.wrap (x.l.length - 1) - 0).toNat = x.l.length - 1
                omega
              · intro q hq
                have h9' := joinG_ge (n := 0) (k := (IntKind.i64.wrap (x.l.length - 1) - 0).toNat) (i := q) (g := fun _ => (T 2).zero) (h := fun j => .int (x.l.getD ((0 : Int).toNat + j) 0)) (Nat.zero_le _) (by omega)
                refine Eq.trans h9' ?_
                have e1 : (0 : Int).toNat + (q - 0) = q := by simp
                rw [e1]
                rw [List.getD_eq_getElem?_getD, List.getD_eq_getElem?_getD, List.getElem?_eraseIdx, if_pos (by omega)]
            · have hk4 : k ≠ 4 := by simpa using h14
              exact absurd hk hk4
              try rw [if_neg hk4]
end Go.Ab

