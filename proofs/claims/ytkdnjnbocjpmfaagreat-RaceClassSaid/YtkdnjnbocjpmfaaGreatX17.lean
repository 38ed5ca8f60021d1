/- Part 18 of a proof of a statement about the given program: an abstract machine over the model, proved sound, and contracts of the functions that the statement reaches; the last part proves the statement, for every input, with no condition. -/
import Derived.Test.YtkdnjnbocjpmfaaGreatX15
import Derived.Test.YtkdnjnbocjpmfaaGreatX13
import Derived.Test.YtkdnjnbocjpmfaaGreatX16
set_option linter.unusedSimpArgs false
set_option linter.unusedVariables false
/- slices.SortFunc at pairs. -/
set_option autoImplicit false
set_option maxRecDepth 20000
set_option linter.unusedSimpArgs false
set_option linter.unusedVariables false
namespace Go.Ab
open Go.Proofs Go.Sort
def vals2 (p : Pr) : List Value := [.int .i64 p.1, .int .i64 p.2]
instance : Inhabited Pr := ⟨(0, 0)⟩
theorem encK2 : EncK T tysN 75 2 enc2 vals2 where
  len _ := rfl
  one x v hv := by
    simp [vals2] at hv
    rcases hv with rfl | rfl <;> rfl
  rep I ρ x := by
    refine .array (n := 2) (segs := fun i => [.int .i64 ([x.1, x.2].getD i 0)]) 3 rfl (by decide) (fun i hi => .v rfl) (fun i hi => rfl) (fun i hi => rfl)
  uni I ρ x cs h := by
    have h1 : ∀ y (c : List Value), Rep T tysN I ρ (.v y) c → c = [y] := fun y c h => by cases h; rfl
    unfold enc2 arrI at h
    cases h with
    | struct fs segs hk hn ht h hf hl => cases hk
    | array e segs hk ht h hf hl =>
      have a := h1 _ _ (h 0 (by decide))
      have b := h1 _ _ (h 1 (by decide))
      simp [List.range, List.range.loop, a, b, vals2]
  fits x := rfl
  pack x := rfl
  size := rfl
  pos := by decide
theorem lt_cmp2 (p q : Pr) : Go.Proofs.ltOf cmp2 p q = decide (p.1 < q.1 ∨ p.1 = q.1 ∧ p.2 < q.2) := by
  unfold Go.Proofs.ltOf
  apply decide_eq_decide.2
  simp only [cmp2, cmpL, cmp1]
  grind
theorem swo2 : SWO (Go.Proofs.ltOf cmp2) where
  irrefl x := by rw [lt_cmp2]; simp
  trans x y z h1 h2 := by rw [lt_cmp2] at *; simp at *; omega
  ntrans x y z h1 h2 := by rw [lt_cmp2] at *; simp at *; omega
def cells2 (l : List Pr) : Ob := cellsL 75 enc2 (0, 0) l
/-- Pairs in order. -/
def sortP (l : List Pr) : List Pr := sortBy cmp2 l
theorem edgeSort_ac (l : List Pr) (hl : l.length < 4611686018427387904) : AC Tryz.prog T tysN 61 [.own (.b 0) l.length 0 l.length none, .clo 136 []] [cells2 l] (.tup []) [cells2 (sortP l)] :=
  sortF_ac hT Tryz.laySortP encK2 Tryz.isAgg75 Tryz.sizeOf75 swo2 (enters_of Tryz.func136 rfl rfl) edgeCmp_ac ⟨_, Tryz.func61, rfl, rfl⟩ l hl
theorem confSort_ac (l : List Pr) (hl : l.length < 4611686018427387904) : AC Tryz.prog T tysN 61 [.own (.b 0) l.length 0 l.length none, .clo 62 []] [cells2 l] (.tup []) [cells2 (sortP l)] :=
  sortF_ac hT Tryz.laySortP encK2 Tryz.isAgg75 Tryz.sizeOf75 swo2 (enters_of Tryz.func62 rfl rfl) confCmp_ac ⟨_, Tryz.func61, rfl, rfl⟩ l hl
end Go.Ab


/- order.Edges. -/
set_option autoImplicit false
set_option maxRecDepth 20000
set_option maxHeartbeats 1000000
set_option linter.unusedSimpArgs false
set_option linter.unusedVariables false
namespace Go.Ab
open Go.Proofs
def nearStep (t : List Evt) (l : List Nat) (i : Nat) : List Nat := if l.any (fun k => befB t i k) then l else l ++ [i]
def nearS (t : List Evt) (xs : List Nat) : List Nat := xs.foldl (nearStep t) []
def nearL (t : List Evt) (j : Nat) : List Nat := nearS t (pastL t j)
def pairsAt (j : Nat) (l : List Nat) : List Pr := l.map fun i : Nat => ((i : Int), (j : Int))
def edgesTo (t : List Evt) : Nat → List Pr
  | 0 => []
  | j + 1 => edgesTo t j ++ pairsAt j (nearL t j)
def edgesL (t : List Evt) : List Pr := sortP (edgesTo t t.length)
def natsI (l : List Nat) : List Int := l.map fun n : Nat => (n : Int)
theorem nearS_snoc (t : List Evt) (xs : List Nat) (i : Nat) : nearS t (xs ++ [i]) = nearStep t (nearS t xs) i := by
  simp [nearS, List.foldl_append]
theorem nearS_len (t : List Evt) (xs : List Nat) : (nearS t xs).length ≤ xs.length := by
  suffices h : ∀ (xs l : List Nat), (xs.foldl (nearStep t) l).length ≤ l.length + xs.length by simpa [nearS] using h xs []
  intro xs
  induction xs with
  | nil => intro l; simp
  | cons x r ih =>
    intro l
    have := ih (nearStep t l x)
    have h2 : (nearStep t l x).length ≤ l.length + 1 := by
      unfold nearStep; split <;> simp
    simp only [List.foldl_cons, List.length_cons]
    omega
theorem nearS_mem {t : List Evt} {xs : List Nat} {k : Nat} (h : k ∈ nearS t xs) : k ∈ xs := by
  suffices h0 : ∀ (xs l : List Nat), k ∈ xs.foldl (nearStep t) l → k ∈ l ∨ k ∈ xs by
    rcases h0 xs [] h with h | h
    · cases h
    · exact h
  clear h
  intro xs
  induction xs with
  | nil => intro l h; exact .inl h
  | cons x r ih =>
    intro l h
    rcases ih _ h with h | h
    · unfold nearStep at h
      split at h
      · exact .inl h
      · rcases List.mem_append.1 h with h | h
        · exact .inl h
        · simp at h; exact .inr (by simp [h])
    · exact .inr (by simp [h])
theorem edgesTo_len (t : List Evt) : ∀ j, j ≤ 256 → (edgesTo t j).length ≤ j * 256
  | 0, _ => Nat.le_refl _
  | j + 1, h => by
    have h1 := edgesTo_len t j (by omega)
    have h2 := nearS_len t (pastL t j)
    have h3 := pastTo_len t j j
    have h4 : (pastL t j).length ≤ j := h3
    simp only [edgesTo, List.length_append, pairsAt, List.length_map, nearL]
    omega
abbrev ownP (l : List Pr) : AV := .own (.b 0) l.length 0 l.length none
/-- What is there in a round for event j: the pairs, the near ones. -/
def blE (t : List Evt) (j : Nat) (xs : List Nat) : List Ob := [.cells ⟨28, 1, fun _ => .own (.b 1) (edgesTo t j ++ pairsAt j (nearS t xs)).length 0 (edgesTo t j ++ pairsAt j (nearS t xs)).length none, 0⟩, cells2 (edgesTo t j ++ pairsAt j (nearS t xs)), .cells ⟨23, 1, fun _ => .own (.b 3) (nearS t xs).length 0 (nearS t xs).length none, 0⟩, cellsI 3 .i64 (natsI (nearS t xs))]
def blO (t : List Evt) (j : Nat) : List Ob := [.cells ⟨28, 1, fun _ => .own (.b 1) (edgesTo t j).length 0 (edgesTo t j).length none, 0⟩, cells2 (edgesTo t j)]
theorem blE_nil (t : List Evt) (j : Nat) : blE t j [] = [.cells ⟨28, 1, fun _ => .own (.b 1) (edgesTo t j).length 0 (edgesTo t j).length none, 0⟩, cells2 (edgesTo t j), .cells ⟨23, 1, fun _ => .own (.b 3) 0 0 0 none, 0⟩, cellsI 3 .i64 []] := by
  simp [blE, nearS, pairsAt, natsI]
theorem near_yes {t : List Evt} {xs : List Nat} {i : Nat} (h : ((nearS t xs).any fun k => befB t i k) = true) : nearS t (xs ++ [i]) = nearS t xs := by
  rw [nearS_snoc, nearStep, if_pos h]
theorem near_no {t : List Evt} {xs : List Nat} {i : Nat} (h : ((nearS t xs).any fun k => befB t i k) = false) : nearS t (xs ++ [i]) = nearS t xs ++ [i] := by
  rw [nearS_snoc, nearStep, if_neg (by simp [h])]
theorem any_nats (l : List Nat) (p : Nat → Bool) : ((natsI l).any fun k => p k.toNat) = l.any p := by
  rw [natsI, List.any_map]; rfl
theorem natsI_len (l : List Nat) : (natsI l).length = l.length := by simp [natsI]
theorem edges_ac (g : Bool) (t : List Evt) : AC Tryz.prog T tysN 92 [evts g t] [] (.tup [ownP (if chkE t = 0 then edgesL t else []), .int (chkE t)]) [cells2 (if chkE t = 0 then edgesL t else [])] := by
 refine AC_intro hT Tryz.func92 rfl rfl (Nat.le_of_ble_eq_true rfl) ?_
 refine sq (rg [] rfl ?_)
 refine sq (rgs [CG.pure (.tup [tabF t (chkE t), .int (chkE t)])] rfl ?_ ?_)
 ·have ha := asked_ac g false t []
  have e : askE t [] = chkE t := by unfold askE; split <;> simp_all
  rw [e] at ha
  simp [holdsC, under, CG.pure]
  refine AC.conv hT ha ?_
  exact ⟨_, _, rfl, conv_eq rfl, _, _, rfl, conv_nil_row (by decide), rfl⟩
 refine sq (sq (rg [] rfl ?_))
 refine cd rfl (fun h2 => ?_) (fun h2 => ?_)
 ·have hbad : chkE t ≠ 0 := by simpa using h2
  refine sq (rg [] rfl ?_)
  refine WP.ret ?_
  change Fin ..
  rw [if_neg hbad]
  refine fin_toB hT [] [.s 999 0] (ts := [(2, ownP []), (3, .int (chkE t))]) (l := [ownP [], .int (chkE t)]) trivial rfl ⟨⟨_, .own (.s 999 0) 0 0 0 none, rfl, conv_nil_own, rfl, rfl⟩, ⟨_, .int (chkE t), rfl, conv_eq rfl, rfl, rfl⟩, trivial⟩ ⟨.inr ⟨rfl, 75, _, rfl, by decide⟩, trivial⟩ rfl rfl
 ·have hz : chkE t = 0 := by simpa using h2
  have hok := chk_right hz
  have h256 := hok.1
  refine sk (sq (rg [] rfl ?_))
  refine sq (sq (rg [] rfl ?_))
  refine bk ?_
  refine WP.loop (α := Nat) (fun j => fnSt (fun k => lookN k [(4, .rp 147 (encTab t)), (6, .ptr (.b 0) 1 0 []), (19, .int t.length), (20, .int j)]) (ofB (blO t j))) (fun j => j ≤ t.length) (fun j => t.length - j) ?_ ?_
  ·refine ⟨0, ?_, ?_⟩
   ·exact Nat.zero_le _
   ·refine Ent.trans (Ent.mk (P := Tryz.prog) hT [] (ts := [(4, .ptr (.s 4 0) 1 0 []), (6, .ptr (.s 6 0) 1 0 []), (19, .int t.length), (20, .int (0 : Nat))]) (ms := [(.s 4 0, .cells ⟨147, 1, fun _ => encTab t, 0⟩), (.s 6 0, .cells ⟨28, 1, fun _ => .nils, 0⟩)]) trivial ⟨⟨rfl, _, rfl, conv_eq rfl⟩, ⟨rfl, _, rfl, conv_eq rfl⟩, ⟨rfl, _, rfl, conv_eq rfl⟩, ⟨rfl, _, rfl, conv_eq rfl⟩, trivial⟩ ⟨⟨fun _ _ => okIds_agg (fun i hi => by match i, hi with | 0, _ | 1, _ => rfl), .inl ⟨_, rfl, _, _, rfl, Nat.le_refl _, Nat.zero_le _, Nat.zero_le _, fun q hq => by (obtain rfl : q = 0 := (by simp at hq; exact hq)); exact conv_eq (by show tabF t (chkE t) = _; rw [hz]; rfl)⟩⟩, ⟨fun _ _ => rfl, .inl ⟨_, rfl, _, _, rfl, Nat.le_refl _, Nat.zero_le _, Nat.zero_le _, fun q hq => conv_eq rfl⟩⟩, trivial⟩ rfl) ?_
    refine Ent.toB hT [(.s 4 0, 1)] [.s 6 0, .s 999 0] (ts := [(4, .rp 147 (encTab t)), (6, .ptr (.b 0) 1 0 []), (19, .int t.length), (20, .int (0 : Nat))]) (B := blO t 0) ⟨⟨_, rfl, Nat.le_refl _⟩, trivial⟩ rfl ?_ ?_
    · exact ⟨⟨_, .rp 147 (encTab t), rfl, conv_rpe rfl rfl (by decide) rfl rfl (noIds_tab t), rfl, rfl⟩, ⟨_, .ptr (.s 6 0) 1 0 [], rfl, conv_eq rfl, rfl, rfl⟩, ⟨_, _, rfl, conv_eq rfl, rfl, rfl⟩, ⟨_, _, rfl, conv_eq rfl, rfl, rfl⟩, trivial⟩
    · exact ⟨.inl ⟨_, .cells ⟨28, 1, fun _ => .own (.s 999 0) 0 0 0 none, 0⟩, rfl, ⟨_, _, rfl, Nat.le_refl _, Nat.zero_le _, Nat.zero_le _, fun i hi => conv_nil_own⟩, fun _ _ => rfl, rfl⟩, .inr ⟨rfl, 75, _, rfl, by decide⟩, trivial⟩
  ·rintro j hj
   refine sq (rg [] rfl ?_)
   refine sq ?_
   refine cd rfl (fun h6 => ?_) (fun h6 => ?_)
   ·have hjl : j < t.length := by simpa using h6
    refine sk (sq (bk (sq (rg [] rfl ?_))))
    refine sq (rg [] rfl ?_)
    refine sq (rgs [CG.pure (.clo 168 [.rp 3 (.int j), .rp 147 (encTab t)])] rfl ?_ ?_)
    ·have hp := past_ac t (j : Int)
     simp [holdsC, under, CG.pure]
     exact hp
    refine bk ?_
    refine WP.ent (Ent.toB hT [(.s 7 0, 1)] [.b 0, .b 1, .s 8 0, .s 34 0] (ts := [(4, .rp 147 (encTab t)), (6, .ptr (.b 0) 1 0 []), (7, .rp 3 (.int j)), (8, .ptr (.b 2) 1 0 []), (19, .int t.length), (20, .int j), (25, .clo 168 [.rp 3 (.int j), .rp 147 (encTab t)])]) (B := [.cells ⟨28, 1, fun _ => .own (.b 1) (edgesTo t j).length 0 (edgesTo t j).length none, 0⟩, cells2 (edgesTo t j), .cells ⟨23, 1, fun _ => .own (.b 3) 0 0 0 none, 0⟩, cellsI 3 .i64 []]) ⟨⟨_, rfl, Nat.le_refl _⟩, trivial⟩ rfl ?_ ?_) ?_
    · exact ⟨⟨_, _, rfl, conv_eq rfl, rfl, rfl⟩, ⟨_, .ptr (.b 0) 1 0 [], rfl, conv_eq rfl, rfl, rfl⟩, ⟨_, .rp 3 (.int j), rfl, conv_rpe rfl rfl (by decide) rfl rfl rfl, rfl, rfl⟩, ⟨_, .ptr (.s 8 0) 1 0 [], rfl, conv_eq rfl, rfl, rfl⟩, ⟨_, _, rfl, conv_eq rfl, rfl, rfl⟩, ⟨_, _, rfl, conv_eq rfl, rfl, rfl⟩, ⟨_, _, rfl, conv_eq rfl, rfl, rfl⟩, trivial⟩
    · refine ⟨.inl ⟨_, .cells ⟨28, 1, fun _ => .own (.b 1) (edgesTo t j).length 0 (edgesTo t j).length none, 0⟩, rfl, ⟨_, _, rfl, Nat.le_refl _, Nat.zero_le _, Nat.zero_le _, fun i hi => conv_eq rfl⟩, fun _ _ => rfl, rfl⟩, .inl ⟨_, cells2 (edgesTo t j), rfl, ⟨_, _, rfl, Nat.le_refl _, Nat.zero_le _, Nat.zero_le _, fun i hi => conv_eq rfl⟩, fun _ _ => okIds_2 _ _, ?_⟩, .inl ⟨_, .cells ⟨23, 1, fun _ => .own (.s 34 0) 0 0 0 none, 0⟩, rfl, ⟨_, _, rfl, Nat.le_refl _, Nat.zero_le _, Nat.zero_le _, fun i hi => conv_nil_own⟩, fun _ _ => rfl, rfl⟩, .inr ⟨rfl, 3, _, rfl, by decide⟩, trivial⟩
      exact (renO_list (fun a => ren_2 _ a)).symm
    rw [← blE_nil t j]
    refine WP.rangeF (fun _ _ h => h) (nb2 := 4) (A := fun x : {q : Nat // q < j} => [.int (x.1 : Int)]) (fun pre : List {q : Nat // q < j} => blE t j (pre.map (·.1))) (by rfl) rfl (pastIt t hok j hjl) (fun x I ρ => ⟨rfl, rfl, fun i a ha => by match i with | 0 => (simp at ha; subst ha; exact repV_v rfl) | i + 1 => simp at ha⟩) (fun p hp => by simp at hp; subst hp; decide) (fun _ => rfl) ?_ ?_
    ·intro pre x hM
     obtain ⟨i, hi⟩ := x
     have hil : i < t.length := by omega
     have hnl := nearS_len t (pre.map (·.1))
     have hel := edgesTo_len t j (by omega)
     have hpl : (pre.map (·.1)).length = pre.length := List.length_map _
     have hp2 : (pairsAt j (nearS t (pre.map (·.1)))).length = (nearS t (pre.map (·.1))).length := List.length_map _
     refine rg [] rfl ?_
     refine bk (sq ?_)
     refine WP.ent (st' := mkSt [(4, .rp 147 (encTab t)), (6, .ptr (.b 0) 1 0 []), (7, .rp 3 (.int j)), (8, .ptr (.b 2) 1 0 []), (9, .rp 3 (.int i))] [(.b 0, .cells ⟨28, 1, fun _ => .own (.b 1) (edgesTo t j ++ pairsAt j (nearS t (pre.map (·.1)))).length 0 (edgesTo t j ++ pairsAt j (nearS t (pre.map (·.1)))).length none, 0⟩), (.b 1, cells2 (edgesTo t j ++ pairsAt j (nearS t (pre.map (·.1))))), (.b 2, .cells ⟨23, 1, fun _ => .own (.b 3) (nearS t (pre.map (·.1))).length 0 (nearS t (pre.map (·.1))).length none, 0⟩), (.b 3, cellsI 3 .i64 (natsI (nearS t (pre.map (·.1)))))]) ?_ ?_
     ·refine em [(.s 9 0, 1)] ⟨⟨_, rfl, Nat.le_refl _⟩, trivial⟩ ⟨⟨rfl, _, rfl, cvt⟩, ⟨rfl, _, rfl, cvt⟩, ⟨rfl, _, rfl, cvt⟩, ⟨rfl, _, rfl, cvt⟩, ⟨rfl, _, rfl, conv_rpe rfl rfl (by decide) rfl rfl rfl⟩, trivial⟩ ⟨obs rfl, ⟨fun _ _ => okIds_2 _ _, .inl ⟨_, rfl, _, _, rfl, Nat.le_refl _, Nat.zero_le _, Nat.zero_le _, fun q hq => conv_eq rfl⟩⟩, obs rfl, ⟨fun _ _ => rfl, .inl ⟨_, rfl, _, _, rfl, Nat.le_refl _, Nat.zero_le _, Nat.zero_le _, fun q hq => conv_eq rfl⟩⟩, trivial⟩
     refine rgs [CG.pure (.bool ((nearS t (pre.map (·.1))).any fun k => befB t i k))] rfl ?_ ?_
     ·have hc := icont2_ac false (natsI (nearS t (pre.map (·.1)))) 135 147 3 (encTab t) (.int i) (fun k => befB t i k.toNat) (fun x hx => by
        simp only [natsI, List.mem_map] at hx
        obtain ⟨k, hk, rfl⟩ := hx
        have hk2 := nearS_mem hk
        simp only [List.mem_map] at hk2
        obtain ⟨⟨k', hk'⟩, _, rfl⟩ := hk2
        exact nearF_ac t hok i k' hil (by omega))
      rw [any_nats] at hc
      simp [holdsC, under, CG.pure, natsI_len, slOk, slB, capEq]
      rw [ints, natsI_len] at hc
      exact ⟨fun _ _ => rfl, hc⟩
     refine cd rfl (fun h11 => ?_) (fun h11 => ?_)
     ·refine sq (rgs [] rfl ?_ ?_)
      ·simp [holdsC, under, natsI_len]
       have hb : (T 3).bytes = 8 := rfl
       have hnl2 : (nearS t pre.unattach).length ≤ (pre.map (·.1)).length := hnl
       rw [hb]
       omega
      refine rgs [] rfl ?_ ?_
      ·simp [holdsC, under]
       have hb : (T 75).bytes = 16 := rfl
       have hnl2 : (nearS t pre.unattach).length ≤ (pre.map (·.1)).length := hnl
       have hp3 : (pairsAt j (nearS t pre.unattach)).length = (nearS t pre.unattach).length := hp2
       rw [hb]
       omega
      rw [List.map_append, show List.map (fun x : {q : Nat // q < j} => x.1) [⟨i, hi⟩] = [i] from rfl]
      have hno : ((nearS t (pre.map (·.1))).any fun k => befB t i k) = false := by simpa using h11
      rw [show blE t j (pre.map (·.1) ++ [i]) = [.cells ⟨28, 1, fun _ => .own (.b 1) ((edgesTo t j ++ pairsAt j (nearS t (pre.map (·.1)))) ++ [((i : Int), (j : Int))]).length 0 ((edgesTo t j ++ pairsAt j (nearS t (pre.map (·.1)))) ++ [((i : Int), (j : Int))]).length none, 0⟩, cells2 ((edgesTo t j ++ pairsAt j (nearS t (pre.map (·.1)))) ++ [((i : Int), (j : Int))]), .cells ⟨23, 1, fun _ => .own (.b 3) (nearS t (pre.map (·.1)) ++ [i]).length 0 (nearS t (pre.map (·.1)) ++ [i]).length none, 0⟩, cellsI 3 .i64 (natsI (nearS t (pre.map (·.1))) ++ [(i : Int)])] by
        have e : pairsAt j (nearS t (pre.map (·.1)) ++ [i]) = pairsAt j (nearS t (pre.map (·.1))) ++ [((i : Int), (j : Int))] := by simp [pairsAt]
        rw [blE, near_no hno, e, ← List.append_assoc, show natsI (nearS t (pre.map (·.1)) ++ [i]) = natsI (nearS t (pre.map (·.1))) ++ [(i : Int)] by simp [natsI]]]
      refine rnd_mk hT [] trivial ?_ rfl
      refine ⟨⟨fun _ _ => rfl, .inl ⟨_, rfl, _, _, rfl, Nat.le_refl _, Nat.zero_le _, Nat.zero_le _, fun q hq => ?_⟩⟩, ob_list (fun _ => okIds_2 _ _) rfl rfl (by simp only [List.length_append, List.length_singleton]) rfl rfl ?_, ⟨fun _ _ => rfl, .inl ⟨_, rfl, _, _, rfl, Nat.le_refl _, Nat.zero_le _, Nat.zero_le _, fun q hq => ?_⟩⟩, ob_ints rfl rfl (by simp only [List.length_append, List.length_singleton, natsI_len]) rfl rfl ?_, trivial⟩
      · obtain rfl : q = 0 := by simp at hq; exact hq
        exact conv_eq (by simp only [List.length_append, List.length_singleton]; rfl)
      · refine appL (z := (T 75).zero) rfl ?_ (fun q hq => rfl)
        refine Eq.trans (b := AV.agg 75 2 (fun q => bif Nat.beq q 1 then .int j else bif Nat.beq q 0 then .int i else .int 0)) rfl (agg_ext (fun q => by match q with | 0 | 1 | q + 2 => rfl))
      · obtain rfl : q = 0 := by simp at hq; exact hq
        exact conv_eq (by simp only [List.length_append, List.length_singleton]; rfl)
      · exact app1 (z := (T 3).zero) (by simp only [natsI_len]) (fun q hq => rfl)
     ·refine sk ?_
      rw [List.map_append, show List.map (fun x : {q : Nat // q < j} => x.1) [⟨i, hi⟩] = [i] from rfl]
      have hye : ((nearS t (pre.map (·.1))).any fun k => befB t i k) = true := by simpa using h11
      rw [show blE t j (pre.map (·.1) ++ [i]) = blE t j (pre.map (·.1)) by rw [blE, near_yes hye]; rfl]
      refine rnd_mk hT [] trivial ?_ rfl
      exact ⟨⟨fun _ _ => rfl, .inl ⟨_, rfl, _, _, rfl, Nat.le_refl _, Nat.zero_le _, Nat.zero_le _, fun q hq => conv_eq rfl⟩⟩, ⟨fun _ _ => okIds_2 _ _, .inl ⟨_, rfl, _, _, rfl, Nat.le_refl _, Nat.zero_le _, Nat.zero_le _, fun q hq => conv_eq rfl⟩⟩, ⟨fun _ _ => rfl, .inl ⟨_, rfl, _, _, rfl, Nat.le_refl _, Nat.zero_le _, Nat.zero_le _, fun q hq => conv_eq rfl⟩⟩, ⟨fun _ _ => rfl, .inl ⟨_, rfl, _, _, rfl, Nat.le_refl _, Nat.zero_le _, Nat.zero_le _, fun q hq => conv_eq rfl⟩⟩, trivial⟩
    ·intro xs hS
     simp only [hS]
     refine rg [] rfl ?_
     refine ⟨j + 1, ?_, ?_, ?_⟩
     ·exact hjl
     ·refine Ent.toB hT [] [.b 0, .b 1] (ts := [(4, .rp 147 (encTab t)), (6, .ptr (.b 0) 1 0 []), (19, .int t.length), (20, .int (j + 1 : Nat))]) (B := blO t (j + 1)) trivial rfl ?_ ?_
      · exact ⟨⟨_, _, rfl, conv_eq rfl, rfl, rfl⟩, ⟨_, .ptr (.b 0) 1 0 [], rfl, conv_eq rfl, rfl, rfl⟩, ⟨_, _, rfl, conv_eq rfl, rfl, rfl⟩, ⟨_, .int (j + 1 : Nat), rfl, conv_eq (by rw [wrap_id (by omega) (by omega)]; rfl), rfl, rfl⟩, trivial⟩
      · refine ⟨.inl ⟨_, .cells ⟨28, 1, fun _ => .own (.b 1) (edgesTo t (j + 1)).length 0 (edgesTo t (j + 1)).length none, 0⟩, rfl, ⟨_, _, rfl, Nat.le_refl _, Nat.zero_le _, Nat.zero_le _, fun i hi => conv_eq rfl⟩, fun _ _ => rfl, rfl⟩, .inl ⟨_, cells2 (edgesTo t (j + 1)), rfl, ⟨_, _, rfl, Nat.le_refl _, Nat.zero_le _, Nat.zero_le _, fun i hi => conv_eq rfl⟩, fun _ _ => okIds_2 _ _, ?_⟩, trivial⟩
        exact (renO_list (fun a => ren_2 _ a)).symm
     ·(try simp only []); first | omega | grind
   ·have hjl : j = t.length := by simp at h6; omega
    subst hjl
    refine xt (sq (rgs [⟨true, [.b 1], .tup [], [cells2 (edgesL t)]⟩] rfl ?_ ?_))
    ·have hel := edgesTo_len t t.length (by omega)
     have hs := edgeSort_ac (edgesTo t t.length) (by omega)
     simp [holdsC, under]
     refine ⟨⟨fun _ _ => okIds_2 _ _, trivial⟩, ⟨fun _ _ => okIds_2 _ _, trivial⟩, ?_⟩
     have e : renO (sig [.b 1] 0) (cells2 (edgesTo t t.length)) = cells2 (edgesTo t t.length) := renO_list (fun a => ren_2 _ a)
     rw [e]
     exact hs
    refine sq (rg [] rfl ?_)
    refine WP.ret ?_
    change Fin ..
    rw [if_pos hz, hz]
    have hlen : (edgesL t).length = (edgesTo t t.length).length := Go.Ab.sortBy_len swo2 _
    refine fin_toB hT [] [.b 1] (ts := [(2, ownP (edgesL t)), (3, .int 0)]) (l := [ownP (edgesL t), .int 0]) trivial rfl ⟨⟨_, .own (.b 1) (edgesL t).length 0 (edgesL t).length none, rfl, conv_eq (by rw [hlen]), rfl, rfl⟩, ⟨_, _, rfl, conv_eq rfl, rfl, rfl⟩, trivial⟩ ⟨.inl ⟨_, cells2 (edgesL t), rfl, ?_, fun _ _ => okIds_2 _ _, (renO_list (fun a => ren_2 _ a)).symm⟩, trivial⟩ rfl rfl
    exact ⟨_, _, rfl, Nat.le_refl _, Nat.zero_le _, Nat.zero_le _, fun i hi => conv_eq rfl⟩
end Go.Ab


/- slices.DeleteFunc at pairs; race.pairs, race.Pairs. -/
set_option autoImplicit false
set_option maxRecDepth 20000
set_option maxHeartbeats 1000000
set_option linter.unusedSimpArgs false
set_option linter.unusedVariables false
namespace Go.Ab
open Go.Proofs
def firstP (p : Pr → Bool) (l : List Pr) : Int := if l.any p then l.findIdx p else -1
abbrev pAt (l : List Pr) (i : Nat) : Pr := l.getD i (0, 0)
theorem anyP_no {p : Pr → Bool} {l : List Pr} (hn : ∀ j, j < l.length → p (pAt l j) = false) : l.any p = false := by
  rw [List.any_eq_false]
  intro x hx
  obtain ⟨i, hi, e⟩ := List.getElem_of_mem hx
  have := hn i hi
  simpa [pAt, hi, e] using this
theorem anyP_yes {p : Pr → Bool} {l : List Pr} {i : Nat} (hi : i < l.length) (hp : p (pAt l i) = true) : l.any p = true := by
  rw [List.any_eq_true]
  exact ⟨l[i], List.getElem_mem hi, by simpa [pAt, hi] using hp⟩
theorem firstP_at {p : Pr → Bool} {l : List Pr} {i : Nat} (hi : i < l.length) (hp : p (pAt l i) = true) (hn : ∀ j, j < i → p (pAt l j) = false) : (i : Int) = firstP p l := by
  simp only [firstP, anyP_yes hi hp, if_true]
  congr 1
  symm
  rw [List.findIdx_eq hi]
  refine ⟨by simpa [pAt, hi] using hp, fun j hj => ?_⟩
  have := hn j hj
  have hj' : j < l.length := by omega
  simpa [pAt, hj'] using this
theorem pidx2_ac (g : Bool) (l : List Pr) (f : FuncId) (ta tb : Nat) (xa xb : AV) (p : Pr → Bool) (hp : ∀ x ∈ l, AC Tryz.prog T tysN f (enc2 x :: [.rp ta xa, .rp tb xb]) [] (.bool (p x)) []) : AC Tryz.prog T tysN 137 [prs g l, .clo f [.rp ta xa, .rp tb xb]] [] (.int (firstP p l)) [] := by
 refine AC_intro hT Tryz.func137 rfl rfl (Nat.le_of_ble_eq_true rfl) ?_
 refine WP.rowlen 0 rfl (fun hl => ?_)
 refine sq (rg [] rfl ?_)
 refine sq (sq (rg [] rfl ?_))
 refine bk ?_
 refine WP.loop (α := Nat) (fun i => mkSt [(0, prs g l), (1, .clo f [.rp ta xa, .rp tb xb]), (7, .int l.length), (8, .int i)] []) (fun i => i ≤ l.length ∧ ∀ j, j < i → p (pAt l j) = false) (fun i => l.length - i) ?_ ?_
 ·refine ⟨0, ?_, ?_⟩
  ·exact ⟨Nat.zero_le _, fun j hj => by omega⟩
  ·refine em [] trivial ⟨⟨rfl, _, rfl, cvt⟩, ⟨rfl, _, rfl, cvt⟩, ⟨rfl, _, rfl, cvt⟩, ⟨rfl, _, rfl, cvt⟩, trivial⟩ trivial
 ·rintro i ⟨hi, hn⟩
  refine sq (rg [] rfl ?_)
  refine sq ?_
  refine cd rfl (fun h2 => ?_) (fun h2 => ?_)
  ·have hil : i < l.length := by simpa using h2
   refine sk (sq (bk (sq (rg [] rfl ?_))))
   refine sq (rgs [CG.pure (.bool (p (pAt l i)))] rfl ?_ ?_)
   ·exact ⟨⟨by omega, by omega⟩, hp _ (by simp [pAt, List.getD_eq_getElem?_getD, hil])⟩
   refine cd rfl (fun h4 => ?_) (fun h4 => ?_)
   ·have hx : p (pAt l i) = true := h4
    refine sq (rg [] rfl ?_)
    refine WP.ret ?_
    change Fin ..
    exact finI hT rfl (firstP_at hil hx hn)
   ·have hx : p (pAt l i) = false := h4
    refine sk (rg [] rfl ?_)
    refine ⟨i + 1, ?_, ?_, ?_⟩
    ·refine ⟨hil, fun j hj => ?_⟩
     rcases Nat.lt_or_ge j i with h | h
     · exact hn j h
     · obtain rfl : j = i := by omega
       exact hx
    ·refine em [] trivial ⟨⟨rfl, _, rfl, cvt⟩, ⟨rfl, _, rfl, cvt⟩, ⟨rfl, _, rfl, cvt⟩, ⟨rfl, _, rfl, cvt⟩, trivial⟩ trivial
    ·(try simp only []); first | omega | grind
  ·have hil : i = l.length := by simp at h2; omega
   subst hil
   refine xt (sq (rg [] rfl ?_))
   refine WP.ret ?_
   change Fin ..
   exact finI hT rfl (by simp [firstP, anyP_no hn])
def keepL (p : Pr → Bool) (l : List Pr) : List Pr := l.filter fun x => !p x
def delG (p : Pr → Bool) (l : List Pr) (j q : Nat) : Pr := if q < (keepL p (l.take j)).length then pAt (keepL p (l.take j)) q else pAt l q
theorem keep_take_le (p : Pr → Bool) (l : List Pr) (j : Nat) : (keepL p (l.take j)).length ≤ j := by
  have h1 := List.length_filter_le (fun x => !p x) (l.take j)
  have h2 : (l.take j).length ≤ j := by simp; omega
  exact Nat.le_trans h1 h2
theorem take_snoc {l : List Pr} {j : Nat} (h : j < l.length) : l.take (j + 1) = l.take j ++ [pAt l j] := by
  rw [List.take_add_one, List.getElem?_eq_getElem h]
  simp [pAt, h]
theorem keep_snoc_no {p : Pr → Bool} {l : List Pr} {j : Nat} (h : j < l.length) (hp : p (pAt l j) = true) : keepL p (l.take (j + 1)) = keepL p (l.take j) := by
  rw [take_snoc h, keepL, List.filter_append, List.filter_cons_of_neg (by simp only [hp]; decide)]
  simp [keepL]
theorem keep_snoc_yes {p : Pr → Bool} {l : List Pr} {j : Nat} (h : j < l.length) (hp : p (pAt l j) = false) : keepL p (l.take (j + 1)) = keepL p (l.take j) ++ [pAt l j] := by
  rw [take_snoc h, keepL, List.filter_append, List.filter_cons_of_pos (by simp only [hp]; decide)]
  simp [keepL]
theorem delG_at {p : Pr → Bool} {l : List Pr} {j : Nat} : delG p l j j = pAt l j := by
  unfold delG
  rw [if_neg (by have := keep_take_le p l j; omega)]
theorem delG_no {p : Pr → Bool} {l : List Pr} {j : Nat} (h : j < l.length) (hp : p (pAt l j) = true) (q : Nat) : delG p l (j + 1) q = delG p l j q := by
  unfold delG; rw [keep_snoc_no h hp]
theorem delG_yes {p : Pr → Bool} {l : List Pr} {j : Nat} (h : j < l.length) (hp : p (pAt l j) = false) (q : Nat) : delG p l (j + 1) q = if q = (keepL p (l.take j)).length then pAt l j else delG p l j q := by
  unfold delG
  rw [keep_snoc_yes h hp, List.length_append, List.length_singleton]
  by_cases e : q = (keepL p (l.take j)).length
  · rw [if_pos e, if_pos (by omega), e]
    simp [pAt, List.getD_eq_getElem?_getD]
  · rw [if_neg e]
    by_cases e2 : q < (keepL p (l.take j)).length
    · rw [if_pos (by omega), if_pos e2]
      simp [pAt, List.getD_eq_getElem?_getD, List.getElem?_append_left e2]
    · rw [if_neg (by omega), if_neg e2]
/-- Nothing has to go up to the first one that has. -/
theorem first_keep {p : Pr → Bool} {l : List Pr} (h : l.any p = true) : l.findIdx p < l.length ∧ keepL p (l.take (l.findIdx p + 1)) = l.take (l.findIdx p) := by
  have hlt : l.findIdx p < l.length := List.findIdx_lt_length.2 (by simpa using h)
  refine ⟨hlt, ?_⟩
  have hat : p (pAt l (l.findIdx p)) = true := by
    have := List.findIdx_getElem (xs := l) (p := p) (w := hlt)
    simpa [pAt, hlt] using this
  rw [keep_snoc_no hlt hat, keepL, List.filter_eq_self]
  intro x hx
  obtain ⟨i, hi, e⟩ := List.getElem_of_mem hx
  have hi2 : i < l.findIdx p := by simp at hi; omega
  have := List.not_of_lt_findIdx hi2
  simp at e
  rw [← e]
  simpa using this
theorem delG_first {p : Pr → Bool} {l : List Pr} (h : l.any p = true) (q : Nat) : delG p l (l.findIdx p + 1) q = pAt l q := by
  unfold delG
  rw [(first_keep h).2]
  split
  · rename_i h1
    rw [List.length_take] at h1
    have h2 : q < l.findIdx p := by omega
    simp [pAt, List.getD_eq_getElem?_getD, List.getElem?_take, h2]
  · rfl
theorem del_put {p : Pr → Bool} {l : List Pr} {j : Nat} (q : Nat) : (bif Nat.beq q ((keepL p (l.take j)).length + 0) then (enc2 (delG p l j ((keepL p (l.take j)).length + 0))).put [] (enc2 (delG p l j (j + 0))) else enc2 (delG p l j q)) = enc2 (if q = (keepL p (l.take j)).length then pAt l j else delG p l j q) := by
  rw [put_nil, Nat.add_zero, Nat.add_zero, delG_at]
  by_cases e : q = (keepL p (l.take j)).length
  · rw [if_pos e, e, Nat.beq_refl, cond_true]
  · rw [if_neg e, nbeq_ne e, cond_false]
theorem del_clear {p : Pr → Bool} {l : List Pr} (k : Nat) (hk : k = (keepL p l).length) (q : Nat) (hq : q < l.length) : (bif Nat.ble (k + 0) q && Nat.blt q (k + 0 + (l.length - k)) then (T 75).zero else enc2 (delG p l l.length q)) = enc2 (pAt (keepL p l) q) := by
  have hz : (T 75).zero = enc2 (0, 0) := agg_ext (fun q => by match q with | 0 | 1 | q + 2 => rfl)
  subst hk
  have hle : (keepL p l).length ≤ l.length := List.length_filter_le _ _
  by_cases e : q < (keepL p l).length
  · have h1 : Nat.ble ((keepL p l).length + 0) q = false := by
      cases h : Nat.ble ((keepL p l).length + 0) q
      · rfl
      · have := Nat.le_of_ble_eq_true h; omega
    rw [h1, Bool.false_and, cond_false, delG, List.take_length, if_pos e]
  · have h1 : Nat.ble ((keepL p l).length + 0) q = true := Nat.ble_eq_true_of_le (by omega)
    have h2 : Nat.blt q ((keepL p l).length + 0 + (l.length - (keepL p l).length)) = true := Nat.blt_eq.mpr (by omega)
    rw [h1, h2, Bool.true_and, cond_true, hz]
    have : pAt (keepL p l) q = (0, 0) := by simp [pAt, List.getD_eq_getElem?_getD, List.getElem?_eq_none (by omega : (keepL p l).length ≤ q)]
    rw [this]
theorem first_none {p : Pr → Bool} {l : List Pr} (h : l.any p = false) : keepL p l = l := by
  rw [keepL, List.filter_eq_self]
  intro x hx
  rw [List.any_eq_false] at h
  simpa using h x hx
theorem pdel2_ac (l : List Pr) (f : FuncId) (ta tb : Nat) (xa xb : AV) (p : Pr → Bool) (hp : ∀ x ∈ l, AC Tryz.prog T tysN f (enc2 x :: [.rp ta xa, .rp tb xb]) [] (.bool (p x)) []) : AC Tryz.prog T tysN 93 [ownP l, .clo f [.rp ta xa, .rp tb xb]] [cells2 l] (.own (.b 0) l.length 0 (keepL p l).length none) [.cells ⟨75, l.length, fun q => enc2 (pAt (keepL p l) q), 0⟩] := by
 refine AC_intro hT Tryz.func93 rfl rfl (Nat.le_of_ble_eq_true rfl) ?_
 refine WP.ownlen 0 rfl rfl rfl (fun hl => ?_)
 refine sq (rg [] rfl ?_)
 refine sq (rgs [CG.pure (.int (firstP p l))] rfl ?_ ?_)
 ·have ha := pidx2_ac false l f ta tb xa xb p hp
  simp [holdsC, under, CG.pure, slOk, slB, capEq]
  exact ⟨fun _ _ => noIds_2 _, ha⟩
 refine sq (sq (rg [] rfl ?_))
 refine cd rfl (fun h2 => ?_) (fun h2 => ?_)
 ·have hn : l.any p = false := by
    have e : firstP p l = -1 := by simpa using h2
    unfold firstP at e
    split at e
    · rename_i h; exfalso; omega
    · rename_i h; simpa using h
  refine sq (rg [] rfl ?_)
  refine WP.ret ?_
  change Fin ..
  rw [first_none hn]
  refine fin_mk hT [] (ts := [(4, ownP l)]) (l := [ownP l]) trivial ⟨⟨rfl, _, rfl, conv_eq rfl⟩, trivial⟩ ⟨⟨fun _ _ => okIds_2 _ _, .inl ⟨_, rfl, _, _, rfl, Nat.le_refl _, Nat.zero_le _, Nat.zero_le _, fun q hq => conv_eq rfl⟩⟩, trivial⟩ rfl rfl rfl
 ·have hy : l.any p = true := by
    cases h : l.any p with
    | true => rfl
    | false => exfalso; simp [firstP, h] at h2
  have hf : firstP p l = (l.findIdx p : Int) := by simp [firstP, hy]
  obtain ⟨hf1, hf2⟩ := first_keep hy
  refine sk (sq (sq (rg [] rfl ?_)))
  refine bk ?_
  refine WP.loop (α := Nat) (fun j => mkSt [(0, ownP l), (1, .clo f [.rp ta xa, .rp tb xb]), (5, .int (keepL p (l.take j)).length), (6, .int j)] [(.b 0, .cells ⟨75, l.length, fun q => enc2 (delG p l j q), 0⟩)]) (fun j => j ≤ l.length ∧ (keepL p (l.take j)).length < j) (fun j => l.length - j) ?_ ?_
  ·refine ⟨l.findIdx p + 1, ?_, ?_⟩
   ·refine ⟨hf1, ?_⟩
    rw [hf2, List.length_take]; omega
   ·refine em [] trivial ⟨⟨rfl, _, rfl, cvt⟩, ⟨rfl, _, rfl, cvt⟩, ⟨rfl, _, rfl, conv_eq (by rw [hf, hf2, List.length_take]; congr 2; omega)⟩, ⟨rfl, _, rfl, conv_eq (by rw [hf, wrap_id (by omega) (by omega)]; rfl)⟩, trivial⟩ ⟨⟨fun _ _ => okIds_2 _ _, .inl ⟨_, rfl, _, _, rfl, Nat.le_refl _, Nat.zero_le _, Nat.zero_le _, fun q hq => conv_eq (by rw [delG_first hy])⟩⟩, trivial⟩
  ·rintro j ⟨hj, hkj⟩
   refine sq (sq (rg [] rfl ?_))
   refine cd rfl (fun h5 => ?_) (fun h5 => ?_)
   ·have hjl : j < l.length := by simpa using h5
    refine sk (sq (bk (sq (rgs [] rfl ?_ ?_))))
    ·simp [holdsC, under]; omega
    refine sq (rgs [CG.pure (.bool (p (pAt l j)))] rfl ?_ ?_)
    ·have hd := hp (pAt l j) (by simp [pAt, List.getD_eq_getElem?_getD, hjl])
     refine ⟨rfl, ?_⟩
     show AC Tryz.prog T tysN f (enc2 (delG p l j j) :: [.rp ta xa, .rp tb xb]) [] (.bool (p (pAt l j))) []
     rw [delG_at]; exact hd
    refine cd rfl (fun h8 => ?_) (fun h8 => ?_)
    ·have hpx : p (pAt l j) = false := by simpa using h8
     refine sq (rgs [] rfl ?_ ?_)
     ·simp [holdsC, under]; omega
     refine rg [] rfl ?_
     refine rg [] rfl ?_
     refine ⟨j + 1, ?_, ?_, ?_⟩
     ·rw [keep_snoc_yes hjl hpx, List.length_append, List.length_singleton]; exact ⟨hjl, by omega⟩
     ·refine em [] trivial ⟨⟨rfl, _, rfl, cvt⟩, ⟨rfl, _, rfl, cvt⟩, ⟨rfl, _, rfl, conv_eq (by rw [wrap_id (by omega) (by omega), keep_snoc_yes hjl hpx, List.length_append, List.length_singleton]; rfl)⟩, ⟨rfl, _, rfl, cvt⟩, trivial⟩ ⟨⟨fun _ _ => okIds_2 _ _, .inl ⟨_, rfl, _, _, rfl, Nat.le_refl _, Nat.zero_le _, Nat.zero_le _, fun q hq => conv_eq (by rw [delG_yes hjl hpx]; exact del_put _)⟩⟩, trivial⟩
     ·(try simp only []); first | omega | grind
    ·have hpx : p (pAt l j) = true := by simpa using h8
     refine sk (rg [] rfl ?_)
     refine ⟨j + 1, ?_, ?_, ?_⟩
     ·rw [keep_snoc_no hjl hpx]; exact ⟨hjl, by omega⟩
     ·refine em [] trivial ⟨⟨rfl, _, rfl, cvt⟩, ⟨rfl, _, rfl, cvt⟩, ⟨rfl, _, rfl, conv_eq (by rw [keep_snoc_no hjl hpx])⟩, ⟨rfl, _, rfl, cvt⟩, trivial⟩ ⟨⟨fun _ _ => okIds_2 _ _, .inl ⟨_, rfl, _, _, rfl, Nat.le_refl _, Nat.zero_le _, Nat.zero_le _, fun q hq => conv_eq (by rw [delG_no hjl hpx])⟩⟩, trivial⟩
     ·(try simp only []); first | omega | grind
   ·have hjl : j = l.length := by simp at h5; omega
    subst hjl
    refine xt (sq (rgs [] rfl ?_ ?_))
    ·have hk2 : (keepL p l).length < l.length := by rw [List.take_length] at hkj; exact hkj
     simp [holdsC, under, slOk, slB]; omega
    refine sq (rgs [] rfl ?_ ?_)
    ·have hk2 : (keepL p l).length < l.length := by rw [List.take_length] at hkj; exact hkj
     simp [holdsC, under, slOk, slB]; omega
    refine WP.ret ?_
    change Fin ..
    refine fin_mk hT [] (ts := [(4, .own (.b 0) l.length 0 (keepL p l).length none)]) (l := [.own (.b 0) l.length 0 (keepL p l).length none]) trivial ⟨⟨rfl, _, rfl, conv_eq (by rw [List.take_length]; simp; done)⟩, trivial⟩ ⟨⟨fun _ _ => okIds_2 _ _, .inl ⟨_, rfl, _, _, rfl, Nat.le_refl _, Nat.zero_le _, Nat.zero_le _, fun q hq => conv_eq (Eq.trans rfl (del_clear (keepL p (l.take l.length)).length (by rw [List.take_length]) q hq))⟩⟩, trivial⟩ rfl rfl rfl
end Go.Ab


/- race.pairs, race.Pairs. -/
set_option autoImplicit false
set_option maxRecDepth 20000
set_option maxHeartbeats 1000000
set_option linter.unusedSimpArgs false
set_option linter.unusedVariables false
namespace Go.Ab
open Go.Proofs
theorem edgesTo_in {t : List Evt} : ∀ {j : Nat} {x : Pr}, x ∈ edgesTo t j → ∃ a b : Nat, x = ((a : Int), (b : Int)) ∧ a < b ∧ b < j
  | 0, x, h => by cases h
  | j + 1, x, h => by
    rcases List.mem_append.1 h with h | h
    · obtain ⟨a, b, e, h1, h2⟩ := edgesTo_in h
      exact ⟨a, b, e, h1, by omega⟩
    · simp only [pairsAt, List.mem_map] at h
      obtain ⟨i, hi, rfl⟩ := h
      have hi2 := nearS_mem hi
      have : ∀ d, i ∈ pastTo t j d → d ≤ j → i < j := by
        intro d
        induction d with
        | zero => intro h; cases h
        | succ d ih =>
          intro h hd
          rcases List.mem_append.1 h with h | h
          · exact ih h (by omega)
          · split at h
            · simp at h; omega
            · cases h
      exact ⟨i, j, rfl, this j hi2 (Nat.le_refl _), by omega⟩
theorem edgesL_in {t : List Evt} {x : Pr} (h : x ∈ edgesL t) : ∃ a b : Nat, x = ((a : Int), (b : Int)) ∧ a < b ∧ b < t.length :=
  edgesTo_in ((Go.Ab.sortBy_perm swo2 _).mem_iff.1 h)
def delP (t : List Evt) (W : Int → Int → Bool) (x : Pr) : Bool := ((eAt t x.1.toNat).go == (eAt t x.2.toNat).go) || !W x.1 x.2
def pairsF (t : List Evt) (W : Int → Int → Bool) : List Pr := if chkE t = 0 then keepL (delP t W) (edgesL t) else []
theorem pairsF0_ac (g : Bool) (t : List Evt) (x : Pr) (gf : FuncId)  (W : Int → Int → Bool) (a b : Nat) (hx : x = ((a : Int), (b : Int))) (ha : a < t.length) (hb : b < t.length) (hW : AC Tryz.prog T tysN gf (.int x.1 :: .int x.2 :: []) [] (.bool (W x.1 x.2)) []) : AC Tryz.prog T tysN 94 [enc2 x, .rp 27 (evts g t), .rp 80 (.clo gf [])] [] (.bool (delP t W x)) [] := by
 refine AC_intro hT Tryz.func94 rfl rfl (Nat.le_of_ble_eq_true rfl) ?_
 refine sq (rg [] rfl ?_)
 refine sq (drs [CG.pure (.bool (W x.1 x.2))] rfl ?_ ?_)
 ·subst hx
  simp only [List.getD_cons_zero, List.getD_cons_succ] at hW
  simp [holdsC, under, CG.pure, -decide_not]
  exact ⟨⟨ha, hb⟩, fun _ => hW⟩
 refine WP.ret ?_
 change Fin ..
 subst hx
 refine fin1 hT (by rfl) ?_
 rw [bor]; rfl
theorem pairs0_ac (g : Bool) (t : List Evt) (gf : FuncId)  (W : Int → Int → Bool) (hW : ∀ a b : Nat, a < t.length → b < t.length → AC Tryz.prog T tysN gf (.int a :: .int b :: []) [] (.bool (W a b)) []) (hng : noIds (.clo gf []) = true) : AC Tryz.prog T tysN 39 [evts g t, .clo gf []] [] (.tup [prs false (pairsF t W), .int (chkE t)]) [] := by
 refine AC_intro hT Tryz.func39 rfl rfl (Nat.le_of_ble_eq_true rfl) ?_
 obtain ⟨L, hL⟩ : ∃ L, L = if chkE t = 0 then edgesL t else [] := ⟨_, rfl⟩
 refine sq (rg [] rfl ?_)
 refine sq (rgs [⟨true, [], .tup [ownP L, .int (chkE t)], [cells2 L]⟩] rfl ?_ ?_)
 ·have he := edges_ac g t
  rw [← hL] at he
  simp [holdsC, under]
  exact ⟨trivial, ⟨fun _ _ => okIds_2 _ _, trivial⟩, he⟩
 refine sq (sq (rg [] rfl ?_))
 refine cd rfl (fun h2 => ?_) (fun h2 => ?_)
 ·have hbad : chkE t ≠ 0 := by simpa using h2
  refine sq (rg [] rfl ?_)
  refine WP.ret ?_
  change Fin ..
  rw [pairsF, if_neg hbad]
  refine fin_mk hT [] (ts := [(4, prs false []), (5, .int (chkE t))]) (l := [prs false [], .int (chkE t)]) trivial ⟨⟨rfl, _, rfl, conv_nil_row (by decide)⟩, ⟨rfl, _, rfl, conv_eq rfl⟩, trivial⟩ trivial rfl rfl rfl
 ·have hz : chkE t = 0 := by simpa using h2
  rw [if_pos hz] at hL
  subst hL
  refine sk (sq ?_)
  refine WP.ent (st' := mkSt [(2, .rp 27 (evts g t)), (3, .rp 80 (.clo gf [])), (6, .own (.s 10 1) (edgesL t).length 0 (edgesL t).length none)] [(.s 10 1, cells2 (edgesL t))]) ?_ ?_
  ·refine em [(.s 2 0, 1), (.s 3 0, 1)] ⟨⟨_, rfl, Nat.le_refl _⟩, ⟨_, rfl, Nat.le_refl _⟩, trivial⟩ ⟨⟨rfl, _, rfl, conv_rpe rfl rfl (by decide) rfl rfl rfl⟩, ⟨rfl, _, rfl, conv_rpe rfl rfl (by decide) rfl rfl hng⟩, ⟨rfl, _, rfl, cvt⟩, trivial⟩ ⟨⟨fun _ _ => okIds_2 _ _, .inl ⟨_, rfl, _, _, rfl, Nat.le_refl _, Nat.zero_le _, Nat.zero_le _, fun q hq => conv_eq rfl⟩⟩, trivial⟩
  refine rgs [⟨true, [.s 10 1], .own (.b 0) (edgesL t).length 0 (keepL (delP t W) (edgesL t)).length none, [.cells ⟨75, (edgesL t).length, fun q => enc2 (pAt (keepL (delP t W) (edgesL t)) q), 0⟩]⟩] rfl ?_ ?_
  ·have hd := pdel2_ac (edgesL t) 94 27 80 (evts g t) (.clo gf []) (delP t W) (fun x hx => by
     obtain ⟨a, b, e, h1, h2⟩ := edgesL_in hx
     exact pairsF0_ac g t x gf  W a b e (by omega) h2 (by subst e; exact hW a b (by omega) h2))
   simp [holdsC, under]
   have e : renO (sig [.s 10 1] 0) (cells2 (edgesL t)) = cells2 (edgesL t) := renO_list (fun a => ren_2 _ a)
   rw [e]
   exact ⟨⟨fun _ _ => okIds_2 _ _, trivial⟩, ⟨fun _ _ => okIds_2 _ _, trivial⟩, hd⟩
  refine WP.ret ?_
  change Fin ..
  have hle : (keepL (delP t W) (edgesL t)).length ≤ (edgesL t).length := List.length_filter_le _ _
  rw [pairsF, if_pos hz, hz]
  refine fin_mk hT [(.s 10 1, (edgesL t).length)] (ts := [(4, prs false (keepL (delP t W) (edgesL t))), (5, .int 0)]) (l := [prs false (keepL (delP t W) (edgesL t)), .int 0]) ⟨⟨_, rfl, Nat.le_refl _⟩, trivial⟩ ⟨⟨rfl, _, rfl, ?_⟩, ⟨rfl, _, rfl, conv_eq rfl⟩, trivial⟩ trivial rfl rfl rfl
  exact conv_row rfl rfl rfl (fun h => by cases h) (by simp [lookF, idbeq_self]; exact hle) (fun q hq => by rw [Nat.zero_add]; exact ⟨noIds_2 _, AEq.refl _⟩)
theorem pairsF2_ac (g : Bool) (t : List Evt) (x : Pr) (gf : FuncId) (ta tb : Nat) (xa xb : AV) (W : Int → Int → Bool) (a b : Nat) (hx : x = ((a : Int), (b : Int))) (ha : a < t.length) (hb : b < t.length) (hW : AC Tryz.prog T tysN gf (.int x.1 :: .int x.2 :: [.rp ta xa, .rp tb xb]) [] (.bool (W x.1 x.2)) []) : AC Tryz.prog T tysN 94 [enc2 x, .rp 27 (evts g t), .rp 80 (.clo gf [.rp ta xa, .rp tb xb])] [] (.bool (delP t W x)) [] := by
 refine AC_intro hT Tryz.func94 rfl rfl (Nat.le_of_ble_eq_true rfl) ?_
 refine sq (rg [] rfl ?_)
 refine sq (drs [CG.pure (.bool (W x.1 x.2))] rfl ?_ ?_)
 ·subst hx
  simp only [List.getD_cons_zero, List.getD_cons_succ] at hW
  simp [holdsC, under, CG.pure, -decide_not]
  exact ⟨⟨ha, hb⟩, fun _ => hW⟩
 refine WP.ret ?_
 change Fin ..
 subst hx
 refine fin1 hT (by rfl) ?_
 rw [bor]; rfl
theorem pairs2_ac (g : Bool) (t : List Evt) (gf : FuncId) (ta tb : Nat) (xa xb : AV) (W : Int → Int → Bool) (hW : ∀ a b : Nat, a < t.length → b < t.length → AC Tryz.prog T tysN gf (.int a :: .int b :: [.rp ta xa, .rp tb xb]) [] (.bool (W a b)) []) (hng : noIds (.clo gf [.rp ta xa, .rp tb xb]) = true) : AC Tryz.prog T tysN 39 [evts g t, .clo gf [.rp ta xa, .rp tb xb]] [] (.tup [prs false (pairsF t W), .int (chkE t)]) [] := by
 refine AC_intro hT Tryz.func39 rfl rfl (Nat.le_of_ble_eq_true rfl) ?_
 obtain ⟨L, hL⟩ : ∃ L, L = if chkE t = 0 then edgesL t else [] := ⟨_, rfl⟩
 refine sq (rg [] rfl ?_)
 refine sq (rgs [⟨true, [], .tup [ownP L, .int (chkE t)], [cells2 L]⟩] rfl ?_ ?_)
 ·have he := edges_ac g t
  rw [← hL] at he
  simp [holdsC, under]
  exact ⟨trivial, ⟨fun _ _ => okIds_2 _ _, trivial⟩, he⟩
 refine sq (sq (rg [] rfl ?_))
 refine cd rfl (fun h2 => ?_) (fun h2 => ?_)
 ·have hbad : chkE t ≠ 0 := by simpa using h2
  refine sq (rg [] rfl ?_)
  refine WP.ret ?_
  change Fin ..
  rw [pairsF, if_neg hbad]
  refine fin_mk hT [] (ts := [(4, prs false []), (5, .int (chkE t))]) (l := [prs false [], .int (chkE t)]) trivial ⟨⟨rfl, _, rfl, conv_nil_row (by decide)⟩, ⟨rfl, _, rfl, conv_eq rfl⟩, trivial⟩ trivial rfl rfl rfl
 ·have hz : chkE t = 0 := by simpa using h2
  rw [if_pos hz] at hL
  subst hL
  refine sk (sq ?_)
  refine WP.ent (st' := mkSt [(2, .rp 27 (evts g t)), (3, .rp 80 (.clo gf [.rp ta xa, .rp tb xb])), (6, .own (.s 10 1) (edgesL t).length 0 (edgesL t).length none)] [(.s 10 1, cells2 (edgesL t))]) ?_ ?_
  ·refine em [(.s 2 0, 1), (.s 3 0, 1)] ⟨⟨_, rfl, Nat.le_refl _⟩, ⟨_, rfl, Nat.le_refl _⟩, trivial⟩ ⟨⟨rfl, _, rfl, conv_rpe rfl rfl (by decide) rfl rfl rfl⟩, ⟨rfl, _, rfl, conv_rpe rfl rfl (by decide) rfl rfl hng⟩, ⟨rfl, _, rfl, cvt⟩, trivial⟩ ⟨⟨fun _ _ => okIds_2 _ _, .inl ⟨_, rfl, _, _, rfl, Nat.le_refl _, Nat.zero_le _, Nat.zero_le _, fun q hq => conv_eq rfl⟩⟩, trivial⟩
  refine rgs [⟨true, [.s 10 1], .own (.b 0) (edgesL t).length 0 (keepL (delP t W) (edgesL t)).length none, [.cells ⟨75, (edgesL t).length, fun q => enc2 (pAt (keepL (delP t W) (edgesL t)) q), 0⟩]⟩] rfl ?_ ?_
  ·have hd := pdel2_ac (edgesL t) 94 27 80 (evts g t) (.clo gf [.rp ta xa, .rp tb xb]) (delP t W) (fun x hx => by
     obtain ⟨a, b, e, h1, h2⟩ := edgesL_in hx
     exact pairsF2_ac g t x gf ta tb xa xb W a b e (by omega) h2 (by subst e; exact hW a b (by omega) h2))
   simp [holdsC, under]
   have e : renO (sig [.s 10 1] 0) (cells2 (edgesL t)) = cells2 (edgesL t) := renO_list (fun a => ren_2 _ a)
   rw [e]
   exact ⟨⟨fun _ _ => okIds_2 _ _, trivial⟩, ⟨fun _ _ => okIds_2 _ _, trivial⟩, hd⟩
  refine WP.ret ?_
  change Fin ..
  have hle : (keepL (delP t W) (edgesL t)).length ≤ (edgesL t).length := List.length_filter_le _ _
  rw [pairsF, if_pos hz, hz]
  refine fin_mk hT [(.s 10 1, (edgesL t).length)] (ts := [(4, prs false (keepL (delP t W) (edgesL t))), (5, .int 0)]) (l := [prs false (keepL (delP t W) (edgesL t)), .int 0]) ⟨⟨_, rfl, Nat.le_refl _⟩, trivial⟩ ⟨⟨rfl, _, rfl, ?_⟩, ⟨rfl, _, rfl, conv_eq rfl⟩, trivial⟩ trivial rfl rfl rfl
  exact conv_row rfl rfl rfl (fun h => by cases h) (by simp [lookF, idbeq_self]; exact hle) (fun q hq => by rw [Nat.zero_add]; exact ⟨noIds_2 _, AEq.refl _⟩)
theorem allW_ac (a b : Int) : AC Tryz.prog T tysN 52 [.int a, .int b] [] (.bool true) [] := by
 refine AC_intro hT Tryz.func52 rfl rfl (Nat.le_of_ble_eq_true rfl) ?_
 refine sq (rg [] rfl ?_)
 refine sq (rg [] rfl ?_)
 refine WP.ret ?_
 change Fin ..
 exact fin1 hT rfl rfl
def racesL (t : List Evt) : List Pr := pairsF t fun _ _ => true
theorem racePairs_ac (g : Bool) (t : List Evt) : AC Tryz.prog T tysN 16 [evts g t] [] (.tup [prs false (racesL t), .int (chkE t)]) [] := by
 refine AC_intro hT Tryz.func16 rfl rfl (Nat.le_of_ble_eq_true rfl) ?_
 refine sq (rg [] rfl ?_)
 refine sq (rgs [CG.pure (.tup [prs false (racesL t), .int (chkE t)])] rfl ?_ ?_)
 ·have hp := pairs0_ac g t 52 (fun _ _ => true) (fun a b _ _ => allW_ac a b) rfl
  simp [holdsC, under, CG.pure]
  exact hp
 refine WP.ret ?_
 change Fin ..
 refine fin_mk hT [] (ts := [(2, prs false (racesL t)), (3, .int (chkE t))]) (l := [prs false (racesL t), .int (chkE t)]) trivial ⟨⟨rfl, _, rfl, conv_eq rfl⟩, ⟨rfl, _, rfl, conv_eq rfl⟩, trivial⟩ trivial rfl rfl rfl
end Go.Ab


/- What happens before what, by the reference: a table of rows. -/
set_option autoImplicit false
set_option maxRecDepth 20000
set_option linter.unusedSimpArgs false
set_option linter.unusedVariables false
namespace Go.Ab
open Go.Proofs
def mixB (B : Nat → Nat → Bool) (j : Nat) (c : Nat → Bool) : Nat → Nat → Bool := fun i k => if k = j then c i else B i k
def stepC (t : List Evt) (B : Nat → Nat → Bool) (j i : Nat) (c : Nat → Bool) : Nat → Bool := if c i || !depB (eAt t i) (eAt t j) then c else fun q => if q = i then true else if q < i then c q || B q i else c q
def colTo (t : List Evt) (B : Nat → Nat → Bool) (j : Nat) : Nat → Nat → Bool
  | 0 => fun _ => false
  | d + 1 => stepC t B j (j - 1 - d) (colTo t B j d)
def refB (t : List Evt) : Nat → Nat → Nat → Bool
  | 0 => fun _ _ => false
  | j + 1 => mixB (refB t j) j (colTo t (refB t j) j j)
theorem refB_ge (t : List Evt) : ∀ (j i k : Nat), j ≤ k → refB t j i k = false
  | 0, _, _, _ => rfl
  | j + 1, i, k, h => by
    rw [refB, mixB, if_neg (by omega)]
    exact refB_ge t j i k (by omega)
theorem mixB_zero (t : List Evt) (j : Nat) : mixB (refB t j) j (fun _ => false) = refB t j := by
  funext i k
  unfold mixB
  split
  · rename_i h; subst h; exact (refB_ge t k i k (Nat.le_refl _)).symm
  · rfl
def innC (c : Nat → Bool) (B : Nat → Nat → Bool) (i k : Nat) : Nat → Bool := fun q => if q = i then true else if q < k then c q || B q i else c q
/-- The reference's table. -/
def refT (t : List Evt) : Nat → Nat → Bool := refB t t.length
def boolsR (n : Nat) (g : Nat → Bool) : AV := .row 4 false n (fun k => .v (.bool (g k)))
def tabB (n : Nat) (B : Nat → Nat → Bool) : AV := .row 123 false n (fun i => boolsR n (B i))
def rowO (n : Nat) (q : Nat) : AV := .own (.s 1000 q) n 0 n none
def befM1 (n i : Nat) : Id → Option Ob
  | .s a j => bif Nat.beq a 12 && Nat.beq j 0 then some (.cells ⟨123, n, fun q => bif Nat.blt q i then rowO n q else .nils, 0⟩) else bif Nat.beq a 1000 then some (.cells ⟨4, bif Nat.blt j i then n else 0, fun _ => .v (.bool false), 0⟩) else none
  | .b _ => none
def befM (n : Nat) (B : Nat → Nat → Bool) : Id → Option Ob
  | .s a j => bif Nat.beq a 12 && Nat.beq j 0 then some (.cells ⟨123, n, fun q => .own (.s 1000 q) n 0 n none, 0⟩) else bif Nat.beq a 1000 then some (.cells ⟨4, bif Nat.blt j n then n else 0, fun k => .v (.bool (B j k)), 0⟩) else none
  | .b _ => none
def famF : Id → Bool
  | .s a j => (Nat.beq a 12 && Nat.beq j 0) || Nat.beq a 1000
  | .b _ => false
def entTX (st : St) (F : Id → Nat) (f : Id → Bool) (σ : Id → Id) : List (Nat × AV) → Prop
  | [] => True
  | (k, x) :: r => EntX T st F f σ k x ∧ entTX st F f σ r
theorem entTX_at {st : St} {F : Id → Nat} {f : Id → Bool} {σ : Id → Id} : ∀ {ts : List (Nat × AV)}, entTX st F f σ ts → ∀ k x, lookN k ts = some x → EntX T st F f σ k x
  | [], _, k, x, h => by cases h
  | (k0, x0) :: r, h, k, x, hk => by
    simp only [lookN] at hk
    cases e : Nat.beq k k0 with
    | true =>
      rw [e] at hk
      obtain rfl := Nat.eq_of_beq_eq_true e
      obtain rfl : x0 = x := by simpa using hk
      exact h.1
    | false => rw [e] at hk; exact entTX_at h.2 k x (by simpa using hk)
theorem id_cases (a j : Nat) : (a = 12 ∧ j = 0) ∨ a = 1000 ∨ (Nat.beq a 12 && Nat.beq j 0) = false ∧ Nat.beq a 1000 = false := by
  by_cases h : a = 1000
  · exact .inr (.inl h)
  · by_cases h2 : a = 12 ∧ j = 0
    · exact .inl h2
    · refine .inr (.inr ⟨?_, ?_⟩)
      · cases h3 : Nat.beq a 12 with
        | false => rfl
        | true =>
          cases h4 : Nat.beq j 0 with
          | false => rfl
          | true => exact absurd ⟨Nat.eq_of_beq_eq_true h3, Nat.eq_of_beq_eq_true h4⟩ h2
      · cases h3 : Nat.beq a 1000 with
        | false => rfl
        | true => exact absurd (Nat.eq_of_beq_eq_true h3) h
theorem zF {st : St} : ∀ id B, st.m id = some (.cells B) → (fun _ : Id => 0) id ≤ B.n := fun _ _ _ => Nat.zero_le _
/-- The table in its usual state. -/
theorem fam_ent {nt : Nat} {st : St} {n : Nat} {B : Nat → Nat → Bool} (ts : List (Nat × AV)) (h0 : entTX st (fun _ => 0) famF id ts)
    (h1 : ∃ get, st.m (.s 12 0) = some (.cells ⟨123, n, get, 0⟩) ∧ ∀ q, q < n → get q = .own (.s 1000 q) n 0 n none)
    (h2 : ∀ a, ∃ G, st.m (.s 1000 a) = some (.cells ⟨4, bif Nat.blt a n then n else 0, G, 0⟩) ∧ ∀ k, a < n → k < n → G k = .v (.bool (B a k))) : Ent T tysN nt 0 st (fnSt (fun k => lookN k ts) (befM n B)) := by
  refine Ent.gen (P := Tryz.prog) hT (fun _ => 0) famF id zF (fun a b _ _ h => h) (entTX_at h0) (fun id' => ?_) (fun j hj => by omega)
  cases id' with
  | b j => exact .inr ⟨fun id h1 h2 => (by simp only [id_eq] at h2; subst h2; cases h1), .inl rfl⟩
  | s a j =>
    rcases id_cases a j with ⟨rfl, rfl⟩ | rfl | ⟨e1, e2⟩
    · obtain ⟨get, g1, g2⟩ := h1
      exact .inl ⟨_, _, .cells ⟨123, n, fun q => .own (.s 1000 q) n 0 n none, 0⟩, rfl, rfl, g1, ⟨_, _, rfl, Nat.le_refl _, Nat.le_refl _, Nat.zero_le _, fun i hi => conv_eq (g2 i hi)⟩, fun i hi => rfl, rfl⟩
    · obtain ⟨G, g1, g2⟩ := h2 j
      refine .inl ⟨_, _, .cells ⟨4, bif Nat.blt j n then n else 0, fun k => .v (.bool (B j k)), 0⟩, rfl, rfl, g1, ⟨_, _, rfl, Nat.le_refl _, Nat.le_refl _, Nat.zero_le _, fun i hi => ?_⟩, fun i hi => rfl, rfl⟩
      simp only at hi
      cases e : Nat.blt j n with
      | false => rw [e] at hi; exact absurd hi (by simp)
      | true => rw [e] at hi; exact conv_eq (g2 i (Nat.blt_eq.mp e) hi)
    · refine .inr ⟨fun id h1 h2 => ?_, .inl ?_⟩
      · simp only [id_eq] at h2; subst h2
        simp only [famF, e1, e2] at h1
        cases h1
      · simp only [befM, e1, e2, cond_false]
theorem fam_init {nt : Nat} {st : St} {n : Nat} (ts : List (Nat × AV)) (h0 : entTX st (fun _ => 0) (fun id => Id.beq id (.s 12 0)) id ts) (h1 : ∃ get, st.m (.s 12 0) = some (.cells ⟨123, n, get, 0⟩) ∧ ∀ q, q < n → get q = .nils) : Ent T tysN nt 0 st (fnSt (fun k => lookN k ts) (befM1 n 0)) := by
  refine Ent.gen (P := Tryz.prog) hT (fun _ => 0) (fun id => Id.beq id (.s 12 0)) id zF (fun a b _ _ h => h) (entTX_at h0) (fun id' => ?_) (fun j hj => by omega)
  have hne : ∀ {a : Id}, a ≠ .s 12 0 → ∀ id, Id.beq id (.s 12 0) = true → _root_.id id = a → st.m id = none := fun h id h1 h2 => by
    have : id = .s 12 0 := by
      by_cases e : id = .s 12 0
      · exact e
      · rw [idbeq_ne e] at h1; cases h1
    subst this
    exact absurd h2.symm h
  cases id' with
  | b j => exact .inr ⟨hne (by simp), .inl rfl⟩
  | s a j =>
    rcases id_cases a j with ⟨rfl, rfl⟩ | rfl | ⟨e1, e2⟩
    · obtain ⟨get, g1, g2⟩ := h1
      refine .inl ⟨_, _, .cells ⟨123, n, fun q => bif Nat.blt q 0 then rowO n q else .nils, 0⟩, idbeq_self _, rfl, g1, ⟨_, _, rfl, Nat.le_refl _, Nat.le_refl _, Nat.zero_le _, fun i hi => conv_eq (g2 i hi)⟩, fun i hi => rfl, ?_⟩
      show befM1 n 0 (.s 12 0) = _
      simp only [befM1, renO]
      congr 3
    · exact .inr ⟨hne (by simp), .inr ⟨_, _, rfl, by decide⟩⟩
    · refine .inr ⟨hne (fun e => ?_), .inl ?_⟩
      · cases e; simp at e1
      · simp only [befM1, e1, e2, cond_false]
def sig21 (i : Nat) : Id → Id
  | .s a j => bif Nat.beq a 21 then .s 1000 i else .s a j
  | .b j => .b j
def fam21 (i : Nat) : Id → Bool
  | .s a j => (Nat.beq a 12 && Nat.beq j 0) || (Nat.beq a 1000 && Nat.blt j i) || (Nat.beq a 21 && Nat.beq j 0)
  | .b _ => false
theorem fam_next {nt : Nat} {st : St} {n i : Nat} (hi : i < n) (ts : List (Nat × AV)) (h0 : entTX st (fun _ => 0) (fam21 i) (sig21 i) ts)
    (h1 : ∃ get, st.m (.s 12 0) = some (.cells ⟨123, n, get, 0⟩) ∧ ∀ q, q < n → get q = if q = i then .own (.s 21 0) n 0 n none else bif Nat.blt q i then rowO n q else .nils)
    (h2 : ∀ a, a < i → st.m (.s 1000 a) = some (.cells ⟨4, n, fun _ => .v (.bool false), 0⟩)) (h3 : ∃ get, st.m (.s 21 0) = some (.cells ⟨4, n, get, 0⟩) ∧ ∀ q, q < n → get q = .v (.bool false)) : Ent T tysN nt 0 st (fnSt (fun k => lookN k ts) (befM1 n (i + 1))) := by
  have hf : ∀ {id : Id}, fam21 i id = true → id = .s 12 0 ∨ (∃ a, a < i ∧ id = .s 1000 a) ∨ id = .s 21 0 := fun {id} h => by
    cases id with
    | b j => cases h
    | s a j =>
      simp only [fam21, Bool.or_eq_true, Bool.and_eq_true] at h
      rcases h with (⟨h, k⟩ | ⟨h, k⟩) | ⟨h, k⟩
      · obtain rfl := Nat.eq_of_beq_eq_true h; obtain rfl := Nat.eq_of_beq_eq_true k; exact .inl rfl
      · obtain rfl := Nat.eq_of_beq_eq_true h; exact .inr (.inl ⟨j, Nat.blt_eq.mp k, rfl⟩)
      · obtain rfl := Nat.eq_of_beq_eq_true h; obtain rfl := Nat.eq_of_beq_eq_true k; exact .inr (.inr rfl)
  have s1 : sig21 i (.s 12 0) = .s 12 0 := rfl
  have s2 : ∀ a, sig21 i (.s 1000 a) = .s 1000 a := fun _ => rfl
  have s3 : sig21 i (.s 21 0) = .s 1000 i := rfl
  refine Ent.gen (P := Tryz.prog) hT (fun _ => 0) (fam21 i) (sig21 i) zF (fun a b ha hb h => ?_) (entTX_at h0) (fun id' => ?_) (fun j hj => by omega)
  · rcases hf ha with rfl | ⟨x, hx, rfl⟩ | rfl <;> rcases hf hb with rfl | ⟨y, hy, rfl⟩ | rfl <;> (try rfl) <;> simp only [s1, s2, s3, Id.s.injEq] at h
    · omega
    · omega
    · omega
    · exact congrArg _ h.2
    · omega
    · omega
    · omega
  have hne : ∀ {c : Id}, c ≠ .s 12 0 → (∀ a, a ≤ i → c ≠ .s 1000 a) → ∀ id, fam21 i id = true → sig21 i id = c → st.m id = none := fun g1 g2 id k1 k2 => by
    rcases hf k1 with rfl | ⟨x, hx, rfl⟩ | rfl
    · exact absurd k2.symm g1
    · exact absurd k2.symm (g2 x (by omega))
    · exact absurd k2.symm (g2 i (Nat.le_refl _))
  cases id' with
  | b j => exact .inr ⟨hne (by simp) (fun _ _ => by simp), .inl rfl⟩
  | s a j =>
    rcases id_cases a j with ⟨rfl, rfl⟩ | rfl | ⟨e1, e2⟩
    · obtain ⟨get, g1, g2⟩ := h1
      refine .inl ⟨.s 12 0, _, .cells ⟨123, n, fun q => if q = i then .own (.s 21 0) n 0 n none else bif Nat.blt q i then rowO n q else .nils, 0⟩, rfl, rfl, g1, ⟨_, _, rfl, Nat.le_refl _, Nat.le_refl _, Nat.zero_le _, fun q hq => conv_eq (g2 q hq)⟩, fun q hq => ?_, ?_⟩
      · show okP _ (if q = i then _ else _) = true
        split
        · rfl
        · cases e : Nat.blt q i with
          | true => simp only [cond_true, rowO, okP, fam21, e]; simp
          | false => rfl
      · show befM1 n (i + 1) (.s 12 0) = _
        simp only [befM1, renO, Nat.beq_refl, Bool.and_self, cond_true, Option.some.injEq, Ob.cells.injEq, Blk.mk.injEq, true_and, and_true]
        funext q
        by_cases e : q = i
        · subst e
          have : Nat.blt q (q + 1) = true := Nat.blt_eq.mpr (Nat.lt_succ_self _)
          rw [if_pos rfl, this]; rfl
        · rw [if_neg e]
          by_cases e2 : q < i
          · rw [Nat.blt_eq.mpr e2, Nat.blt_eq.mpr (by omega : q < i + 1)]; rfl
          · have k1 : Nat.blt q i = false := by cases h : Nat.blt q i; rfl; exact absurd (Nat.blt_eq.mp h) e2
            have k2 : Nat.blt q (i + 1) = false := by cases h : Nat.blt q (i + 1); rfl; exact absurd (Nat.blt_eq.mp h) (by omega)
            rw [k1, k2]; rfl
    · by_cases e : j < i
      · refine .inl ⟨.s 1000 j, _, .cells ⟨4, n, fun _ => .v (.bool false), 0⟩, by simp [fam21, Nat.blt_eq.mpr e], rfl, h2 j e, ⟨_, _, rfl, Nat.le_refl _, Nat.le_refl _, Nat.zero_le _, fun q hq => conv_eq rfl⟩, fun q hq => rfl, ?_⟩
        show befM1 n (i + 1) (.s 1000 j) = _
        simp only [befM1, Nat.blt_eq.mpr (by omega : j < i + 1)]
        rfl
      · by_cases e' : j = i
        · subst e'
          obtain ⟨get, g1, g2⟩ := h3
          refine .inl ⟨.s 21 0, _, .cells ⟨4, n, fun _ => .v (.bool false), 0⟩, by simp [fam21], rfl, g1, ⟨_, _, rfl, Nat.le_refl _, Nat.le_refl _, Nat.zero_le _, fun q hq => conv_eq (g2 q hq)⟩, fun q hq => rfl, ?_⟩
          show befM1 n (j + 1) (.s 1000 j) = _
          simp only [befM1, Nat.blt_eq.mpr (by omega : j < j + 1)]
          rfl
        · refine .inr ⟨hne (by simp) (fun a ha => by simp; omega), .inr ⟨4, fun _ => .v (.bool false), ?_, by decide⟩⟩
          have k2 : Nat.blt j (i + 1) = false := by cases h : Nat.blt j (i + 1); rfl; exact absurd (Nat.blt_eq.mp h) (by omega)
          show befM1 n (i + 1) (.s 1000 j) = _
          simp only [befM1, k2]
          rfl
    · refine .inr ⟨hne (fun e => ?_) (fun a _ e => ?_), .inl ?_⟩
      · cases e; simp at e1
      · cases e; simp at e2
      · simp only [befM1, e1, e2, cond_false]
end Go.Ab


/- The reference's table: the walk. -/
set_option autoImplicit false
set_option maxRecDepth 20000
set_option maxHeartbeats 2000000
set_option linter.unusedSimpArgs false
set_option linter.unusedVariables false
namespace Go.Ab
open Go.Proofs
abbrev BT := Nat → Nat → Bool
theorem mixB_ne {B : Nat → Nat → Bool} {j : Nat} {c : Nat → Bool} {i k : Nat} (h : k ≠ j) : mixB B j c i k = B i k := if_neg h
theorem mixB_at {B : Nat → Nat → Bool} {j : Nat} {c : Nat → Bool} {i : Nat} : mixB B j c i j = c i := if_pos rfl
theorem innC_end {t : List Evt} {B : Nat → Nat → Bool} {j i : Nat} {c : Nat → Bool} (h : (c i || !depB (eAt t i) (eAt t j)) = false) : stepC t B j i c = innC c B i i := by
  rw [stepC, if_neg (by simp [h])]
  rfl
theorem wr1 {x y : Int} {σ : Id → Id} (h : x = y) (h1 : -9223372036854775808 ≤ y) (h2 : y ≤ 9223372036854775807) : AV.int x = ren σ (AV.v (.int .i64 (IntKind.i64.wrap y))) := by
  subst h
  rw [wrap_id h1 (by omega)]; rfl
theorem colTo_next {t : List Evt} {B : BT} {j p : Nat} (h1 : 1 ≤ p) (h2 : p ≤ j) : colTo t B j (j - (p - 1)) = stepC t B j (p - 1) (colTo t B j (j - p)) := by
  rw [show j - (p - 1) = (j - p) + 1 by omega, colTo, show j - 1 - (j - p) = p - 1 by omega]
def fzF (n : Nat) : Id → Nat
  | .s a j => bif Nat.beq a 1000 then (bif Nat.blt j n then n else 0) else 0
  | .b _ => 0
theorem bef_fz {nt : Nat} {st : St} {n : Nat} {B : BT} {ts : List (Nat × AV)} (hm : st.m = befM n B) (h0 : entTX st (fzF n) (fun id => Id.beq id (.s 12 0)) id ts) : Ent T tysN nt 0 st (mkSt ts [(.s 12 0, .cells ⟨123, n, fun q => boolsR n (B q), 0⟩)]) := by
  rw [mkSt_fn]
  refine Ent.gen (P := Tryz.prog) hT (fzF n) (fun id => Id.beq id (.s 12 0)) id (fun id C hC => ?_) (fun a b _ _ h => h) (entTX_at h0) (fun id' => ?_) (fun j hj => by omega)
  · rw [hm] at hC
    cases id with
    | b j => exact Nat.zero_le _
    | s a j =>
      rcases id_cases a j with ⟨rfl, rfl⟩ | rfl | ⟨e1, e2⟩
      · exact Nat.zero_le _
      · simp only [befM] at hC
        have e : (Nat.beq 1000 12 && Nat.beq j 0) = false := rfl
        rw [e, Nat.beq_refl, cond_false, cond_true] at hC
        cases hC
        exact Nat.le_refl _
      · simp only [fzF, e2, cond_false]
        exact Nat.zero_le _
  · by_cases he : id' = .s 12 0
    · subst he
      refine .inl ⟨.s 12 0, .cells ⟨123, n, fun q => .own (.s 1000 q) n 0 n none, 0⟩, .cells ⟨123, n, fun q => boolsR n (B q), 0⟩, idbeq_self _, rfl, by rw [hm]; rfl, ⟨_, _, rfl, Nat.le_refl _, Nat.le_refl _, Nat.zero_le _, fun q hq => ?_⟩, fun i hi => rfl, ?_⟩
      · refine conv_row (B := ⟨4, bif Nat.blt q n then n else 0, fun k => .v (.bool (B q k)), 0⟩) (by rw [hm]; rfl) ?_ rfl (fun h => by cases h) ?_ (fun j hj => by rw [Nat.zero_add]; exact ⟨rfl, AEq.refl _⟩)
        · show (bif Nat.blt q n then n else 0) = n
          rw [Nat.blt_eq.mpr hq]; rfl
        · show 0 + n ≤ (bif Nat.blt q n then n else 0)
          rw [Nat.blt_eq.mpr hq, Nat.zero_add]; exact Nat.le_refl _
      · show lookI _ _ = _
        simp [lookI, idbeq_self, renO]
        rfl
    · refine .inr ⟨fun id h1 h2 => ?_, .inl ?_⟩
      · exfalso
        simp only [id_eq] at h2
        subst h2
        simp only [idbeq_ne he] at h1; cases h1
      · show lookI _ _ = _
        simp [lookI, idbeq_ne he]
theorem rbef_ac (g : Bool) (t : List Evt) (h : GoOK t) : AC Tryz.prog T tysN 67 [evts g t] [] (tabB t.length (refT t)) [] := by
 refine AC_intro hT Tryz.func67 rfl rfl (Nat.le_of_ble_eq_true rfl) ?_
 have h256 := h.1
 refine sq (rg [] rfl ?_)
 refine sq (rg [] rfl ?_)
 refine sq (rgs [] rfl ?_ ?_)
 ·have hbt : (T 123).bytes = 24 := rfl
  simp [holdsC, under, hbt]
  omega
 refine sq (sq (rg [] rfl ?_))
 refine bk ?_
 refine WP.loop (α := Nat) (fun i => fnSt (fun k => lookN k [(0, evts g t), (3, .int t.length), (4, .own (.s 12 0) t.length 0 t.length none), (5, .int i)]) (befM1 t.length i)) (fun i => i ≤ t.length) (fun i => t.length - i) ?_ ?_
 ·refine ⟨0, ?_, ?_⟩
  ·exact Nat.zero_le _
  ·refine fam_init _ ⟨⟨_, _, rfl, conv_eq rfl, rfl, rfl⟩, ⟨_, _, rfl, conv_eq rfl, rfl, rfl⟩, ⟨_, _, rfl, conv_eq rfl, rfl, rfl⟩, ⟨_, _, rfl, conv_eq rfl, rfl, rfl⟩, trivial⟩ ⟨_, rfl, fun q hq => rfl⟩
 ·rintro i hi
  refine sq (sq (rg [] rfl ?_))
  refine cd rfl (fun h4 => ?_) (fun h4 => ?_)
  ·have hil : i < t.length := by simpa using h4
   refine sk (sq (bk (rgs [] rfl ?_ ?_)))
   ·have hbt : (T 4).bytes = 1 := rfl
    simp [holdsC, under, hbt]
    omega
   refine rg [] rfl ?_
   refine ⟨i + 1, ?_, ?_, ?_⟩
   ·exact hil
   ·refine fam_next hil _ ⟨⟨_, _, rfl, conv_eq rfl, rfl, rfl⟩, ⟨_, _, rfl, conv_eq rfl, rfl, rfl⟩, ⟨_, _, rfl, conv_eq rfl, rfl, rfl⟩, ⟨_, _, rfl, conv_eq rfl, rfl, wr1 (by omega) (by omega) (by omega)⟩, trivial⟩ ⟨_, rfl, fun q hq => ?_⟩ (fun a ha => ?_) ⟨_, rfl, fun q hq => rfl⟩
    · show (bif Nat.beq q i then _ else _) = _
      by_cases e : q = i
      · subst e; rw [if_pos rfl, Nat.beq_refl, cond_true]; exact put_nil _ _
      · rw [if_neg e, nbeq_ne e]; rfl
    · show befM1 t.length i (.s 1000 a) = _
      simp only [befM1, Nat.blt_eq.mpr ha]
      rfl
   ·(try simp only []); first | omega | grind
  ·have hil : i = t.length := by simp at h4; omega
   subst hil
   refine xt (sq (sq (rg [] rfl ?_)))
   refine bk ?_
   refine WP.loop (α := Nat × BT) (fun (⟨j, B⟩ : Nat × BT) => fnSt (fun k => lookN k [(0, evts g t), (3, .int t.length), (4, .own (.s 12 0) t.length 0 t.length none), (6, .int j)]) (befM t.length B)) (fun (⟨j, B⟩ : Nat × BT) => j ≤ t.length ∧ B = refB t j) (fun (⟨j, B⟩ : Nat × BT) => t.length - j) ?_ ?_
   ·refine ⟨(0, refB t 0), ?_, ?_⟩
    ·exact ⟨Nat.zero_le _, rfl⟩
    ·refine fam_ent _ ⟨⟨_, _, rfl, conv_eq rfl, rfl, rfl⟩, ⟨_, _, rfl, conv_eq rfl, rfl, rfl⟩, ⟨_, _, rfl, conv_eq rfl, rfl, rfl⟩, ⟨_, _, rfl, conv_eq rfl, rfl, rfl⟩, trivial⟩ ⟨_, rfl, fun q hq => ?_⟩ (fun a => ⟨_, rfl, fun k ha hk => rfl⟩)
     show (bif Nat.blt q t.length then _ else _) = _
     rw [Nat.blt_eq.mpr hq]; rfl
   ·rintro ⟨j, B⟩ ⟨hj, hB⟩
    refine sq (sq (rg [] rfl ?_))
    refine cd rfl (fun h8 => ?_) (fun h8 => ?_)
    ·have hjl : j < t.length := by simpa using h8
     refine sk (sq (bk (sq (rg [] rfl ?_))))
     refine bk ?_
     refine WP.loop (α := Nat × Int × BT) (fun (⟨p, z, C⟩ : Nat × Int × BT) => fnSt (fun k => lookN k [(0, evts g t), (3, .int t.length), (4, .own (.s 12 0) t.length 0 t.length none), (6, .int j), (7, .int z)]) (befM t.length C)) (fun (⟨p, z, C⟩ : Nat × Int × BT) => p ≤ j ∧ z = (p : Int) - 1 ∧ C = mixB B j (colTo t B j (j - p))) (fun (⟨p, z, C⟩ : Nat × Int × BT) => p) ?_ ?_
     ·refine ⟨(j, (j : Int) - 1, mixB B j (colTo t B j (j - j))), ?_, ?_⟩
      ·exact ⟨Nat.le_refl _, rfl, rfl⟩
      ·refine fam_ent _ ⟨⟨_, _, rfl, conv_eq rfl, rfl, rfl⟩, ⟨_, _, rfl, conv_eq rfl, rfl, rfl⟩, ⟨_, _, rfl, conv_eq rfl, rfl, rfl⟩, ⟨_, _, rfl, conv_eq rfl, rfl, rfl⟩, ⟨_, _, rfl, conv_eq rfl, rfl, wr1 (by omega) (by omega) (by omega)⟩, trivial⟩ ⟨_, rfl, fun q hq => rfl⟩ (fun a => ⟨_, rfl, fun k ha hk => ?_⟩)
       show AV.v (.bool (B a k)) = _
       rw [hB, Nat.sub_self, colTo, mixB_zero]
     ·rintro ⟨p, z, C⟩ ⟨hp, hz, hC⟩
      refine sq (sq (rg [] rfl ?_))
      refine cd rfl (fun h11 => ?_) (fun h11 => ?_)
      ·have hp0 : 1 ≤ p := by simp at h11; omega
       have hx : z.toNat = p - 1 := by omega
       refine sk (sq (bk (sq (sq (drs [CG.pure (.bool (depB (eAt t z.toNat) (eAt t j)))] rfl ?_ ?_)))))
       ·have hd := rdep_ac (eAt t z.toNat) (eAt t j)
        have hb : (bif Nat.blt z.toNat t.length then t.length else 0) = t.length := by rw [Nat.blt_eq.mpr (by omega)]; rfl
        simp [holdsC, under, CG.pure]
        exact ⟨⟨⟨⟨⟨⟨by omega, by omega⟩, hb, hjl⟩, hb⟩, fun _ => ⟨by omega, by omega⟩⟩, fun _ => hjl⟩, fun _ => hd⟩
       refine cd rfl (fun h13 => ?_) (fun h13 => ?_)
       ·refine xt (rg [] rfl ?_)
        refine ⟨(p - 1, z - 1, mixB B j (colTo t B j (j - (p - 1)))), ?_, ?_, ?_⟩
        ·exact ⟨by omega, by omega, rfl⟩
        ·refine fam_ent _ ⟨⟨_, _, rfl, conv_eq rfl, rfl, rfl⟩, ⟨_, _, rfl, conv_eq rfl, rfl, rfl⟩, ⟨_, _, rfl, conv_eq rfl, rfl, rfl⟩, ⟨_, _, rfl, conv_eq rfl, rfl, rfl⟩, ⟨_, _, rfl, conv_eq rfl, rfl, wr1 (by omega) (by omega) (by omega)⟩, trivial⟩ ⟨_, rfl, fun q hq => rfl⟩ (fun a => ?_)
         refine ⟨_, rfl, fun q ha hk => ?_⟩
         show AV.v (.bool (C a q)) = _
         have e : (bif C z.toNat j then true else !depB (eAt t z.toNat) (eAt t j)) = true := h13
         rw [hx, hC, mixB_at, bor] at e
         rw [hC, colTo_next hp0 hp, stepC, if_pos e]
        ·(try simp only []); first | omega | grind
       ·refine sk (sq (rgs [] rfl ?_ ?_))
        ·have hb : (bif Nat.blt z.toNat t.length then t.length else 0) = t.length := by rw [Nat.blt_eq.mpr (by omega)]; rfl
         simp [holdsC, under, hb]
         omega
        refine sq (rg [] rfl ?_)
        refine bk ?_
        refine WP.loop (α := Nat × BT) (fun (⟨k, D⟩ : Nat × BT) => fnSt (fun q => lookN q [(0, evts g t), (3, .int t.length), (4, .own (.s 12 0) t.length 0 t.length none), (6, .int j), (7, .int z), (8, .int k)]) (befM t.length D)) (fun (⟨k, D⟩ : Nat × BT) => k ≤ p - 1 ∧ D = mixB B j (innC (colTo t B j (j - p)) B (p - 1) k)) (fun (⟨k, D⟩ : Nat × BT) => p - 1 - k) ?_ ?_
        ·refine ⟨(0, mixB B j (innC (colTo t B j (j - p)) B (p - 1) 0)), ?_, ?_⟩
         ·exact ⟨Nat.zero_le _, rfl⟩
         ·refine fam_ent _ ⟨⟨_, _, rfl, conv_eq rfl, rfl, rfl⟩, ⟨_, _, rfl, conv_eq rfl, rfl, rfl⟩, ⟨_, _, rfl, conv_eq rfl, rfl, rfl⟩, ⟨_, _, rfl, conv_eq rfl, rfl, rfl⟩, ⟨_, _, rfl, conv_eq rfl, rfl, rfl⟩, ⟨_, _, rfl, conv_eq rfl, rfl, rfl⟩, trivial⟩ ⟨_, rfl, fun q hq => rfl⟩ (fun a => ?_)
          by_cases ha : a = p - 1
          · subst ha
            rw [← hx]
            refine ⟨_, setM_self _ _ _, fun q ha hq => ?_⟩
            show (bif Nat.beq q j then AV.v (.bool true) else AV.v (.bool (C z.toNat q))) = _
            by_cases e : q = j
            · subst e; rw [Nat.beq_refl, cond_true, mixB_at]; simp [innC]
            · rw [nbeq_ne e, cond_false, hC, mixB_ne e, mixB_ne e]
          · refine ⟨_, setM_ne _ _ (fun e => ha (by cases e; exact hx)), fun q _ hq => ?_⟩
            show AV.v (.bool (C a q)) = _
            rw [hC]
            simp [mixB, innC, ha]
        ·rintro ⟨k, D⟩ ⟨hk, hD⟩
         refine sq (sq (rg [] rfl ?_))
         refine cd rfl (fun h16 => ?_) (fun h16 => ?_)
         ·have hkp : k < p - 1 := by simp at h16; omega
          refine sk (sq (bk (drs [] rfl ?_ ?_)))
          ·have hb : (bif Nat.blt k t.length then t.length else 0) = t.length := by rw [Nat.blt_eq.mpr (by omega)]; rfl
           simp [holdsC, under, hb]
           omega
          refine rg [] rfl ?_
          refine ⟨(k + 1, mixB B j (innC (colTo t B j (j - p)) B (p - 1) (k + 1))), ?_, ?_, ?_⟩
          ·exact ⟨hkp, rfl⟩
          ·refine fam_ent _ ⟨⟨_, _, rfl, conv_eq rfl, rfl, rfl⟩, ⟨_, _, rfl, conv_eq rfl, rfl, rfl⟩, ⟨_, _, rfl, conv_eq rfl, rfl, rfl⟩, ⟨_, _, rfl, conv_eq rfl, rfl, rfl⟩, ⟨_, _, rfl, conv_eq rfl, rfl, rfl⟩, ⟨_, _, rfl, conv_eq rfl, rfl, wr1 (by omega) (by omega) (by omega)⟩, trivial⟩ ⟨_, rfl, fun q hq => rfl⟩ (fun a => ?_)
           by_cases ha : a = k
           · subst ha
             refine ⟨_, setM_self _ _ _, fun q ha hq => ?_⟩
             show (bif Nat.beq q j then AV.v (.bool (bif D a j then true else D a z.toNat)) else AV.v (.bool (D a q))) = _
             by_cases e : q = j
             · subst e
               rw [Nat.beq_refl, cond_true, mixB_at, hD, mixB_at, mixB_ne (by omega), hx, bor]
               simp [innC, show a ≠ p - 1 by omega]
             · rw [nbeq_ne e, cond_false, hD, mixB_ne e, mixB_ne e]
           · refine ⟨_, setM_ne _ _ (fun e => ha (by cases e; rfl)), fun q _ hq => ?_⟩
             show AV.v (.bool (D a q)) = _
             rw [hD]
             have e : a < k + 1 ↔ a < k := by omega
             simp [mixB, innC, e]
          ·(try simp only []); first | omega | grind
         ·refine xt (rg [] rfl ?_)
          refine ⟨(p - 1, z - 1, mixB B j (colTo t B j (j - (p - 1)))), ?_, ?_, ?_⟩
          ·exact ⟨by omega, by omega, rfl⟩
          ·refine fam_ent _ ⟨⟨_, _, rfl, conv_eq rfl, rfl, rfl⟩, ⟨_, _, rfl, conv_eq rfl, rfl, rfl⟩, ⟨_, _, rfl, conv_eq rfl, rfl, rfl⟩, ⟨_, _, rfl, conv_eq rfl, rfl, rfl⟩, ⟨_, _, rfl, conv_eq rfl, rfl, wr1 (by omega) (by omega) (by omega)⟩, trivial⟩ ⟨_, rfl, fun q hq => rfl⟩ (fun a => ?_)
           refine ⟨_, rfl, fun q ha hk => ?_⟩
           show AV.v (.bool (D a q)) = _
           have hkp : k = p - 1 := by simp at h16; omega
           subst hkp
           have e : (bif C z.toNat j then true else !depB (eAt t z.toNat) (eAt t j)) = false := h13
           rw [hx, hC, mixB_at, bor] at e
           rw [hD, colTo_next hp0 hp, innC_end e]
          ·(try simp only []); first | omega | grind
      ·refine xt (rg [] rfl ?_)
       refine ⟨(j + 1, refB t (j + 1)), ?_, ?_, ?_⟩
       ·exact ⟨hjl, rfl⟩
       ·refine fam_ent _ ⟨⟨_, _, rfl, conv_eq rfl, rfl, rfl⟩, ⟨_, _, rfl, conv_eq rfl, rfl, rfl⟩, ⟨_, _, rfl, conv_eq rfl, rfl, rfl⟩, ⟨_, _, rfl, conv_eq rfl, rfl, wr1 (by omega) (by omega) (by omega)⟩, trivial⟩ ⟨_, rfl, fun q hq => rfl⟩ (fun a => ⟨_, rfl, fun k ha hk => ?_⟩)
        have hp0 : p = 0 := by simp at h11; omega
        subst hp0
        show AV.v (.bool (C a k)) = _
        rw [hC, hB]; rfl
       ·(try simp only []); first | omega | grind
    ·have hjl : j = t.length := by simp at h8; omega
     subst hjl
     refine xt (sq (rg [] rfl ?_))
     refine WP.ret ?_
     change Fin ..
     refine Fin.ent (bef_fz (ts := [(2, .own (.s 12 0) t.length 0 t.length none)]) rfl ⟨⟨_, _, rfl, conv_eq rfl, rfl, rfl⟩, trivial⟩) ?_
     refine fin_mk hT [(.s 12 0, t.length)] (ts := [(2, tabB t.length (refT t))]) (l := [tabB t.length (refT t)]) ⟨⟨_, rfl, Nat.le_refl _⟩, trivial⟩ ⟨⟨rfl, _, rfl, ?_⟩, trivial⟩ trivial rfl rfl rfl
     rw [hB]
     exact conv_row rfl rfl rfl (fun h => by cases h) (by simp [lookF, idbeq_self]) (fun q hq => by rw [Nat.zero_add]; exact ⟨rfl, AEq.refl _⟩)
end Go.Ab


/- The reference's edges, and races. -/
set_option autoImplicit false
set_option maxRecDepth 20000
set_option maxHeartbeats 1000000
set_option linter.unusedSimpArgs false
set_option linter.unusedVariables false
namespace Go.Ab
open Go.Proofs
/-- Nothing between i and j, of those behind i that are less than m. -/
def betB (B : BT) (i j m : Nat) : Bool := (List.range m).all fun k => !(decide (i < k) && (B i k && B k j))
def edgeB (B : BT) (i j : Nat) : Bool := B i j && betB B i j j
theorem enc2_of (i j : Int) : (AV.agg 75 2 fun q => bif Nat.beq q 1 then .int j else bif Nat.beq q 0 then .int i else .int 0) = enc2 (i, j) := agg_ext (fun q => by match q with | 0 | 1 | q + 2 => rfl)
theorem len_snoc {α : Type} (l : List α) (x : α) : (l ++ [x]).length = l.length + 1 := by simp
theorem betB_low {B : BT} {i j m : Nat} (h : m ≤ i + 1) : betB B i j m = true := by
  rw [betB, List.all_eq_true]
  intro k hk
  have : k < m := by simpa using hk
  have : ¬ i < k := by omega
  simp [this]
theorem betB_succ {B : BT} {i j m : Nat} (h : i < m) : betB B i j (m + 1) = (betB B i j m && !(B i m && B m j)) := by
  rw [betB, List.range_succ, List.all_append, ← betB]
  simp [h]
theorem betB_bad {B : BT} {i j m : Nat} (h1 : i < m) (h2 : m < j) (h : (B i m && B m j) = true) : betB B i j j = false := by
  cases hb : betB B i j j with
  | false => rfl
  | true =>
    rw [betB, List.all_eq_true] at hb
    have := hb m (by simpa using h2)
    simp [h1, h] at this
theorem betB_mono {B : BT} {i j m m' : Nat} (h : m' ≤ m) (hb : betB B i j m = true) : betB B i j m' = true := by
  rw [betB, List.all_eq_true] at hb ⊢
  intro k hk
  exact hb k (by simp at hk ⊢; omega)
def rowTo (B : BT) (i : Nat) : Nat → List Pr
  | 0 => []
  | m + 1 => rowTo B i m ++ (if i < m ∧ edgeB B i m = true then [((i : Int), (m : Int))] else [])
def edgesR (B : BT) (n : Nat) : Nat → List Pr
  | 0 => []
  | i + 1 => edgesR B n i ++ rowTo B i n
theorem rowTo_low {B : BT} {i : Nat} : ∀ {m : Nat}, m ≤ i + 1 → rowTo B i m = []
  | 0, _ => rfl
  | m + 1, h => by
    rw [rowTo, rowTo_low (by omega), if_neg (by omega)]; rfl
theorem rowTo_len {B : BT} {i : Nat} : ∀ m : Nat, (rowTo B i m).length ≤ m
  | 0 => Nat.le_refl _
  | m + 1 => by
    have := rowTo_len (B := B) (i := i) m
    rw [rowTo, List.length_append]
    split <;> simp <;> omega
theorem edgesR_len {B : BT} {n : Nat} (hn : n ≤ 256) : ∀ i : Nat, (edgesR B n i).length ≤ i * 256
  | 0 => Nat.le_refl _
  | i + 1 => by
    have := edgesR_len (B := B) hn i
    have := rowTo_len (B := B) (i := i) n
    rw [edgesR, List.length_append]
    omega
theorem rowTo_yes {B : BT} {i m : Nat} (h : i < m) (he : edgeB B i m = true) : rowTo B i (m + 1) = rowTo B i m ++ [((i : Int), (m : Int))] := by
  rw [rowTo, if_pos ⟨h, he⟩]
theorem rowTo_no {B : BT} {i m : Nat} (he : edgeB B i m = false) : rowTo B i (m + 1) = rowTo B i m := by
  rw [rowTo, if_neg (by simp [he]), List.append_nil]
theorem rowTo_end {B : BT} {i n j : Nat} (h1 : n ≤ j) (h2 : j ≤ n ∨ j = i + 1) (hi : i < n) : rowTo B i j = rowTo B i n := by
  rcases h2 with h | h
  · rw [Nat.le_antisymm h h1]
  · rw [rowTo_low (by omega), rowTo_low (by omega)]
theorem redge_ac (n : Nat) (B : BT) (i j : Nat) (hi : i < n) (hj : j < n) (hn : n ≤ 256) : AC Tryz.prog T tysN 100 [tabB n B, .int i, .int j] [] (.bool (edgeB B i j)) [] := by
 refine AC_intro hT Tryz.func100 rfl rfl (Nat.le_of_ble_eq_true rfl) ?_
 refine sq (rg [] rfl ?_)
 refine sq (sq (rgs [] rfl ?_ ?_))
 ·simp [holdsC, under]; omega
 refine cd rfl (fun h1 => ?_) (fun h1 => ?_)
 ·have hb : B i j = false := by simpa using h1
  refine sq (rg [] rfl ?_)
  refine WP.ret ?_
  change Fin ..
  exact fin1 hT (by rfl) (by simp [edgeB, hb])
 ·have hb : B i j = true := by simpa using h1
  refine sk (sq (sq (rg [] rfl ?_)))
  refine bk ?_
  refine WP.loop (α := Nat) (fun k => mkSt [(0, tabB n B), (1, .int i), (2, .int j), (7, .int k)] []) (fun k => i < k ∧ (k ≤ j ∨ k = i + 1) ∧ betB B i j k = true) (fun k => j - k) ?_ ?_
  ·refine ⟨i + 1, ?_, ?_⟩
   ·exact ⟨Nat.lt_succ_self _, .inr rfl, betB_low (Nat.le_refl _)⟩
   ·refine em [] trivial ⟨⟨rfl, _, rfl, cvt⟩, ⟨rfl, _, rfl, cvt⟩, ⟨rfl, _, rfl, cvt⟩, ⟨rfl, _, rfl, cvt⟩, trivial⟩ trivial
  ·rintro k ⟨hik, hk, hbt⟩
   refine sq (sq (rg [] rfl ?_))
   refine cd rfl (fun h4 => ?_) (fun h4 => ?_)
   ·have hkj : k < j := by simp at h4; omega
    refine sk (sq (bk (sq (rgs [] rfl ?_ ?_))))
    ·simp [holdsC, under]; omega
    refine cd rfl (fun h6 => ?_) (fun h6 => ?_)
    ·have hbad : (B i k && B k j) = true := by simpa using h6
     refine sq (rg [] rfl ?_)
     refine WP.ret ?_
     change Fin ..
     exact fin1 hT (by rfl) (by simp [edgeB, betB_bad hik hkj hbad])
    ·have hok : (B i k && B k j) = false := by
       have e : (bif B i k then B k j else false) = false := h6
       rwa [band] at e
     refine sk (rg [] rfl ?_)
     refine ⟨k + 1, ?_, ?_, ?_⟩
     ·exact ⟨by omega, .inl hkj, by rw [betB_succ hik, hbt, hok]; rfl⟩
     ·refine em [] trivial ⟨⟨rfl, _, rfl, cvt⟩, ⟨rfl, _, rfl, cvt⟩, ⟨rfl, _, rfl, cvt⟩, ⟨rfl, _, rfl, cvt⟩, trivial⟩ trivial
     ·(try simp only []); first | omega | grind
   ·have hkj : j ≤ k := by simp at h4; omega
    refine xt (sq (rg [] rfl ?_))
    refine WP.ret ?_
    change Fin ..
    exact fin1 hT (by rfl) (by simp [edgeB, hb, betB_mono hkj hbt])
theorem redges_ac (g : Bool) (t : List Evt) (h : GoOK t) : AC Tryz.prog T tysN 54 [evts g t] [] (prs false (edgesR (refT t) t.length t.length)) [] := by
 refine AC_intro hT Tryz.func54 rfl rfl (Nat.le_of_ble_eq_true rfl) ?_
 have h256 := h.1
 obtain ⟨B, hB⟩ : ∃ B, B = refT t := ⟨_, rfl⟩
 rw [← hB]
 refine sq (rg [] rfl ?_)
 refine sq (rgs [CG.pure (tabB t.length B)] rfl ?_ ?_)
 ·rw [hB]
  have hr := rbef_ac g t h
  simp [holdsC, under, CG.pure]
  exact hr
 refine sq (rg [] rfl ?_)
 refine sq (sq (rg [] rfl ?_))
 refine bk ?_
 refine WP.loop (α := Nat) (fun i => mkSt [(0, evts g t), (3, tabB t.length B), (4, .own (.s 32 0) (edgesR B t.length i).length 0 (edgesR B t.length i).length none), (5, .int i)] [(.s 32 0, cells2 (edgesR B t.length i))]) (fun i => i ≤ t.length) (fun i => t.length - i) ?_ ?_
 ·refine ⟨0, ?_, ?_⟩
  ·exact Nat.zero_le _
  ·refine em [] trivial ⟨⟨rfl, _, rfl, cvt⟩, ⟨rfl, _, rfl, cvt⟩, ⟨rfl, _, rfl, conv_nil_own⟩, ⟨rfl, _, rfl, cvt⟩, trivial⟩ ⟨⟨fun _ _ => okIds_2 _ _, .inr ⟨rfl, 75, _, rfl, by decide⟩⟩, trivial⟩
 ·rintro i hi
  refine sq (sq (rg [] rfl ?_))
  refine cd rfl (fun h4 => ?_) (fun h4 => ?_)
  ·have hil : i < t.length := by simpa using h4
   have hel := edgesR_len (B := B) h256 i
   refine sk (sq (bk (sq (rg [] rfl ?_))))
   refine bk ?_
   refine WP.loop (α := Nat) (fun j => mkSt [(0, evts g t), (3, tabB t.length B), (4, .own (.s 32 0) (edgesR B t.length i ++ rowTo B i j).length 0 (edgesR B t.length i ++ rowTo B i j).length none), (5, .int i), (6, .int j)] [(.s 32 0, cells2 (edgesR B t.length i ++ rowTo B i j))]) (fun j => i < j ∧ (j ≤ t.length ∨ j = i + 1)) (fun j => t.length - j) ?_ ?_
   ·refine ⟨i + 1, ?_, ?_⟩
    ·exact ⟨Nat.lt_succ_self _, .inr rfl⟩
    ·refine em [] trivial ⟨⟨rfl, _, rfl, cvt⟩, ⟨rfl, _, rfl, cvt⟩, ⟨rfl, _, rfl, conv_eq (by rw [rowTo_low (Nat.le_refl _), List.append_nil])⟩, ⟨rfl, _, rfl, cvt⟩, ⟨rfl, _, rfl, cvt⟩, trivial⟩ ⟨⟨fun _ _ => okIds_2 _ _, .inl ⟨_, rfl, _, _, (by rw [rowTo_low (Nat.le_refl _), List.append_nil]; rfl), Nat.le_refl _, Nat.zero_le _, Nat.zero_le _, fun q hq => conv_eq rfl⟩⟩, trivial⟩
   ·rintro j ⟨hij, hj⟩
    refine sq (sq (rg [] rfl ?_))
    refine cd rfl (fun h7 => ?_) (fun h7 => ?_)
    ·have hjl : j < t.length := by simpa using h7
     have hrl := rowTo_len (B := B) (i := i) j
     refine sk (sq (bk (sq (rgs [CG.pure (.bool (edgeB B i j))] rfl ?_ ?_))))
     ·have hr := redge_ac t.length B i j hil hjl h256
      simp [holdsC, under, CG.pure]
      exact hr
     refine cd rfl (fun h9 => ?_) (fun h9 => ?_)
     ·have he : edgeB B i j = true := h9
      refine rgs [] rfl ?_ ?_
      ·have hbt : (T 75).bytes = 16 := rfl
       simp [holdsC, under, hbt]
       omega
      refine rg [] rfl ?_
      refine ⟨j + 1, ?_, ?_, ?_⟩
      ·exact ⟨by omega, .inl hjl⟩
      ·refine em [] trivial ⟨⟨rfl, _, rfl, cvt⟩, ⟨rfl, _, rfl, cvt⟩, ⟨rfl, _, rfl, conv_eq (by rw [rowTo_yes hij he, ← List.append_assoc, len_snoc])⟩, ⟨rfl, _, rfl, cvt⟩, ⟨rfl, _, rfl, cvt⟩, trivial⟩ ⟨ob_list (fun _ => okIds_2 _ _) rfl rfl (by rw [rowTo_yes hij he, ← List.append_assoc, len_snoc]) rfl rfl (by rw [rowTo_yes hij he, ← List.append_assoc]; exact appL (z := (T 75).zero) rfl (enc2_of i j) (fun q hq => rfl)), trivial⟩
      ·(try simp only []); first | omega | grind
     ·have he : edgeB B i j = false := h9
      refine sk (rg [] rfl ?_)
      refine ⟨j + 1, ?_, ?_, ?_⟩
      ·exact ⟨by omega, .inl hjl⟩
      ·refine em [] trivial ⟨⟨rfl, _, rfl, cvt⟩, ⟨rfl, _, rfl, cvt⟩, ⟨rfl, _, rfl, conv_eq (by rw [rowTo_no he])⟩, ⟨rfl, _, rfl, cvt⟩, ⟨rfl, _, rfl, cvt⟩, trivial⟩ ⟨⟨fun _ _ => okIds_2 _ _, .inl ⟨_, rfl, _, _, (by rw [rowTo_no he]; rfl), Nat.le_refl _, Nat.zero_le _, Nat.zero_le _, fun q hq => conv_eq rfl⟩⟩, trivial⟩
      ·(try simp only []); first | omega | grind
    ·have hjl : t.length ≤ j := by simp at h7; omega
     refine xt (rg [] rfl ?_)
     refine ⟨i + 1, ?_, ?_, ?_⟩
     ·exact hil
     ·refine em [] trivial ⟨⟨rfl, _, rfl, cvt⟩, ⟨rfl, _, rfl, cvt⟩, ⟨rfl, _, rfl, conv_eq (by rw [edgesR, rowTo_end hjl hj hil])⟩, ⟨rfl, _, rfl, cvt⟩, trivial⟩ ⟨⟨fun _ _ => okIds_2 _ _, .inl ⟨_, rfl, _, _, (by rw [edgesR, rowTo_end hjl hj hil]; rfl), Nat.le_refl _, Nat.zero_le _, Nat.zero_le _, fun q hq => conv_eq rfl⟩⟩, trivial⟩
     ·(try simp only []); first | omega | grind
  ·have hil : i = t.length := by simp at h4; omega
   subst hil
   refine xt (sq (rg [] rfl ?_))
   refine WP.ret ?_
   change Fin ..
   refine fin_mk hT [(.s 32 0, (edgesR B t.length t.length).length)] (ts := [(2, prs false (edgesR B t.length t.length))]) (l := [prs false (edgesR B t.length t.length)]) ⟨⟨_, rfl, Nat.le_refl _⟩, trivial⟩ ⟨⟨rfl, _, rfl, ?_⟩, trivial⟩ trivial rfl rfl rfl
   exact conv_row rfl rfl rfl (fun h => by cases h) (by simp [lookF, idbeq_self]) (fun q hq => by rw [Nat.zero_add]; exact ⟨noIds_2 _, AEq.refl _⟩)
def goNe (t : List Evt) (x : Pr) : Bool := !((eAt t x.1.toNat).go == (eAt t x.2.toNat).go)
def refPairs (t : List Evt) : List Pr := (edgesR (refT t) t.length t.length).filter (goNe t)
theorem edgesR_in {B : BT} {n : Nat} {x : Pr} : ∀ {i : Nat}, i ≤ n → x ∈ edgesR B n i → ∃ a b : Nat, x = ((a : Int), (b : Int)) ∧ a < b ∧ b < n
  | 0, _, h => by cases h
  | i + 1, hi, h => by
    rcases List.mem_append.1 h with h | h
    · exact edgesR_in (by omega) h
    · have : ∀ m, m ≤ n → x ∈ rowTo B i m → ∃ a b : Nat, x = ((a : Int), (b : Int)) ∧ a < b ∧ b < n := by
        intro m
        induction m with
        | zero => intro _ h; cases h
        | succ m ih =>
          intro hm h
          rcases List.mem_append.1 h with h | h
          · exact ih (by omega) h
          · split at h
            · rename_i hc
              simp at h
              exact ⟨i, m, h, hc.1, by omega⟩
            · cases h
      exact this n (Nat.le_refl _) h
theorem fil_snoc {p : Pr → Bool} {l : List Pr} {i : Nat} (h : i < l.length) : (l.take (i + 1)).filter p = (l.take i).filter p ++ (if p (pAt l i) = true then [pAt l i] else []) := by
  rw [take_snoc h, List.filter_append]
  congr 1
  by_cases e : p (pAt l i) = true
  · rw [if_pos e, List.filter_cons_of_pos e]; rfl
  · rw [if_neg e, List.filter_cons_of_neg e]; rfl
theorem fil_len (p : Pr → Bool) (l : List Pr) (i : Nat) : ((l.take i).filter p).length ≤ i := by
  have h1 := List.length_filter_le p (l.take i)
  have h2 : (l.take i).length ≤ i := by simp; omega
  omega
theorem rpairs_ac (g : Bool) (t : List Evt) (h : GoOK t) : AC Tryz.prog T tysN 18 [evts g t] [] (prs false (refPairs t)) [] := by
 refine AC_intro hT Tryz.func18 rfl rfl (Nat.le_of_ble_eq_true rfl) ?_
 have h256 := h.1
 obtain ⟨L, hL⟩ : ∃ L, L = edgesR (refT t) t.length t.length := ⟨_, rfl⟩
 have hlen : L.length ≤ 65536 := by
   rw [hL]
   have := edgesR_len (B := refT t) h256 t.length
   omega
 have hin : ∀ i, i < L.length → ∃ a b : Nat, pAt L i = ((a : Int), (b : Int)) ∧ a < t.length ∧ b < t.length := fun i hi => by
   have hm : pAt L i ∈ L := by simp [pAt, List.getD_eq_getElem?_getD, hi]
   rw [hL] at hm
   obtain ⟨a, b, e, h1, h2⟩ := edgesR_in (Nat.le_refl _) hm
   rw [← hL] at e
   exact ⟨a, b, e, by omega, h2⟩
 rw [refPairs, ← hL]
 refine sq (rg [] rfl ?_)
 refine sq (rg [] rfl ?_)
 refine sq (rgs [CG.pure (prs false L)] rfl ?_ ?_)
 ·have hr := redges_ac g t h
  rw [← hL] at hr
  simp [holdsC, under, CG.pure]
  exact hr
 refine sq (sq (rg [] rfl ?_))
 refine bk ?_
 refine WP.loop (α := Nat) (fun i => mkSt [(0, evts g t), (3, .own (.s 39 0) ((L.take i).filter (goNe t)).length 0 ((L.take i).filter (goNe t)).length none), (4, prs false L), (5, .int i)] [(.s 39 0, cells2 ((L.take i).filter (goNe t)))]) (fun i => i ≤ L.length) (fun i => L.length - i) ?_ ?_
 ·refine ⟨0, ?_, ?_⟩
  ·exact Nat.zero_le _
  ·refine em [] trivial ⟨⟨rfl, _, rfl, cvt⟩, ⟨rfl, _, rfl, conv_nil_own⟩, ⟨rfl, _, rfl, cvt⟩, ⟨rfl, _, rfl, cvt⟩, trivial⟩ ⟨⟨fun _ _ => okIds_2 _ _, .inr ⟨rfl, 75, _, rfl, by decide⟩⟩, trivial⟩
 ·rintro i hi
  refine sq (sq (rg [] rfl ?_))
  refine cd rfl (fun h4 => ?_) (fun h4 => ?_)
  ·have hil : i < L.length := by simpa using h4
   obtain ⟨a, b, hab, ha, hb⟩ := hin i hil
   have hfl := fil_len (goNe t) L i
   refine sk (sq (bk (sq (drs [] rfl ?_ ?_))))
   ·simp only [pAt, List.getD_eq_getElem?_getD] at hab
    simp [holdsC, under, hab]
    omega
   refine cd rfl (fun h6 => ?_) (fun h6 => ?_)
   ·have he : goNe t (pAt L i) = true := h6
    refine rgs [] rfl ?_ ?_
    ·have hbt : (T 75).bytes = 16 := rfl
     simp [holdsC, under, hbt]
     omega
    refine rg [] rfl ?_
    refine ⟨i + 1, ?_, ?_, ?_⟩
    ·exact hil
    ·refine em [] trivial ⟨⟨rfl, _, rfl, cvt⟩, ⟨rfl, _, rfl, conv_eq (by rw [fil_snoc hil, if_pos he, len_snoc])⟩, ⟨rfl, _, rfl, cvt⟩, ⟨rfl, _, rfl, cvt⟩, trivial⟩ ⟨ob_list (fun _ => okIds_2 _ _) rfl rfl (by rw [fil_snoc hil, if_pos he, len_snoc]) rfl rfl (by rw [fil_snoc hil, if_pos he]; exact appL (z := (T 75).zero) rfl rfl (fun q hq => rfl)), trivial⟩
    ·(try simp only []); first | omega | grind
   ·have he : goNe t (pAt L i) = false := h6
    refine sk (rg [] rfl ?_)
    refine ⟨i + 1, ?_, ?_, ?_⟩
    ·exact hil
    ·refine em [] trivial ⟨⟨rfl, _, rfl, cvt⟩, ⟨rfl, _, rfl, conv_eq (by rw [fil_snoc hil, if_neg (by rw [he]; decide), List.append_nil])⟩, ⟨rfl, _, rfl, cvt⟩, ⟨rfl, _, rfl, cvt⟩, trivial⟩ ⟨⟨fun _ _ => okIds_2 _ _, .inl ⟨_, rfl, _, _, (by rw [fil_snoc hil, if_neg (by rw [he]; decide), List.append_nil]; rfl), Nat.le_refl _, Nat.zero_le _, Nat.zero_le _, fun q hq => conv_eq rfl⟩⟩, trivial⟩
    ·(try simp only []); first | omega | grind
  ·have hil : i = L.length := by simp at h4; omega
   subst hil
   refine xt (sq (rg [] rfl ?_))
   refine WP.ret ?_
   change Fin ..
   rw [List.take_length]
   refine fin_mk hT [(.s 39 0, (L.filter (goNe t)).length)] (ts := [(2, prs false (L.filter (goNe t)))]) (l := [prs false (L.filter (goNe t))]) ⟨⟨_, rfl, Nat.le_refl _⟩, trivial⟩ ⟨⟨rfl, _, rfl, ?_⟩, trivial⟩ trivial rfl rfl rfl
   exact conv_row rfl rfl rfl (fun h => by cases h) (by simp [lookF, idbeq_self]) (fun q hq => by rw [Nat.zero_add]; exact ⟨noIds_2 _, AEq.refl _⟩)
end Go.Ab


/- What is wrong with a program and a trace. -/
set_option autoImplicit false
set_option maxRecDepth 20000
set_option maxHeartbeats 4000000
set_option linter.unusedSimpArgs false
set_option linter.unusedVariables false
namespace Go.Ab
open Go.Proofs
def fitF (p : PProg) (t : List Evt) : Int := if (checkF p).1 ≠ 0 then 3 else chkE t
theorem rasked_ac (g : Bool) (p : PProg) (t : List Evt) : AC Tryz.prog T tysN 38 [encProg p, evts g t] [] (.int (fitF p t)) [] := by
 refine AC_intro hT Tryz.func38 rfl rfl (Nat.le_of_ble_eq_true rfl) ?_
 refine sq (rg [] rfl ?_)
 refine sq (sq (rgs [CG.pure (checkA p)] rfl ?_ ?_))
 ·have hc := pcheck_ac p
  exact ⟨⟨rfl, hc⟩, rfl, Nat.le_refl _⟩
 refine sq (rg [] rfl ?_)
 refine cd rfl (fun h2 => ?_) (fun h2 => ?_)
 ·have hb : (checkF p).1 ≠ 0 := by simpa using h2
  refine sq (rg [] rfl ?_)
  refine WP.ret ?_
  change Fin ..
  exact finI hT (by rfl) (by rw [fitF, if_pos hb])
 ·have hb : (checkF p).1 = 0 := by simpa using h2
  refine sk (sq (rgs [CG.pure (.int (chkE t))] rfl ?_ ?_))
  ·exact dcheck_ac g t
  refine WP.ret ?_
  change Fin ..
  exact finI hT (by rfl) (by rw [fitF, if_neg (fun h => h hb)])
theorem fit_ac (g : Bool) (p : PProg) (t : List Evt) : AC Tryz.prog T tysN 22 [encProg p, evts g t] [] (.int (fitF p t)) [] := by
 refine AC_intro hT Tryz.func22 rfl rfl (Nat.le_of_ble_eq_true rfl) ?_
 refine sq (rg [] rfl ?_)
 refine sq (sq (rgs [CG.pure (.bool ((checkF p).1 == 0))] rfl ?_ ?_))
 ·have hc := right_ac p
  exact ⟨rfl, hc⟩
 refine cd rfl (fun h1 => ?_) (fun h1 => ?_)
 ·have hb : (checkF p).1 ≠ 0 := by
    have e : (!((checkF p).1 == 0)) = true := h1
    simpa using e
  refine sq (rg [] rfl ?_)
  refine WP.ret ?_
  change Fin ..
  exact finI hT (by rfl) (by rw [fitF, if_pos hb])
 ·have hb : (checkF p).1 = 0 := by
    have e : (!((checkF p).1 == 0)) = false := h1
    simpa using e
  refine sk (sq (rgs [CG.pure (.int (chkE t))] rfl ?_ ?_))
  ·exact rcheck_ac g t
  refine WP.ret ?_
  change Fin ..
  exact finI hT (by rfl) (by rw [fitF, if_neg (fun h => h hb)])
end Go.Ab


/- How events touch plain variables. -/
set_option autoImplicit false
set_option maxRecDepth 20000
set_option maxHeartbeats 4000000
set_option linter.unusedSimpArgs false
set_option linter.unusedVariables false
namespace Go.Ab
open Go.Proofs
def zero8 : List Int := [0, 0, 0, 0, 0, 0, 0, 0]
def plnA (l : List Int) : AV := arrI 155 8 .i64 l
/-- Does an access touch a plain variable? -/
def plnB (p : PProg) (a : Tch) : Bool := a.kind == 1 && (decide (a.num < p.vars.length) && !(p.vars.getD a.num.toNat var0).atomic)
def plnTo (p : PProg) (x : Evt) : Nat → List Int
  | 0 => zero8
  | k + 1 => if plnB p (tAt x k) then (plnTo p x k).set (tAt x k).num.toNat (if (tAt x k).wr then 2 else 1) else plnTo p x k
def plnF (p : PProg) (x : Evt) : List Int := plnTo p x x.n.toNat
theorem plnTo_len (p : PProg) (x : Evt) : ∀ k, (plnTo p x k).length = 8
  | 0 => rfl
  | k + 1 => by
    rw [plnTo]
    split
    · rw [List.length_set]; exact plnTo_len p x k
    · exact plnTo_len p x k
theorem pln_set {l : List Int} (hl : l.length = 8) {n : Nat} (hn : n < 8) (v : Int) (i : Nat) : (bif Nat.beq i n then AV.int v else AV.int (l.getD i 0)) = AV.int ((l.set n v).getD i 0) := by
  by_cases e : i = n
  · subst e
    rw [Nat.beq_refl, cond_true]
    simp [List.getD_eq_getElem?_getD, hl, hn]
  · rw [nbeq_ne e, cond_false]
    simp [List.getD_eq_getElem?_getD, List.getElem?_set_ne (Ne.symm e)]
theorem pln_put2 {l : List Int} (hl : l.length = 8) {n : Nat} (hn : n < 8) : ((plnA l).put [n] (.v (.int .i64 1))).put [n] (.v (.int .i64 2)) = plnA (l.set n 2) := by
  rw [show (plnA l).put [n] (.v (.int .i64 1)) = arrI 155 8 .i64 (l.set n 1) from arrI_put (by omega), arrI_put (by rw [List.length_set]; omega), List.set_set]
  rfl
theorem right_n {x : Evt} (h : rightE x = true) : 1 ≤ x.n ∧ x.n ≤ 6 := by
  simp only [rightE, Bool.and_eq_true, decide_eq_true_eq] at h
  exact ⟨h.1.2.2.1, h.1.2.2.2⟩
theorem right_num {x : Evt} (h : rightE x = true) {k : Nat} (hk : (k : Int) < x.n) : 0 ≤ (tAt x k).num ∧ (tAt x k).num < mostF (tAt x k).kind := by
  have hn := right_n h
  simp only [rightE, Bool.and_eq_true] at h
  have h1 := allTo_iff.1 h.2.1 k (by omega)
  rw [rowE, if_neg (by omega)] at h1
  simp only [Bool.and_eq_true, decide_eq_true_eq] at h1
  exact h1.1
theorem plainOf_ac (p : PProg) (x : Evt) (hr : rightE x = true) (hv : p.vars.length ≤ 8) : AC Tryz.prog T tysN 95 [encProg p, encE x] [] (plnA (plnF p x)) [] := by
 refine AC_intro hT Tryz.func95 rfl rfl (Nat.le_of_ble_eq_true rfl) ?_
 have hn6 := right_n hr
 have hlen : ((touchL x).length : Int) = x.n := by
   rw [touchL_len]; unfold clampN
   split <;> (try split) <;> omega
 have hget : ∀ k : Nat, (k : Int) < x.n → (touchL x).getD k tch0 = tAt x k := fun k hk => touchL_get (by rw [← touchL_len]; omega)
 refine sq (rg [] rfl ?_)
 refine sq (rg [] rfl ?_)
 refine sq (sq ?_)
 refine WP.ent (st' := mkSt [(2, .rp 26 (encProg p)), (3, .rp 73 (encE x)), (4, .ptr (.s 4 0) 1 0 []), (5, .ptr (.s 5 0) 1 0 [])] [(.s 4 0, .cells ⟨155, 1, fun _ => plnA zero8, 0⟩), (.s 5 0, .cells ⟨155, 1, fun _ => plnA zero8, 0⟩)]) ?_ ?_
 ·refine em [(.s 2 0, 1), (.s 3 0, 1)] ⟨⟨_, rfl, Nat.le_refl _⟩, ⟨_, rfl, Nat.le_refl _⟩, trivial⟩ ⟨⟨rfl, _, rfl, conv_rpe rfl rfl (by decide) rfl rfl rfl⟩, ⟨rfl, _, rfl, conv_rpe rfl rfl (by decide) rfl rfl (noIds_E x)⟩, ⟨rfl, _, rfl, cvt⟩, ⟨rfl, _, rfl, cvt⟩, trivial⟩ ⟨⟨fun _ _ => okIds_agg (fun _ _ => rfl), .inl ⟨_, rfl, _, _, rfl, Nat.le_refl _, Nat.zero_le _, Nat.zero_le _, fun q hq => conv_eq (agg_ext (fun i => by match i with | 0 | 1 | 2 | 3 | 4 | 5 | 6 | 7 => rfl | i + 8 => rfl))⟩⟩, ⟨fun _ _ => okIds_agg (fun _ _ => rfl), .inl ⟨_, rfl, _, _, rfl, Nat.le_refl _, Nat.zero_le _, Nat.zero_le _, fun q hq => conv_eq (agg_ext (fun i => by match i with | 0 | 1 | 2 | 3 | 4 | 5 | 6 | 7 => rfl | i + 8 => rfl))⟩⟩, trivial⟩
 refine rgs [] rfl ?_ ?_
 ·simp [holdsC, under, slOk, slB, capEq]
  omega
 refine bk ?_
 refine WP.loop (α := Nat) (fun k => mkSt [(2, .rp 26 (encProg p)), (4, .ptr (.s 4 0) 1 0 []), (5, .ptr (.s 5 0) 1 0 []), (11, tchs false (touchL x)), (12, .int x.n), (13, .int k)] [(.s 4 0, .cells ⟨155, 1, fun _ => plnA zero8, 0⟩), (.s 5 0, .cells ⟨155, 1, fun _ => plnA (plnTo p x k), 0⟩)]) (fun k => (k : Int) ≤ x.n) (fun k => 6 - k) ?_ ?_
 ·refine ⟨0, ?_, ?_⟩
  ·omega
  ·refine em [] trivial ⟨⟨rfl, _, rfl, cvt⟩, ⟨rfl, _, rfl, cvt⟩, ⟨rfl, _, rfl, cvt⟩, ⟨rfl, _, rfl, conv_rowN (by simp [slB]; omega) (fun h => h) (fun j hj => by rw [hget j (by omega)]; show encTch (x.ts.getD ((0 : Int).toNat + j) tch0) = _; simp [tAt])⟩, ⟨rfl, _, rfl, conv_eq (by simp [slB]; omega)⟩, ⟨rfl, _, rfl, cvt⟩, trivial⟩ ⟨obs rfl, obs rfl, trivial⟩
 ·rintro k hk
  refine sq (rg [] rfl ?_)
  refine sq ?_
  refine cd rfl (fun h3 => ?_) (fun h3 => ?_)
  ·have hkn : (k : Int) < x.n := by simpa using h3
   have hnum := right_num hr hkn
   have hg := hget k hkn
   refine sk (sq (bk (sq (rgs [] rfl ?_ ?_))))
   ·simp [holdsC, under]; omega
   refine sq (sq (rgs [] rfl ?_ ?_))
   ·rw [List.getD_eq_getElem?_getD] at hg
    simp [holdsC, under, hg]
    exact fun _ h => ⟨hnum.1, h⟩
   refine cd rfl (fun h5 => ?_) (fun h5 => ?_)
   ·have hp : plnB p (tAt x k) = false := by
      have e := h5
      simp only [Int.toNat_natCast, hg, bor, Bool.or_eq_true, bne_iff_ne, decide_eq_true_eq] at e
      simp only [plnB, Bool.and_eq_false_iff, beq_eq_false_iff_ne, decide_eq_false_iff_not, Bool.not_eq_false']
      rcases e with (e | e) | e
      · exact .inl e
      · exact .inr (.inl (by omega))
      · exact .inr (.inr e)
    refine xt (rg [] rfl ?_)
    refine ⟨k + 1, ?_, ?_, ?_⟩
    ·omega
    ·refine em [] trivial ⟨⟨rfl, _, rfl, cvt⟩, ⟨rfl, _, rfl, cvt⟩, ⟨rfl, _, rfl, cvt⟩, ⟨rfl, _, rfl, cvt⟩, ⟨rfl, _, rfl, cvt⟩, ⟨rfl, _, rfl, cvt⟩, trivial⟩ ⟨obs rfl, ⟨fun _ _ => okIds_agg (fun _ _ => rfl), .inl ⟨_, rfl, _, _, rfl, Nat.le_refl _, Nat.zero_le _, Nat.zero_le _, fun q hq => conv_eq (by rw [plnTo, hp]; rfl)⟩⟩, trivial⟩
    ·(try simp only []); first | omega | grind
   ·have hp : plnB p (tAt x k) = true := by
      have e := h5
      simp only [Int.toNat_natCast, hg, bor, Bool.or_eq_false_iff, bne_eq_false_iff_eq, decide_eq_false_iff_not] at e
      simp only [plnB, Bool.and_eq_true, beq_iff_eq, decide_eq_true_eq, Bool.not_eq_true']
      exact ⟨e.1.1, by omega, e.2⟩
    have h8 : (tAt x k).num < 8 := by
      simp only [plnB, Bool.and_eq_true, beq_iff_eq, decide_eq_true_eq] at hp
      omega
    refine sk (sq (rgs [] rfl ?_ ?_))
    ·rw [List.getD_eq_getElem?_getD] at hg
     simp [holdsC, under, hg]
     omega
    refine sq (rg [] rfl ?_)
    refine cd rfl (fun h7 => ?_) (fun h7 => ?_)
    ·refine rgs [] rfl ?_ ?_
     ·rw [List.getD_eq_getElem?_getD] at hg
      simp [holdsC, under, hg]
      omega
     refine rg [] rfl ?_
     refine ⟨k + 1, ?_, ?_, ?_⟩
     ·omega
     ·refine em [] trivial ⟨⟨rfl, _, rfl, cvt⟩, ⟨rfl, _, rfl, cvt⟩, ⟨rfl, _, rfl, cvt⟩, ⟨rfl, _, rfl, cvt⟩, ⟨rfl, _, rfl, cvt⟩, ⟨rfl, _, rfl, cvt⟩, trivial⟩ ⟨obs rfl, ⟨fun _ _ => okIds_agg (fun _ _ => rfl), .inl ⟨_, rfl, _, _, rfl, Nat.le_refl _, Nat.zero_le _, Nat.zero_le _, fun q hq => ?_⟩⟩, trivial⟩
      ·obtain rfl : q = 0 := by simp at hq; exact hq
       refine conv_eq ?_
       have hw : (tAt x k).wr = true := by
         have e := h7
         simp only [Int.toNat_natCast, hg] at e; exact e
       rw [plnTo, if_pos hp, if_pos hw, ← hg]
       exact pln_put2 (plnTo_len p x k) (by rw [Int.toNat_natCast, hg]; omega)
     ·(try simp only []); first | omega | grind
    ·refine sk (rg [] rfl ?_)
     refine ⟨k + 1, ?_, ?_, ?_⟩
     ·omega
     ·refine em [] trivial ⟨⟨rfl, _, rfl, cvt⟩, ⟨rfl, _, rfl, cvt⟩, ⟨rfl, _, rfl, cvt⟩, ⟨rfl, _, rfl, cvt⟩, ⟨rfl, _, rfl, cvt⟩, ⟨rfl, _, rfl, cvt⟩, trivial⟩ ⟨obs rfl, ⟨fun _ _ => okIds_agg (fun _ _ => rfl), .inl ⟨_, rfl, _, _, rfl, Nat.le_refl _, Nat.zero_le _, Nat.zero_le _, fun q hq => ?_⟩⟩, trivial⟩
      ·obtain rfl : q = 0 := by simp at hq; exact hq
       refine conv_eq ?_
       have hw : ¬ (tAt x k).wr = true := by
         have e := h7
         simp only [Int.toNat_natCast, hg] at e; simp [e]
       rw [plnTo, if_pos hp, if_neg hw, ← hg]
       exact arrI_put (by rw [plnTo_len, Int.toNat_natCast, hg]; omega)
     ·(try simp only []); first | omega | grind
  ·have hkn : (k : Int) = x.n := by simp at h3; omega
   refine xt (sq (rg [] rfl ?_))
   refine WP.ret ?_
   change Fin ..
   refine Fin.ent (Ent.mk (P := Tryz.prog) hT [] (ts := [(4, .ptr (.s 4 0) 1 0 [])]) (ms := [(.s 4 0, .cells ⟨155, 1, fun _ => plnA (plnTo p x k), 0⟩)]) trivial ⟨⟨rfl, _, rfl, conv_eq rfl⟩, trivial⟩ ⟨⟨fun _ _ => okIds_agg (fun _ _ => rfl), .inl ⟨_, rfl, _, _, rfl, Nat.le_refl _, Nat.zero_le _, Nat.zero_le _, fun q hq => ?_⟩⟩, trivial⟩ rfl) ?_
   · obtain rfl : q = 0 := by simp at hq; exact hq
     exact conv_eq rfl
   · refine fin_mk hT [(.s 4 0, 1)] (ts := [(4, .rp 155 (plnA (plnTo p x k)))]) (l := [plnA (plnTo p x k)]) ⟨⟨_, rfl, Nat.le_refl _⟩, trivial⟩ ⟨⟨rfl, _, rfl, ?_⟩, trivial⟩ trivial rfl rfl ?_
     · exact conv_rpe rfl rfl (by simp [lookF, idbeq_self]) rfl rfl noIds_arrI
     · rw [plnF, show x.n.toNat = k by omega]; rfl
end Go.Ab


/- Which plain variables two events touch; places in order; Data. -/
set_option autoImplicit false
set_option maxRecDepth 20000
set_option maxHeartbeats 4000000
set_option linter.unusedSimpArgs false
set_option linter.unusedVariables false
namespace Go.Ab
open Go.Proofs
def bothB (x y : List Int) (v : Nat) : Bool := decide (x.getD v 0 > 0) && (decide (y.getD v 0 > 0) && decide (x.getD v 0 + y.getD v 0 > 2))
def bothTo (x y : List Int) : Nat → List Int
  | 0 => []
  | v + 1 => bothTo x y v ++ (if bothB x y v = true then [(v : Int)] else [])
def bothF (p : PProg) (a b : Evt) : List Int := bothTo (plnF p a) (plnF p b) 8
theorem bothTo_len (x y : List Int) : ∀ v, (bothTo x y v).length ≤ v
  | 0 => Nat.le_refl _
  | v + 1 => by
    have := bothTo_len x y v
    rw [bothTo, List.length_append]
    split <;> simp <;> omega
theorem plnTo_2 (p : PProg) (x : Evt) (v : Nat) : ∀ k, 0 ≤ (plnTo p x k).getD v 0 ∧ (plnTo p x k).getD v 0 ≤ 2
  | 0 => by
    show 0 ≤ zero8.getD v 0 ∧ zero8.getD v 0 ≤ 2
    match v with
    | 0 | 1 | 2 | 3 | 4 | 5 | 6 | 7 => decide
    | v + 8 => exact ⟨Int.le_refl 0, by show (0 : Int) ≤ 2; decide⟩
  | k + 1 => by
    rw [plnTo]
    split
    · have h := plnTo_2 p x v k
      simp only [List.getD_eq_getElem?_getD, List.getElem?_set] at h ⊢
      split
      · split
        · split <;> simp
        · simp
      · exact h
    · exact plnTo_2 p x v k
theorem pln_2 (p : PProg) (x : Evt) (v : Nat) : 0 ≤ (plnF p x).getD v 0 ∧ (plnF p x).getD v 0 ≤ 2 := plnTo_2 p x v _
theorem both_ac (p : PProg) (x y : Evt) (hx : rightE x = true) (hy : rightE y = true) (hv : p.vars.length ≤ 8) : AC Tryz.prog T tysN 41 [encProg p, encE x, encE y] [] (ints false (bothF p x y)) [] := by
 refine AC_intro hT Tryz.func41 rfl rfl (Nat.le_of_ble_eq_true rfl) ?_
 refine sq (rg [] rfl ?_)
 refine sq (drs [CG.pure (plnA (plnF p x)), CG.pure (plnA (plnF p y))] rfl ?_ ?_)
 ·have h1 := plainOf_ac p x hx hv
  have h2 := plainOf_ac p y hy hv
  simp [holdsC, under, CG.pure]
  exact ⟨h1, h2⟩
 refine sq (rg [] rfl ?_)
 refine sq (sq (rg [] rfl ?_))
 refine bk ?_
 refine WP.loop (α := Nat) (fun v => mkSt [(7, .rp 155 (plnA (plnF p x))), (8, .rp 155 (plnA (plnF p y))), (9, .own (.s 43 0) (bothTo (plnF p x) (plnF p y) v).length 0 (bothTo (plnF p x) (plnF p y) v).length none), (17, .int v)] [(.s 43 0, cellsI 3 .i64 (bothTo (plnF p x) (plnF p y) v))]) (fun v => v ≤ 8) (fun v => 8 - v) ?_ ?_
 ·refine ⟨0, ?_, ?_⟩
  ·omega
  ·refine em [(.s 7 0, 1), (.s 8 0, 1)] ⟨⟨_, rfl, Nat.le_refl _⟩, ⟨_, rfl, Nat.le_refl _⟩, trivial⟩ ⟨⟨rfl, _, rfl, conv_rpe rfl rfl (by decide) rfl rfl noIds_arrI⟩, ⟨rfl, _, rfl, conv_rpe rfl rfl (by decide) rfl rfl noIds_arrI⟩, ⟨rfl, _, rfl, conv_nil_own⟩, ⟨rfl, _, rfl, cvt⟩, trivial⟩ ⟨⟨fun _ _ => rfl, .inr ⟨rfl, 3, _, rfl, by decide⟩⟩, trivial⟩
 ·rintro v hv8
  refine sq (rg [] rfl ?_)
  refine sq ?_
  refine cd rfl (fun h4 => ?_) (fun h4 => ?_)
  ·have hvl : v < 8 := by have e : decide ((v : Int) < 8) = true := h4; simp at e; omega
   have hlen := bothTo_len (plnF p x) (plnF p y) v
   have h2x := pln_2 p x v
   have h2y := pln_2 p y v
   refine sk (sq (bk (sq (rg [] rfl ?_))))
   refine sq (drs [] rfl ?_ ?_)
   ·simp [holdsC, under]; omega
   refine cd rfl (fun h6 => ?_) (fun h6 => ?_)
   ·have hb : bothB (plnF p x) (plnF p y) v = true := by
      have e := h6
      simp only [band] at e
      rw [wrap_id (by simp only [Int.toNat_natCast]; omega) (by simp only [Int.toNat_natCast]; omega)] at e
      simp only [Int.toNat_natCast] at e
      rw [bothB, ← Bool.and_assoc]
      exact e
    refine rgs [] rfl ?_ ?_
    ·have hbt : (T 3).bytes = 8 := rfl
     simp [holdsC, under, hbt]; omega
    refine rg [] rfl ?_
    refine ⟨v + 1, ?_, ?_, ?_⟩
    ·omega
    ·refine em [] trivial ⟨⟨rfl, _, rfl, cvt⟩, ⟨rfl, _, rfl, cvt⟩, ⟨rfl, _, rfl, conv_eq (by rw [bothTo, if_pos hb, len_snoc])⟩, ⟨rfl, _, rfl, cvt⟩, trivial⟩ ⟨ob_ints rfl rfl (by rw [bothTo, if_pos hb, len_snoc]) rfl rfl (by rw [bothTo, if_pos hb]; exact app1 (z := (T 3).zero) rfl (fun q hq => rfl)), trivial⟩
    ·(try simp only []); first | omega | grind
   ·have hb : bothB (plnF p x) (plnF p y) v = false := by
      have e := h6
      simp only [band] at e
      rw [wrap_id (by simp only [Int.toNat_natCast]; omega) (by simp only [Int.toNat_natCast]; omega)] at e
      simp only [Int.toNat_natCast] at e
      rw [bothB, ← Bool.and_assoc]
      exact e
    refine sk (rg [] rfl ?_)
    refine ⟨v + 1, ?_, ?_, ?_⟩
    ·omega
    ·refine em [] trivial ⟨⟨rfl, _, rfl, cvt⟩, ⟨rfl, _, rfl, cvt⟩, ⟨rfl, _, rfl, conv_eq (by rw [bothTo, if_neg (by rw [hb]; decide), List.append_nil])⟩, ⟨rfl, _, rfl, cvt⟩, trivial⟩ ⟨ob_ints rfl rfl (by rw [bothTo, if_neg (by rw [hb]; decide), List.append_nil]) rfl rfl (fun q hq => by rw [bothTo, if_neg (by rw [hb]; decide), List.append_nil]), trivial⟩
    ·(try simp only []); first | omega | grind
  ·have hvl : v = 8 := by have e : decide ((v : Int) < 8) = false := h4; simp at e; omega
   subst hvl
   refine xt (sq (rg [] rfl ?_))
   refine WP.ret ?_
   change Fin ..
   refine fin_mk hT [(.s 43 0, (bothF p x y).length)] (ts := [(6, ints false (bothF p x y))]) (l := [ints false (bothF p x y)]) ⟨⟨_, rfl, Nat.le_refl _⟩, trivial⟩ ⟨⟨rfl, _, rfl, ?_⟩, trivial⟩ trivial rfl rfl rfl
   exact conv_row rfl rfl rfl (fun h => by cases h) (by simp [lookF, idbeq_self, bothF]) (fun q hq => by rw [Nat.zero_add]; exact ⟨rfl, AEq.refl _⟩)
theorem spot_ac (x : Evt) : AC Tryz.prog T tysN 42 [encE x] [] (spotA x.a x.b) [] := by
 refine AC_intro hT Tryz.func42 rfl rfl (Nat.le_of_ble_eq_true rfl) ?_
 refine sq (rg [] rfl ?_)
 refine sq (rg [] rfl ?_)
 refine WP.ret ?_
 change Fin ..
 exact fin_cell hT rfl rfl rfl rfl rfl (conv_eq (agg_ext (fun q => by match q with | 0 | 1 | q + 2 => rfl))) rfl rfl rfl
theorem spots_ac (a b c d : Int) : AC Tryz.prog T tysN 43 [spotA a b, spotA c d] [] (.int (cmp2 (a, b) (c, d))) [] := by
 refine AC_intro hT Tryz.func43 rfl rfl (Nat.le_of_ble_eq_true rfl) ?_
 refine sq (rg [] rfl ?_)
 refine sq (rgs [CG.pure (.int (cmp2 (a, b) (c, d)))] rfl ?_ ?_)
 ·have hc := cmpL_ac true true [a, b] [c, d]
  simp [holdsC, under, CG.pure]
  refine AC.conv hT hc ?_
  exact ⟨_, _, rfl, conv_rowL (fun h => h) (fun j hj => by match j, hj with | 0, _ => rfl | 1, _ => rfl), _, _, rfl, conv_rowL (fun h => h) (fun j hj => by match j, hj with | 0, _ => rfl | 1, _ => rfl), rfl⟩
 refine WP.ret ?_
 change Fin ..
 exact finI hT rfl rfl
end Go.Ab


/- race.Data. -/
set_option autoImplicit false
set_option maxRecDepth 20000
set_option maxHeartbeats 4000000
set_option linter.unusedSimpArgs false
set_option linter.unusedVariables false
namespace Go.Ab
open Go.Proofs
def dataW (p : PProg) (t : List Evt) (a b : Int) : Bool := decide ((bothF p (eAt t a.toNat) (eAt t b.toNat)).length > 0)
theorem fit_vars {p : PProg} {t : List Evt} (h : fitF p t = 0) : p.vars.length ≤ 8 ∧ chkE t = 0 := by
  unfold fitF at h
  split at h
  · cases h
  · rename_i hc
    refine ⟨?_, h⟩
    have hc : (checkF p).1 = 0 := by simpa using hc
    have hw : wholeF p = 0 := by
      unfold checkF at hc
      split at hc
      · exact hc
      · rename_i h2; simpa using h2
    have h1 : szB p = false := by
      unfold wholeF at hw
      split at hw
      · cases hw
      · rename_i h; simpa using h
    simp [szB] at h1; omega
theorem chk_evt {t : List Evt} (h : chkE t = 0) {i : Nat} (hi : i < t.length) : rightE (eAt t i) = true := by
  unfold chkE at h
  by_cases h1 : t.length > 256
  · rw [if_pos h1] at h; cases h
  · rw [if_neg h1] at h
    by_cases h2 : t.any badE = true
    · rw [if_pos h2] at h; cases h
    · have h3 : badE (eAt t i) = false := by
        cases hz : badE (eAt t i) with
        | false => rfl
        | true => exact absurd (anyE_yes hi hz) h2
      simpa [badE] using h3
theorem dataW_ac (g : Bool) (p : PProg) (t : List Evt) (h : fitF p t = 0) (a b : Nat) (ha : a < t.length) (hb : b < t.length) : AC Tryz.prog T tysN 40 [.int a, .int b, .rp 26 (encProg p), .rp 27 (evts g t)] [] (.bool (dataW p t a b)) [] := by
 refine AC_intro hT Tryz.func40 rfl rfl (Nat.le_of_ble_eq_true rfl) ?_
 refine sq (rg [] rfl ?_)
 refine sq (drs [CG.pure (ints false (bothF p (eAt t a) (eAt t b)))] rfl ?_ ?_)
 ·have hv := fit_vars h
  have hc := both_ac p (eAt t a) (eAt t b) (chk_evt hv.2 ha) (chk_evt hv.2 hb) hv.1
  simp [holdsC, under, CG.pure]
  exact ⟨⟨ha, hb⟩, hc⟩
 refine WP.ret ?_
 change Fin ..
 refine fin1 hT (by rfl) ?_
 simp [dataW, ints]
def dataL (p : PProg) (t : List Evt) : List Pr := if fitF p t = 0 then pairsF t (dataW p t) else []
theorem data_ac (g : Bool) (p : PProg) (t : List Evt) : AC Tryz.prog T tysN 9 [encProg p, evts g t] [] (.tup [prs false (dataL p t), .int (fitF p t)]) [] := by
 refine AC_intro hT Tryz.func9 rfl rfl (Nat.le_of_ble_eq_true rfl) ?_
 refine sq (rg [] rfl ?_)
 refine sq (sq (rgs [CG.pure (.int (fitF p t))] rfl ?_ ?_))
 ·have ha := rasked_ac g p t
  simp [holdsC, under, CG.pure]
  exact ha
 refine sq (rg [] rfl ?_)
 refine cd rfl (fun h2 => ?_) (fun h2 => ?_)
 ·have hbad : fitF p t ≠ 0 := by simpa using h2
  refine sq (rg [] rfl ?_)
  refine WP.ret ?_
  change Fin ..
  rw [dataL, if_neg hbad]
  refine fin_mk hT [] (ts := [(4, prs false []), (5, .int (fitF p t))]) (l := [prs false [], .int (fitF p t)]) trivial ⟨⟨rfl, _, rfl, conv_nil_row (by decide)⟩, ⟨rfl, _, rfl, conv_eq rfl⟩, trivial⟩ trivial rfl rfl rfl
 ·have hz : fitF p t = 0 := by simpa using h2
  refine sk (sq ?_)
  refine WP.ent (st' := mkSt [(2, .rp 26 (encProg p)), (3, .rp 27 (evts g t))] []) ?_ ?_
  ·refine em [(.s 2 0, 1), (.s 3 0, 1)] ⟨⟨_, rfl, Nat.le_refl _⟩, ⟨_, rfl, Nat.le_refl _⟩, trivial⟩ ⟨⟨rfl, _, rfl, conv_rpe rfl rfl (by decide) rfl rfl rfl⟩, ⟨rfl, _, rfl, conv_rpe rfl rfl (by decide) rfl rfl rfl⟩, trivial⟩ trivial
  refine rgs [CG.pure (.tup [prs false (dataL p t), .int (chkE t)])] rfl ?_ ?_
  ·have hp := pairs2_ac g t 40 26 27 (encProg p) (evts g t) (dataW p t) (fun a b ha hb => dataW_ac g p t hz a b ha hb) rfl
   rw [dataL, if_pos hz]
   simp [holdsC, under, CG.pure]
   exact hp
  refine WP.ret ?_
  change Fin ..
  rw [(fit_vars hz).2, hz]
  refine fin_mk hT [] (ts := [(4, prs false (dataL p t)), (5, .int 0)]) (l := [prs false (dataL p t), .int 0]) trivial ⟨⟨rfl, _, rfl, conv_eq rfl⟩, ⟨rfl, _, rfl, conv_eq rfl⟩, trivial⟩ trivial rfl rfl rfl
end Go.Ab


/- What is found: compared, sorted, each once. -/
set_option autoImplicit false
set_option maxRecDepth 20000
set_option maxHeartbeats 4000000
set_option linter.unusedSimpArgs false
set_option linter.unusedVariables false
namespace Go.Ab
open Go.Proofs Go.Sort
/-- What is found: a race's two places, its variable. -/
structure Fnd where
  fa : Int
  fb : Int
  ga : Int
  gb : Int
  v : _root_.Fin 8
  deriving DecidableEq
def fnd0 : Fnd := ⟨0, 0, 0, 0, 0⟩
instance : Inhabited Fnd := ⟨fnd0⟩
def encF (f : Fnd) : AV := stru 86 [.int 5, spotA f.fa f.fb, spotA f.ga f.gb, .int (f.v.val : Nat), .int 0]
def valsF (f : Fnd) : List Value := [.int .i64 5, .int .i64 f.fa, .int .i64 f.fb, .int .i64 f.ga, .int .i64 f.gb, .int .i64 (f.v.val : Nat), .int .i64 0]
theorem noIds_F (f : Fnd) : noIds (encF f) = true := rfl
theorem okIds_F (ids : List Id) (f : Fnd) : okIds ids (encF f) = true := rfl
theorem ren_spot (σ : Id → Id) (a b : Int) : ren σ (spotA a b) = spotA a b := agg_ext (fun q => by match q with | 0 | 1 | q + 2 => rfl)
theorem ren_F (σ : Id → Id) (f : Fnd) : ren σ (encF f) = encF f := agg_ext (fun q => by
  match q with
  | 0 | 3 | 4 | q + 5 => rfl
  | 1 => exact ren_spot σ _ _
  | 2 => exact ren_spot σ _ _)
theorem flatF (f : Fnd) : flatA T tysN 5 (encF f) = some (valsF f) := rfl
theorem encKF : EncK T tysN 86 7 encF valsF where
  len _ := rfl
  one x v hv := by
    simp [valsF] at hv
    rcases hv with rfl | rfl | rfl | rfl | rfl | rfl | rfl <;> rfl
  rep I ρ x := (flat_rep (flatF x)).1 I ρ
  uni I ρ x cs h := (flat_rep (flatF x)).2 I ρ cs h
  fits x := rfl
  pack x := rfl
  size := rfl
  pos := by decide
def cmpF2 (f g : Fnd) : Int := if f.v ≠ g.v then (f.v.val : Int) - g.v.val else if cmp2 (f.fa, f.fb) (g.fa, g.fb) ≠ 0 then cmp2 (f.fa, f.fb) (g.fa, g.fb) else cmp2 (f.ga, f.gb) (g.ga, g.gb)
theorem fcmp_ac (f g : Fnd) : AC Tryz.prog T tysN 45 [encF f, encF g] [] (.int (cmpF2 f g)) [] := by
 refine AC_intro hT Tryz.func45 rfl rfl (Nat.le_of_ble_eq_true rfl) ?_
 refine sq (rg [] rfl ?_)
 refine sq (sq (rg [] rfl ?_))
 refine cd rfl (fun h1 => ?_) (fun h1 => ?_)
 ·have hne : f.v ≠ g.v := by
    intro e
    have h1' : (((f.v.val : Nat) : Int) != ((g.v.val : Nat) : Int)) = true := h1
    rw [e] at h1'
    simp at h1'
  refine sq (rg [] rfl ?_)
  refine WP.ret ?_
  change Fin ..
  refine finI hT (by rfl) ?_
  rw [cmpF2, if_pos hne]
  exact wrap_id (by omega) (by omega)
 ·have he : f.v = g.v := by
    have h1' : (((f.v.val : Nat) : Int) != ((g.v.val : Nat) : Int)) = false := h1
    simp at h1'
    omega
  refine sk (sq (sq (rgs [CG.pure (.int (cmp2 (f.fa, f.fb) (g.fa, g.fb)))] rfl ?_ ?_)))
  ·have hs := spots_ac f.fa f.fb g.fa g.fb
   exact ⟨⟨⟨⟨rfl, rfl⟩, rfl⟩, rfl⟩, hs⟩
  refine sq (rg [] rfl ?_)
  refine cd rfl (fun h4 => ?_) (fun h4 => ?_)
  ·have hc : cmp2 (f.fa, f.fb) (g.fa, g.fb) ≠ 0 := by simpa using h4
   refine sq (rg [] rfl ?_)
   refine WP.ret ?_
   change Fin ..
   refine finI hT (by rfl) ?_
   rw [cmpF2, if_neg (fun h => h he), if_pos hc]
  ·have hc : cmp2 (f.fa, f.fb) (g.fa, g.fb) = 0 := by simpa using h4
   refine sk (sq (rgs [CG.pure (.int (cmp2 (f.ga, f.gb) (g.ga, g.gb)))] rfl ?_ ?_))
   ·have hs := spots_ac f.ga f.gb g.ga g.gb
    exact ⟨⟨⟨⟨rfl, rfl⟩, rfl⟩, rfl⟩, hs⟩
   refine WP.ret ?_
   change Fin ..
   refine finI hT (by rfl) ?_
   rw [cmpF2, if_neg (fun h => h he), if_neg (fun h => h hc)]
theorem lt_cmpF (f g : Fnd) : Go.Proofs.ltOf cmpF2 f g = decide (f.v.val < g.v.val ∨ f.v.val = g.v.val ∧ (f.fa < g.fa ∨ f.fa = g.fa ∧ (f.fb < g.fb ∨ f.fb = g.fb ∧ (f.ga < g.ga ∨ f.ga = g.ga ∧ f.gb < g.gb)))) := by
  unfold Go.Proofs.ltOf
  apply decide_eq_decide.2
  simp only [cmpF2, cmp2, cmpL, cmp1]
  grind
theorem swoF : SWO (Go.Proofs.ltOf cmpF2) where
  irrefl x := by rw [lt_cmpF]; simp
  trans x y z h1 h2 := by rw [lt_cmpF] at *; simp at *; omega
  ntrans x y z h1 h2 := by rw [lt_cmpF] at *; simp at *; omega
def cellsF (l : List Fnd) : Ob := cellsL 86 encF default l
def sortFs (l : List Fnd) : List Fnd := sortBy cmpF2 l
theorem foundSort_ac (l : List Fnd) (hl : l.length < 4611686018427387904) : AC Tryz.prog T tysN 44 [.own (.b 0) l.length 0 l.length none, .clo 45 []] [cellsF l] (.tup []) [cellsF (sortFs l)] :=
  sortF_ac hT Tryz.laySortF encKF Tryz.isAgg86 Tryz.sizeOf86 swoF (enters_of Tryz.func45 rfl rfl) fcmp_ac ⟨_, Tryz.func44, rfl, rfl⟩ l hl
end Go.Ab


/- slices.Compact. -/
set_option autoImplicit false
set_option maxRecDepth 20000
set_option maxHeartbeats 4000000
set_option linter.unusedSimpArgs false
set_option linter.unusedVariables false
namespace Go.Ab
open Go.Proofs
section
variable {α : Type} [DecidableEq α] (d : α)
/-- Of equal neighbours the first, among the first k. -/
def dd (l : List α) : Nat → List α
  | 0 => []
  | k + 1 => if 0 < k ∧ l.getD k d = l.getD (k - 1) d then dd l k else dd l k ++ [l.getD k d]
theorem dd_len (l : List α) : ∀ k, (dd d l k).length ≤ k
  | 0 => Nat.le_refl _
  | k + 1 => by
    have := dd_len l k
    simp only [dd]
    split
    · omega
    · simp; omega
theorem dd_pos (l : List α) : ∀ k, 0 < k → 0 < (dd d l k).length
  | 1, _ => by simp [dd]
  | k + 2, _ => by
    have := dd_pos l (k + 1) (by omega)
    rw [dd]
    split
    · exact this
    · simp
theorem dd_all (l : List α) : ∀ k, k ≤ l.length → (∀ j, 0 < j → j < k → l.getD j d ≠ l.getD (j - 1) d) → dd d l k = l.take k
  | 0, _, _ => rfl
  | k + 1, hk, h => by
    rw [dd, if_neg (fun e => h k e.1 (by omega) e.2), dd_all l k (by omega) (fun j h1 h2 => h j h1 (by omega))]
    rw [List.take_add_one]
    have : k < l.length := by omega
    simp [this]
theorem dd_cut (l : List α) (k j : Nat) : ((dd d l k).getD j d) = if j < (dd d l k).length then (dd d l k).getD j d else d := by
  split
  · rfl
  · rename_i h; simp [h]
theorem dd_skip {l : List α} {k : Nat} (h0 : 0 < k) (h : l.getD k d = l.getD (k - 1) d) : dd d l (k + 1) = dd d l k := by rw [dd, if_pos ⟨h0, h⟩]
theorem dd_more {l : List α} {k : Nat} (h : l.getD k d ≠ l.getD (k - 1) d) : dd d l (k + 1) = dd d l k ++ [l.getD k d] := by rw [dd, if_neg (fun e => h e.2)]
theorem same_len {l : List α} (h : ∀ j, 0 < j → j < l.length → l.getD j d ≠ l.getD (j - 1) d) : dd d l l.length = l := by
  rw [dd_all d l l.length (Nat.le_refl _) h, List.take_length]
theorem cells_dd {enc : α → AV} {l c : List α} {i : Nat} {z : AV} (ht : c.take i = dd d l l.length) (hi : i = (dd d l l.length).length) (hl : i ≤ l.length) (q : Nat) (hq : q < l.length) :
    (bif Nat.ble i q && Nat.blt q (i + (l.length - i)) then z else enc (c.getD q d)) = (bif Nat.blt q (dd d l l.length).length then enc ((dd d l l.length).getD q d) else z) := by
  by_cases h : i ≤ q
  · have e : (Nat.ble i q && Nat.blt q (i + (l.length - i))) = true := by simp [h, Nat.blt_eq]; omega
    have e2 : Nat.blt q (dd d l l.length).length = false := by
      cases hz : Nat.blt q (dd d l l.length).length with
      | false => rfl
      | true => rw [Nat.blt_eq] at hz; omega
    rw [e, e2, cond_true, cond_false]
  · have e : (Nat.ble i q && Nat.blt q (i + (l.length - i))) = false := by simp; intro h'; omega
    rw [e, cond_false, blt_bif (by omega), ← ht]
    simp only [List.getD_eq_getElem?_getD, List.getElem?_take]
    rw [if_pos (by omega)]
end
theorem toNat_pred {i : Nat} (h : 1 ≤ i) (h2 : i < 2 ^ 63) : (IntKind.i64.wrap ((i : Int) - 1)).toNat = i - 1 := by rw [wrap_id (by omega) (by omega)]; omega
theorem eqF_v (f g : Fnd) : (f == g) = ((5 : Int) == 5 && ((f.fa == g.fa && (f.fb == g.fb && true)) && ((f.ga == g.ga && (f.gb == g.gb && true)) && (((f.v.val : Nat) : Int) == ((g.v.val : Nat) : Int) && ((0 : Int) == 0 && true))))) := by
  obtain ⟨a, b, c, e, v⟩ := f
  obtain ⟨a', b', c', e', v'⟩ := g
  rw [Bool.eq_iff_iff]
  simp [Fnd.mk.injEq, _root_.Fin.ext_iff]
  omega
theorem ok_dd {α : Type} {enc : α → AV} {z : AV} {ids : List Id} (h : ∀ a, okIds ids (enc a) = true) (hz : okIds ids z = true) (l : List α) {d : α} {q n : Nat} : okIds ids (bif Nat.blt q n then enc (l.getD q d) else z) = true := by
  cases Nat.blt q n
  · exact hz
  · exact h _
theorem compactI_ac (l : List Int) : AC Tryz.prog T tysN 83 [.own (.b 0) l.length 0 l.length none] [cellsL 3 (fun x => AV.int x) 0 l] (.own (.b 0) l.length 0 (dd 0 l l.length).length none) [.cells ⟨3, l.length, fun j => bif Nat.blt j (dd 0 l l.length).length then (fun x => AV.int x) ((dd 0 l l.length).getD j 0) else (AV.int 0), 0⟩] := by
 refine AC_intro hT Tryz.func83 rfl rfl (Nat.le_of_ble_eq_true rfl) ?_
 refine WP.ownlen 0 rfl rfl rfl (fun hl => ?_)
 refine sq (rg [] rfl ?_)
 refine sq (sq (rg [] rfl ?_))
 refine cd rfl (fun h1 => ?_) (fun h1 => ?_)
 ·refine sq (rg [] rfl ?_)
  refine WP.ret ?_
  change Fin ..
  have e : dd 0 l l.length = l := same_len 0 (fun j h0 hj => by simp at h1; omega)
  rw [e]
  exact fin_mk hT [] (ts := [(2, .own (.b 0) l.length 0 l.length none)]) trivial ⟨⟨rfl, _, rfl, conv_eq rfl⟩, trivial⟩ ⟨⟨fun _ _ => ok_dd (enc := fun x => AV.int x) (d := 0) (fun _ => rfl) rfl _, .inl ⟨_, rfl, _, _, rfl, Nat.le_refl _, Nat.zero_le _, Nat.zero_le _, fun q hq => conv_eq (blt_bif (show q < l.length from hq) _ _).symm⟩⟩, trivial⟩ rfl rfl rfl
 ·refine sk (sq (sq (rg [] rfl ?_)))
  refine bk ?_
  refine WP.loop (α := Nat) (fun i => mkSt [(0, .own (.b 0) l.length 0 l.length none), (3, .int i)] [(.b 0, cellsL 3 (fun x => AV.int x) 0 l)]) (fun i => 1 ≤ i ∧ i ≤ l.length ∧ ∀ j, 0 < j → j < i → l.getD j 0 ≠ l.getD (j - 1) 0) (fun i => l.length - i) ?_ ?_
  ·refine ⟨1, ?_, ?_⟩
   ·exact ⟨Nat.le_refl _, by simp at h1; omega, fun j h1 h2 => by omega⟩
   ·refine em [] trivial ⟨⟨rfl, _, rfl, cvt⟩, ⟨rfl, _, rfl, cvt⟩, trivial⟩ ⟨obs rfl, trivial⟩
  ·rintro i ⟨h1i, hi, hn⟩
   refine sq (sq (rg [] rfl ?_))
   refine cd rfl (fun h4 => ?_) (fun h4 => ?_)
   ·have hil : i < l.length := by simpa using h4
    have e1 := toNat_pred h1i (show i < 2 ^ 63 by omega)
    have e2 := wrap_id (n := (i : Int) - 1) (by omega) (by omega)
    refine sk (sq (bk (sq (drs [] rfl ?_ ?_))))
    ·simp [holdsC, under, e2]; omega
    refine cd rfl (fun h6 => ?_) (fun h6 => ?_)
    ·have hdup : l.getD i 0 = l.getD (i - 1) 0 := by
       have e : (l.getD i 0 == l.getD (IntKind.i64.wrap ((i : Int) - 1)).toNat 0) = true := (rfl).trans h6
       rw [e1] at e; simpa using e
     refine sq (rg [] rfl ?_)
     refine sq (sq (rg [] rfl ?_))
     refine bk ?_
     refine WP.loop (α := List Int × Nat × Nat) (fun (⟨c, i2, k⟩ : List Int × Nat × Nat) => mkSt [(0, .own (.b 0) l.length 0 l.length none), (3, .int i2), (4, .own (.b 0) l.length i (l.length - i) none), (5, .int k)] [(.b 0, .cells ⟨3, l.length, fun j => (fun x => AV.int x) (c.getD j 0), 0⟩)]) (fun (⟨c, i2, k⟩ : List Int × Nat × Nat) => c.length = l.length ∧ 1 ≤ k ∧ i + k ≤ l.length ∧ c.take i2 = dd 0 l (i + k) ∧ i2 = (dd 0 l (i + k)).length ∧ i2 < i + k ∧ ∀ j, i + k ≤ j + 1 → c.getD j 0 = l.getD j 0) (fun (⟨c, i2, k⟩ : List Int × Nat × Nat) => l.length - k) ?_ ?_
     ·refine ⟨(l, i, 1), ?_, ?_⟩
      ·have e := dd_skip 0 (by omega) hdup
       have e' := dd_all 0 l i (by omega) hn
       refine ⟨rfl, Nat.le_refl _, by omega, by rw [e, e'], by rw [e, e', List.length_take]; omega, by omega, fun j hj => rfl⟩
      ·refine em [] trivial ⟨⟨rfl, _, rfl, cvt⟩, ⟨rfl, _, rfl, cvt⟩, ⟨rfl, _, rfl, cvt⟩, ⟨rfl, _, rfl, cvt⟩, trivial⟩ ⟨obs rfl, trivial⟩
     ·rintro ⟨c, i2, k⟩ ⟨hc, hk1, hk, htk, hi2, hi2k, hrest⟩
      refine sq (sq (rg [] rfl ?_))
      refine cd rfl (fun h9 => ?_) (fun h9 => ?_)
      ·have hkl : i + k < l.length := by simp at h9; omega
       have e3 := toNat_pred hk1 (show k < 2 ^ 63 by omega)
       have e4 := wrap_id (n := (k : Int) - 1) (by omega) (by omega)
       have r1 := hrest (i + k) (by omega)
       have r2 := hrest (i + k - 1) (by omega)
       have e5 : k - 1 + i = i + k - 1 := by omega
       have e6 : k + i = i + k := by omega
       have r1' : c.getD (k + i) 0 = l.getD (i + k) 0 := by rw [e6]; exact r1
       refine sk (sq (bk (sq (drs [] rfl ?_ ?_))))
       ·simp [holdsC, under, e4]; omega
       refine cd rfl (fun h11 => ?_) (fun h11 => ?_)
       ·have hne : l.getD (i + k) 0 ≠ l.getD (i + k - 1) 0 := by
          have e : (!(c.getD (k + i) 0 == c.getD ((IntKind.i64.wrap ((k : Int) - 1)).toNat + i) 0)) = true := (congrArg Bool.not (rfl)).trans h11
          rw [e3, e5, e6, r1, r2] at e; simpa using e
        refine sq (rgs [] rfl ?_ ?_)
        ·simp [holdsC, under]; omega
        refine rg [] rfl ?_
        refine rg [] rfl ?_
        refine ⟨(c.set i2 (c.getD (k + i) 0), i2 + 1, k + 1), ?_, ?_, ?_⟩
        ·have em := dd_more 0 hne
         refine ⟨by simpa using hc, by omega, by omega, ?_, by rw [← Nat.add_assoc, em]; simp; omega, by omega, fun j hj => ?_⟩
         · rw [← Nat.add_assoc, em, r1', ← htk]
           have h2 : i2 < c.length := by omega
           apply List.ext_getElem?
           intro q
           rw [List.getElem?_take, List.getElem?_append, List.length_take, Nat.min_eq_left (Nat.le_of_lt h2), List.getElem?_take]
           rcases Nat.lt_trichotomy q i2 with h | h | h
           · rw [if_pos (by omega), if_pos h, if_pos h, List.getElem?_set_ne (by omega)]
           · subst h; simp [h2]
           · rw [if_neg (by omega), if_neg (by omega)]
             simp [show q - i2 ≠ 0 by omega]
         · simp only [List.getD_eq_getElem?_getD]
           rw [List.getElem?_set_ne (by omega)]
           have := hrest j (by omega)
           simpa using this
        ·refine em [] trivial ⟨⟨rfl, _, rfl, cvt⟩, ⟨rfl, _, rfl, cvt⟩, ⟨rfl, _, rfl, cvt⟩, ⟨rfl, _, rfl, cvt⟩, trivial⟩ ⟨⟨fun _ _ => rfl, .inl ⟨_, rfl, _, _, rfl, Nat.le_refl _, by first | exact Nat.zero_le _ | omega, by first | exact Nat.zero_le _ | omega, fun q hq => ?_⟩⟩, trivial⟩
         ·exact conv_eq (set_list (enc := (fun x => AV.int x)) (d := 0) (l := c) (i := i2) (x := c.getD (k + i) 0) (by omega) rfl q)
        ·(try simp only []); first | omega | grind
       ·have heq : l.getD (i + k) 0 = l.getD (i + k - 1) 0 := by
          have e : (!(c.getD (k + i) 0 == c.getD ((IntKind.i64.wrap ((k : Int) - 1)).toNat + i) 0)) = false := (congrArg Bool.not (rfl)).trans h11
          rw [e3, e5, e6, r1, r2] at e; simpa using e
        refine sk (rg [] rfl ?_)
        refine ⟨(c, i2, k + 1), ?_, ?_, ?_⟩
        ·have em := dd_skip 0 (l := l) (k := i + k) (by omega) heq
         exact ⟨hc, by omega, by omega, by rw [← Nat.add_assoc, em]; exact htk, by rw [← Nat.add_assoc, em]; exact hi2, by omega, fun j hj => hrest j (by omega)⟩
        ·refine em [] trivial ⟨⟨rfl, _, rfl, cvt⟩, ⟨rfl, _, rfl, cvt⟩, ⟨rfl, _, rfl, cvt⟩, ⟨rfl, _, rfl, cvt⟩, trivial⟩ ⟨obs rfl, trivial⟩
        ·(try simp only []); first | omega | grind
      ·have hkl : i + k = l.length := by simp at h9; omega
       rw [hkl] at htk hi2 hi2k
       refine xt (sq (rgs [] rfl ?_ ?_))
       ·simp [holdsC, under, slOk, slB, capEq]; omega
       refine sq (rgs [] rfl ?_ ?_)
       ·simp [holdsC, under, slOk, slB, capEq]; omega
       refine WP.ret ?_
       change Fin ..
       refine fin_mk hT [] (ts := [(2, .own (.b 0) l.length 0 (dd 0 l l.length).length none)]) trivial ⟨⟨rfl, _, rfl, conv_eq ?_⟩, trivial⟩ ⟨⟨fun _ _ => ok_dd (enc := fun x => AV.int x) (d := 0) (fun _ => rfl) rfl _, .inl ⟨_, rfl, _, _, rfl, Nat.le_refl _, Nat.zero_le _, Nat.zero_le _, fun q hq => conv_eq ?_⟩⟩, trivial⟩ rfl rfl rfl
       · rw [← hi2]; rfl
       · simp only [Nat.zero_add]
         exact cells_dd 0 (enc := (fun x => AV.int x)) (z := (AV.int 0)) htk hi2 (by omega) q hq
    ·have hne : l.getD i 0 ≠ l.getD (i - 1) 0 := by
       have e : (l.getD i 0 == l.getD (IntKind.i64.wrap ((i : Int) - 1)).toNat 0) = false := (rfl).trans h6
       rw [e1] at e; simpa using e
     refine sk (rg [] rfl ?_)
     refine ⟨i + 1, ?_, ?_, ?_⟩
     ·refine ⟨by omega, hil, fun j h0 hj => ?_⟩
      rcases Nat.lt_or_ge j i with h | h
      · exact hn j h0 h
      · obtain rfl : j = i := by omega
        exact hne
     ·refine em [] trivial ⟨⟨rfl, _, rfl, cvt⟩, ⟨rfl, _, rfl, cvt⟩, trivial⟩ ⟨obs rfl, trivial⟩
     ·(try simp only []); first | omega | grind
   ·refine xt (sq (rg [] rfl ?_))
    refine WP.ret ?_
    change Fin ..
    have hil : i = l.length := by simp at h4; omega
    subst hil
    have e : dd 0 l l.length = l := same_len 0 hn
    rw [e]
    exact fin_mk hT [] (ts := [(2, .own (.b 0) l.length 0 l.length none)]) trivial ⟨⟨rfl, _, rfl, conv_eq rfl⟩, trivial⟩ ⟨⟨fun _ _ => ok_dd (enc := fun x => AV.int x) (d := 0) (fun _ => rfl) rfl _, .inl ⟨_, rfl, _, _, rfl, Nat.le_refl _, Nat.zero_le _, Nat.zero_le _, fun q hq => conv_eq (blt_bif (show q < l.length from hq) _ _).symm⟩⟩, trivial⟩ rfl rfl rfl
theorem compactF_ac (l : List Fnd) : AC Tryz.prog T tysN 46 [.own (.b 0) l.length 0 l.length none] [cellsL 86 encF fnd0 l] (.own (.b 0) l.length 0 (dd fnd0 l l.length).length none) [.cells ⟨86, l.length, fun j => bif Nat.blt j (dd fnd0 l l.length).length then encF ((dd fnd0 l l.length).getD j fnd0) else (T 86).zero, 0⟩] := by
 refine AC_intro hT Tryz.func46 rfl rfl (Nat.le_of_ble_eq_true rfl) ?_
 refine WP.ownlen 0 rfl rfl rfl (fun hl => ?_)
 refine sq (rg [] rfl ?_)
 refine sq (sq (rg [] rfl ?_))
 refine cd rfl (fun h1 => ?_) (fun h1 => ?_)
 ·refine sq (rg [] rfl ?_)
  refine WP.ret ?_
  change Fin ..
  have e : dd fnd0 l l.length = l := same_len fnd0 (fun j h0 hj => by simp at h1; omega)
  rw [e]
  exact fin_mk hT [] (ts := [(2, .own (.b 0) l.length 0 l.length none)]) trivial ⟨⟨rfl, _, rfl, conv_eq rfl⟩, trivial⟩ ⟨⟨fun _ _ => ok_dd (enc := encF) (d := fnd0) (fun _ => okIds_F _ _) rfl _, .inl ⟨_, rfl, _, _, rfl, Nat.le_refl _, Nat.zero_le _, Nat.zero_le _, fun q hq => conv_eq (blt_bif (show q < l.length from hq) _ _).symm⟩⟩, trivial⟩ rfl rfl rfl
 ·refine sk (sq (sq (rg [] rfl ?_)))
  refine bk ?_
  refine WP.loop (α := Nat) (fun i => mkSt [(0, .own (.b 0) l.length 0 l.length none), (3, .int i)] [(.b 0, cellsL 86 encF fnd0 l)]) (fun i => 1 ≤ i ∧ i ≤ l.length ∧ ∀ j, 0 < j → j < i → l.getD j fnd0 ≠ l.getD (j - 1) fnd0) (fun i => l.length - i) ?_ ?_
  ·refine ⟨1, ?_, ?_⟩
   ·exact ⟨Nat.le_refl _, by simp at h1; omega, fun j h1 h2 => by omega⟩
   ·refine em [] trivial ⟨⟨rfl, _, rfl, cvt⟩, ⟨rfl, _, rfl, cvt⟩, trivial⟩ ⟨obs rfl, trivial⟩
  ·rintro i ⟨h1i, hi, hn⟩
   refine sq (sq (rg [] rfl ?_))
   refine cd rfl (fun h4 => ?_) (fun h4 => ?_)
   ·have hil : i < l.length := by simpa using h4
    have e1 := toNat_pred h1i (show i < 2 ^ 63 by omega)
    have e2 := wrap_id (n := (i : Int) - 1) (by omega) (by omega)
    refine sk (sq (bk (sq (drs [] rfl ?_ ?_))))
    ·simp [holdsC, under, e2]; omega
    refine cd rfl (fun h6 => ?_) (fun h6 => ?_)
    ·have hdup : l.getD i fnd0 = l.getD (i - 1) fnd0 := by
       have e : (l.getD i fnd0 == l.getD (IntKind.i64.wrap ((i : Int) - 1)).toNat fnd0) = true := (eqF_v _ _).trans h6
       rw [e1] at e; simpa using e
     refine sq (rg [] rfl ?_)
     refine sq (sq (rg [] rfl ?_))
     refine bk ?_
     refine WP.loop (α := List Fnd × Nat × Nat) (fun (⟨c, i2, k⟩ : List Fnd × Nat × Nat) => mkSt [(0, .own (.b 0) l.length 0 l.length none), (3, .int i2), (4, .own (.b 0) l.length i (l.length - i) none), (5, .int k)] [(.b 0, .cells ⟨86, l.length, fun j => encF (c.getD j fnd0), 0⟩)]) (fun (⟨c, i2, k⟩ : List Fnd × Nat × Nat) => c.length = l.length ∧ 1 ≤ k ∧ i + k ≤ l.length ∧ c.take i2 = dd fnd0 l (i + k) ∧ i2 = (dd fnd0 l (i + k)).length ∧ i2 < i + k ∧ ∀ j, i + k ≤ j + 1 → c.getD j fnd0 = l.getD j fnd0) (fun (⟨c, i2, k⟩ : List Fnd × Nat × Nat) => l.length - k) ?_ ?_
     ·refine ⟨(l, i, 1), ?_, ?_⟩
      ·have e := dd_skip fnd0 (by omega) hdup
       have e' := dd_all fnd0 l i (by omega) hn
       refine ⟨rfl, Nat.le_refl _, by omega, by rw [e, e'], by rw [e, e', List.length_take]; omega, by omega, fun j hj => rfl⟩
      ·refine em [] trivial ⟨⟨rfl, _, rfl, cvt⟩, ⟨rfl, _, rfl, cvt⟩, ⟨rfl, _, rfl, cvt⟩, ⟨rfl, _, rfl, cvt⟩, trivial⟩ ⟨obs rfl, trivial⟩
     ·rintro ⟨c, i2, k⟩ ⟨hc, hk1, hk, htk, hi2, hi2k, hrest⟩
      refine sq (sq (rg [] rfl ?_))
      refine cd rfl (fun h9 => ?_) (fun h9 => ?_)
      ·have hkl : i + k < l.length := by simp at h9; omega
       have e3 := toNat_pred hk1 (show k < 2 ^ 63 by omega)
       have e4 := wrap_id (n := (k : Int) - 1) (by omega) (by omega)
       have r1 := hrest (i + k) (by omega)
       have r2 := hrest (i + k - 1) (by omega)
       have e5 : k - 1 + i = i + k - 1 := by omega
       have e6 : k + i = i + k := by omega
       have r1' : c.getD (k + i) fnd0 = l.getD (i + k) fnd0 := by rw [e6]; exact r1
       refine sk (sq (bk (sq (drs [] rfl ?_ ?_))))
       ·simp [holdsC, under, e4]; omega
       refine cd rfl (fun h11 => ?_) (fun h11 => ?_)
       ·have hne : l.getD (i + k) fnd0 ≠ l.getD (i + k - 1) fnd0 := by
          have e : (!(c.getD (k + i) fnd0 == c.getD ((IntKind.i64.wrap ((k : Int) - 1)).toNat + i) fnd0)) = true := (congrArg Bool.not (eqF_v _ _)).trans h11
          rw [e3, e5, e6, r1, r2] at e; simpa using e
        refine sq (rgs [] rfl ?_ ?_)
        ·simp [holdsC, under]; omega
        refine rg [] rfl ?_
        refine rg [] rfl ?_
        refine ⟨(c.set i2 (c.getD (k + i) fnd0), i2 + 1, k + 1), ?_, ?_, ?_⟩
        ·have em := dd_more fnd0 hne
         refine ⟨by simpa using hc, by omega, by omega, ?_, by rw [← Nat.add_assoc, em]; simp; omega, by omega, fun j hj => ?_⟩
         · rw [← Nat.add_assoc, em, r1', ← htk]
           have h2 : i2 < c.length := by omega
           apply List.ext_getElem?
           intro q
           rw [List.getElem?_take, List.getElem?_append, List.length_take, Nat.min_eq_left (Nat.le_of_lt h2), List.getElem?_take]
           rcases Nat.lt_trichotomy q i2 with h | h | h
           · rw [if_pos (by omega), if_pos h, if_pos h, List.getElem?_set_ne (by omega)]
           · subst h; simp [h2]
           · rw [if_neg (by omega), if_neg (by omega)]
             simp [show q - i2 ≠ 0 by omega]
         · simp only [List.getD_eq_getElem?_getD]
           rw [List.getElem?_set_ne (by omega)]
           have := hrest j (by omega)
           simpa using this
        ·refine em [] trivial ⟨⟨rfl, _, rfl, cvt⟩, ⟨rfl, _, rfl, cvt⟩, ⟨rfl, _, rfl, cvt⟩, ⟨rfl, _, rfl, cvt⟩, trivial⟩ ⟨⟨fun _ _ => rfl, .inl ⟨_, rfl, _, _, rfl, Nat.le_refl _, by first | exact Nat.zero_le _ | omega, by first | exact Nat.zero_le _ | omega, fun q hq => ?_⟩⟩, trivial⟩
         ·exact conv_eq (set_list (enc := encF) (d := fnd0) (l := c) (i := i2) (x := c.getD (k + i) fnd0) (by omega) (by rw [put_nil]; rfl) q)
        ·(try simp only []); first | omega | grind
       ·have heq : l.getD (i + k) fnd0 = l.getD (i + k - 1) fnd0 := by
          have e : (!(c.getD (k + i) fnd0 == c.getD ((IntKind.i64.wrap ((k : Int) - 1)).toNat + i) fnd0)) = false := (congrArg Bool.not (eqF_v _ _)).trans h11
          rw [e3, e5, e6, r1, r2] at e; simpa using e
        refine sk (rg [] rfl ?_)
        refine ⟨(c, i2, k + 1), ?_, ?_, ?_⟩
        ·have em := dd_skip fnd0 (l := l) (k := i + k) (by omega) heq
         exact ⟨hc, by omega, by omega, by rw [← Nat.add_assoc, em]; exact htk, by rw [← Nat.add_assoc, em]; exact hi2, by omega, fun j hj => hrest j (by omega)⟩
        ·refine em [] trivial ⟨⟨rfl, _, rfl, cvt⟩, ⟨rfl, _, rfl, cvt⟩, ⟨rfl, _, rfl, cvt⟩, ⟨rfl, _, rfl, cvt⟩, trivial⟩ ⟨obs rfl, trivial⟩
        ·(try simp only []); first | omega | grind
      ·have hkl : i + k = l.length := by simp at h9; omega
       rw [hkl] at htk hi2 hi2k
       refine xt (sq (rgs [] rfl ?_ ?_))
       ·simp [holdsC, under, slOk, slB, capEq]; omega
       refine sq (rgs [] rfl ?_ ?_)
       ·simp [holdsC, under, slOk, slB, capEq]; omega
       refine WP.ret ?_
       change Fin ..
       refine fin_mk hT [] (ts := [(2, .own (.b 0) l.length 0 (dd fnd0 l l.length).length none)]) trivial ⟨⟨rfl, _, rfl, conv_eq ?_⟩, trivial⟩ ⟨⟨fun _ _ => ok_dd (enc := encF) (d := fnd0) (fun _ => okIds_F _ _) rfl _, .inl ⟨_, rfl, _, _, rfl, Nat.le_refl _, Nat.zero_le _, Nat.zero_le _, fun q hq => conv_eq ?_⟩⟩, trivial⟩ rfl rfl rfl
       · rw [← hi2]; rfl
       · simp only [Nat.zero_add]
         exact cells_dd fnd0 (enc := encF) (z := (T 86).zero) htk hi2 (by omega) q hq
    ·have hne : l.getD i fnd0 ≠ l.getD (i - 1) fnd0 := by
       have e : (l.getD i fnd0 == l.getD (IntKind.i64.wrap ((i : Int) - 1)).toNat fnd0) = false := (eqF_v _ _).trans h6
       rw [e1] at e; simpa using e
     refine sk (rg [] rfl ?_)
     refine ⟨i + 1, ?_, ?_, ?_⟩
     ·refine ⟨by omega, hil, fun j h0 hj => ?_⟩
      rcases Nat.lt_or_ge j i with h | h
      · exact hn j h0 h
      · obtain rfl : j = i := by omega
        exact hne
     ·refine em [] trivial ⟨⟨rfl, _, rfl, cvt⟩, ⟨rfl, _, rfl, cvt⟩, trivial⟩ ⟨obs rfl, trivial⟩
     ·(try simp only []); first | omega | grind
   ·refine xt (sq (rg [] rfl ?_))
    refine WP.ret ?_
    change Fin ..
    have hil : i = l.length := by simp at h4; omega
    subst hil
    have e : dd fnd0 l l.length = l := same_len fnd0 hn
    rw [e]
    exact fin_mk hT [] (ts := [(2, .own (.b 0) l.length 0 l.length none)]) trivial ⟨⟨rfl, _, rfl, conv_eq rfl⟩, trivial⟩ ⟨⟨fun _ _ => ok_dd (enc := encF) (d := fnd0) (fun _ => okIds_F _ _) rfl _, .inl ⟨_, rfl, _, _, rfl, Nat.le_refl _, Nat.zero_le _, Nat.zero_le _, fun q hq => conv_eq (blt_bif (show q < l.length from hq) _ _).symm⟩⟩, trivial⟩ rfl rfl rfl
end Go.Ab


/- race.Races. -/
set_option autoImplicit false
set_option maxRecDepth 20000
set_option maxHeartbeats 4000000
set_option linter.unusedSimpArgs false
set_option linter.unusedVariables false
namespace Go.Ab
open Go.Proofs Go.Sort
theorem bothTo_mem {x y : List Int} {u : Int} : ∀ {k : Nat}, u ∈ bothTo x y k → 0 ≤ u ∧ u < k
  | 0, h => by cases h
  | k + 1, h => by
    rw [bothTo] at h
    rcases List.mem_append.1 h with h | h
    · have := bothTo_mem h; omega
    · split at h
      · simp at h; omega
      · cases h
theorem both_mem {p : PProg} {a b : Evt} {u : Int} (h : u ∈ bothF p a b) : 0 ≤ u ∧ u < 8 := by
  have := bothTo_mem h; omega
theorem both_len (p : PProg) (a b : Evt) : (bothF p a b).length ≤ 8 := bothTo_len _ _ 8
/-- A race's places in order. -/
def swapB (a b : Evt) : Bool := decide (cmp2 (a.a, a.b) (b.a, b.b) > 0)
def loF (a b : Evt) : Pr := if swapB a b = true then (b.a, b.b) else (a.a, a.b)
def hiF (a b : Evt) : Pr := if swapB a b = true then (a.a, a.b) else (b.a, b.b)
def fndI (a b : Evt) (v : Int) : Fnd := ⟨(loF a b).1, (loF a b).2, (hiF a b).1, (hiF a b).2, ⟨v.toNat % 8, Nat.mod_lt _ (by decide)⟩⟩
def rowFs (p : PProg) (t : List Evt) (x : Pr) : List Fnd := (bothF p (eAt t x.1.toNat) (eAt t x.2.toNat)).map (fndI (eAt t x.1.toNat) (eAt t x.2.toNat))
def outTo (p : PProg) (t : List Evt) (L : List Pr) (i : Nat) : List Fnd := (L.take i).flatMap (rowFs p t)
theorem outTo_len (p : PProg) (t : List Evt) (L : List Pr) : ∀ i, (outTo p t L i).length ≤ 8 * i
  | 0 => by simp [outTo]
  | i + 1 => by
    have h := outTo_len p t L i
    unfold outTo at h ⊢
    rw [List.take_add_one, List.flatMap_append, List.length_append]
    cases hx : L[i]? with
    | none => rw [show (Option.toList (none : Option Pr)).flatMap (rowFs p t) = [] from rfl]; simp only [List.length_nil]; omega
    | some x =>
      have h8 : (rowFs p t x).length ≤ 8 := by rw [rowFs, List.length_map]; exact both_len _ _ _
      rw [show (Option.toList (some x)).flatMap (rowFs p t) = rowFs p t x by simp]
      omega
theorem outTo_succ {p : PProg} {t : List Evt} {L : List Pr} {i : Nat} (h : i < L.length) : outTo p t L (i + 1) = outTo p t L i ++ rowFs p t (pAt L i) := by
  unfold outTo
  rw [take_snoc h, List.flatMap_append]
  simp
theorem pairsF_le (t : List Evt) (W : Int → Int → Bool) : (pairsF t W).length ≤ 65536 := by
  unfold pairsF
  split
  · rename_i h
    have h256 := (chk_right h).1
    refine Nat.le_trans (List.length_filter_le _ _) ?_
    unfold edgesL sortP
    rw [sortBy_len swo2]
    have := edgesTo_len t t.length h256
    omega
  · exact Nat.zero_le _
theorem dataL_in {p : PProg} {t : List Evt} {x : Pr} (h : x ∈ dataL p t) : ∃ a b : Nat, x = ((a : Int), (b : Int)) ∧ a < b ∧ b < t.length := by
  unfold dataL at h
  split at h
  · unfold pairsF at h
    split at h
    · exact edgesL_in (List.mem_filter.1 h).1
    · cases h
  · cases h
def racesFs (p : PProg) (t : List Evt) : List Fnd := dd fnd0 (sortFs (outTo p t (dataL p t) (dataL p t).length)) (sortFs (outTo p t (dataL p t) (dataL p t).length)).length
def fnds (f : Bool) (l : List Fnd) : AV := .row 86 f l.length (fun i => encF (l.getD i fnd0))
theorem enc_fnd (x y : Evt) (u : Int) (hu : 0 ≤ u ∧ u < 8) : (AV.agg 86 5 fun q => bif Nat.beq q 3 then .int u else bif Nat.beq q 2 then spotA (hiF x y).1 (hiF x y).2 else bif Nat.beq q 1 then spotA (loF x y).1 (loF x y).2 else bif Nat.beq q 0 then .int 5 else [AV.int 0, spotA 0 0, spotA 0 0, .int 0, .int 0].getD q .bad) = encF (fndI x y u) := agg_ext (fun q => by
  match q with
  | 0 | 1 | 2 | 4 | q + 5 => rfl
  | 3 =>
    show AV.int u = AV.int ((u.toNat % 8 : Nat) : Int)
    rw [Nat.mod_eq_of_lt (by omega)]
    congr 2
    omega)
theorem racesF_ac (g : Bool) (p : PProg) (t : List Evt) : AC Tryz.prog T tysN 10 [encProg p, evts g t] [] (.tup [fnds false (racesFs p t), .int (fitF p t)]) [] := by
 refine AC_intro hT Tryz.func10 rfl rfl (Nat.le_of_ble_eq_true rfl) ?_
 obtain ⟨L, hL⟩ : ∃ L, L = dataL p t := ⟨_, rfl⟩
 have hlen : L.length ≤ 65536 := by
   rw [hL, dataL]; split
   · exact pairsF_le _ _
   · exact Nat.zero_le _
 have hin : ∀ i, i < L.length → ∃ a b : Nat, pAt L i = ((a : Int), (b : Int)) ∧ a < t.length ∧ b < t.length := fun i hi => by
   have hm : pAt L i ∈ L := by simp [pAt, List.getD_eq_getElem?_getD, hi]
   rw [hL] at hm
   obtain ⟨a, b, e, h1, h2⟩ := dataL_in hm
   rw [← hL] at e
   exact ⟨a, b, e, by omega, h2⟩
 refine sq (rg [] rfl ?_)
 refine sq (rgs [CG.pure (.tup [prs false L, .int (fitF p t)])] rfl ?_ ?_)
 ·have hd := data_ac g p t
  rw [← hL] at hd
  simp [holdsC, under, CG.pure]
  exact hd
 refine sq (sq (rg [] rfl ?_))
 refine cd rfl (fun h2 => ?_) (fun h2 => ?_)
 ·have hbad : fitF p t ≠ 0 := by simpa using h2
  have e0 : racesFs p t = [] := by
    have : dataL p t = [] := by rw [dataL, if_neg hbad]
    rw [racesFs, this, show outTo p t [] [].length = [] from rfl, show sortFs [] = [] from List.eq_nil_of_length_eq_zero (sortBy_len swoF [])]; rfl
  refine sq (rg [] rfl ?_)
  refine WP.ret ?_
  change Fin ..
  rw [e0]
  refine fin_mk hT [] (ts := [(4, fnds false []), (5, .int (fitF p t))]) (l := [fnds false [], .int (fitF p t)]) trivial ⟨⟨rfl, _, rfl, conv_nil_row (by decide)⟩, ⟨rfl, _, rfl, conv_eq rfl⟩, trivial⟩ trivial rfl rfl rfl
 ·have hz : fitF p t = 0 := by simpa using h2
  have hv := fit_vars hz
  refine sk (sq (rg [] rfl ?_))
  refine sq (sq (rg [] rfl ?_))
  refine bk ?_
  refine WP.loop (α := Nat) (fun i => mkSt [(1, evts g t), (2, .rp 26 (encProg p)), (8, .own (.s 71 0) (outTo p t L i).length 0 (outTo p t L i).length none), (24, prs false L), (25, .int L.length), (26, .int i)] [(.s 71 0, cellsF (outTo p t L i))]) (fun i => i ≤ L.length) (fun i => L.length - i) ?_ ?_
  ·refine ⟨0, ?_, ?_⟩
   ·exact Nat.zero_le _
   ·refine em [(.s 2 0, 1)] ⟨⟨_, rfl, Nat.le_refl _⟩, trivial⟩ ⟨⟨rfl, _, rfl, cvt⟩, ⟨rfl, _, rfl, conv_rpe rfl rfl (by decide) rfl rfl rfl⟩, ⟨rfl, _, rfl, conv_nil_own⟩, ⟨rfl, _, rfl, cvt⟩, ⟨rfl, _, rfl, cvt⟩, ⟨rfl, _, rfl, cvt⟩, trivial⟩ ⟨⟨fun _ _ => rfl, .inr ⟨rfl, 86, _, rfl, by decide⟩⟩, trivial⟩
  ·rintro i hi
   refine sq (rg [] rfl ?_)
   refine sq ?_
   refine cd rfl (fun h6 => ?_) (fun h6 => ?_)
   ·have hil : i < L.length := by simpa using h6
    obtain ⟨a, b, hab, ha, hb⟩ := hin i hil
    have hol := outTo_len p t L i
    obtain ⟨x, hx⟩ : ∃ x, x = eAt t a := ⟨_, rfl⟩
    obtain ⟨y, hy⟩ : ∃ y, y = eAt t b := ⟨_, rfl⟩
    have hea : eAt t (pAt L i).1.toNat = x := by rw [hab, hx]; rfl
    have heb : eAt t (pAt L i).2.toNat = y := by rw [hab, hy]; rfl
    have hrl : rowFs p t (pAt L i) = (bothF p x y).map (fndI x y) := by rw [rowFs, hea, heb]
    refine sk (sq (bk (sq (rg [] rfl ?_))))
    refine sq (drs [CG.pure (spotA x.a x.b), CG.pure (spotA y.a y.b)] rfl ?_ ?_)
    ·have hsx := spot_ac x
     have hsy := spot_ac y
     have hab2 := hab
     simp only [pAt, List.getD_eq_getElem?_getD] at hab2
     simp [holdsC, under, CG.pure, hab2]
     subst hx hy
     exact ⟨⟨⟨ha, hsx⟩, hb⟩, hsy⟩
    refine WP.seqJ (α := Unit) (fun _ => mkSt [(1, evts g t), (2, .rp 26 (encProg p)), (8, .own (.s 71 0) (outTo p t L i).length 0 (outTo p t L i).length none), (10, .rp 75 (enc2 (pAt L i))), (11, .rp 82 (spotA (loF x y).1 (loF x y).2)), (12, .rp 82 (spotA (hiF x y).1 (hiF x y).2)), (24, prs false L), (25, .int L.length), (26, .int i)] [(.s 71 0, cellsF (outTo p t L i))]) (fun _ => True) ?_ ?_
    ·refine sq (rgs [CG.pure (.int (cmp2 (x.a, x.b) (y.a, y.b)))] rfl ?_ ?_)
     ·have hs := spots_ac x.a x.b y.a y.b
      exact ⟨⟨rfl, rfl⟩, hs⟩
     refine cd rfl (fun h9 => ?_) (fun h9 => ?_)
     ·refine rg [] rfl ?_
      have hsw : swapB x y = true := h9
      refine ⟨(), ?_, ?_⟩
      ·trivial
      ·refine em [(.s 10 0, 1), (.s 11 0, 1), (.s 12 0, 1)] ⟨⟨_, rfl, Nat.le_refl _⟩, ⟨_, rfl, Nat.le_refl _⟩, ⟨_, rfl, Nat.le_refl _⟩, trivial⟩ ⟨⟨rfl, _, rfl, cvt⟩, ⟨rfl, _, rfl, cvt⟩, ⟨rfl, _, rfl, cvt⟩, ⟨rfl, _, rfl, conv_rpe rfl rfl (by decide) rfl rfl (noIds_2 _)⟩, ⟨rfl, _, rfl, conv_rpe rfl rfl (by decide) rfl (by rw [loF, if_pos hsw]; rfl) rfl⟩, ⟨rfl, _, rfl, conv_rpe rfl rfl (by decide) rfl (by rw [hiF, if_pos hsw]; rfl) rfl⟩, ⟨rfl, _, rfl, cvt⟩, ⟨rfl, _, rfl, cvt⟩, ⟨rfl, _, rfl, cvt⟩, trivial⟩ ⟨obs rfl, trivial⟩
     ·refine sk ?_
      have hsw : swapB x y = false := h9
      refine ⟨(), ?_, ?_⟩
      ·trivial
      ·refine em [(.s 10 0, 1), (.s 11 0, 1), (.s 12 0, 1)] ⟨⟨_, rfl, Nat.le_refl _⟩, ⟨_, rfl, Nat.le_refl _⟩, ⟨_, rfl, Nat.le_refl _⟩, trivial⟩ ⟨⟨rfl, _, rfl, cvt⟩, ⟨rfl, _, rfl, cvt⟩, ⟨rfl, _, rfl, cvt⟩, ⟨rfl, _, rfl, conv_rpe rfl rfl (by decide) rfl rfl (noIds_2 _)⟩, ⟨rfl, _, rfl, conv_rpe rfl rfl (by decide) rfl (by rw [loF, if_neg (by rw [hsw]; decide)]; rfl) rfl⟩, ⟨rfl, _, rfl, conv_rpe rfl rfl (by decide) rfl (by rw [hiF, if_neg (by rw [hsw]; decide)]; rfl) rfl⟩, ⟨rfl, _, rfl, cvt⟩, ⟨rfl, _, rfl, cvt⟩, ⟨rfl, _, rfl, cvt⟩, trivial⟩ ⟨obs rfl, trivial⟩
    ·rintro _ h_inv
     refine sq (drs [CG.pure (ints false (bothF p x y))] rfl ?_ ?_)
     ·have hc := both_ac p x y (by rw [hx]; exact chk_evt hv.2 ha) (by rw [hy]; exact chk_evt hv.2 hb) hv.1
      have hab2 := hab
      simp only [pAt, List.getD_eq_getElem?_getD] at hab2
      simp [holdsC, under, CG.pure, hab2]
      subst hx hy
      exact ⟨⟨ha, hb⟩, hc⟩
     refine bk ?_
     refine WP.loop (α := Nat) (fun k => mkSt [(1, evts g t), (2, .rp 26 (encProg p)), (8, .own (.s 71 0) (outTo p t L i ++ (rowFs p t (pAt L i)).take k).length 0 (outTo p t L i ++ (rowFs p t (pAt L i)).take k).length none), (11, .rp 82 (spotA (loF x y).1 (loF x y).2)), (12, .rp 82 (spotA (hiF x y).1 (hiF x y).2)), (24, prs false L), (25, .int L.length), (26, .int i), (59, ints false (bothF p x y)), (60, .int (bothF p x y).length), (61, .int k)] [(.s 71 0, cellsF (outTo p t L i ++ (rowFs p t (pAt L i)).take k))]) (fun k => k ≤ (bothF p x y).length) (fun k => (bothF p x y).length - k) ?_ ?_
     ·refine ⟨0, ?_, ?_⟩
      ·exact Nat.zero_le _
      ·refine em [] trivial ⟨⟨rfl, _, rfl, cvt⟩, ⟨rfl, _, rfl, cvt⟩, ⟨rfl, _, rfl, conv_eq (by simp)⟩, ⟨rfl, _, rfl, cvt⟩, ⟨rfl, _, rfl, cvt⟩, ⟨rfl, _, rfl, cvt⟩, ⟨rfl, _, rfl, cvt⟩, ⟨rfl, _, rfl, cvt⟩, ⟨rfl, _, rfl, cvt⟩, ⟨rfl, _, rfl, cvt⟩, ⟨rfl, _, rfl, cvt⟩, trivial⟩ ⟨ob_list (fun _ => okIds_F _ _) rfl rfl (by simp) rfl rfl (fun q hq => by simp), trivial⟩
     ·rintro k hk
      refine sq (rg [] rfl ?_)
      refine sq ?_
      refine cd rfl (fun h12 => ?_) (fun h12 => ?_)
      ·have hkl : k < (bothF p x y).length := by simpa using h12
       have hb8 := both_len p x y
       have hsn : outTo p t L i ++ (rowFs p t (pAt L i)).take (k + 1) = (outTo p t L i ++ (rowFs p t (pAt L i)).take k) ++ [fndI x y ((bothF p x y).getD k 0)] := by
         rw [List.take_add_one, List.append_assoc]
         congr 2
         rw [hrl]
         simp [hkl]
       have hmem := both_mem (p := p) (a := x) (b := y) (u := (bothF p x y).getD k 0) (by simp [List.getD_eq_getElem?_getD, hkl])
       have htk : ((rowFs p t (pAt L i)).take k).length ≤ k := by simp; omega
       refine sk (sq (bk (sq (rg [] rfl ?_))))
       refine rgs [] rfl ?_ ?_
       ·have hbt : (T 86).bytes = 56 := rfl
        simp [holdsC, under, hbt]
        omega
       refine rg [] rfl ?_
       refine ⟨k + 1, ?_, ?_, ?_⟩
       ·exact hkl
       ·refine em [] trivial ⟨⟨rfl, _, rfl, cvt⟩, ⟨rfl, _, rfl, cvt⟩, ⟨rfl, _, rfl, conv_eq (by rw [hsn, len_snoc])⟩, ⟨rfl, _, rfl, cvt⟩, ⟨rfl, _, rfl, cvt⟩, ⟨rfl, _, rfl, cvt⟩, ⟨rfl, _, rfl, cvt⟩, ⟨rfl, _, rfl, cvt⟩, ⟨rfl, _, rfl, cvt⟩, ⟨rfl, _, rfl, cvt⟩, ⟨rfl, _, rfl, cvt⟩, trivial⟩ ⟨ob_list (fun _ => okIds_F _ _) rfl rfl (by rw [hsn, len_snoc]) rfl rfl (by rw [hsn]; exact appL (z := (T 86).zero) rfl (enc_fnd _ _ _ hmem) (fun q hq => rfl)), trivial⟩
       ·(try simp only []); first | omega | grind
      ·have hkl : k = (bothF p x y).length := by simp at h12; omega
       have hend : outTo p t L (i + 1) = outTo p t L i ++ (rowFs p t (pAt L i)).take k := by
         rw [outTo_succ hil, List.take_of_length_le]
         rw [hrl, List.length_map, hkl]; exact Nat.le_refl _
       refine xt (rg [] rfl ?_)
       refine ⟨i + 1, ?_, ?_, ?_⟩
       ·exact hil
       ·refine em [] trivial ⟨⟨rfl, _, rfl, cvt⟩, ⟨rfl, _, rfl, cvt⟩, ⟨rfl, _, rfl, conv_eq (by rw [hend])⟩, ⟨rfl, _, rfl, cvt⟩, ⟨rfl, _, rfl, cvt⟩, ⟨rfl, _, rfl, cvt⟩, trivial⟩ ⟨ob_list (fun _ => okIds_F _ _) rfl rfl (by rw [hend]) rfl rfl (fun q hq => by rw [hend]), trivial⟩
       ·(try simp only []); first | omega | grind
   ·have hil : i = L.length := by simp at h6; omega
    subst hil
    obtain ⟨O, hO⟩ : ∃ O, O = outTo p t L L.length := ⟨_, rfl⟩
    have hol := outTo_len p t L L.length
    rw [← hO] at hol ⊢
    have hsl : (sortFs O).length = O.length := sortBy_len swoF O
    refine xt (sq (rgs [⟨true, [.s 71 0], .tup [], [cellsF (sortFs O)]⟩] rfl ?_ ?_))
    ·have hs := foundSort_ac O (by omega)
     simp [holdsC, under]
     refine ⟨⟨fun _ _ => okIds_F _ _, trivial⟩, ⟨fun _ _ => okIds_F _ _, trivial⟩, ?_⟩
     have e : renO (sig [.s 71 0] 0) (cellsF O) = cellsF O := renO_list (fun a => ren_F _ a)
     rw [e]
     exact hs
    refine sq (rgs [⟨true, [.s 71 0], .own (.b 0) O.length 0 (dd fnd0 (sortFs O) O.length).length none, [.cells ⟨86, O.length, fun j => bif Nat.blt j (dd fnd0 (sortFs O) O.length).length then encF ((dd fnd0 (sortFs O) O.length).getD j fnd0) else (T 86).zero, 0⟩]⟩] rfl ?_ ?_)
    ·have hc := compactF_ac (sortFs O)
     rw [hsl] at hc
     simp [holdsC, under]
     refine ⟨⟨fun _ _ => okIds_F _ _, trivial⟩, ⟨fun _ _ => ok_dd (enc := encF) (d := fnd0) (fun _ => okIds_F _ _) rfl _, trivial⟩, ?_⟩
     have e : ∀ σ, renO σ (cellsF (sortFs O)) = cellsF (sortFs O) := fun σ => renO_list (fun a => ren_F σ a)
     rw [e, e]
     exact hc
    refine WP.ret ?_
    change Fin ..
    have er : racesFs p t = dd fnd0 (sortFs O) O.length := by rw [racesFs, ← hL, ← hO, hsl]
    have hdl := dd_len fnd0 (sortFs O) O.length
    rw [er, hz]
    refine fin_mk hT [(.s 71 0, O.length)] (ts := [(4, fnds false (dd fnd0 (sortFs O) O.length)), (5, .int 0)]) (l := [fnds false (dd fnd0 (sortFs O) O.length), .int 0]) ⟨⟨_, rfl, Nat.le_refl _⟩, trivial⟩ ⟨⟨rfl, _, rfl, ?_⟩, ⟨rfl, _, rfl, conv_eq rfl⟩, trivial⟩ trivial rfl rfl rfl
    refine conv_row rfl rfl rfl (fun h => by cases h) (by simp [lookF, idbeq_self]; omega) (fun q hq => ?_)
    rw [Nat.zero_add]
    have e2 := (congrArg (ren (tau ([.s 71 0] ++ sites 77 1 0))) (blt_bif hq (encF ((dd fnd0 (sortFs O) O.length).getD q fnd0)) (T 86).zero)).trans (ren_F _ _)
    exact ⟨(congrArg noIds e2).trans rfl, .of_eq e2⟩
end Go.Ab


/- slices.DeleteFunc, slices.IndexFunc, slices.Clone at accesses, at ints. -/
set_option autoImplicit false
set_option maxRecDepth 20000
set_option maxHeartbeats 4000000
set_option linter.unusedSimpArgs false
set_option linter.unusedVariables false
namespace Go.Ab
open Go.Proofs
theorem fst_no {α : Type} {p : α → Bool} {l : List α} (e : firstG p l = -1) : l.any p = false := by
  unfold firstG at e
  split at e
  · rename_i h; exfalso; omega
  · rename_i h; simpa using h
theorem ren_tch (σ : Id → Id) (c : Tch) : ren σ (encTch c) = encTch c := agg_ext (fun q => by match q with | 0 | 1 | 2 | q + 3 => rfl)
theorem zeroT : (T 70).zero = encTch tch0 := agg_ext (fun q => by match q with | 0 | 1 | 2 | q + 3 => rfl)
theorem idxT_ac (g : Bool) (l : List Tch) (f : FuncId) (ta : Nat) (xa : AV) (p : Tch → Bool) (hp : ∀ x ∈ l, AC Tryz.prog T tysN f (encTch x :: [.rp ta xa]) [] (.bool (p x)) []) : AC Tryz.prog T tysN 101 [.row 70 g l.length (fun i => encTch (l.getD i tch0)), .clo f [.rp ta xa]] [] (.int (firstG p l)) [] := by
 refine AC_intro hT Tryz.func101 rfl rfl (Nat.le_of_ble_eq_true rfl) ?_
 refine WP.rowlen 0 rfl (fun hl => ?_)
 refine sq (rg [] rfl ?_)
 refine sq (sq (rg [] rfl ?_))
 refine bk ?_
 refine WP.loop (α := Nat) (fun i => mkSt [(0, .row 70 g l.length (fun i => encTch (l.getD i tch0))), (1, .clo f [.rp ta xa]), (7, .int l.length), (8, .int i)] []) (fun i => i ≤ l.length ∧ ∀ j, j < i → p ((l.getD j tch0)) = false) (fun i => l.length - i) ?_ ?_
 ·refine ⟨0, ?_, ?_⟩
  ·exact ⟨Nat.zero_le _, fun j hj => by omega⟩
  ·refine em [] trivial ⟨⟨rfl, _, rfl, cvt⟩, ⟨rfl, _, rfl, cvt⟩, ⟨rfl, _, rfl, cvt⟩, ⟨rfl, _, rfl, cvt⟩, trivial⟩ trivial
 ·rintro i ⟨hi, hn⟩
  refine sq (rg [] rfl ?_)
  refine sq ?_
  refine cd rfl (fun h2 => ?_) (fun h2 => ?_)
  ·have hil : i < l.length := by simpa using h2
   refine sk (sq (bk (sq (rg [] rfl ?_))))
   refine sq (rgs [CG.pure (.bool (p ((l.getD i tch0))))] rfl ?_ ?_)
   ·exact ⟨⟨by omega, by omega⟩, hp _ (by simp [List.getD_eq_getElem?_getD, hil])⟩
   refine cd rfl (fun h4 => ?_) (fun h4 => ?_)
   ·have hx : p ((l.getD i tch0)) = true := h4
    refine sq (rg [] rfl ?_)
    refine WP.ret ?_
    change Fin ..
    exact finI hT rfl (firstG_at hil hx hn)
   ·have hx : p ((l.getD i tch0)) = false := h4
    refine sk (rg [] rfl ?_)
    refine ⟨i + 1, ?_, ?_, ?_⟩
    ·refine ⟨hil, fun j hj => ?_⟩
     rcases Nat.lt_or_ge j i with h | h
     · exact hn j h
     · obtain rfl : j = i := by omega
       exact hx
    ·refine em [] trivial ⟨⟨rfl, _, rfl, cvt⟩, ⟨rfl, _, rfl, cvt⟩, ⟨rfl, _, rfl, cvt⟩, ⟨rfl, _, rfl, cvt⟩, trivial⟩ trivial
    ·(try simp only []); first | omega | grind
  ·have hil : i = l.length := by simp at h2; omega
   subst hil
   refine xt (sq (rg [] rfl ?_))
   refine WP.ret ?_
   change Fin ..
   exact finI hT rfl (by simp [firstG, anyG_no hn])
theorem delT_ac (l : List Tch) (f : FuncId) (ta : Nat) (xa : AV) (p : Tch → Bool) (hp : ∀ x ∈ l, AC Tryz.prog T tysN f (encTch x :: [.rp ta xa]) [] (.bool (p x)) []) : AC Tryz.prog T tysN 55 [.own (.b 0) l.length 0 l.length none, .clo f [.rp ta xa]] [cellsL 70 encTch tch0 l] (.own (.b 0) l.length 0 (keepG p l).length none) [.cells ⟨70, l.length, fun q => encTch (((keepG p l).getD q tch0)), 0⟩] := by
 refine AC_intro hT Tryz.func55 rfl rfl (Nat.le_of_ble_eq_true rfl) ?_
 refine WP.ownlen 0 rfl rfl rfl (fun hl => ?_)
 refine sq (rg [] rfl ?_)
 refine sq (rgs [CG.pure (.int (firstG p l))] rfl ?_ ?_)
 ·have ha := idxT_ac false l f ta xa p hp
  simp [holdsC, under, CG.pure, slOk, slB, capEq]
  exact ⟨fun _ _ => rfl, ha⟩
 refine sq (sq (rg [] rfl ?_))
 refine cd rfl (fun h2 => ?_) (fun h2 => ?_)
 ·have hn : l.any p = false := by
    have e : firstG p l = -1 := by simpa using h2
    unfold firstG at e
    split at e
    · rename_i h; exfalso; omega
    · rename_i h; simpa using h
  refine sq (rg [] rfl ?_)
  refine WP.ret ?_
  change Fin ..
  rw [firstG_none hn]
  refine fin_mk hT [] (ts := [(4, .own (.b 0) l.length 0 l.length none)]) (l := [.own (.b 0) l.length 0 l.length none]) trivial ⟨⟨rfl, _, rfl, conv_eq rfl⟩, trivial⟩ ⟨⟨fun _ _ => rfl, .inl ⟨_, rfl, _, _, rfl, Nat.le_refl _, Nat.zero_le _, Nat.zero_le _, fun q hq => conv_eq rfl⟩⟩, trivial⟩ rfl rfl rfl
 ·have hy : l.any p = true := by
    cases h : l.any p with
    | true => rfl
    | false => exfalso; simp [firstG, h] at h2
  have hf : firstG p l = (l.findIdx p : Int) := by simp [firstG, hy]
  obtain ⟨hf1, hf2⟩ := firstG_keep hy
  refine sk (sq (sq (rg [] rfl ?_)))
  refine bk ?_
  refine WP.loop (α := Nat) (fun j => mkSt [(0, .own (.b 0) l.length 0 l.length none), (1, .clo f [.rp ta xa]), (5, .int (keepG p (l.take j)).length), (6, .int j)] [(.b 0, .cells ⟨70, l.length, fun q => encTch (dlG tch0 p l j q), 0⟩)]) (fun j => j ≤ l.length ∧ (keepG p (l.take j)).length < j) (fun j => l.length - j) ?_ ?_
  ·refine ⟨l.findIdx p + 1, ?_, ?_⟩
   ·refine ⟨hf1, ?_⟩
    rw [hf2, List.length_take]; omega
   ·refine em [] trivial ⟨⟨rfl, _, rfl, cvt⟩, ⟨rfl, _, rfl, cvt⟩, ⟨rfl, _, rfl, conv_eq (by rw [hf, hf2, List.length_take]; congr 2; omega)⟩, ⟨rfl, _, rfl, conv_eq (by rw [hf, wrap_id (by omega) (by omega)]; rfl)⟩, trivial⟩ ⟨⟨fun _ _ => rfl, .inl ⟨_, rfl, _, _, rfl, Nat.le_refl _, Nat.zero_le _, Nat.zero_le _, fun q hq => conv_eq (by rw [dlG_first hy])⟩⟩, trivial⟩
  ·rintro j ⟨hj, hkj⟩
   refine sq (sq (rg [] rfl ?_))
   refine cd rfl (fun h5 => ?_) (fun h5 => ?_)
   ·have hjl : j < l.length := by simpa using h5
    refine sk (sq (bk (sq (rgs [] rfl ?_ ?_))))
    ·simp [holdsC, under]; omega
    refine sq (rgs [CG.pure (.bool (p ((l.getD j tch0))))] rfl ?_ ?_)
    ·have hd := hp ((l.getD j tch0)) (by simp [List.getD_eq_getElem?_getD, hjl])
     refine ⟨rfl, ?_⟩
     show AC Tryz.prog T tysN f (encTch (dlG tch0 p l j j) :: [.rp ta xa]) [] (.bool (p ((l.getD j tch0)))) []
     rw [dlG_at]; exact hd
    refine cd rfl (fun h8 => ?_) (fun h8 => ?_)
    ·have hpx : p ((l.getD j tch0)) = false := by simpa using h8
     refine sq (rgs [] rfl ?_ ?_)
     ·simp [holdsC, under]; omega
     refine rg [] rfl ?_
     refine rg [] rfl ?_
     refine ⟨j + 1, ?_, ?_, ?_⟩
     ·rw [keepG_snoc_yes hjl hpx, List.length_append, List.length_singleton]; exact ⟨hjl, by omega⟩
     ·refine em [] trivial ⟨⟨rfl, _, rfl, cvt⟩, ⟨rfl, _, rfl, cvt⟩, ⟨rfl, _, rfl, conv_eq (by rw [wrap_id (by omega) (by omega), keepG_snoc_yes hjl hpx, List.length_append, List.length_singleton]; rfl)⟩, ⟨rfl, _, rfl, cvt⟩, trivial⟩ ⟨⟨fun _ _ => rfl, .inl ⟨_, rfl, _, _, rfl, Nat.le_refl _, Nat.zero_le _, Nat.zero_le _, fun q hq => conv_eq (by rw [dlG_yes hjl hpx]; exact dlG_put (enc := encTch) (d := tch0) _)⟩⟩, trivial⟩
     ·(try simp only []); first | omega | grind
    ·have hpx : p ((l.getD j tch0)) = true := by simpa using h8
     refine sk (rg [] rfl ?_)
     refine ⟨j + 1, ?_, ?_, ?_⟩
     ·rw [keepG_snoc_no hjl hpx]; exact ⟨hjl, by omega⟩
     ·refine em [] trivial ⟨⟨rfl, _, rfl, cvt⟩, ⟨rfl, _, rfl, cvt⟩, ⟨rfl, _, rfl, conv_eq (by rw [keepG_snoc_no hjl hpx])⟩, ⟨rfl, _, rfl, cvt⟩, trivial⟩ ⟨⟨fun _ _ => rfl, .inl ⟨_, rfl, _, _, rfl, Nat.le_refl _, Nat.zero_le _, Nat.zero_le _, fun q hq => conv_eq (by rw [dlG_no hjl hpx])⟩⟩, trivial⟩
     ·(try simp only []); first | omega | grind
   ·have hjl : j = l.length := by simp at h5; omega
    subst hjl
    refine xt (sq (rgs [] rfl ?_ ?_))
    ·have hk2 : (keepG p l).length < l.length := by rw [List.take_length] at hkj; exact hkj
     simp [holdsC, under, slOk, slB]; omega
    refine sq (rgs [] rfl ?_ ?_)
    ·have hk2 : (keepG p l).length < l.length := by rw [List.take_length] at hkj; exact hkj
     simp [holdsC, under, slOk, slB]; omega
    refine WP.ret ?_
    change Fin ..
    refine fin_mk hT [] (ts := [(4, .own (.b 0) l.length 0 (keepG p l).length none)]) (l := [.own (.b 0) l.length 0 (keepG p l).length none]) trivial ⟨⟨rfl, _, rfl, conv_eq (by rw [List.take_length]; simp; done)⟩, trivial⟩ ⟨⟨fun _ _ => rfl, .inl ⟨_, rfl, _, _, rfl, Nat.le_refl _, Nat.zero_le _, Nat.zero_le _, fun q hq => conv_eq (Eq.trans rfl (dlG_clear (enc := encTch) (d := tch0) zeroT (keepG p (l.take l.length)).length (by rw [List.take_length]) q hq))⟩⟩, trivial⟩ rfl rfl rfl
theorem clonewT_ac (f : Bool) (l : List Tch) (n : Nat) (h1 : n + 1 < 4294967296) : AC Tryz.prog T tysN 56 [.row 70 f (n + 1) (fun i => encTch (l.getD i tch0))] [] (.own (.b 0) (n + 1) 0 (n + 1) none) [.cells ⟨70, n + 1, fun i => encTch (l.getD i tch0), 0⟩] := by
 refine AC_intro hT Tryz.func56 rfl rfl (Nat.le_of_ble_eq_true rfl) ?_
 refine sq (rg [] rfl ?_)
 refine sq (sq (rg [] rfl ?_))
 refine cd rfl (fun h1 => ?_) (fun h1 => ?_)
 ·cases h1
 ·refine sk (sq (rgs [] rfl ?_ ?_))
  ·have hbt : (T 70).bytes = 24 := rfl
   simp [holdsC, under, hbt]
   omega
  refine WP.ret ?_
  change Fin ..
  refine fin_toB hT [] [.s 7 0] (ts := [(2, .own (.b 0) (n + 1) 0 (n + 1) none)]) (l := [.own (.b 0) (n + 1) 0 (n + 1) none]) trivial rfl ⟨⟨_, .own (.s 7 0) (n + 1) 0 (n + 1) none, rfl, conv_eq (by simp), rfl, rfl⟩, trivial⟩ ⟨.inl ⟨_, .cells ⟨70, n + 1, fun i => encTch (l.getD i tch0), 0⟩, rfl, ⟨fun i => encTch (l.getD i tch0), 0, ?_, Nat.le_refl _, Nat.zero_le _, Nat.zero_le _, fun i hi => conv_eq ?_⟩, fun _ _ => rfl, ?_⟩, trivial⟩ rfl rfl
  · simp
  · exact (joinG_ge (Nat.zero_le _) hi).trans rfl
  · show Ob.cells ⟨70, n + 1, fun i => encTch (l.getD i tch0), 0⟩ = Ob.cells ⟨70, n + 1, fun i => ren _ (encTch (l.getD i tch0)), 0⟩
    simp only [ren_tch]
theorem cloneT_ac (f : Bool) (l : List Tch) (h0 : 0 < l.length) (h1 : l.length < 4294967296) : AC Tryz.prog T tysN 56 [.row 70 f l.length (fun i => encTch (l.getD i tch0))] [] (.own (.b 0) l.length 0 l.length none) [cellsL 70 encTch tch0 l] := by
  obtain ⟨n, hn⟩ : ∃ n, l.length = n + 1 := ⟨l.length - 1, by omega⟩
  have h := clonewT_ac f l n (by omega)
  unfold cellsL
  rw [hn]
  exact h
theorem idxI_ac (g : Bool) (l : List Int) (f : FuncId) (ta : Nat) (xa : AV) (p : Int → Bool) (hp : ∀ x ∈ l, AC Tryz.prog T tysN f ((fun x => AV.int x) x :: [.rp ta xa]) [] (.bool (p x)) []) : AC Tryz.prog T tysN 129 [.row 3 g l.length (fun i => (fun x => AV.int x) (l.getD i 0)), .clo f [.rp ta xa]] [] (.int (firstG p l)) [] := by
 refine AC_intro hT Tryz.func129 rfl rfl (Nat.le_of_ble_eq_true rfl) ?_
 refine WP.rowlen 0 rfl (fun hl => ?_)
 refine sq (rg [] rfl ?_)
 refine sq (sq (rg [] rfl ?_))
 refine bk ?_
 refine WP.loop (α := Nat) (fun i => mkSt [(0, .row 3 g l.length (fun i => (fun x => AV.int x) (l.getD i 0))), (1, .clo f [.rp ta xa]), (7, .int l.length), (8, .int i)] []) (fun i => i ≤ l.length ∧ ∀ j, j < i → p ((l.getD j 0)) = false) (fun i => l.length - i) ?_ ?_
 ·refine ⟨0, ?_, ?_⟩
  ·exact ⟨Nat.zero_le _, fun j hj => by omega⟩
  ·refine em [] trivial ⟨⟨rfl, _, rfl, cvt⟩, ⟨rfl, _, rfl, cvt⟩, ⟨rfl, _, rfl, cvt⟩, ⟨rfl, _, rfl, cvt⟩, trivial⟩ trivial
 ·rintro i ⟨hi, hn⟩
  refine sq (rg [] rfl ?_)
  refine sq ?_
  refine cd rfl (fun h2 => ?_) (fun h2 => ?_)
  ·have hil : i < l.length := by simpa using h2
   refine sk (sq (bk (sq (rg [] rfl ?_))))
   refine sq (rgs [CG.pure (.bool (p ((l.getD i 0))))] rfl ?_ ?_)
   ·exact ⟨⟨by omega, by omega⟩, hp _ (by simp [List.getD_eq_getElem?_getD, hil])⟩
   refine cd rfl (fun h4 => ?_) (fun h4 => ?_)
   ·have hx : p ((l.getD i 0)) = true := h4
    refine sq (rg [] rfl ?_)
    refine WP.ret ?_
    change Fin ..
    exact finI hT rfl (firstG_at hil hx hn)
   ·have hx : p ((l.getD i 0)) = false := h4
    refine sk (rg [] rfl ?_)
    refine ⟨i + 1, ?_, ?_, ?_⟩
    ·refine ⟨hil, fun j hj => ?_⟩
     rcases Nat.lt_or_ge j i with h | h
     · exact hn j h
     · obtain rfl : j = i := by omega
       exact hx
    ·refine em [] trivial ⟨⟨rfl, _, rfl, cvt⟩, ⟨rfl, _, rfl, cvt⟩, ⟨rfl, _, rfl, cvt⟩, ⟨rfl, _, rfl, cvt⟩, trivial⟩ trivial
    ·(try simp only []); first | omega | grind
  ·have hil : i = l.length := by simp at h2; omega
   subst hil
   refine xt (sq (rg [] rfl ?_))
   refine WP.ret ?_
   change Fin ..
   exact finI hT rfl (by simp [firstG, anyG_no hn])
theorem delI_ac (l : List Int) (f : FuncId) (ta : Nat) (xa : AV) (p : Int → Bool) (hp : ∀ x ∈ l, AC Tryz.prog T tysN f ((fun x => AV.int x) x :: [.rp ta xa]) [] (.bool (p x)) []) : AC Tryz.prog T tysN 82 [.own (.b 0) l.length 0 l.length none, .clo f [.rp ta xa]] [cellsL 3 (fun x => AV.int x) 0 l] (.own (.b 0) l.length 0 (keepG p l).length none) [.cells ⟨3, l.length, fun q => (fun x => AV.int x) (((keepG p l).getD q 0)), 0⟩] := by
 refine AC_intro hT Tryz.func82 rfl rfl (Nat.le_of_ble_eq_true rfl) ?_
 refine WP.ownlen 0 rfl rfl rfl (fun hl => ?_)
 refine sq (rg [] rfl ?_)
 refine sq (rgs [CG.pure (.int (firstG p l))] rfl ?_ ?_)
 ·have ha := idxI_ac false l f ta xa p hp
  simp [holdsC, under, CG.pure, slOk, slB, capEq]
  exact ⟨fun _ _ => rfl, ha⟩
 refine sq (sq (rg [] rfl ?_))
 refine cd rfl (fun h2 => ?_) (fun h2 => ?_)
 ·have hn : l.any p = false := by
    have e : firstG p l = -1 := by simpa using h2
    unfold firstG at e
    split at e
    · rename_i h; exfalso; omega
    · rename_i h; simpa using h
  refine sq (rg [] rfl ?_)
  refine WP.ret ?_
  change Fin ..
  rw [firstG_none hn]
  refine fin_mk hT [] (ts := [(4, .own (.b 0) l.length 0 l.length none)]) (l := [.own (.b 0) l.length 0 l.length none]) trivial ⟨⟨rfl, _, rfl, conv_eq rfl⟩, trivial⟩ ⟨⟨fun _ _ => rfl, .inl ⟨_, rfl, _, _, rfl, Nat.le_refl _, Nat.zero_le _, Nat.zero_le _, fun q hq => conv_eq rfl⟩⟩, trivial⟩ rfl rfl rfl
 ·have hy : l.any p = true := by
    cases h : l.any p with
    | true => rfl
    | false => exfalso; simp [firstG, h] at h2
  have hf : firstG p l = (l.findIdx p : Int) := by simp [firstG, hy]
  obtain ⟨hf1, hf2⟩ := firstG_keep hy
  refine sk (sq (sq (rg [] rfl ?_)))
  refine bk ?_
  refine WP.loop (α := Nat) (fun j => mkSt [(0, .own (.b 0) l.length 0 l.length none), (1, .clo f [.rp ta xa]), (5, .int (keepG p (l.take j)).length), (6, .int j)] [(.b 0, .cells ⟨3, l.length, fun q => (fun x => AV.int x) (dlG 0 p l j q), 0⟩)]) (fun j => j ≤ l.length ∧ (keepG p (l.take j)).length < j) (fun j => l.length - j) ?_ ?_
  ·refine ⟨l.findIdx p + 1, ?_, ?_⟩
   ·refine ⟨hf1, ?_⟩
    rw [hf2, List.length_take]; omega
   ·refine em [] trivial ⟨⟨rfl, _, rfl, cvt⟩, ⟨rfl, _, rfl, cvt⟩, ⟨rfl, _, rfl, conv_eq (by rw [hf, hf2, List.length_take]; congr 2; omega)⟩, ⟨rfl, _, rfl, conv_eq (by rw [hf, wrap_id (by omega) (by omega)]; rfl)⟩, trivial⟩ ⟨⟨fun _ _ => rfl, .inl ⟨_, rfl, _, _, rfl, Nat.le_refl _, Nat.zero_le _, Nat.zero_le _, fun q hq => conv_eq (by rw [dlG_first hy])⟩⟩, trivial⟩
  ·rintro j ⟨hj, hkj⟩
   refine sq (sq (rg [] rfl ?_))
   refine cd rfl (fun h5 => ?_) (fun h5 => ?_)
   ·have hjl : j < l.length := by simpa using h5
    refine sk (sq (bk (sq (rgs [] rfl ?_ ?_))))
    ·simp [holdsC, under]; omega
    refine sq (rgs [CG.pure (.bool (p ((l.getD j 0))))] rfl ?_ ?_)
    ·have hd := hp ((l.getD j 0)) (by simp [List.getD_eq_getElem?_getD, hjl])
     skip
     show AC Tryz.prog T tysN f ((fun x => AV.int x) (dlG 0 p l j j) :: [.rp ta xa]) [] (.bool (p ((l.getD j 0)))) []
     rw [dlG_at]; exact hd
    refine cd rfl (fun h8 => ?_) (fun h8 => ?_)
    ·have hpx : p ((l.getD j 0)) = false := by simpa using h8
     refine sq (rgs [] rfl ?_ ?_)
     ·simp [holdsC, under]; omega
     refine rg [] rfl ?_
     refine rg [] rfl ?_
     refine ⟨j + 1, ?_, ?_, ?_⟩
     ·rw [keepG_snoc_yes hjl hpx, List.length_append, List.length_singleton]; exact ⟨hjl, by omega⟩
     ·refine em [] trivial ⟨⟨rfl, _, rfl, cvt⟩, ⟨rfl, _, rfl, cvt⟩, ⟨rfl, _, rfl, conv_eq (by rw [wrap_id (by omega) (by omega), keepG_snoc_yes hjl hpx, List.length_append, List.length_singleton]; rfl)⟩, ⟨rfl, _, rfl, cvt⟩, trivial⟩ ⟨⟨fun _ _ => rfl, .inl ⟨_, rfl, _, _, rfl, Nat.le_refl _, Nat.zero_le _, Nat.zero_le _, fun q hq => conv_eq (by rw [dlG_yes hjl hpx]; exact dlG_put (enc := (fun x => AV.int x)) (d := 0) _)⟩⟩, trivial⟩
     ·(try simp only []); first | omega | grind
    ·have hpx : p ((l.getD j 0)) = true := by simpa using h8
     refine sk (rg [] rfl ?_)
     refine ⟨j + 1, ?_, ?_, ?_⟩
     ·rw [keepG_snoc_no hjl hpx]; exact ⟨hjl, by omega⟩
     ·refine em [] trivial ⟨⟨rfl, _, rfl, cvt⟩, ⟨rfl, _, rfl, cvt⟩, ⟨rfl, _, rfl, conv_eq (by rw [keepG_snoc_no hjl hpx])⟩, ⟨rfl, _, rfl, cvt⟩, trivial⟩ ⟨⟨fun _ _ => rfl, .inl ⟨_, rfl, _, _, rfl, Nat.le_refl _, Nat.zero_le _, Nat.zero_le _, fun q hq => conv_eq (by rw [dlG_no hjl hpx])⟩⟩, trivial⟩
     ·(try simp only []); first | omega | grind
   ·have hjl : j = l.length := by simp at h5; omega
    subst hjl
    refine xt (sq (rgs [] rfl ?_ ?_))
    ·have hk2 : (keepG p l).length < l.length := by rw [List.take_length] at hkj; exact hkj
     simp [holdsC, under, slOk, slB]; omega
    refine sq (rgs [] rfl ?_ ?_)
    ·have hk2 : (keepG p l).length < l.length := by rw [List.take_length] at hkj; exact hkj
     simp [holdsC, under, slOk, slB]; omega
    refine WP.ret ?_
    change Fin ..
    refine fin_mk hT [] (ts := [(4, .own (.b 0) l.length 0 (keepG p l).length none)]) (l := [.own (.b 0) l.length 0 (keepG p l).length none]) trivial ⟨⟨rfl, _, rfl, conv_eq (by rw [List.take_length]; simp; done)⟩, trivial⟩ ⟨⟨fun _ _ => rfl, .inl ⟨_, rfl, _, _, rfl, Nat.le_refl _, Nat.zero_le _, Nat.zero_le _, fun q hq => conv_eq (Eq.trans rfl (dlG_clear (enc := (fun x => AV.int x)) (d := 0) rfl (keepG p (l.take l.length)).length (by rw [List.take_length]) q hq))⟩⟩, trivial⟩ rfl rfl rfl
theorem clonewI_ac (f : Bool) (l : List Int) (n : Nat) (h1 : n + 1 < 4294967296) : AC Tryz.prog T tysN 85 [.row 3 f (n + 1) (fun i => (fun x => AV.int x) (l.getD i 0))] [] (.own (.b 0) (n + 1) 0 (n + 1) none) [.cells ⟨3, n + 1, fun i => (fun x => AV.int x) (l.getD i 0), 0⟩] := by
 refine AC_intro hT Tryz.func85 rfl rfl (Nat.le_of_ble_eq_true rfl) ?_
 refine sq (rg [] rfl ?_)
 refine sq (sq (rg [] rfl ?_))
 refine cd rfl (fun h1 => ?_) (fun h1 => ?_)
 ·cases h1
 ·refine sk (sq (rgs [] rfl ?_ ?_))
  ·have hbt : (T 3).bytes = 8 := rfl
   simp [holdsC, under, hbt]
   omega
  refine WP.ret ?_
  change Fin ..
  refine fin_toB hT [] [.s 7 0] (ts := [(2, .own (.b 0) (n + 1) 0 (n + 1) none)]) (l := [.own (.b 0) (n + 1) 0 (n + 1) none]) trivial rfl ⟨⟨_, .own (.s 7 0) (n + 1) 0 (n + 1) none, rfl, conv_eq (by simp), rfl, rfl⟩, trivial⟩ ⟨.inl ⟨_, .cells ⟨3, n + 1, fun i => (fun x => AV.int x) (l.getD i 0), 0⟩, rfl, ⟨fun i => (fun x => AV.int x) (l.getD i 0), 0, ?_, Nat.le_refl _, Nat.zero_le _, Nat.zero_le _, fun i hi => conv_eq ?_⟩, fun _ _ => rfl, ?_⟩, trivial⟩ rfl rfl
  · simp
  · exact (joinG_ge (Nat.zero_le _) hi).trans rfl
  · show Ob.cells ⟨3, n + 1, fun i => (fun x => AV.int x) (l.getD i 0), 0⟩ = Ob.cells ⟨3, n + 1, fun i => ren _ ((fun x => AV.int x) (l.getD i 0)), 0⟩
    simp only [ren]
theorem cloneI_ac (f : Bool) (l : List Int) (h0 : 0 < l.length) (h1 : l.length < 4294967296) : AC Tryz.prog T tysN 85 [.row 3 f l.length (fun i => (fun x => AV.int x) (l.getD i 0))] [] (.own (.b 0) l.length 0 l.length none) [cellsL 3 (fun x => AV.int x) 0 l] := by
  obtain ⟨n, hn⟩ : ∃ n, l.length = n + 1 := ⟨l.length - 1, by omega⟩
  have h := clonewI_ac f l n (by omega)
  unfold cellsL
  rw [hn]
  exact h
end Go.Ab


/- race.Conflicts. -/
set_option autoImplicit false
set_option maxRecDepth 20000
set_option maxHeartbeats 4000000
set_option linter.unusedSimpArgs false
set_option linter.unusedVariables false
namespace Go.Ab
open Go.Proofs Go.Sort
theorem conv_of_eq {m : Id → Option Ob} {F : Id → Nat} {x x' y : AV} (h : x = x') (c : Conv m F T x' y) : Conv m F T x y := h ▸ c
theorem barew_ac (p : PProg) (a : Tch) (h : 0 ≤ a.num) : AC Tryz.prog T tysN 57 [encTch a, .rp 26 (encProg p)] [] (.bool (plnB p a)) [] := by
 refine AC_intro hT Tryz.func57 rfl rfl (Nat.le_of_ble_eq_true rfl) ?_
 refine sq (rg [] rfl ?_)
 refine sq (rgs [] rfl ?_ ?_)
 ·simp [holdsC, under]
  intro h1 h2
  omega
 refine WP.ret ?_
 change Fin ..
 refine fin1 hT (by rfl) ?_
 simp only [band]
 rw [plnB, Bool.and_assoc]
def bareL (p : PProg) (x : Evt) : List Tch := keepG (plnB p) (touchL x)
def bareE (p : PProg) (x : Evt) : Evt := { x with ts := bareL p x, n := (bareL p x).length }
def bareT (p : PProg) (t : List Evt) : List Evt := t.map (bareE p)
theorem bareL_len (p : PProg) (x : Evt) : (bareL p x).length ≤ 6 := by
  refine Nat.le_trans (List.length_filter_le _ _) ?_
  rw [touchL_len]; exact clampN_le _
theorem bareE_touch (p : PProg) (x : Evt) : touchL (bareE p x) = bareL p x := by
  have h6 := bareL_len p x
  have hc : clampN ((bareL p x).length : Int) = (bareL p x).length := by unfold clampN; split <;> (try split) <;> omega
  refine List.ext_getElem (by rw [touchL_len]; exact hc) (fun i h1 h2 => ?_)
  simp [touchL, bareE, tAt, h2]
theorem eAt_bare {p : PProg} {t : List Evt} {i : Nat} (h : i < t.length) : eAt (bareT p t) i = bareE p (eAt t i) := by
  simp [eAt, bareT, h]
theorem bareT_len (p : PProg) (t : List Evt) : (bareT p t).length = t.length := List.length_map _
theorem bareT_go {p : PProg} {t : List Evt} {i : Nat} (h : i < t.length) : (eAt (bareT p t) i).go = (eAt t i).go := by rw [eAt_bare h]; rfl
theorem bare_ok {p : PProg} {t : List Evt} (h : GoOK t) : GoOK (bareT p t) := by
  refine ⟨by rw [bareT_len]; exact h.1, fun i hi => ?_⟩
  rw [bareT_len] at hi
  rw [bareT_go hi]
  exact h.2 i hi
theorem bare_dep {p : PProg} {t : List Evt} {i j : Nat} (hi : i < t.length) (hj : j < t.length) : depB (eAt (bareT p t) i) (eAt (bareT p t) j) = clashB (bareL p (eAt t i)) (bareL p (eAt t j)) := by
  rw [depB, eAt_bare hi, eAt_bare hj, bareE_touch, bareE_touch]
/-- Do two events conflict, one ahead of the other? -/
def confB (p : PProg) (t : List Evt) (i j : Nat) : Bool :=
  ((eAt t i).go != (eAt t j).go && decide (((bothF p (eAt t i) (eAt t j)).length : Int) > 0)) && decide ((clkOf (bareT p t) i).getD (eAt t i).go.toNat 0 > (clkOf (bareT p t) j).getD (eAt t i).go.toNat 0)
def confAt (p : PProg) (t : List Evt) (j : Nat) : Nat → List Pr
  | 0 => []
  | i + 1 => confAt p t j i ++ (if confB p t i j = true then [((i : Int), (j : Int))] else [])
def confTo (p : PProg) (t : List Evt) : Nat → List Pr
  | 0 => []
  | j + 1 => confTo p t j ++ confAt p t j j
theorem confAt_len (p : PProg) (t : List Evt) (j : Nat) : ∀ i, (confAt p t j i).length ≤ i
  | 0 => Nat.le_refl _
  | i + 1 => by
    have := confAt_len p t j i
    rw [confAt, List.length_append]
    split <;> simp <;> omega
theorem confTo_len (p : PProg) (t : List Evt) : ∀ j, j ≤ 256 → (confTo p t j).length ≤ 256 * j
  | 0, _ => Nat.le_refl _
  | j + 1, h => by
    have h1 := confTo_len p t j (by omega)
    have h2 := confAt_len p t j j
    rw [confTo, List.length_append]
    omega
def barQ (p : PProg) (t : List Evt) (i q : Nat) : List Tch := if q < i then bareL p (eAt t q) else []
def confL (p : PProg) (t : List Evt) : List Pr := if fitF p t = 0 then sortP (confTo p t t.length) else []
theorem right_nums {x : Evt} (h : rightE x = true) : ∀ a ∈ touchL x, 0 ≤ a.num := by
  intro a ha
  simp only [touchL, List.mem_map, List.mem_range] at ha
  obtain ⟨k, hk, rfl⟩ := ha
  have hn := right_n h
  have : (clampN x.n : Int) = x.n := by unfold clampN; split <;> (try split) <;> omega
  exact (right_num h (by omega)).1
theorem conf_ac (g : Bool) (p : PProg) (t : List Evt) : AC Tryz.prog T tysN 19 [encProg p, evts g t] [] (.tup [prs false (confL p t), .int (fitF p t)]) [] := by
 refine AC_intro hT Tryz.func19 rfl rfl (Nat.le_of_ble_eq_true rfl) ?_
 refine sq (rg [] rfl ?_)
 refine sq (sq (rgs [CG.pure (.int (fitF p t))] rfl ?_ ?_))
 ·have ha := rasked_ac g p t
  simp [holdsC, under, CG.pure]
  exact ha
 refine sq (rg [] rfl ?_)
 refine cd rfl (fun h2 => ?_) (fun h2 => ?_)
 ·have hbad : fitF p t ≠ 0 := by simpa using h2
  refine sq (rg [] rfl ?_)
  refine WP.ret ?_
  change Fin ..
  rw [confL, if_neg hbad]
  refine fin_mk hT [] (ts := [(4, prs false []), (5, .int (fitF p t))]) (l := [prs false [], .int (fitF p t)]) trivial ⟨⟨rfl, _, rfl, conv_nil_row (by decide)⟩, ⟨rfl, _, rfl, conv_eq rfl⟩, trivial⟩ trivial rfl rfl rfl
 ·have hz : fitF p t = 0 := by simpa using h2
  have hv := fit_vars hz
  have hok := chk_right hv.2
  have hbok := bare_ok (p := p) hok
  have h256 := hok.1
  refine sk (sq (rgs [] rfl ?_ ?_))
  ·have hbt : (T 97).bytes = 24 := rfl
   simp [holdsC, under, hbt]
   omega
  refine sq (sq (rg [] rfl ?_))
  refine bk ?_
  refine WP.loop (α := Nat) (fun i => mkSt [(1, evts g t), (2, .rp 26 (encProg p)), (7, .own (.s 24 0) t.length 0 t.length none), (25, evts g t), (26, .int t.length), (27, .int i)] [(.s 24 0, .cells ⟨97, t.length, fun q => tchs false (barQ p t i q), 0⟩)]) (fun i => i ≤ t.length) (fun i => t.length - i) ?_ ?_
  ·refine ⟨0, ?_, ?_⟩
   ·exact Nat.zero_le _
   ·refine em [(.s 2 0, 1)] ⟨⟨_, rfl, Nat.le_refl _⟩, trivial⟩ ⟨⟨rfl, _, rfl, cvt⟩, ⟨rfl, _, rfl, conv_rpe rfl rfl (by decide) rfl rfl rfl⟩, ⟨rfl, _, rfl, cvt⟩, ⟨rfl, _, rfl, cvt⟩, ⟨rfl, _, rfl, cvt⟩, ⟨rfl, _, rfl, cvt⟩, trivial⟩ ⟨⟨fun q _ => rfl, .inl ⟨_, rfl, _, _, rfl, Nat.le_refl _, Nat.zero_le _, Nat.zero_le _, fun q hq => conv_nil_row (by decide)⟩⟩, trivial⟩
  ·rintro i hi
   refine sq (rg [] rfl ?_)
   refine sq ?_
   refine cd rfl (fun h6 => ?_) (fun h6 => ?_)
   ·have hil : i < t.length := by simpa using h6
    have hr := chk_evt hv.2 hil
    have hn6 := right_n hr
    have hcl : (clampN (eAt t i).n : Int) = (eAt t i).n := by unfold clampN; split <;> (try split) <;> omega
    refine sk (sq (bk (sq (rg [] rfl ?_))))
    refine WP.ent (st' := mkSt [(1, evts g t), (2, .rp 26 (encProg p)), (7, .own (.s 24 0) t.length 0 t.length none), (8, .int i), (9, .rp 73 (encE (eAt t i))), (25, evts g t), (26, .int t.length), (27, .int i)] [(.s 24 0, .cells ⟨97, t.length, fun q => tchs false (barQ p t i q), 0⟩)]) ?_ ?_
    ·refine em [(.s 9 0, 1)] ⟨⟨_, rfl, Nat.le_refl _⟩, trivial⟩ ⟨⟨rfl, _, rfl, cvt⟩, ⟨rfl, _, rfl, cvt⟩, ⟨rfl, _, rfl, cvt⟩, ⟨rfl, _, rfl, cvt⟩, ⟨rfl, _, rfl, conv_rpe rfl rfl (by decide) rfl rfl (noIds_E _)⟩, ⟨rfl, _, rfl, cvt⟩, ⟨rfl, _, rfl, cvt⟩, ⟨rfl, _, rfl, cvt⟩, trivial⟩ ⟨⟨fun q _ => rfl, .inl ⟨_, rfl, _, _, rfl, Nat.le_refl _, Nat.zero_le _, Nat.zero_le _, fun q hq => conv_eq rfl⟩⟩, trivial⟩
    refine rgs [⟨true, [], .own (.b 0) (touchL (eAt t i)).length 0 (touchL (eAt t i)).length none, [cellsL 70 encTch tch0 (touchL (eAt t i))]⟩, ⟨true, [.s 38 1], .own (.b 0) (touchL (eAt t i)).length 0 (bareL p (eAt t i)).length none, [.cells ⟨70, (touchL (eAt t i)).length, fun q => encTch ((bareL p (eAt t i)).getD q tch0), 0⟩]⟩] rfl ?_ ?_
    ·have hc := cloneT_ac false (touchL (eAt t i)) (by rw [touchL_len]; omega) (by rw [touchL_len]; omega)
     have hd := delT_ac (touchL (eAt t i)) 57 26 (encProg p) (plnB p) (fun a ha => barew_ac p a (right_nums hr a ha))
     simp [holdsC, under]
     refine ⟨⟨⟨by simp [slOk, slB]; omega, trivial, ⟨fun _ _ => rfl, trivial⟩, ?_⟩, ⟨⟨fun _ _ => rfl, trivial⟩, ⟨fun _ _ => rfl, trivial⟩, ?_⟩⟩, hil⟩
     · refine AC.conv hT hc ?_
       refine ⟨_, _, rfl, conv_rowN (by simp [slB, touchL_len]; omega) (fun h => h) (fun j hj => ?_), rfl⟩
       rw [touchL_get (by rw [touchL_len] at hj; exact hj)]
       show encTch ((eAt t i).ts.getD ((0 : Int).toNat + j) tch0) = _
       simp [tAt]
     · have e : ∀ σ, renO σ (cellsL 70 encTch tch0 (touchL (eAt t i))) = cellsL 70 encTch tch0 (touchL (eAt t i)) := fun σ => renO_list (fun a => ren_tch σ a)
       rw [e, e]
       exact hd
    refine rg [] rfl ?_
    refine ⟨i + 1, ?_, ?_, ?_⟩
    ·exact hil
    ·refine em [(.s 38 1, (touchL (eAt t i)).length)] ⟨⟨_, rfl, Nat.le_refl _⟩, trivial⟩ ⟨⟨rfl, _, rfl, cvt⟩, ⟨rfl, _, rfl, cvt⟩, ⟨rfl, _, rfl, cvt⟩, ⟨rfl, _, rfl, cvt⟩, ⟨rfl, _, rfl, cvt⟩, ⟨rfl, _, rfl, cvt⟩, trivial⟩ ⟨⟨fun q _ => rfl, .inl ⟨_, rfl, _, _, rfl, Nat.le_refl _, Nat.zero_le _, Nat.zero_le _, fun q hq => ?_⟩⟩, trivial⟩
     ·by_cases e : q = i
      · subst e
        refine conv_of_eq (x' := .own (.s 38 1) (touchL (eAt t q)).length 0 (bareL p (eAt t q)).length none) ?_ ?_
        · show (bif Nat.beq q ((q : Int).toNat + 0) then _ else _) = _
          rw [Int.toNat_natCast, Nat.add_zero, Nat.beq_refl, cond_true, put_nil]
        · have hb : barQ p t (q + 1) q = bareL p (eAt t q) := if_pos (Nat.lt_succ_self q)
          rw [hb]
          refine conv_row rfl rfl rfl (fun h => by cases h) (by simp [lookF, idbeq_self, bareL]; exact List.length_filter_le _ _) (fun j hj => ?_)
          rw [Nat.zero_add]
          have e2 := ren_tch (tau ([.s 38 1] ++ sites 40 1 0)) ((bareL p (eAt t q)).getD j tch0)
          exact ⟨(congrArg noIds e2).trans rfl, .of_eq e2⟩
      · refine conv_of_eq (x' := tchs false (barQ p t i q)) ?_ (conv_eq ?_)
        · show (bif Nat.beq q ((i : Int).toNat + 0) then _ else _) = _
          rw [Int.toNat_natCast, Nat.add_zero, nbeq_ne e, cond_false]
        · rw [show barQ p t (i + 1) q = barQ p t i q by unfold barQ; congr 1; rw [eq_iff_iff]; omega]
    ·(try simp only []); first | omega | grind
   ·have hil : i = t.length := by simp at h6; omega
    subst hil
    refine xt (sq (rgs [] rfl ?_ ?_))
    ·have hbt : (T 106).bytes = 48 := rfl
     simp [holdsC, under, hbt]
     omega
    refine sq (rg [] rfl ?_)
    refine sq (sq (rg [] rfl ?_))
    refine bk ?_
    refine WP.loop (α := Nat) (fun j => mkSt [(1, evts g t), (2, .rp 26 (encProg p)), (7, .row 97 false t.length (fun q => tchs false (bareL p (eAt t q)))), (10, .own (.s 45 0) t.length 0 t.length none), (11, .own (.s 146 0) (confTo p t j).length 0 (confTo p t j).length none), (47, .int t.length), (48, .int j)] [(.s 45 0, .cells ⟨106, t.length, fun q => encClk (outC (bareT p t) j zeroC q), 0⟩), (.s 146 0, cells2 (confTo p t j))]) (fun j => j ≤ t.length) (fun j => t.length - j) ?_ ?_
    ·refine ⟨0, ?_, ?_⟩
     ·exact Nat.zero_le _
     ·refine em [(.s 24 0, t.length)] ⟨⟨_, rfl, Nat.le_refl _⟩, trivial⟩ ⟨⟨rfl, _, rfl, cvt⟩, ⟨rfl, _, rfl, cvt⟩, ⟨rfl, _, rfl, conv_row rfl rfl rfl (fun h => by cases h) (by simp [lookF, idbeq_self]) (fun q hq => ⟨rfl, AEq.of_eq (by show tchs false (barQ p t t.length (0 + q)) = _; rw [Nat.zero_add, barQ, if_pos hq])⟩)⟩, ⟨rfl, _, rfl, cvt⟩, ⟨rfl, _, rfl, conv_nil_own⟩, ⟨rfl, _, rfl, cvt⟩, ⟨rfl, _, rfl, cvt⟩, trivial⟩ ⟨⟨fun _ _ => okIds_clk _ _, .inl ⟨_, rfl, _, _, rfl, Nat.le_refl _, Nat.zero_le _, Nat.zero_le _, fun q hq => conv_eq (by have e : outC (bareT p t) 0 zeroC q = zeroC := (by unfold outC; simp); rw [e]; exact agg_ext (fun i => by match i with | 0 | 1 | 2 | 3 | 4 | 5 => rfl | i + 6 => rfl))⟩⟩, ⟨fun _ _ => okIds_2 _ _, .inr ⟨rfl, 75, _, rfl, by decide⟩⟩, trivial⟩
    ·rintro j hj
     refine sq (rg [] rfl ?_)
     refine sq ?_
     refine cd rfl (fun h13 => ?_) (fun h13 => ?_)
     ·have hjl : j < t.length := by simpa using h13
      have hle := clk_le hbok j (by rw [bareT_len]; exact hjl)
      have hgo := hok.2 j hjl
      have hctl := confTo_len p t j (by omega)
      refine sk (sq (bk (sq (rg [] rfl ?_))))
      refine sq (sq (rg [] rfl ?_))
      refine bk ?_
      refine WP.loop (α := Nat) (fun i => mkSt [(1, evts g t), (2, .rp 26 (encProg p)), (7, .row 97 false t.length (fun q => tchs false (bareL p (eAt t q)))), (10, .own (.s 45 0) t.length 0 t.length none), (11, .own (.s 146 0) (confTo p t j).length 0 (confTo p t j).length none), (12, .int j), (47, .int t.length), (48, .int j), (51, .int j), (52, .int i)] [(.s 45 0, .cells ⟨106, t.length, fun q => encClk (outC (bareT p t) j (accC (bareT p t) j i) q), 0⟩), (.s 146 0, cells2 (confTo p t j))]) (fun i => i ≤ j) (fun i => j - i) ?_ ?_
      ·refine ⟨0, ?_, ?_⟩
       ·exact Nat.zero_le _
       ·refine em [] trivial ⟨⟨rfl, _, rfl, cvt⟩, ⟨rfl, _, rfl, cvt⟩, ⟨rfl, _, rfl, cvt⟩, ⟨rfl, _, rfl, cvt⟩, ⟨rfl, _, rfl, cvt⟩, ⟨rfl, _, rfl, cvt⟩, ⟨rfl, _, rfl, cvt⟩, ⟨rfl, _, rfl, cvt⟩, ⟨rfl, _, rfl, cvt⟩, ⟨rfl, _, rfl, cvt⟩, trivial⟩ ⟨obs rfl, obs rfl, trivial⟩
      ·rintro i hi
       refine sq (rg [] rfl ?_)
       refine sq ?_
       refine cd rfl (fun h16 => ?_) (fun h16 => ?_)
       ·have hil : i < j := by simpa using h16
        refine sk (sq (bk (sq (rg [] rfl ?_))))
        refine sq (drs [CG.pure (.bool (clashB (bareL p (eAt t i)) (bareL p (eAt t j))))] rfl ?_ ?_)
        ·have hd := clash_ac false false (bareL p (eAt t i)) (bareL p (eAt t j))
         simp [holdsC, under, CG.pure]
         exact ⟨⟨by omega, by omega⟩, hd⟩
        refine cd rfl (fun h18 => ?_) (fun h18 => ?_)
        ·have hdp : depB (eAt (bareT p t) i) (eAt (bareT p t) j) = true := by rw [bare_dep (by omega) hjl]; exact h18
         refine drs [CG.pure (.tup [encClk (joinC (accC (bareT p t) j i) (clkOf (bareT p t) i)), .int 0])] rfl ?_ ?_
         ·have hjn := join_ac (accC (bareT p t) j i) (clkOf (bareT p t) i) ((hle.2 i (by omega)).ok (by omega)) ((clk_le hbok i (by rw [bareT_len]; omega)).1.ok (by omega))
          have e1 : outC (bareT p t) j (accC (bareT p t) j i) (j : Int).toNat = accC (bareT p t) j i := outC_at
          have e2 : outC (bareT p t) j (accC (bareT p t) j i) (i : Int).toNat = clkOf (bareT p t) i := outC_lt hil
          have hjn2 : AC Tryz.prog T tysN 59 [encClk (outC (bareT p t) j (accC (bareT p t) j i) (j : Int).toNat), encClk (outC (bareT p t) j (accC (bareT p t) j i) (i : Int).toNat)] [] (.tup [encClk (joinC (accC (bareT p t) j i) (clkOf (bareT p t) i)), .int 0]) [] := by rw [e1, e2]; exact hjn
          simp [holdsC, under, CG.pure]
          exact ⟨⟨⟨by omega, by omega⟩, hjn2⟩, by omega⟩
         refine rg [] rfl ?_
         refine ⟨i + 1, ?_, ?_, ?_⟩
         ·exact hil
         ·refine em [] trivial ⟨⟨rfl, _, rfl, cvt⟩, ⟨rfl, _, rfl, cvt⟩, ⟨rfl, _, rfl, cvt⟩, ⟨rfl, _, rfl, cvt⟩, ⟨rfl, _, rfl, cvt⟩, ⟨rfl, _, rfl, cvt⟩, ⟨rfl, _, rfl, cvt⟩, ⟨rfl, _, rfl, cvt⟩, ⟨rfl, _, rfl, cvt⟩, ⟨rfl, _, rfl, cvt⟩, trivial⟩ ⟨⟨fun _ _ => okIds_clk _ _, .inl ⟨_, rfl, _, _, rfl, Nat.le_refl _, Nat.zero_le _, Nat.zero_le _, fun q hq => conv_eq ((outC_set (i := j) (acc' := joinC (accC (bareT p t) j i) (clkOf (bareT p t) i)) q).trans (by rw [accC_succ (bareT p t) hil, if_pos hdp]))⟩⟩, obs rfl, trivial⟩
         ·(try simp only []); first | omega | grind
        ·have hdp : depB (eAt (bareT p t) i) (eAt (bareT p t) j) = false := by rw [bare_dep (by omega) hjl]; exact h18
         refine sk (rg [] rfl ?_)
         refine ⟨i + 1, ?_, ?_, ?_⟩
         ·exact hil
         ·refine em [] trivial ⟨⟨rfl, _, rfl, cvt⟩, ⟨rfl, _, rfl, cvt⟩, ⟨rfl, _, rfl, cvt⟩, ⟨rfl, _, rfl, cvt⟩, ⟨rfl, _, rfl, cvt⟩, ⟨rfl, _, rfl, cvt⟩, ⟨rfl, _, rfl, cvt⟩, ⟨rfl, _, rfl, cvt⟩, ⟨rfl, _, rfl, cvt⟩, ⟨rfl, _, rfl, cvt⟩, trivial⟩ ⟨⟨fun _ _ => okIds_clk _ _, .inl ⟨_, rfl, _, _, rfl, Nat.le_refl _, Nat.zero_le _, Nat.zero_le _, fun q hq => conv_eq (by rw [accC_succ (bareT p t) hil, hdp]; rfl)⟩⟩, obs rfl, trivial⟩
         ·(try simp only []); first | omega | grind
       ·have hil : i = j := by simp at h16; omega
        subst hil
        have hgN : goN (bareT p t) i = (eAt t i).go.toNat := by rw [goN, bareT_go hjl]
        refine xt (sq (drs [CG.pure (.tup [encClk (clkOf (bareT p t) i), .int 0])] rfl ?_ ?_))
        ·have hjn := tick_ac (accC (bareT p t) i i) (eAt t i).go ((hle.2 i (Nat.le_refl _)).ok (by omega)) hgo (by have := ((hle.2 i (Nat.le_refl _)).2 (eAt t i).go.toNat (by omega)).2; omega)
         have e1 : outC (bareT p t) i (accC (bareT p t) i i) (i : Int).toNat = accC (bareT p t) i i := outC_at
         have hjn2 : AC Tryz.prog T tysN 60 [encClk (outC (bareT p t) i (accC (bareT p t) i i) (i : Int).toNat), .int (eAt t i).go] [] (.tup [encClk (clkOf (bareT p t) i), .int 0]) [] := by rw [e1, clkOf_eq, hgN]; exact hjn
         simp [holdsC, under, CG.pure]
         exact ⟨⟨by omega, hjn2⟩, by omega⟩
        refine sq (rg [] rfl ?_)
        refine bk ?_
        refine WP.loop (α := Nat) (fun k => mkSt [(1, evts g t), (2, .rp 26 (encProg p)), (7, .row 97 false t.length (fun q => tchs false (bareL p (eAt t q)))), (10, .own (.s 45 0) t.length 0 t.length none), (11, .own (.s 146 0) (confTo p t i ++ confAt p t i k).length 0 (confTo p t i ++ confAt p t i k).length none), (12, .int i), (47, .int t.length), (48, .int i), (96, .int i), (97, .int k)] [(.s 45 0, .cells ⟨106, t.length, fun q => encClk (outC (bareT p t) (i + 1) zeroC q), 0⟩), (.s 146 0, cells2 (confTo p t i ++ confAt p t i k))]) (fun k => k ≤ i) (fun k => i - k) ?_ ?_
        ·refine ⟨0, ?_, ?_⟩
         ·exact Nat.zero_le _
         ·refine em [] trivial ⟨⟨rfl, _, rfl, cvt⟩, ⟨rfl, _, rfl, cvt⟩, ⟨rfl, _, rfl, cvt⟩, ⟨rfl, _, rfl, cvt⟩, ⟨rfl, _, rfl, conv_eq (by rw [confAt, List.append_nil])⟩, ⟨rfl, _, rfl, cvt⟩, ⟨rfl, _, rfl, cvt⟩, ⟨rfl, _, rfl, cvt⟩, ⟨rfl, _, rfl, cvt⟩, ⟨rfl, _, rfl, cvt⟩, trivial⟩ ⟨⟨fun _ _ => okIds_clk _ _, .inl ⟨_, rfl, _, _, rfl, Nat.le_refl _, Nat.zero_le _, Nat.zero_le _, fun q hq => conv_eq ((outC_set (i := i) (acc' := clkOf (bareT p t) i) q).trans (by rw [outC_next]))⟩⟩, ob_list (fun _ => okIds_2 _ _) rfl rfl (by rw [confAt, List.append_nil]) rfl rfl (fun q hq => by rw [confAt, List.append_nil]), trivial⟩
        ·rintro k hk
         refine sq (rg [] rfl ?_)
         refine sq ?_
         refine cd rfl (fun h23 => ?_) (fun h23 => ?_)
         ·have hkl : k < i := by simpa using h23
          have hcal := confAt_len p t i k
          have hgk := hok.2 k (by omega)
          have ok1 : outC (bareT p t) (i + 1) zeroC k = clkOf (bareT p t) k := outC_lt (by omega)
          have ok2 : outC (bareT p t) (i + 1) zeroC i = clkOf (bareT p t) i := outC_lt (by omega)
          refine sk (sq (bk (sq (rg [] rfl ?_))))
          refine sq (rg [] rfl ?_)
          refine sq (drs [CG.pure (ints false (bothF p (eAt t k) (eAt t i)))] rfl ?_ ?_)
          ·have hc := both_ac p (eAt t k) (eAt t i) (chk_evt hv.2 (by omega)) (chk_evt hv.2 hjl) hv.1
           simp only [holdsC, under, CG.pure]
           repeat' with_reducible refine And.intro ?_ ?_
           all_goals (try with_reducible intros)
           all_goals (first | exact trivial | assumption | omega | exact hc | (simp; done))
          refine cd rfl (fun h26 => ?_) (fun h26 => ?_)
          ·have hcf : confB p t k i = true := by
             have e := h26
             simp only [band, Int.toNat_natCast, Nat.add_zero, ok1, ok2] at e
             rw [confB, ← e]
             rfl
           refine rgs [] rfl ?_ ?_
           ·have hbt : (T 75).bytes = 16 := rfl
            simp [holdsC, under, hbt]
            omega
           refine rg [] rfl ?_
           refine ⟨k + 1, ?_, ?_, ?_⟩
           ·exact hkl
           ·refine em [] trivial ⟨⟨rfl, _, rfl, cvt⟩, ⟨rfl, _, rfl, cvt⟩, ⟨rfl, _, rfl, cvt⟩, ⟨rfl, _, rfl, cvt⟩, ⟨rfl, _, rfl, conv_eq (by rw [confAt, if_pos hcf, ← List.append_assoc, len_snoc])⟩, ⟨rfl, _, rfl, cvt⟩, ⟨rfl, _, rfl, cvt⟩, ⟨rfl, _, rfl, cvt⟩, ⟨rfl, _, rfl, cvt⟩, ⟨rfl, _, rfl, cvt⟩, trivial⟩ ⟨obs rfl, ob_list (fun _ => okIds_2 _ _) rfl rfl (by rw [confAt, if_pos hcf, ← List.append_assoc, len_snoc]) rfl rfl (by rw [confAt, if_pos hcf, ← List.append_assoc]; exact appL (z := (T 75).zero) rfl (enc2_of k i) (fun q hq => rfl)), trivial⟩
           ·(try simp only []); first | omega | grind
          ·have hcf : confB p t k i = false := by
             have e := h26
             simp only [band, Int.toNat_natCast, Nat.add_zero, ok1, ok2] at e
             rw [confB, ← e]
             rfl
           refine sk (rg [] rfl ?_)
           refine ⟨k + 1, ?_, ?_, ?_⟩
           ·exact hkl
           ·refine em [] trivial ⟨⟨rfl, _, rfl, cvt⟩, ⟨rfl, _, rfl, cvt⟩, ⟨rfl, _, rfl, cvt⟩, ⟨rfl, _, rfl, cvt⟩, ⟨rfl, _, rfl, conv_eq (by rw [confAt, if_neg (by rw [hcf]; decide), List.append_nil])⟩, ⟨rfl, _, rfl, cvt⟩, ⟨rfl, _, rfl, cvt⟩, ⟨rfl, _, rfl, cvt⟩, ⟨rfl, _, rfl, cvt⟩, ⟨rfl, _, rfl, cvt⟩, trivial⟩ ⟨obs rfl, ob_list (fun _ => okIds_2 _ _) rfl rfl (by rw [confAt, if_neg (by rw [hcf]; decide), List.append_nil]) rfl rfl (fun q hq => by rw [confAt, if_neg (by rw [hcf]; decide), List.append_nil]), trivial⟩
           ·(try simp only []); first | omega | grind
         ·have hkl : k = i := by simp at h23; omega
          subst hkl
          refine xt (rg [] rfl ?_)
          refine ⟨k + 1, ?_, ?_, ?_⟩
          ·exact hjl
          ·refine em [] trivial ⟨⟨rfl, _, rfl, cvt⟩, ⟨rfl, _, rfl, cvt⟩, ⟨rfl, _, rfl, cvt⟩, ⟨rfl, _, rfl, cvt⟩, ⟨rfl, _, rfl, cvt⟩, ⟨rfl, _, rfl, cvt⟩, ⟨rfl, _, rfl, cvt⟩, trivial⟩ ⟨obs rfl, obs rfl, trivial⟩
          ·(try simp only []); first | omega | grind
     ·have hjl : j = t.length := by simp at h13; omega
      subst hjl
      have hctl := confTo_len p t t.length h256
      have hsl : (sortP (confTo p t t.length)).length = (confTo p t t.length).length := sortBy_len swo2 _
      refine xt (sq (rgs [⟨true, [.s 146 0], .tup [], [cells2 (sortP (confTo p t t.length))]⟩] rfl ?_ ?_))
      ·have hs := confSort_ac (confTo p t t.length) (by omega)
       simp [holdsC, under]
       refine ⟨⟨fun _ _ => okIds_2 _ _, trivial⟩, ⟨fun _ _ => okIds_2 _ _, trivial⟩, ?_⟩
       have e : renO (sig [.s 146 0] 0) (cells2 (confTo p t t.length)) = cells2 (confTo p t t.length) := renO_list (fun a => ren_2 _ a)
       rw [e]
       exact hs
      refine sq (rg [] rfl ?_)
      refine WP.ret ?_
      change Fin ..
      rw [confL, if_pos hz, hz]
      refine fin_mk hT [(.s 146 0, (confTo p t t.length).length)] (ts := [(4, prs false (sortP (confTo p t t.length))), (5, .int 0)]) (l := [prs false (sortP (confTo p t t.length)), .int 0]) ⟨⟨_, rfl, by rw [← hsl]; exact Nat.le_refl _⟩, trivial⟩ ⟨⟨rfl, _, rfl, ?_⟩, ⟨rfl, _, rfl, conv_eq rfl⟩, trivial⟩ trivial rfl rfl rfl
      refine conv_of_eq (x' := .own (.s 146 0) (sortP (confTo p t t.length)).length 0 (sortP (confTo p t t.length)).length none) (by rw [hsl]) ?_
      exact conv_row rfl rfl rfl (fun h => by cases h) (by simp [lookF, idbeq_self, hsl]) (fun q hq => by rw [Nat.zero_add]; exact ⟨noIds_2 _, AEq.refl _⟩)
end Go.Ab


/- By clocks or by what depends on what: the same. -/
set_option autoImplicit false
set_option linter.unusedSimpArgs false
set_option linter.unusedVariables false
namespace Go.Ab
open Go.Proofs
/-- What happens before what. -/
inductive HB (t : List Evt) : Nat → Nat → Prop
  | dep {i j : Nat} : i < j → depB (eAt t i) (eAt t j) = true → HB t i j
  | step {i m j : Nat} : HB t i m → m < j → depB (eAt t m) (eAt t j) = true → HB t i j
section
variable {t : List Evt}
theorem HB.lt {i j : Nat} (h : HB t i j) : i < j := by
  induction h with
  | dep h _ => exact h
  | step _ h _ ih => omega
theorem HB.trans {i m j : Nat} (h : HB t i m) (k : HB t m j) : HB t i j := by
  induction k with
  | dep h1 h2 => exact .step h h1 h2
  | step _ h1 h2 ih => exact .step ih h1 h2
theorem HB.last {i j : Nat} (h : HB t i j) : ∃ m, m < j ∧ depB (eAt t m) (eAt t j) = true ∧ (i = m ∨ HB t i m) := by
  cases h with
  | dep h1 h2 => exact ⟨i, h1, h2, .inl rfl⟩
  | step h h1 h2 => exact ⟨_, h1, h2, .inr h⟩
theorem HB.of {i m j : Nat} (h1 : m < j) (h2 : depB (eAt t m) (eAt t j) = true) (h : i = m ∨ HB t i m) : HB t i j := by
  rcases h with rfl | h
  · exact .dep h1 h2
  · exact .step h h1 h2
theorem colTo_iff {B : BT} {j : Nat} (hB : ∀ i k, k < j → (B i k = true ↔ HB t i k)) : ∀ d, d ≤ j → ∀ i, colTo t B j d i = true ↔ ∃ m, j - d ≤ m ∧ m < j ∧ depB (eAt t m) (eAt t j) = true ∧ (i = m ∨ HB t i m)
  | 0, _, i => by
    constructor
    · intro h; cases h
    · rintro ⟨m, h1, h2, _⟩; omega
  | d + 1, hd, i => by
    have ih := colTo_iff hB d (by omega)
    obtain ⟨x, hx⟩ : ∃ x, x = j - 1 - d := ⟨_, rfl⟩
    have hxj : x < j := by omega
    rw [colTo, ← hx, stepC]
    have hsub : (∃ m, j - d ≤ m ∧ m < j ∧ depB (eAt t m) (eAt t j) = true ∧ (i = m ∨ HB t i m)) → ∃ m, j - (d + 1) ≤ m ∧ m < j ∧ depB (eAt t m) (eAt t j) = true ∧ (i = m ∨ HB t i m) := by
      rintro ⟨m, h1, h2⟩; exact ⟨m, by omega, h2⟩
    by_cases hc : (colTo t B j d x || !depB (eAt t x) (eAt t j)) = true
    · rw [if_pos hc, ih i]
      refine ⟨hsub, ?_⟩
      rintro ⟨m, h1, h2, h3, h4⟩
      by_cases e : j - d ≤ m
      · exact ⟨m, e, h2, h3, h4⟩
      · obtain rfl : m = x := by omega
        rw [Bool.or_eq_true] at hc
        rcases hc with hc | hc
        · obtain ⟨m', k1, k2, k3, k4⟩ := (ih m).1 hc
          refine ⟨m', k1, k2, k3, .inr ?_⟩
          have h5 : HB t m m' := by
            rcases k4 with rfl | k4
            · omega
            · exact k4
          rcases h4 with rfl | h4
          · exact h5
          · exact h4.trans h5
        · rw [h3] at hc; cases hc
    · rw [if_neg hc]
      have hdep : depB (eAt t x) (eAt t j) = true := by
        cases h : depB (eAt t x) (eAt t j) with
        | true => rfl
        | false => rw [h] at hc; simp at hc
      constructor
      · intro h
        split at h
        · rename_i e; subst e; exact ⟨i, by omega, hxj, hdep, .inl rfl⟩
        · split at h
          · rw [Bool.or_eq_true] at h
            rcases h with h | h
            · exact hsub ((ih i).1 h)
            · exact ⟨x, by omega, hxj, hdep, .inr ((hB i x hxj).1 h)⟩
          · exact hsub ((ih i).1 h)
      · rintro ⟨m, h1, h2, h3, h4⟩
        by_cases e : j - d ≤ m
        · have h5 := (ih i).2 ⟨m, e, h2, h3, h4⟩
          split
          · rfl
          · split
            · rw [h5]; rfl
            · exact h5
        · obtain rfl : m = x := by omega
          rcases h4 with rfl | h4
          · rw [if_pos rfl]
          · have hlt := h4.lt
            rw [if_neg (by omega), if_pos hlt, (hB i m hxj).2 h4, Bool.or_true]
theorem refB_iff : ∀ (n i k : Nat), refB t n i k = true ↔ k < n ∧ HB t i k
  | 0, i, k => by
    constructor
    · intro h; cases h
    · rintro ⟨h, _⟩; omega
  | n + 1, i, k => by
    have ih := refB_iff n
    rw [refB, mixB]
    by_cases e : k = n
    · subst e
      rw [if_pos rfl, colTo_iff (fun i q hq => by rw [ih]; exact ⟨fun h => h.2, fun h => ⟨hq, h⟩⟩) k (Nat.le_refl _)]
      constructor
      · rintro ⟨m, _, h2, h3, h4⟩; exact ⟨by omega, .of h2 h3 h4⟩
      · rintro ⟨_, h⟩
        obtain ⟨m, h1, h2, h3⟩ := h.last
        exact ⟨m, by omega, h1, h2, h3⟩
    · rw [if_neg e, ih]
      constructor
      · rintro ⟨h1, h2⟩; exact ⟨by omega, h2⟩
      · rintro ⟨h1, h2⟩; exact ⟨by omega, h2⟩
theorem refT_iff {i j : Nat} (hj : j < t.length) : refT t i j = true ↔ HB t i j := by
  rw [refT, refB_iff]
  exact ⟨fun h => h.2, fun h => ⟨hj, h⟩⟩
theorem own_at {x : Evt} : ∀ {n : Nat}, ownE x n = true → ∃ i, i < n ∧ (i : Int) < x.n ∧ tAt x i = ⟨5, x.go, true⟩
  | 0, h => by cases h
  | n + 1, h => by
    rw [ownE, Bool.or_eq_true] at h
    rcases h with h | h
    · obtain ⟨i, h1, h2⟩ := own_at h
      exact ⟨i, by omega, h2⟩
    · simp only [Bool.and_eq_true, decide_eq_true_eq] at h
      exact ⟨n, by omega, h.1, h.2⟩
theorem right_own {x : Evt} (h : rightE x = true) : (⟨5, x.go, true⟩ : Tch) ∈ touchL x := by
  simp only [rightE, Bool.and_eq_true, decide_eq_true_eq] at h
  obtain ⟨i, h1, h2, h3⟩ := own_at h.2.2
  rw [touchL, List.mem_map]
  refine ⟨i, ?_, h3⟩
  rw [List.mem_range]
  unfold clampN
  split <;> (try split) <;> omega
theorem own_dep {x y : Evt} (hx : rightE x = true) (hy : rightE y = true) (e : x.go = y.go) : depB x y = true := by
  rw [depB, clashB, List.any_eq_true]
  refine ⟨_, right_own hx, ?_⟩
  rw [List.any_eq_true]
  exact ⟨_, right_own hy, by simp [clB, e]⟩
theorem chk_ev (h : chkE t = 0) {i : Nat} (hi : i < t.length) : rightE (eAt t i) = true := by
  unfold chkE at h
  split at h
  · cases h
  · split at h
    · cases h
    · rename_i h2
      cases hz : rightE (eAt t i) with
      | true => rfl
      | false => exact absurd (anyE_yes hi (show badE (eAt t i) = true by simp [badE, hz])) h2
theorem same_dep (h : chkE t = 0) {i j : Nat} (hi : i < t.length) (hj : j < t.length) (e : goN t i = goN t j) : depB (eAt t i) (eAt t j) = true := by
  have h1 := (chk_right h).2 i hi
  have h2 := (chk_right h).2 j hj
  refine own_dep (chk_ev h hi) (chk_ev h hj) ?_
  unfold goN at e
  omega
theorem mx_ge (x y : Int) : x ≤ mx x y ∧ y ≤ mx x y ∧ (mx x y = x ∨ mx x y = y) := by
  unfold mx; split <;> omega
theorem acc_ge (q : Nat) (hq : q < 6) {j : Nat} : ∀ {m : Nat}, m ≤ j → ∀ k, k < m → depB (eAt t k) (eAt t j) = true → (clkOf t k).getD q 0 ≤ (accC t j m).getD q 0
  | 0, _, k, hk, _ => by omega
  | m + 1, hm, k, hk, hd => by
    rw [accC_succ t (by omega)]
    by_cases e : k = m
    · subst e
      rw [if_pos hd, joinC_get hq]
      exact (mx_ge _ _).2.1
    · have ih := acc_ge q hq (m := m) (by omega) k (by omega) hd
      split
      · rw [joinC_get hq]
        exact Int.le_trans ih (mx_ge _ _).1
      · exact ih
theorem zeroC_get (q : Nat) : zeroC.getD q 0 = 0 := by
  match q with
  | 0 | 1 | 2 | 3 | 4 | 5 => rfl
  | q + 6 => rfl
theorem acc_wit (q : Nat) (hq : q < 6) {j : Nat} : ∀ {m : Nat}, m ≤ j → (accC t j m).getD q 0 = 0 ∨ ∃ k, k < m ∧ depB (eAt t k) (eAt t j) = true ∧ (accC t j m).getD q 0 = (clkOf t k).getD q 0
  | 0, _ => .inl (zeroC_get q)
  | m + 1, hm => by
    have ih := acc_wit q hq (j := j) (m := m) (by omega)
    have up : ((accC t j m).getD q 0 = 0 ∨ ∃ k, k < m ∧ depB (eAt t k) (eAt t j) = true ∧ (accC t j m).getD q 0 = (clkOf t k).getD q 0) → ((accC t j m).getD q 0 = 0 ∨ ∃ k, k < m + 1 ∧ depB (eAt t k) (eAt t j) = true ∧ (accC t j m).getD q 0 = (clkOf t k).getD q 0) := by
      rintro (h | ⟨k, h1, h2⟩)
      · exact .inl h
      · exact .inr ⟨k, by omega, h2⟩
    rw [accC_succ t (by omega)]
    split
    · rename_i hd
      rw [joinC_get hq]
      rcases (mx_ge ((accC t j m).getD q 0) ((clkOf t m).getD q 0)).2.2 with e | e
      · rw [e]; exact up ih
      · rw [e]; exact .inr ⟨m, by omega, hd, rfl⟩
    · exact up ih
variable (h : chkE t = 0)
include h
theorem clk_get {j q : Nat} (hj : j < t.length) : (clkOf t j).getD q 0 = (accC t j j).getD q 0 + if q = goN t j then 1 else 0 := by
  have hok := chk_right h
  rw [clkOf_eq]
  exact tickC_get ((clk_le hok j hj).2 j (Nat.le_refl _)).1 (goN_lt hok hj)
theorem clk_mono {i j : Nat} (hb : HB t i j) : j < t.length → ∀ q, q < 6 → (clkOf t i).getD q 0 ≤ (accC t j j).getD q 0 := by
  induction hb with
  | dep h1 h2 => intro hj q hq; exact acc_ge q hq (Nat.le_refl _) _ h1 h2
  | @step m j hb h1 h2 ih =>
    intro hj q hq
    have e1 := ih (by omega) q hq
    have e2 := acc_ge (t := t) q hq (Nat.le_refl j) m h1 h2
    have e3 := clk_get h (show m < t.length by omega) (q := q)
    split at e3 <;> omega
theorem clk_wit (q : Nat) (hq : q < 6) : ∀ j, j < t.length → (clkOf t j).getD q 0 = 0 ∨ ∃ k, (k = j ∨ HB t k j) ∧ goN t k = q ∧ (clkOf t k).getD q 0 = (clkOf t j).getD q 0 := by
  intro j
  induction j using Nat.strongRecOn with
  | _ j ih =>
    intro hj
    by_cases e : q = goN t j
    · exact .inr ⟨j, .inl rfl, e.symm, rfl⟩
    · have hg := clk_get h hj (q := q)
      rw [if_neg e, Int.add_zero] at hg
      rcases acc_wit (t := t) q hq (Nat.le_refl j) with hw | ⟨m, h1, h2, h3⟩
      · exact .inl (by rw [hg, hw])
      · rcases ih m h1 (by omega) with h4 | ⟨k, h4, h5, h6⟩
        · exact .inl (by rw [hg, h3, h4])
        · exact .inr ⟨k, .inr (.of h1 h2 h4), h5, by rw [hg, h3, h6]⟩
theorem befB_iff {i j : Nat} (hi : i < t.length) (hj : j < t.length) : befB t i j = true ↔ HB t i j := by
  have hok := chk_right h
  have hg := goN_lt hok hi
  rw [befB, Bool.and_eq_true, decide_eq_true_eq, decide_eq_true_eq]
  constructor
  · rintro ⟨h1, h2⟩
    have e1 := clk_get h hi (q := goN t i)
    rw [if_pos rfl] at e1
    have e2 := ((clk_le hok i hi).2 i (Nat.le_refl _)).2 _ hg
    rcases clk_wit h (goN t i) hg j hj with h3 | ⟨k, h3, h4, h5⟩
    · omega
    · have hk : k ≤ j := by
        rcases h3 with rfl | h3
        · exact Nat.le_refl _
        · exact Nat.le_of_lt h3.lt
      rcases Nat.lt_trichotomy k i with hki | rfl | hki
      · exfalso
        have hb : HB t k i := .dep hki (same_dep h (by omega) hi h4)
        have := clk_mono h hb hi (goN t i) hg
        omega
      · rcases h3 with rfl | h3
        · omega
        · exact h3
      · have hb : HB t i k := .dep hki (same_dep h hi (by omega) h4.symm)
        rcases h3 with rfl | h3
        · exact hb
        · exact hb.trans h3
  · intro hb
    refine ⟨hb.lt, ?_⟩
    have e1 := clk_mono h hb hj _ hg
    have e2 := clk_get h hj (q := goN t i)
    split at e2 <;> omega
end
end Go.Ab


/- The edges are the reference's. -/
set_option autoImplicit false
set_option linter.unusedSimpArgs false
set_option linter.unusedVariables false
namespace Go.Ab
open Go.Proofs
section
variable {t : List Evt}
theorem mem_past {j : Nat} : ∀ {d : Nat}, d ≤ j → ∀ i, i ∈ pastTo t j d ↔ j - d ≤ i ∧ i < j ∧ befB t i j = true
  | 0, _, i => by
    constructor
    · intro h; cases h
    · rintro ⟨h1, h2, _⟩; omega
  | d + 1, hd, i => by
    have ih := mem_past (j := j) (d := d) (by omega) i
    rw [pastTo, List.mem_append, ih]
    constructor
    · rintro (⟨h1, h2⟩ | h)
      · exact ⟨by omega, h2⟩
      · split at h
        · rename_i hb
          simp at h
          subst h
          exact ⟨by omega, by omega, hb⟩
        · cases h
    · rintro ⟨h1, h2, h3⟩
      by_cases e : j - d ≤ i
      · exact .inl ⟨e, h2, h3⟩
      · right
        have e2 : j - 1 - d = i := by omega
        rw [e2, if_pos h3]
        simp
theorem bef_lt {i j : Nat} (h : befB t i j = true) : i < j := by
  rw [befB, Bool.and_eq_true, decide_eq_true_eq] at h
  exact h.1
variable (h : chkE t = 0)
include h
theorem bef_trans {i k j : Nat} (hi : i < t.length) (hk : k < t.length) (hj : j < t.length) (h1 : befB t i k = true) (h2 : befB t k j = true) : befB t i j = true :=
  (befB_iff h hi hj).2 (((befB_iff h hi hk).1 h1).trans ((befB_iff h hk hj).1 h2))
theorem near_iff {j : Nat} (hj : j < t.length) : ∀ {d : Nat}, d ≤ j → ∀ i, i ∈ nearS t (pastTo t j d) ↔ i ∈ pastTo t j d ∧ ∀ k ∈ pastTo t j d, befB t i k = false
  | 0, _, i => by simp [pastTo, nearS]
  | d + 1, hd, i => by
    have ih := near_iff hj (d := d) (by omega)
    have hm := mem_past (t := t) (j := j) (d := d) (by omega)
    rw [pastTo]
    split
    · rename_i hb
      obtain ⟨x, hx⟩ : ∃ x, x = j - 1 - d := ⟨_, rfl⟩
      rw [← hx] at hb ⊢
      have old : ∀ i, i ∈ pastTo t j d → befB t i x = false := fun i hi => by
        have := (hm i).1 hi
        cases e : befB t i x with
        | false => rfl
        | true => have := bef_lt e; omega
      by_cases hy : ((nearS t (pastTo t j d)).any fun k => befB t x k) = true
      · rw [near_yes hy]
        rw [List.any_eq_true] at hy
        obtain ⟨k0, hk0, hb0⟩ := hy
        have hk1 := ((ih k0).1 hk0).1
        constructor
        · intro hi
          obtain ⟨h1, h2⟩ := (ih i).1 hi
          refine ⟨List.mem_append_left _ h1, fun k hk => ?_⟩
          rcases List.mem_append.1 hk with hk | hk
          · exact h2 k hk
          · simp at hk; subst hk; exact old i h1
        · rintro ⟨h1, h2⟩
          rcases List.mem_append.1 h1 with h1 | h1
          · exact (ih i).2 ⟨h1, fun k hk => h2 k (List.mem_append_left _ hk)⟩
          · simp at h1; subst h1
            have := h2 k0 (List.mem_append_left _ hk1)
            rw [hb0] at this; cases this
      · have hy' : ((nearS t (pastTo t j d)).any fun k => befB t x k) = false := by simpa using hy
        rw [near_no hy', List.mem_append, List.mem_append]
        have top : ∀ q k, j - k ≤ q → k ∈ pastTo t j d → ∃ k', k' ∈ nearS t (pastTo t j d) ∧ (k = k' ∨ befB t k k' = true) := by
          intro q
          induction q with
          | zero => intro k hk hkm; have := (hm k).1 hkm; omega
          | succ q ihq =>
            intro k hk hkm
            have hkm2 := (hm k).1 hkm
            by_cases hall : ∀ k2 ∈ pastTo t j d, befB t k k2 = false
            · exact ⟨k, (ih k).2 ⟨hkm, hall⟩, .inl rfl⟩
            · simp only [Classical.not_forall] at hall
              obtain ⟨k2, hk2, hb2⟩ := hall
              have hb2' : befB t k k2 = true := by simpa using hb2
              have hlt := bef_lt hb2'
              have hk2m := (hm k2).1 hk2
              obtain ⟨k', h1, h2⟩ := ihq k2 (by omega) hk2
              have hk'm := (hm k').1 ((ih k').1 h1).1
              refine ⟨k', h1, .inr ?_⟩
              rcases h2 with rfl | h2
              · exact hb2'
              · exact bef_trans h (by omega) (by omega) (by omega) hb2' h2
        rw [List.any_eq_false] at hy'
        constructor
        · rintro (hi | hi)
          · obtain ⟨h1, h2⟩ := (ih i).1 hi
            refine ⟨.inl h1, fun k hk => ?_⟩
            rcases List.mem_append.1 hk with hk | hk
            · exact h2 k hk
            · simp at hk; subst hk; exact old i h1
          · simp at hi; subst hi
            refine ⟨.inr (by simp), fun k hk => ?_⟩
            cases e : befB t i k with
            | false => rfl
            | true =>
              exfalso
              rcases List.mem_append.1 hk with hk | hk
              · obtain ⟨k', h1, h2⟩ := top j k (by omega) hk
                have hkm := (hm k).1 hk
                have hk'm := (hm k').1 ((ih k').1 h1).1
                have := hy' k' h1
                rcases h2 with rfl | h2
                · exact this e
                · exact this (bef_trans h (by omega) (by omega) (by omega) e h2)
              · simp at hk; subst hk
                have := bef_lt e; omega
        · rintro ⟨h1, h2⟩
          rcases h1 with h1 | h1
          · exact .inl ((ih i).2 ⟨h1, fun k hk => h2 k (List.mem_append_left _ hk)⟩)
          · exact .inr h1
    · rw [List.append_nil]; exact ih i
theorem near_edge {i j : Nat} (hj : j < t.length) : i ∈ nearL t j ↔ i < j ∧ edgeB (refT t) i j = true := by
  have hm := mem_past (t := t) (j := j) (Nat.le_refl j)
  rw [nearL, pastL, near_iff h hj (Nat.le_refl j), hm, edgeB, Bool.and_eq_true, betB, List.all_eq_true]
  constructor
  · rintro ⟨⟨_, h1, h2⟩, h3⟩
    refine ⟨h1, (refT_iff hj).2 ((befB_iff h (by omega) hj).1 h2), fun k hk => ?_⟩
    have hk' : k < j := by simpa using hk
    cases e : (refT t i k && refT t k j) with
    | false => simp
    | true =>
      rw [Bool.and_eq_true] at e
      have a := (refT_iff (show k < t.length by omega)).1 e.1
      have b := (refT_iff hj).1 e.2
      have := h3 k ((hm k).2 ⟨by omega, hk', (befB_iff h (by omega) hj).2 b⟩)
      rw [(befB_iff h (by omega) (by omega)).2 a] at this
      cases this
  · rintro ⟨h1, h2, h3⟩
    refine ⟨⟨by omega, h1, (befB_iff h (by omega) hj).2 ((refT_iff hj).1 h2)⟩, fun k hk => ?_⟩
    obtain ⟨_, k1, k2⟩ := (hm k).1 hk
    cases e : befB t i k with
    | false => rfl
    | true =>
      have hik := bef_lt e
      have := h3 k (by simpa using k1)
      rw [(refT_iff (show k < t.length by omega)).2 ((befB_iff h (by omega) (by omega)).1 e), (refT_iff hj).2 ((befB_iff h (by omega) hj).1 k2)] at this
      simp [hik] at this
omit h in
theorem near_nodup {j : Nat} : ∀ {d : Nat}, d ≤ j → (nearS t (pastTo t j d)).Nodup
  | 0, _ => by simp [pastTo, nearS]
  | d + 1, hd => by
    have ih := near_nodup (j := j) (d := d) (by omega)
    rw [pastTo]
    split
    · rw [nearS_snoc, nearStep]
      split
      · exact ih
      · rw [List.nodup_append]
        refine ⟨ih, by simp, fun a ha b hb e => ?_⟩
        simp at hb
        have := (mem_past (t := t) (j := j) (d := d) (by omega) a).1 (nearS_mem ha)
        omega
    · rw [List.append_nil]; exact ih
omit h in
theorem edgesTo_mem {x : Pr} : ∀ {n : Nat}, x ∈ edgesTo t n ↔ ∃ b, b < n ∧ ∃ a, a ∈ nearL t b ∧ x = ((a : Int), (b : Int))
  | 0 => by
    constructor
    · intro h; cases h
    · rintro ⟨b, h, _⟩; omega
  | n + 1 => by
    rw [edgesTo, List.mem_append, edgesTo_mem, pairsAt, List.mem_map]
    constructor
    · rintro (⟨b, h1, h2⟩ | ⟨a, h1, h2⟩)
      · exact ⟨b, by omega, h2⟩
      · exact ⟨n, by omega, a, h1, h2.symm⟩
    · rintro ⟨b, h1, a, h2, h3⟩
      by_cases e : b = n
      · subst e; exact .inr ⟨a, h2, h3.symm⟩
      · exact .inl ⟨b, by omega, a, h2, h3⟩
omit h in
theorem edgesTo_nodup : ∀ n, (edgesTo t n).Nodup
  | 0 => List.nodup_nil
  | n + 1 => by
    rw [edgesTo, List.nodup_append]
    refine ⟨edgesTo_nodup n, ?_, fun x hx y hy e => ?_⟩
    · rw [pairsAt, List.Nodup, List.pairwise_map]
      refine (near_nodup (t := t) (Nat.le_refl n)).imp ?_
      intro a b hab e
      simp at e
      exact hab (by omega)
    · subst e
      obtain ⟨b, h1, a, _, h3⟩ := edgesTo_mem.1 hx
      simp only [pairsAt, List.mem_map] at hy
      obtain ⟨i, _, h4⟩ := hy
      rw [h3] at h4
      simp at h4
      omega
end
theorem rowTo_mem {B : BT} {i : Nat} {x : Pr} : ∀ {m : Nat}, x ∈ rowTo B i m ↔ ∃ b, b < m ∧ i < b ∧ edgeB B i b = true ∧ x = ((i : Int), (b : Int))
  | 0 => by
    constructor
    · intro h; cases h
    · rintro ⟨b, h, _⟩; omega
  | m + 1 => by
    rw [rowTo, List.mem_append, rowTo_mem]
    constructor
    · rintro (⟨b, h1, h2⟩ | h)
      · exact ⟨b, by omega, h2⟩
      · split at h
        · rename_i hc
          simp at h
          exact ⟨m, by omega, hc.1, hc.2, h⟩
        · cases h
    · rintro ⟨b, h1, h2, h3, h4⟩
      by_cases e : b = m
      · subst e; right; rw [if_pos ⟨h2, h3⟩, h4]; simp
      · exact .inl ⟨b, by omega, h2, h3, h4⟩
theorem edgesR_mem {B : BT} {n : Nat} {x : Pr} : ∀ {m : Nat}, x ∈ edgesR B n m ↔ ∃ a, a < m ∧ ∃ b, b < n ∧ a < b ∧ edgeB B a b = true ∧ x = ((a : Int), (b : Int))
  | 0 => by
    constructor
    · intro h; cases h
    · rintro ⟨b, h, _⟩; omega
  | m + 1 => by
    rw [edgesR, List.mem_append, edgesR_mem, rowTo_mem]
    constructor
    · rintro (⟨a, h1, h2⟩ | h)
      · exact ⟨a, by omega, h2⟩
      · exact ⟨m, by omega, h⟩
    · rintro ⟨a, h1, h2⟩
      by_cases e : a = m
      · subst e; exact .inr h2
      · exact .inl ⟨a, by omega, h2⟩
abbrev ltP (x y : Pr) : Prop := x.1 < y.1 ∨ x.1 = y.1 ∧ x.2 < y.2
theorem rowTo_sorted {B : BT} {i : Nat} : ∀ m, (rowTo B i m).Pairwise ltP
  | 0 => List.Pairwise.nil
  | m + 1 => by
    rw [rowTo, List.pairwise_append]
    refine ⟨rowTo_sorted m, by split <;> simp, fun x hx y hy => ?_⟩
    obtain ⟨b, h1, _, _, rfl⟩ := rowTo_mem.1 hx
    split at hy
    · simp at hy; subst hy
      right; simp; omega
    · cases hy
theorem edgesR_sorted {B : BT} {n : Nat} : ∀ m, (edgesR B n m).Pairwise ltP
  | 0 => List.Pairwise.nil
  | m + 1 => by
    rw [edgesR, List.pairwise_append]
    refine ⟨edgesR_sorted m, rowTo_sorted n, fun x hx y hy => ?_⟩
    obtain ⟨a, h1, b, _, _, _, rfl⟩ := edgesR_mem.1 hx
    obtain ⟨c, _, _, _, rfl⟩ := rowTo_mem.1 hy
    left; simp; omega
theorem sortP_eq {l l' : List Pr} (hl : l.Nodup) (hs : l'.Pairwise ltP) (hm : ∀ x, x ∈ l ↔ x ∈ l') : sortP l = l' := by
  have hn : l'.Nodup := hs.imp (fun {a b} hab e => by subst e; rcases hab with h | h <;> omega)
  refine List.Perm.eq_of_pairwise (le := fun x y => Go.Proofs.ltOf cmp2 y x = false) (fun a b _ _ h1 h2 => ?_) (Go.Ab.sortBy_sorted swo2 l) (hs.imp fun {a b} hab => ?_) ((Go.Ab.sortBy_perm swo2 l).trans ((List.perm_ext_iff_of_nodup hl hn).2 hm))
  · rw [lt_cmp2] at h1 h2
    simp at h1 h2
    exact Prod.ext (by omega) (by omega)
  · rw [lt_cmp2]
    simp only [decide_eq_false_iff_not]
    rcases hab with h | h <;> omega
theorem edges_eq {t : List Evt} (h : chkE t = 0) : edgesL t = edgesR (refT t) t.length t.length := by
  refine sortP_eq (edgesTo_nodup _) (edgesR_sorted _) (fun x => ?_)
  rw [edgesTo_mem, edgesR_mem]
  constructor
  · rintro ⟨b, h1, a, h2, h3⟩
    obtain ⟨h4, h5⟩ := (near_edge h h1).1 h2
    exact ⟨a, by omega, b, h1, h4, h5, h3⟩
  · rintro ⟨a, h1, b, h2, h3, h4, h5⟩
    exact ⟨b, h2, a, (near_edge h h2).2 ⟨h3, h4⟩, h5⟩
theorem races_eq {t : List Evt} (h : chkE t = 0) : racesL t = refPairs t := by
  rw [racesL, pairsF, if_pos h, edges_eq h, refPairs, keepL]
  congr 1
  funext x
  simp [delP, goNe]
end Go.Ab


/- What every statement of the chapter asks first; lists compared. -/
set_option autoImplicit false
set_option maxRecDepth 20000
set_option maxHeartbeats 4000000
set_option linter.unusedSimpArgs false
set_option linter.unusedVariables false
namespace Go.Ab
open Go.Proofs Go.Sort
def storedE (g : Int) : Evt := ⟨g, 0, 0, 51, 0, 0, 0, [⟨1, 0, true⟩, ⟨5, g, true⟩], 2⟩
def leastP : PProg := ⟨[⟨false, 0⟩], 0, [], [⟨0, 0, [⟨45, 0, 0, 0, 0⟩], []⟩]⟩
def trc3 : List Evt := [storedE 1, storedE 2, storedE 3]
theorem stored_ac (g : Int) : AC Tryz.prog T tysN 49 [.int g] [] (encE (storedE g)) [] := by
 refine AC_intro hT Tryz.func49 rfl rfl (Nat.le_of_ble_eq_true rfl) ?_
 refine sq (rg [] rfl ?_)
 refine sq (rg [] rfl ?_)
 refine sq (rg [] rfl ?_)
 refine sq (rg [] rfl ?_)
 refine sq (rg [] rfl ?_)
 refine WP.ret ?_
 change Fin ..
 refine fin_cell hT rfl rfl rfl rfl rfl (conv_eq (agg_ext (fun q => ?_))) (noIds_E _) ?_ rfl
 · match q with
   | 0 | 1 | 2 | 3 | 4 | 5 | 6 | 8 | q + 9 => rfl
   | 7 =>
     refine agg_ext (fun j => ?_)
     match j with
     | 0 => exact agg_ext (fun q => by match q with | 0 | 1 | 2 | q + 3 => rfl)
     | 1 => exact agg_ext (fun q => by match q with | 0 | 1 | 2 | q + 3 => rfl)
     | j + 2 => rfl
 · refine okIds_agg (fun i hi => ?_)
   match i, hi with
   | 0, _ | 1, _ | 2, _ | 3, _ | 4, _ | 5, _ | 6, _ | 8, _ => rfl
   | 7, _ => exact okIds_agg (fun j _ => okIds_tch _ _)
theorem least_ac (_ : Unit) : AC Tryz.prog T tysN 50 [] [] (encProg leastP) [] := by
 refine AC_intro hT Tryz.func50 rfl rfl (Nat.le_of_ble_eq_true rfl) ?_
 refine sq (rg [] rfl ?_)
 refine sq (rg [] rfl ?_)
 refine WP.ret ?_
 change Fin ..
 refine fin_cell hT rfl rfl rfl rfl rfl ?_ rfl rfl rfl
 refine ⟨_, rfl, fun i hi => ?_⟩
 match i, hi with
 | 0, _ =>
   refine conv_rowL (fun h => by cases h) (fun j hj => ?_)
   match j, hj with
   | 0, _ => exact agg_ext (fun q => by match q with | 0 | 1 | q + 2 => rfl)
 | 1, _ => exact conv_eq rfl
 | 2, _ => exact conv_nil_row (by decide)
 | 3, _ =>
   refine ⟨_, _, rfl, fun h => (by cases h), fun j hj => ?_⟩
   match j, hj with
   | 0, _ =>
     refine ⟨_, rfl, fun i hi => ?_⟩
     match i, hi with
     | 0, _ | 1, _ => exact conv_eq rfl
     | 2, _ =>
       refine conv_rowL (fun h => by cases h) (fun j hj => ?_)
       match j, hj with
       | 0, _ => exact agg_ext (fun q => by match q with | 0 | 1 | 2 | 3 | 4 | q + 5 => rfl)
     | 3, _ => exact conv_nil_row (by decide)
theorem fit3 : fitF leastP trc3 = 0 := by kernel_rfl
theorem data3 : dataL leastP trc3 = [(0, 1), (1, 2)] := by
  rw [dataL, if_pos fit3, pairsF, if_pos (by kernel_rfl), edges_eq (by kernel_rfl)]
  kernel_rfl
theorem conf3 : (confL leastP trc3).length = 3 := by
  rw [confL, if_pos fit3, sortP, sortBy_len swo2]
  kernel_rfl
theorem out3 : outTo leastP trc3 (dataL leastP trc3) (dataL leastP trc3).length = [fnd0, fnd0] := by
  rw [data3]
  kernel_rfl
theorem races3 : racesFs leastP trc3 = [fnd0] := by
  have h : sortFs [fnd0, fnd0] = [fnd0, fnd0] := by
    have hp := sortBy_perm swoF [fnd0, fnd0]
    exact (List.perm_replicate (n := 2) (a := fnd0)).1 hp
  rw [racesFs, out3, h]
  decide
theorem speaks_ac (_ : Unit) : AC Tryz.prog T tysN 13 [] [] (.bool true) [] := by
 refine AC_intro hT Tryz.func13 rfl rfl (Nat.le_of_ble_eq_true rfl) ?_
 refine sq (rg [] rfl ?_)
 refine sq (rgs [CG.pure (encE (storedE 1)), CG.pure (encE (storedE 2)), CG.pure (encE (storedE 3))] rfl ?_ ?_)
 ·have h1 := stored_ac 1
  have h2 := stored_ac 2
  have h3 := stored_ac 3
  simp only [holdsC, under, CG.pure]
  repeat' with_reducible refine And.intro ?_ ?_
  all_goals (try with_reducible intros)
  all_goals (first | exact trivial | assumption | omega | exact h1 | exact h2 | exact h3 | (simp; done) | grind)
 refine sq ?_
 refine WP.ent (st' := mkSt [(1, evts true trc3)] []) ?_ ?_
 ·refine em [] trivial ⟨⟨rfl, _, rfl, conv_rowL (fun h => h) (fun j hj => by match j, hj with | 0, _ | 1, _ | 2, _ => rfl)⟩, trivial⟩ trivial
 refine rgs [CG.pure (encProg leastP), CG.pure (.tup [prs false (dataL leastP trc3), .int (fitF leastP trc3)])] rfl ?_ ?_
 ·have h1 := least_ac ()
  have h2 := data_ac true leastP trc3
  simp only [holdsC, under, CG.pure]
  repeat' with_reducible refine And.intro ?_ ?_
  all_goals (try with_reducible intros)
  all_goals (first | exact trivial | assumption | omega | exact h1 | exact h2 | (simp; done) | grind)
 refine sq (rgs [CG.pure (encProg leastP), CG.pure (.tup [prs false (confL leastP trc3), .int (fitF leastP trc3)])] rfl ?_ ?_)
 ·have h1 := least_ac ()
  have h2 := conf_ac true leastP trc3
  simp only [holdsC, under, CG.pure]
  repeat' with_reducible refine And.intro ?_ ?_
  all_goals (try with_reducible intros)
  all_goals (first | exact trivial | assumption | omega | exact h1 | exact h2 | (simp; done) | grind)
 refine sq (rgs [CG.pure (encProg leastP), CG.pure (.tup [fnds false (racesFs leastP trc3), .int (fitF leastP trc3)])] rfl ?_ ?_)
 ·have h1 := least_ac ()
  have h2 := racesF_ac true leastP trc3
  simp only [holdsC, under, CG.pure]
  repeat' with_reducible refine And.intro ?_ ?_
  all_goals (try with_reducible intros)
  all_goals (first | exact trivial | assumption | omega | exact h1 | exact h2 | (simp; done) | grind)
 refine sq ?_
 refine WP.ent (st' := mkSt [(2, prs false [(0, 1), (1, 2)]), (3, .int 0), (4, prs false (confL leastP trc3)), (5, .int 0), (6, fnds false [fnd0]), (7, .int 0)] []) ?_ ?_
 ·refine em [] trivial ⟨⟨rfl, _, rfl, conv_eq (by rw [data3]; rfl)⟩, ⟨rfl, _, rfl, conv_eq (by rw [fit3])⟩, ⟨rfl, _, rfl, cvt⟩, ⟨rfl, _, rfl, conv_eq (by rw [fit3])⟩, ⟨rfl, _, rfl, conv_eq (by rw [races3]; rfl)⟩, ⟨rfl, _, rfl, conv_eq (by rw [fit3])⟩, trivial⟩ trivial
 refine rgs [] rfl ?_ ?_
 ·simp [holdsC, under]
 refine WP.ret ?_
 change Fin ..
 refine fin1 hT (by rfl) ?_
 rw [conf3]
 rfl
theorem eq2_v (a b : Pr) : (a == b) = ((true && a.1 == b.1) && a.2 == b.2) := by
  obtain ⟨x, y⟩ := a
  obtain ⟨z, w⟩ := b
  rw [Bool.eq_iff_iff]
  simp
theorem same_ac (f g : Bool) (a b : List Pr) : AC Tryz.prog T tysN 14 [prs f a, prs g b] [] (.bool (decide (a = b))) [] := by
 refine AC_intro hT Tryz.func14 rfl rfl (Nat.le_of_ble_eq_true rfl) ?_
 refine WP.rowlen 0 rfl (fun hla => ?_)
 refine sq (rg [] rfl ?_)
 refine sq (sq (rg [] rfl ?_))
 refine cd rfl (fun h1 => ?_) (fun h1 => ?_)
 ·have hne : a.length ≠ b.length := by simp at h1; omega
  refine sq (rg [] rfl ?_)
  refine WP.ret ?_
  change Fin ..
  exact fin1 hT (by rfl) (by simp; rintro rfl; exact hne rfl)
 ·have hlen : a.length = b.length := by simp at h1; omega
  refine sk (sq (sq (rg [] rfl ?_)))
  refine bk ?_
  refine WP.loop (α := Nat) (fun i => mkSt [(0, prs f a), (1, prs g b), (5, .int i)] []) (fun i => i ≤ a.length ∧ ∀ j, j < i → a.getD j (0, 0) = b.getD j (0, 0)) (fun i => a.length - i) ?_ ?_
  ·refine ⟨0, ?_, ?_⟩
   ·exact ⟨Nat.zero_le _, fun j hj => by omega⟩
   ·refine em [] trivial ⟨⟨rfl, _, rfl, cvt⟩, ⟨rfl, _, rfl, cvt⟩, ⟨rfl, _, rfl, cvt⟩, trivial⟩ trivial
  ·rintro i ⟨hi, heq⟩
   refine sq (sq (rg [] rfl ?_))
   refine cd rfl (fun h4 => ?_) (fun h4 => ?_)
   ·have hil : i < a.length := by simpa using h4
    refine sk (sq (bk (sq (drs [] rfl ?_ ?_))))
    ·simp only [holdsC, under, CG.pure]
     repeat' with_reducible refine And.intro ?_ ?_
     all_goals (try with_reducible intros)
     all_goals (first | exact trivial | assumption | omega | (simp; done) | grind)
    refine cd rfl (fun h6 => ?_) (fun h6 => ?_)
    ·have hne : a.getD i (0, 0) ≠ b.getD i (0, 0) := by
       have e : (!(a.getD i (0, 0) == b.getD i (0, 0))) = true := (congrArg Bool.not (eq2_v _ _)).trans h6
       simpa using e
     refine sq (rg [] rfl ?_)
     refine WP.ret ?_
     change Fin ..
     exact fin1 hT (by rfl) (by simp; rintro rfl; exact hne rfl)
    ·have he : a.getD i (0, 0) = b.getD i (0, 0) := by
       have e : (!(a.getD i (0, 0) == b.getD i (0, 0))) = false := (congrArg Bool.not (eq2_v _ _)).trans h6
       simpa using e
     refine sk (rg [] rfl ?_)
     refine ⟨i + 1, ?_, ?_, ?_⟩
     ·refine ⟨hil, fun j hj => ?_⟩
      rcases Nat.lt_or_ge j i with h | h
      · exact heq j h
      · obtain rfl : j = i := by omega
        exact he
     ·refine em [] trivial ⟨⟨rfl, _, rfl, cvt⟩, ⟨rfl, _, rfl, cvt⟩, ⟨rfl, _, rfl, cvt⟩, trivial⟩ trivial
     ·(try simp only []); first | omega | grind
   ·have hil : i = a.length := by simp at h4; omega
    subst hil
    refine xt (sq (rg [] rfl ?_))
    refine WP.ret ?_
    change Fin ..
    refine fin1 hT (by rfl) ?_
    symm
    simp only [decide_eq_true_eq]
    refine List.ext_getElem hlen (fun j h1 h2 => ?_)
    have := heq j h1
    simpa [h1, h2] using this
theorem sameFs_ac (f g : Bool) (a b : List Fnd) : AC Tryz.prog T tysN 12 [fnds f a, fnds g b] [] (.bool (decide (a = b))) [] := by
 refine AC_intro hT Tryz.func12 rfl rfl (Nat.le_of_ble_eq_true rfl) ?_
 refine WP.rowlen 0 rfl (fun hla => ?_)
 refine sq (rg [] rfl ?_)
 refine sq (sq (rg [] rfl ?_))
 refine cd rfl (fun h1 => ?_) (fun h1 => ?_)
 ·have hne : a.length ≠ b.length := by simp at h1; omega
  refine sq (rg [] rfl ?_)
  refine WP.ret ?_
  change Fin ..
  exact fin1 hT (by rfl) (by simp; rintro rfl; exact hne rfl)
 ·have hlen : a.length = b.length := by simp at h1; omega
  refine sk (sq (sq (rg [] rfl ?_)))
  refine bk ?_
  refine WP.loop (α := Nat) (fun i => mkSt [(0, fnds f a), (1, fnds g b), (12, .int a.length), (13, .int i)] []) (fun i => i ≤ a.length ∧ ∀ j, j < i → a.getD j fnd0 = b.getD j fnd0) (fun i => a.length - i) ?_ ?_
  ·refine ⟨0, ?_, ?_⟩
   ·exact ⟨Nat.zero_le _, fun j hj => by omega⟩
   ·refine em [] trivial ⟨⟨rfl, _, rfl, cvt⟩, ⟨rfl, _, rfl, cvt⟩, ⟨rfl, _, rfl, cvt⟩, ⟨rfl, _, rfl, cvt⟩, trivial⟩ trivial
  ·rintro i ⟨hi, heq⟩
   refine sq (rg [] rfl ?_)
   refine sq ?_
   refine cd rfl (fun h4 => ?_) (fun h4 => ?_)
   ·have hil : i < a.length := by simpa using h4
    refine sk (sq (bk (sq (rg [] rfl ?_))))
    refine sq (drs [] rfl ?_ ?_)
    ·simp only [holdsC, under, CG.pure]
     repeat' with_reducible refine And.intro ?_ ?_
     all_goals (try with_reducible intros)
     all_goals (first | exact trivial | assumption | omega | (simp; done) | grind)
    refine cd rfl (fun h6 => ?_) (fun h6 => ?_)
    ·have hne : a.getD i fnd0 ≠ b.getD i fnd0 := by
       have e : (!(a.getD i fnd0 == b.getD i fnd0)) = true := (congrArg Bool.not (eqF_v _ _)).trans h6
       simpa using e
     refine sq (rg [] rfl ?_)
     refine WP.ret ?_
     change Fin ..
     exact fin1 hT (by rfl) (by simp; rintro rfl; exact hne rfl)
    ·have he : a.getD i fnd0 = b.getD i fnd0 := by
       have e : (!(a.getD i fnd0 == b.getD i fnd0)) = false := (congrArg Bool.not (eqF_v _ _)).trans h6
       simpa using e
     refine sk (rg [] rfl ?_)
     refine ⟨i + 1, ?_, ?_, ?_⟩
     ·refine ⟨hil, fun j hj => ?_⟩
      rcases Nat.lt_or_ge j i with h | h
      · exact heq j h
      · obtain rfl : j = i := by omega
        exact he
     ·refine em [] trivial ⟨⟨rfl, _, rfl, cvt⟩, ⟨rfl, _, rfl, cvt⟩, ⟨rfl, _, rfl, cvt⟩, ⟨rfl, _, rfl, cvt⟩, trivial⟩ trivial
     ·(try simp only []); first | omega | grind
   ·have hil : i = a.length := by simp at h4; omega
    subst hil
    refine xt (sq (rg [] rfl ?_))
    refine WP.ret ?_
    change Fin ..
    refine fin1 hT (by rfl) ?_
    symm
    simp only [decide_eq_true_eq]
    refine List.ext_getElem hlen (fun j h1 h2 => ?_)
    have := heq j h1
    simpa [h1, h2] using this
def intss (f : Bool) (l : List (List Int)) : AV := .row 23 f l.length (fun i => ints false (l.getD i []))
end Go.Ab


/- Clocked, and the reference's. -/
set_option autoImplicit false
set_option maxRecDepth 20000
set_option maxHeartbeats 4000000
set_option linter.unusedSimpArgs false
set_option linter.unusedVariables false
namespace Go.Ab
open Go.Proofs Go.Sort
def badI (t : List Evt) (i : Int) : Bool := decide (i < 0) || decide (i ≥ (t.length : Int))
def plcF (t : List Evt) (i j : Int) : Int := if chkE t ≠ 0 then chkE t else if (badI t i || badI t j) = true then 1 else 0
theorem placed_ac (g : Bool) (t : List Evt) (i j : Int) : AC Tryz.prog T tysN 75 [evts g t, .int i, .int j] [] (.int (plcF t i j)) [] := by
 refine AC_intro hT Tryz.func75 rfl rfl (Nat.le_of_ble_eq_true rfl) ?_
 refine sq (rg [] rfl ?_)
 refine sq (sq (rgs [CG.pure (.int (chkE t))] rfl ?_ ?_))
 ·have h1 := dcheck_ac g t
  simp only [holdsC, under, CG.pure]
  repeat' with_reducible refine And.intro ?_ ?_
  all_goals (try with_reducible intros)
  all_goals (first | exact trivial | assumption | omega | exact h1 | (simp; done) | grind)
 refine sq (rg [] rfl ?_)
 refine cd rfl (fun h2 => ?_) (fun h2 => ?_)
 ·have hb : chkE t ≠ 0 := by simpa using h2
  refine sq (rg [] rfl ?_)
  refine WP.ret ?_
  change Fin ..
  exact finI hT (by rfl) (by rw [plcF, if_pos hb])
 ·have hb : chkE t = 0 := by simpa using h2
  refine sk (sq (sq (rg [] rfl ?_)))
  refine cd rfl (fun h4 => ?_) (fun h4 => ?_)
  ·have hx : (badI t i || badI t j) = true := by
     have e := h4
     rw [bor, bor, bor, Bool.or_assoc (decide (i < 0) || decide (i ≥ (t.length : Int)))] at e
     exact e
   refine sq (rg [] rfl ?_)
   refine WP.ret ?_
   change Fin ..
   exact finI hT (by rfl) (by rw [plcF, if_neg (fun h => h hb), if_pos hx])
  ·have hx : (badI t i || badI t j) = false := by
     have e := h4
     rw [bor, bor, bor, Bool.or_assoc (decide (i < 0) || decide (i ≥ (t.length : Int)))] at e
     exact e
   refine sk (sq (rg [] rfl ?_))
   refine WP.ret ?_
   change Fin ..
   exact finI hT (by rfl) (by rw [plcF, if_neg (fun h => h hb), if_neg (by rw [hx]; decide)])
theorem place_ac (g : Bool) (t : List Evt) (i : Int) : AC Tryz.prog T tysN 33 [evts g t, .int i] [] (.bool (!badI t i)) [] := by
 refine AC_intro hT Tryz.func33 rfl rfl (Nat.le_of_ble_eq_true rfl) ?_
 refine sq (rg [] rfl ?_)
 refine sq (rg [] rfl ?_)
 refine WP.ret ?_
 change Fin ..
 refine fin1 hT (by rfl) ?_
 rw [band, badI, Bool.eq_iff_iff]
 simp
theorem plc_at {t : List Evt} {i j : Int} (h : plcF t i j = 0) : chkE t = 0 ∧ (0 ≤ i ∧ i < t.length) ∧ 0 ≤ j ∧ j < t.length := by
  unfold plcF at h
  split at h
  · rename_i e; exact absurd h e
  · rename_i e
    split at h
    · cases h
    · rename_i e2
      simp [badI] at e2
      exact ⟨by simpa using e, ⟨e2.1.1, by omega⟩, e2.2.1, by omega⟩
/-- Ahead of the question: is there none? -/
def noQ (t : List Evt) (i j : Nat) : Bool := decide (i ≥ j) || (eAt t i).go == (eAt t j).go || !depB (eAt t i) (eAt t j)
def accX (t : List Evt) (i j : Nat) : Nat → List Int
  | 0 => zeroC
  | k + 1 => if (k != i && depB (eAt t k) (eAt t j)) = true then joinC (accX t i j k) (clkOf t k) else accX t i j k
def clkdF (t : List Evt) (i j : Nat) : Bool := !noQ t i j && decide ((accX t i j j).getD (eAt t i).go.toNat 0 < (clkOf t i).getD (eAt t i).go.toNat 0)
theorem accX_le {t : List Evt} (h : GoOK t) {i j : Nat} (hj : j < t.length) : ∀ k, k ≤ j → leC (accX t i j k) k
  | 0, _ => leC_zero (by omega)
  | k + 1, hk => by
    have ih := accX_le h (i := i) hj k (by omega)
    rw [accX]
    split
    · exact leC_join (ih.mono (by omega)) ((clk_le h k (by omega)).1.mono (by omega))
    · exact ih.mono (by omega)
theorem clocked_ac (g : Bool) (t : List Evt) (i j : Nat) (hz : plcF t i j = 0) : AC Tryz.prog T tysN 31 [evts g t, .int i, .int j] [] (.tup [.bool (clkdF t i j), .int 0]) [] := by
 refine AC_intro hT Tryz.func31 rfl rfl (Nat.le_of_ble_eq_true rfl) ?_
 obtain ⟨hc, hi2, hj2⟩ := plc_at hz
 have hi : i < t.length := by omega
 have hj : j < t.length := by omega
 have hok := chk_right hc
 have h256 := hok.1
 refine sq (rg [] rfl ?_)
 refine sq (sq (rgs [CG.pure (.int 0)] rfl ?_ ?_))
 ·have h1 := placed_ac g t i j
  rw [hz] at h1
  simp only [holdsC, under, CG.pure]
  repeat' with_reducible refine And.intro ?_ ?_
  all_goals (try with_reducible intros)
  all_goals (first | exact trivial | assumption | omega | exact h1 | (simp; done) | grind)
 refine sq (rg [] rfl ?_)
 refine cd rfl (fun h2 => ?_) (fun h2 => ?_)
 ·exact absurd h2 (by decide)
 ·refine sk (sq (sq (drs [CG.pure (.bool (depB (eAt t i) (eAt t j)))] rfl ?_ ?_)))
  ·have h1 := dep_ac (eAt t i) (eAt t j)
   simp only [holdsC, under, CG.pure]
   repeat' with_reducible refine And.intro ?_ ?_
   all_goals (try with_reducible intros)
   all_goals (first | exact trivial | assumption | omega | exact h1 | (simp; done) | grind)
  refine cd rfl (fun h4 => ?_) (fun h4 => ?_)
  ·have hq : noQ t i j = true := by
     have e := h4
     rw [bor, bor] at e
     have e2 : (decide ((i : Int) ≥ j) || (eAt t i).go == (eAt t j).go || !depB (eAt t i) (eAt t j)) = true := e
     rw [noQ, ← e2, show decide (i ≥ j) = decide ((i : Int) ≥ j) from decide_eq_decide.2 (by omega)]
   refine sq (rg [] rfl ?_)
   refine WP.ret ?_
   change Fin ..
   rw [clkdF, hq]
   exact fin_mk hT [] (ts := [(6, .bool false), (7, .int 0)]) (l := [.bool false, .int 0]) trivial ⟨⟨rfl, _, rfl, cvt⟩, ⟨rfl, _, rfl, cvt⟩, trivial⟩ trivial rfl rfl rfl
  ·have hq : noQ t i j = false := by
     have e := h4
     rw [bor, bor] at e
     have e2 : (decide ((i : Int) ≥ j) || (eAt t i).go == (eAt t j).go || !depB (eAt t i) (eAt t j)) = false := e
     rw [noQ, ← e2, show decide (i ≥ j) = decide ((i : Int) ≥ j) from decide_eq_decide.2 (by omega)]
   refine sk (sq (rgs [CG.pure (.tup [clks false (clkTo t t.length), .int 0])] rfl ?_ ?_))
   ·have h1 := oclocks_ac g t
    rw [hc, if_pos rfl] at h1
    simp only [holdsC, under, CG.pure]
    repeat' with_reducible refine And.intro ?_ ?_
    all_goals (try with_reducible intros)
    all_goals (first | exact trivial | assumption | omega | exact h1 | (simp; done) | grind)
   refine sq (rg [] rfl ?_)
   refine sq (sq (rg [] rfl ?_))
   refine bk ?_
   refine WP.loop (α := Nat) (fun k => mkSt [(0, evts g t), (1, .int i), (2, .int j), (9, clks false (clkTo t t.length)), (11, .ptr (.s 11 0) 1 0 []), (53, .int j), (54, .int k)] [(.s 11 0, .cells ⟨106, 1, fun _ => encClk (accX t i j k), 0⟩)]) (fun k => k ≤ j) (fun k => j - k) ?_ ?_
   ·refine ⟨0, ?_, ?_⟩
    ·exact Nat.zero_le _
    ·refine em [] trivial ⟨⟨rfl, _, rfl, cvt⟩, ⟨rfl, _, rfl, cvt⟩, ⟨rfl, _, rfl, cvt⟩, ⟨rfl, _, rfl, cvt⟩, ⟨rfl, _, rfl, cvt⟩, ⟨rfl, _, rfl, cvt⟩, ⟨rfl, _, rfl, cvt⟩, trivial⟩ ⟨obs rfl (hok := fun _ _ => okIds_clk _ _) (hg := fun q hq => conv_eq (agg_ext (fun i => by match i with | 0 | 1 | 2 | 3 | 4 | 5 => rfl | i + 6 => rfl))), trivial⟩
   ·rintro k hk
    refine sq (rg [] rfl ?_)
    refine sq ?_
    refine cd rfl (fun h9 => ?_) (fun h9 => ?_)
    ·have hkj : k < j := by simpa using h9
     have hle := accX_le hok (i := i) hj k hk
     have hck := (clk_le hok k (by omega)).1
     refine sk (sq (bk (sq (rg [] rfl ?_))))
     refine sq (drs [CG.pure (.bool (depB (eAt t k) (eAt t j)))] rfl ?_ ?_)
     ·have h1 := dep_ac (eAt t k) (eAt t j)
      simp only [holdsC, under, CG.pure]
      repeat' with_reducible refine And.intro ?_ ?_
      all_goals (try with_reducible intros)
      all_goals (first | exact trivial | assumption | omega | exact h1 | (simp; done) | grind)
     refine cd rfl (fun h11 => ?_) (fun h11 => ?_)
     ·have hs : (k != i && depB (eAt t k) (eAt t j)) = true := by
        have e := h11
        rw [band] at e
        rw [← e]
        congr 1
        rw [Bool.eq_iff_iff]
        simp; omega
      refine drs [CG.pure (.tup [encClk (joinC (accX t i j k) (clkOf t k)), .int 0])] rfl ?_ ?_
      ·have h1 := join_ac (accX t i j k) (clkOf t k) (hle.ok (by omega)) (hck.ok (by omega))
       have hg : (clkTo t t.length).getD k zeroC = clkOf t k := clkTo_get t (by omega)
       have hkl : (k : Int) < ((clkTo t t.length).length : Int) := by rw [clkTo_len]; omega
       rw [← hg] at h1 ⊢
       simp only [holdsC, under, CG.pure]
       repeat' with_reducible refine And.intro ?_ ?_
       all_goals (try with_reducible intros)
       all_goals (first | exact trivial | assumption | omega | exact h1 | (simp; done) | grind)
      refine rg [] rfl ?_
      refine ⟨k + 1, ?_, ?_, ?_⟩
      ·exact hkj
      ·refine em [] trivial ⟨⟨rfl, _, rfl, cvt⟩, ⟨rfl, _, rfl, cvt⟩, ⟨rfl, _, rfl, cvt⟩, ⟨rfl, _, rfl, cvt⟩, ⟨rfl, _, rfl, cvt⟩, ⟨rfl, _, rfl, cvt⟩, ⟨rfl, _, rfl, cvt⟩, trivial⟩ ⟨obs rfl (hok := fun _ _ => okIds_clk _ _) (hg := fun q hq => by (obtain rfl : q = 0 := (by simp at hq; exact hq)); exact conv_eq (by rw [accX, if_pos hs]; rfl)), trivial⟩
      ·(try simp only []); first | omega | grind
     ·have hs : (k != i && depB (eAt t k) (eAt t j)) = false := by
        have e := h11
        rw [band] at e
        rw [← e]
        congr 1
        rw [Bool.eq_iff_iff]
        simp; omega
      refine sk (rg [] rfl ?_)
      refine ⟨k + 1, ?_, ?_, ?_⟩
      ·exact hkj
      ·refine em [] trivial ⟨⟨rfl, _, rfl, cvt⟩, ⟨rfl, _, rfl, cvt⟩, ⟨rfl, _, rfl, cvt⟩, ⟨rfl, _, rfl, cvt⟩, ⟨rfl, _, rfl, cvt⟩, ⟨rfl, _, rfl, cvt⟩, ⟨rfl, _, rfl, cvt⟩, trivial⟩ ⟨obs rfl (hok := fun _ _ => okIds_clk _ _) (hg := fun q hq => conv_eq (by rw [accX, hs]; rfl)), trivial⟩
      ·(try simp only []); first | omega | grind
    ·have hkj : k = j := by simp at h9; omega
     subst hkj
     have hgo := hok.2 i hi
     refine xt (sq (drs [] rfl ?_ ?_))
     ·have hkl : (i : Int) < ((clkTo t t.length).length : Int) := by rw [clkTo_len]; omega
      simp only [holdsC, under, CG.pure]
      repeat' with_reducible refine And.intro ?_ ?_
      all_goals (try with_reducible intros)
      all_goals (first | exact trivial | assumption | omega | exact hgo.1 | exact hgo.2 | (simp; done) | grind)
     refine WP.ret ?_
     change Fin ..
     have hg : (clkTo t t.length).getD i zeroC = clkOf t i := clkTo_get t hi
     rw [clkdF, hq, ← hg]
     exact fin_mk hT [] (ts := [(6, .bool (decide ((accX t i k k).getD (eAt t i).go.toNat 0 < ((clkTo t t.length).getD i zeroC).getD (eAt t i).go.toNat 0))), (7, .int 0)]) (l := [.bool (decide ((accX t i k k).getD (eAt t i).go.toNat 0 < ((clkTo t t.length).getD i zeroC).getD (eAt t i).go.toNat 0)), .int 0]) trivial ⟨⟨rfl, _, rfl, conv_eq rfl⟩, ⟨rfl, _, rfl, cvt⟩, trivial⟩ trivial rfl rfl rfl
end Go.Ab

