/- Part 20 of a proof of a statement about the given program: an abstract machine over the model, proved sound, and contracts of the functions that the statement reaches; the last part proves the statement, for every input, with no condition. -/
import Derived.Test.YtcfelhfcjdofoaaGreatDoorX17
import Derived.Test.YtcfelhfcjdofoaaGreatDoorX18
import Derived.Test.YtcfelhfcjdofoaaGreatDoorX15
set_option linter.unusedSimpArgs false
set_option linter.unusedVariables false
/- Touches in order, each once: SortFunc, Compact at accesses. -/
set_option autoImplicit false
set_option maxRecDepth 20000
set_option maxHeartbeats 4000000
set_option linter.unusedSimpArgs false
set_option linter.unusedVariables false
namespace Go.Ab
open Go.Proofs Go.Sort
structure BT where
  k : _root_.Fin 8
  n : _root_.Fin 8
  w : Bool
  deriving DecidableEq
def bt0 : BT := ⟨0, 0, false⟩
instance : Inhabited BT := ⟨bt0⟩
def BT.t (x : BT) : Tch := ⟨(x.k.val : Nat), (x.n.val : Nat), x.w⟩
def encBT (x : BT) : AV := encTch x.t
def valsBT (x : BT) : List Value := [.int .i64 (x.k.val : Nat), .int .i64 (x.n.val : Nat), .bool x.w]
theorem okIds_BT (ids : List Id) (x : BT) : okIds ids (encBT x) = true := rfl
theorem put_e (x y : AV) : x.put [] y = y := by cases x <;> rfl
theorem ren_BT (σ : Id → Id) (x : BT) : ren σ (encBT x) = encBT x := agg_ext (fun q => by match q with | 0 | 1 | 2 | q + 3 => rfl)
theorem flatBT (x : BT) : flatA T tysN 5 (encBT x) = some (valsBT x) := rfl
theorem encKBT : EncK T tysN 134 3 encBT valsBT where
  len _ := rfl
  one x v hv := by
    simp [valsBT] at hv
    rcases hv with rfl | rfl | rfl <;> rfl
  rep I ρ x := (flat_rep (flatBT x)).1 I ρ
  uni I ρ x cs h := (flat_rep (flatBT x)).2 I ρ cs h
  fits x := rfl
  pack x := rfl
  size := rfl
  pos := by decide
def cmpBT (x y : BT) : Int := if x.k ≠ y.k then (x.k.val : Int) - y.k.val else (x.n.val : Int) - y.n.val
theorem btcmp_ac (x y : BT) : AC Tryz.prog T tysN 222 [encBT x, encBT y] [] (.int (cmpBT x y)) [] := by
 refine AC_intro hT Tryz.func222 rfl rfl (Nat.le_of_ble_eq_true rfl) ?_
 refine sq (rg [] rfl ?_)
 refine sq (sq (rg [] rfl ?_))
 refine cd rfl (fun h1 => ?_) (fun h1 => ?_)
 ·have hne : x.k ≠ y.k := by
    intro e
    have h1' : (((x.k.val : Nat) : Int) != ((y.k.val : Nat) : Int)) = true := h1
    rw [e] at h1'
    simp at h1'
  refine sq (rg [] rfl ?_)
  refine WP.ret ?_
  change Fin ..
  refine finI hT (by rfl) ?_
  rw [cmpBT, if_pos hne]
  show IntKind.i64.wrap (((x.k.val : Nat) : Int) - ((y.k.val : Nat) : Int)) = _
  exact wrap_id (by omega) (by omega)
 ·have he : x.k = y.k := by
    have h1' : (((x.k.val : Nat) : Int) != ((y.k.val : Nat) : Int)) = false := h1
    simp at h1'
    omega
  refine sk (sq (rg [] rfl ?_))
  refine WP.ret ?_
  change Fin ..
  refine finI hT (by rfl) ?_
  rw [cmpBT, if_neg (fun h => h he)]
  show IntKind.i64.wrap (((x.n.val : Nat) : Int) - ((y.n.val : Nat) : Int)) = _
  exact wrap_id (by omega) (by omega)
theorem lt_cmpBT (x y : BT) : Go.Proofs.ltOf cmpBT x y = decide (x.k.val < y.k.val ∨ x.k.val = y.k.val ∧ x.n.val < y.n.val) := by
  unfold Go.Proofs.ltOf
  apply decide_eq_decide.2
  simp only [cmpBT]
  grind
theorem swoBT : SWO (Go.Proofs.ltOf cmpBT) where
  irrefl x := by rw [lt_cmpBT]; simp
  trans x y z h1 h2 := by rw [lt_cmpBT] at *; simp at *; omega
  ntrans x y z h1 h2 := by rw [lt_cmpBT] at *; simp at *; omega
def cellsBT (l : List BT) : Ob := cellsL 134 encBT default l
def sortBT (l : List BT) : List BT := sortBy cmpBT l
theorem btSort_ac (l : List BT) (hl : l.length < 4611686018427387904) : AC Tryz.prog T tysN 221 [.own (.b 0) l.length 0 l.length none, .clo 222 []] [cellsBT l] (.tup []) [cellsBT (sortBT l)] :=
  sortF_ac hT Tryz.laySortA encKBT Tryz.isAgg134 Tryz.sizeOf134 swoBT (enters_of Tryz.func222 rfl rfl) btcmp_ac ⟨_, Tryz.func221, rfl, rfl⟩ l hl
theorem eqBT_v (f g : BT) : (f == g) = (((f.k.val : Nat) : Int) == ((g.k.val : Nat) : Int) && (((f.n.val : Nat) : Int) == ((g.n.val : Nat) : Int) && (f.w == g.w && true))) := by
  obtain ⟨a, b, c⟩ := f
  obtain ⟨a', b', c'⟩ := g
  rw [Bool.eq_iff_iff]
  simp [BT.mk.injEq, _root_.Fin.ext_iff]
  exact ⟨fun ⟨h1, h2, h3⟩ => ⟨by omega, by omega, h3⟩, fun ⟨h1, h2, h3⟩ => ⟨by omega, by omega, h3⟩⟩
theorem compactA_ac (l : List BT) : AC Tryz.prog T tysN 223 [.own (.b 0) l.length 0 l.length none] [cellsL 134 encBT bt0 l] (.own (.b 0) l.length 0 (dd bt0 l l.length).length none) [.cells ⟨134, l.length, fun j => bif Nat.blt j (dd bt0 l l.length).length then encBT ((dd bt0 l l.length).getD j bt0) else (T 134).zero, 0⟩] := by
 refine AC_intro hT Tryz.func223 rfl rfl (Nat.le_of_ble_eq_true rfl) ?_
 refine WP.ownlen 0 rfl rfl rfl (fun hl => ?_)
 refine sq (rg [] rfl ?_)
 refine sq (sq (rg [] rfl ?_))
 refine cd rfl (fun h1 => ?_) (fun h1 => ?_)
 ·refine sq (rg [] rfl ?_)
  refine WP.ret ?_
  change Fin ..
  have e : dd bt0 l l.length = l := same_len bt0 (fun j h0 hj => by simp at h1; omega)
  rw [e]
  exact fin_mk hT [] (ts := [(2, .own (.b 0) l.length 0 l.length none)]) trivial ⟨⟨rfl, _, rfl, conv_eq rfl⟩, trivial⟩ ⟨⟨fun _ _ => ok_dd (enc := encBT) (d := bt0) (fun _ => okIds_BT _ _) rfl _, .inl ⟨_, rfl, _, _, rfl, Nat.le_refl _, Nat.zero_le _, Nat.zero_le _, fun q hq => conv_eq (blt_bif (show q < l.length from hq) _ _).symm⟩⟩, trivial⟩ rfl rfl rfl
 ·refine sk (sq (sq (rg [] rfl ?_)))
  refine bk ?_
  refine WP.loop (α := Nat) (fun i => mkSt [(0, .own (.b 0) l.length 0 l.length none), (3, .int i)] [(.b 0, cellsL 134 encBT bt0 l)]) (fun i => 1 ≤ i ∧ i ≤ l.length ∧ ∀ j, 0 < j → j < i → l.getD j bt0 ≠ l.getD (j - 1) bt0) (fun i => l.length - i) ?_ ?_
  ·refine ⟨1, ?_, ?_⟩
   ·exact ⟨Nat.le_refl _, by simp at h1; omega, fun j h1 h2 => by omega⟩
   ·refine em [] trivial ⟨⟨rfl, _, rfl, cvt⟩, ⟨rfl, _, rfl, cvt⟩, trivial⟩ ⟨obs rfl, trivial⟩
  ·rintro i ⟨h1i, hi, hn⟩
   refine sq (sq (rg [] rfl ?_))
   refine cd rfl (fun h4 => ?_) (fun h4 => ?_)
   ·have hil : i < l.length := by simpa using h4
    have e1 := toNat_pred h1i (show i < 2 ^ 63 by omega)
    have e2 := wrap_id (n := (i : Int) - 1) (by omega) (by omega)
    refine sk (sq (bk (sq (drs [] rfl ?_ ?_))))
    ·simp [holdsC, under, e2]; omega
    refine cd rfl (fun h6 => ?_) (fun h6 => ?_)
    ·have hdup : l.getD i bt0 = l.getD (i - 1) bt0 := by
       have e : (l.getD i bt0 == l.getD (IntKind.i64.wrap ((i : Int) - 1)).toNat bt0) = true := (eqBT_v _ _).trans h6
       rw [e1] at e; simpa using e
     refine sq (rg [] rfl ?_)
     refine sq (sq (rg [] rfl ?_))
     refine bk ?_
     refine WP.loop (α := List BT × Nat × Nat) (fun (⟨c, i2, k⟩ : List BT × Nat × Nat) => mkSt [(0, .own (.b 0) l.length 0 l.length none), (3, .int i2), (4, .own (.b 0) l.length i (l.length - i) none), (5, .int k)] [(.b 0, .cells ⟨134, l.length, fun j => encBT (c.getD j bt0), 0⟩)]) (fun (⟨c, i2, k⟩ : List BT × Nat × Nat) => c.length = l.length ∧ 1 ≤ k ∧ i + k ≤ l.length ∧ c.take i2 = dd bt0 l (i + k) ∧ i2 = (dd bt0 l (i + k)).length ∧ i2 < i + k ∧ ∀ j, i + k ≤ j + 1 → c.getD j bt0 = l.getD j bt0) (fun (⟨c, i2, k⟩ : List BT × Nat × Nat) => l.length - k) ?_ ?_
     ·refine ⟨(l, i, 1), ?_, ?_⟩
      ·have e := dd_skip bt0 (by omega) hdup
       have e' := dd_all bt0 l i (by omega) hn
       refine ⟨rfl, Nat.le_refl _, by omega, by rw [e, e'], by rw [e, e', List.length_take]; omega, by omega, fun j hj => rfl⟩
      ·refine em [] trivial ⟨⟨rfl, _, rfl, cvt⟩, ⟨rfl, _, rfl, cvt⟩, ⟨rfl, _, rfl, cvt⟩, ⟨rfl, _, rfl, cvt⟩, trivial⟩ ⟨obs rfl, trivial⟩
     ·rintro ⟨c, i2, k⟩ ⟨hc, hk1, hk, htk, hi2, hi2k, hrest⟩
      refine sq (sq (rg [] rfl ?_))
      refine cd rfl (fun h9 => ?_) (fun h9 => ?_)
      ·have hkl : i + k < l.length := by simp at h9; omega
       have e3 := toNat_pred hk1 (show k < 2 ^ 63 by omega)
       have e4 := wrap_id (n := (k : Int) - 1) (by omega) (by omega)
       have r1 := hrest (i + k) (by omega)
       have r2 := hrest (i + k - 1) (by omega)
       have e5 : k - 1 + i = i + k - 1 := by omega
       have e6 : k + i = i + k := by omega
       have r1' : c.getD (k + i) bt0 = l.getD (i + k) bt0 := by rw [e6]; exact r1
       refine sk (sq (bk (sq (drs [] rfl ?_ ?_))))
       ·simp [holdsC, under, e4]; omega
       refine cd rfl (fun h11 => ?_) (fun h11 => ?_)
       ·have hne : l.getD (i + k) bt0 ≠ l.getD (i + k - 1) bt0 := by
          have e : (!(c.getD (k + i) bt0 == c.getD ((IntKind.i64.wrap ((k : Int) - 1)).toNat + i) bt0)) = true := (congrArg Bool.not (eqBT_v _ _)).trans h11
          rw [e3, e5, e6, r1, r2] at e; simpa using e
        refine sq (rgs [] rfl ?_ ?_)
        ·simp [holdsC, under]; omega
        refine rg [] rfl ?_
        refine rg [] rfl ?_
        refine ⟨(c.set i2 (c.getD (k + i) bt0), i2 + 1, k + 1), ?_, ?_, ?_⟩
        ·have em := dd_more bt0 hne
         refine ⟨by simpa using hc, by omega, by omega, ?_, by rw [← Nat.add_assoc, em]; simp; omega, by omega, fun j hj => ?_⟩
         · rw [← Nat.add_assoc, em, r1', ← htk]
           have h2 : i2 < c.length := by omega
           apply List.ext_getElem?
           intro q
           rw [List.getElem?_take, List.getElem?_append, List.length_take, Nat.min_eq_left (Nat.le_of_lt h2), List.getElem?_take]
           rcases Nat.lt_trichotomy q i2 with h | h | h
           · rw [if_pos (by omega), if_pos h, if_pos h, List.getElem?_set_ne (by omega)]
           · subst h; simp [h2]
           · rw [if_neg (by omega), if_neg (by omega)]
             simp [show q - i2 ≠ 0 by omega]
         · simp only [List.getD_eq_getElem?_getD]
           rw [List.getElem?_set_ne (by omega)]
           have := hrest j (by omega)
           simpa using this
        ·refine em [] trivial ⟨⟨rfl, _, rfl, cvt⟩, ⟨rfl, _, rfl, cvt⟩, ⟨rfl, _, rfl, cvt⟩, ⟨rfl, _, rfl, cvt⟩, trivial⟩ ⟨⟨fun _ _ => rfl, .inl ⟨_, rfl, _, _, rfl, Nat.le_refl _, by first | exact Nat.zero_le _ | omega, by first | exact Nat.zero_le _ | omega, fun q hq => ?_⟩⟩, trivial⟩
         ·exact conv_eq (set_list (enc := encBT) (d := bt0) (l := c) (i := i2) (x := c.getD (k + i) bt0) (by omega) (by rw [put_e]; rfl) q)
        ·(try simp only []); first | omega | grind
       ·have heq : l.getD (i + k) bt0 = l.getD (i + k - 1) bt0 := by
          have e : (!(c.getD (k + i) bt0 == c.getD ((IntKind.i64.wrap ((k : Int) - 1)).toNat + i) bt0)) = false := (congrArg Bool.not (eqBT_v _ _)).trans h11
          rw [e3, e5, e6, r1, r2] at e; simpa using e
        refine sk (rg [] rfl ?_)
        refine ⟨(c, i2, k + 1), ?_, ?_, ?_⟩
        ·have em := dd_skip bt0 (l := l) (k := i + k) (by omega) heq
         exact ⟨hc, by omega, by omega, by rw [← Nat.add_assoc, em]; exact htk, by rw [← Nat.add_assoc, em]; exact hi2, by omega, fun j hj => hrest j (by omega)⟩
        ·refine em [] trivial ⟨⟨rfl, _, rfl, cvt⟩, ⟨rfl, _, rfl, cvt⟩, ⟨rfl, _, rfl, cvt⟩, ⟨rfl, _, rfl, cvt⟩, trivial⟩ ⟨obs rfl, trivial⟩
        ·(try simp only []); first | omega | grind
      ·have hkl : i + k = l.length := by simp at h9; omega
       rw [hkl] at htk hi2 hi2k
       refine xt (sq (rgs [] rfl ?_ ?_))
       ·simp [holdsC, under, slOk, slB, capEq]; omega
       refine sq (rgs [] rfl ?_ ?_)
       ·simp [holdsC, under, slOk, slB, capEq]; omega
       refine WP.ret ?_
       change Fin ..
       refine fin_mk hT [] (ts := [(2, .own (.b 0) l.length 0 (dd bt0 l l.length).length none)]) trivial ⟨⟨rfl, _, rfl, conv_eq ?_⟩, trivial⟩ ⟨⟨fun _ _ => ok_dd (enc := encBT) (d := bt0) (fun _ => okIds_BT _ _) rfl _, .inl ⟨_, rfl, _, _, rfl, Nat.le_refl _, Nat.zero_le _, Nat.zero_le _, fun q hq => conv_eq ?_⟩⟩, trivial⟩ rfl rfl rfl
       · rw [← hi2]; rfl
       · simp only [Nat.zero_add]
         exact cells_dd bt0 (enc := encBT) (z := (T 134).zero) htk hi2 (by omega) q hq
    ·have hne : l.getD i bt0 ≠ l.getD (i - 1) bt0 := by
       have e : (l.getD i bt0 == l.getD (IntKind.i64.wrap ((i : Int) - 1)).toNat bt0) = false := (eqBT_v _ _).trans h6
       rw [e1] at e; simpa using e
     refine sk (rg [] rfl ?_)
     refine ⟨i + 1, ?_, ?_, ?_⟩
     ·refine ⟨by omega, hil, fun j h0 hj => ?_⟩
      rcases Nat.lt_or_ge j i with h | h
      · exact hn j h0 h
      · obtain rfl : j = i := by omega
        exact hne
     ·refine em [] trivial ⟨⟨rfl, _, rfl, cvt⟩, ⟨rfl, _, rfl, cvt⟩, trivial⟩ ⟨obs rfl, trivial⟩
     ·(try simp only []); first | omega | grind
   ·refine xt (sq (rg [] rfl ?_))
    refine WP.ret ?_
    change Fin ..
    have hil : i = l.length := by simp at h4; omega
    subst hil
    have e : dd bt0 l l.length = l := same_len bt0 hn
    rw [e]
    exact fin_mk hT [] (ts := [(2, .own (.b 0) l.length 0 l.length none)]) trivial ⟨⟨rfl, _, rfl, conv_eq rfl⟩, trivial⟩ ⟨⟨fun _ _ => ok_dd (enc := encBT) (d := bt0) (fun _ => okIds_BT _ _) rfl _, .inl ⟨_, rfl, _, _, rfl, Nat.le_refl _, Nat.zero_le _, Nat.zero_le _, fun q hq => conv_eq (blt_bif (show q < l.length from hq) _ _).symm⟩⟩, trivial⟩ rfl rfl rfl
end Go.Ab


/- What a step touches. -/
set_option autoImplicit false
set_option maxRecDepth 20000
set_option maxHeartbeats 4000000
set_option linter.unusedSimpArgs false
set_option linter.unusedVariables false
namespace Go.Ab
open Go.Proofs
def bt (k n : Int) (w : Bool) : BT := ⟨_root_.Fin.ofNat 8 k.toNat, _root_.Fin.ofNat 8 n.toNat, w⟩
theorem bt_t {k n : Int} {w : Bool} (hk : 0 ≤ k ∧ k < 8) (hn : 0 ≤ n ∧ n < 8) : (bt k n w).t = ⟨k, n, w⟩ := by
  simp only [bt, BT.t, _root_.Fin.ofNat, Tch.mk.injEq, and_true]
  refine ⟨?_, ?_⟩ <;> omega
def putO (l : List BT) : List Ob := [.cells ⟨195, 1, fun _ => .own (.b 1) l.length 0 l.length none, 0⟩, cellsL 134 encBT bt0 l]
theorem encTch_of (k n : Int) (w : Bool) : (AV.agg 134 3 fun q => bif Nat.beq q 2 then .bool w else bif Nat.beq q 1 then .int n else bif Nat.beq q 0 then .int k else [AV.int 0, AV.int 0, AV.bool false].getD q .bad) = encTch ⟨k, n, w⟩ := agg_ext (fun q => by match q with | 0 | 1 | 2 | q + 3 => rfl)
theorem put_ac (l : List BT) (k n : Int) (w : Bool) (hl : l.length ≤ 100) (hk : 0 ≤ k ∧ k < 8) (hn : 0 ≤ n ∧ n < 8) : AC Tryz.prog T tysN 219 [.int k, .int n, .bool w, .ptr (.b 0) 1 0 []] [.cells ⟨195, 1, fun _ => .own (.b 1) l.length 0 l.length none, 0⟩, cellsL 134 encBT bt0 l] (.tup []) [.cells ⟨195, 1, fun _ => .own (.b 1) (l ++ [bt k n w]).length 0 (l ++ [bt k n w]).length none, 0⟩, cellsL 134 encBT bt0 (l ++ [bt k n w])] := by
 refine AC_intro hT Tryz.func219 rfl rfl (Nat.le_of_ble_eq_true rfl) ?_
 refine rgs [] rfl ?_ ?_
 ·have hbt : (T 134).bytes = 24 := rfl
  simp [holdsC, under, hbt]; omega
 change Fin ..
 refine fin_mk hT [] (ts := []) (l := []) trivial trivial ⟨obs rfl (hg := q0 (conv_eq (by rw [len_snc]; rfl))), ob_list (okIds_BT _) rfl rfl (by rw [len_snc]) rfl rfl (appL (z := (T 134).zero) rfl (by rw [encBT, bt_t hk hn]; exact encTch_of k n w) (fun q hq => rfl)), trivial⟩ rfl rfl rfl
def caseBT (l : List PCase) : List BT := l.map fun c => bt 3 c.chan true
theorem caseBT_snoc {l : List PCase} {k : Nat} (hk : k < l.length) : caseBT (l.take k) ++ [bt 3 (l.getD k case0).chan true] = caseBT (l.take (k + 1)) := by
  rw [List.take_add_one, List.getElem?_eq_getElem hk, caseBT, caseBT, List.map_append]
  simp [hk]
def rawT (p : PProg) (s : PSt) (g : Int) : List BT := [bt 5 g true] ++
  (if (atI p s g).op = 50 then [bt 1 (atI p s g).b false] else if (atI p s g).op = 54 then [bt 1 (atI p s g).a false] else if (atI p s g).op = 51 then [bt 1 (atI p s g).a true] else
  if (atI p s g).op = 52 then [bt 1 (atI p s g).b true] else if (atI p s g).op = 53 then [bt 1 (atI p s g).b true] else if (atI p s g).op = 55 then [bt 2 (atI p s g).a true] else if (atI p s g).op = 56 then [bt 2 (atI p s g).a true] else
  if (atI p s g).op = 57 then [bt 2 (atI p s g).b true] else if (atI p s g).op = 58 then [bt 3 (atI p s g).a true] else if (atI p s g).op = 60 then [bt 3 (atI p s g).a true] else if (atI p s g).op = 66 then [bt 3 (atI p s g).a true] else
  if (atI p s g).op = 59 then [bt 3 (atI p s g).b true] else if (atI p s g).op = 61 then caseBT (selI p s g).cases else
  if (atI p s g).op = 62 then [bt 4 0 true] ++ (if s.count < 6 then [bt 5 s.count true] else []) else
  if (atI p s g).op = 63 then [bt 4 0 false] ++ (if thereB s g (regI (goI s g) (atI p s g).a) then [bt 5 (regI (goI s g) (atI p s g).a) false] else []) else
  if (atI p s g).op = 65 then [bt 6 0 true] else [])
def touchL (p : PProg) (s : PSt) (g : Int) : List BT := dd bt0 (sortBT (rawT p s g)) (sortBT (rawT p s g)).length
theorem Stands.rng {p : PProg} {s : PSt} {g : Int} (h : Stands p s g) : ((atI p s g).op = 50 ∨ (atI p s g).op = 52 ∨ (atI p s g).op = 53 ∨ (atI p s g).op = 57 ∨ (atI p s g).op = 59 → 0 ≤ (atI p s g).b ∧ (atI p s g).b < 8) ∧
    ((atI p s g).op = 54 ∨ (atI p s g).op = 51 ∨ (atI p s g).op = 55 ∨ (atI p s g).op = 56 ∨ (atI p s g).op = 58 ∨ (atI p s g).op = 60 ∨ (atI p s g).op = 66 → 0 ≤ (atI p s g).a ∧ (atI p s g).a < 8) := by
  have hp := h.prog
  have hv := hp.vars; have hl := hp.locks; have hc := hp.chans
  have ha := h.at
  have hi : (atI p s g).op ≠ 66 → InsP p (fnOf p (goI s g)) (atI p s g) := fun e => by rw [ha.ins e]; exact h.ins
  constructor
  · intro e
    have hi := hi (by omega)
    rcases e with e | e | e | e | e
    · have := (hi.load e).2; unfold bndP at this; omega
    · have := (hi.bump e).2.1; unfold bndP at this; omega
    · have := (hi.cas e).2.1; unfold bndP at this; omega
    · have := (hi.try_ e).2; omega
    · have := (hi.recv e).2.1; unfold bndP at this; omega
  · intro e
    by_cases e66 : (atI p s g).op = 66
    · have := ha.send (.inr (.inr e66)); unfold bndP at this; omega
    have hi := hi e66
    rcases e with e | e | e | e | e | e | e
    · have := (hi.store (.inr e)).2; unfold bndP at this; omega
    · have := (hi.store (.inl e)).2; unfold bndP at this; omega
    · have := hi.lock (.inl e); omega
    · have := hi.lock (.inr e); omega
    · have := (hi.send e).1; unfold bndP at this; omega
    · have := hi.close e; unfold bndP at this; omega
    · exact absurd e e66
theorem rawT_len {p : PProg} {s : PSt} {g : Int} (h : Stands p s g) : (rawT p s g).length ≤ 5 := by
  have h61 : (atI p s g).op = 61 → (caseBT (selI p s g).cases).length ≤ 4 := fun e => by
    rw [caseBT, List.length_map]; exact (h.sel e).2.len.2
  have one : ∀ x : BT, [x].length ≤ 4 := fun x => by simp
  have hb : ∀ l : List BT, l.length ≤ 4 → ([bt 5 g true] ++ l).length ≤ 5 := fun l h => by simp; omega
  refine hb _ ?_
  have it : ∀ (c : Prop) [Decidable c] (a b : List BT), (c → a.length ≤ 4) → b.length ≤ 4 → (if c then a else b).length ≤ 4 := fun c _ a b h1 h2 => by by_cases h : c; rw [if_pos h]; exact h1 h; rw [if_neg h]; exact h2
  refine it _ _ _ (fun _ => one _) <| it _ _ _ (fun _ => one _) <| it _ _ _ (fun _ => one _) <| it _ _ _ (fun _ => one _) <| it _ _ _ (fun _ => one _) <| it _ _ _ (fun _ => one _) <| it _ _ _ (fun _ => one _) <| it _ _ _ (fun _ => one _) <| it _ _ _ (fun _ => one _) <| it _ _ _ (fun _ => one _) <| it _ _ _ (fun _ => one _) <| it _ _ _ (fun _ => one _) <|
    it _ _ _ h61 <| it _ _ _ (fun _ => ?_) <| it _ _ _ (fun _ => ?_) <| it _ _ _ (fun _ => one _) (by simp)
  · split <;> simp
  · split <;> simp
def putC (l : List BT) : List Ob := [.cells ⟨195, 1, fun _ => .own (.s 99 0) l.length 0 l.length none, 0⟩, cellsL 134 encBT bt0 l]
theorem put_acR (l : List BT) (k n : Int) (w : Bool) (hl : l.length ≤ 100) (hk : 0 ≤ k ∧ k < 8) (hn : 0 ≤ n ∧ n < 8) : AC Tryz.prog T tysN 219 [.int k, .int n, .bool w, .ptr (.b 0) 1 0 []] (List.map (renO (sig [.s 7 0, .s 99 0] 0)) (putC l)) (.tup []) (putO (l ++ [bt k n w])) := by
  have e : List.map (renO (sig [.s 7 0, .s 99 0] 0)) (putC l) = putO l := by
    show [_, renO _ (cellsL 134 encBT bt0 l)] = _
    rw [renO_list (ren_BT _)]; rfl
  rw [e]; exact put_ac l k n w hl hk hn
theorem btSort_acR (l : List BT) (hl : l.length < 4611686018427387904) : AC Tryz.prog T tysN 221 [.own (.b 0) l.length 0 l.length none, .clo 222 []] (List.map (renO (sig [.s 99 0] 0)) [cellsL 134 encBT bt0 l]) (.tup []) [cellsBT (sortBT l)] := by
  have e : List.map (renO (sig [.s 99 0] 0)) [cellsL 134 encBT bt0 l] = [cellsBT l] := by
    show [renO _ (cellsL 134 encBT bt0 l)] = _
    rw [renO_list (ren_BT _)]; rfl
  rw [e]; exact btSort_ac l hl
def ddO (l : List BT) : Ob := .cells ⟨134, l.length, fun j => bif Nat.blt j (dd bt0 l l.length).length then encBT ((dd bt0 l l.length).getD j bt0) else (T 134).zero, 0⟩
theorem compactA_acR (l : List BT) : AC Tryz.prog T tysN 223 [.own (.b 0) l.length 0 l.length none] (List.map (renO (sig [.s 99 0] 0)) [cellsL 134 encBT bt0 l]) (.own (.b 0) l.length 0 (dd bt0 l l.length).length none) [ddO l] := by
  have e : List.map (renO (sig [.s 99 0] 0)) [cellsL 134 encBT bt0 l] = [cellsL 134 encBT bt0 l] := by
    show [renO _ (cellsL 134 encBT bt0 l)] = _
    rw [renO_list (ren_BT _)]
  rw [e]; exact compactA_ac l
theorem ddO_ok (ids : List Id) (l : List BT) : okO ids (ddO l) := fun i _ => by
  show okIds ids (bif _ then _ else _) = true
  exact ok_dd (enc := encBT) (d := bt0) (fun _ => okIds_BT _ _) rfl _
theorem touch_ac (p : PProg) (s : PSt) (g : Int) (h : Stands p s g) : AC Tryz.prog T tysN 160 [encProg p, encS s, .int g] [] (rowP 134 encBT bt0 (touchL p s g)) [] := by
 refine AC_intro hT Tryz.func160 rfl rfl (Nat.le_of_ble_eq_true rfl) ?_
 have h6 := h.pos
 have hc4 := h.prog.chans
 have hc6 := h.valid.2.1
 have hrg := h.rng
 have hat := h.at
 have ho1 : ∀ l : List BT, okOs [.s 7 0, .s 99 0] [.cells ⟨195, 1, fun _ => .own (.s 99 0) l.length 0 l.length none, 0⟩, cellsL 134 encBT bt0 l] := fun l => ⟨fun _ _ => rfl, fun _ _ => rfl, trivial⟩
 have ho2 : ∀ l : List BT, okOs (bs 2) (putO l) := fun l => ⟨fun _ _ => rfl, fun _ _ => rfl, trivial⟩
 have hg0 : ∀ k n : Int, ∀ w : Bool, 0 ≤ k ∧ k < 8 → 0 ≤ n ∧ n < 8 → AC Tryz.prog T tysN 219 [.int k, .int n, .bool w, .ptr (.b 0) 1 0 []] (List.map (renO (sig [.s 7 0, .s 99 0] 0)) (putC [bt 5 g true])) (.tup []) (putO ([bt 5 g true] ++ [bt k n w])) := fun k n w a b => put_acR [bt 5 g true] k n w (by simp) a b
 refine sq (rg [] rfl ?_)
 refine sq ?_
 refine WP.ent (st' := mkSt [(3, .rp 26 (encProg p)), (4, .rp 62 (encS s)), (2, .int g)] []) (em [(.s 3 0, 1), (.s 4 0, 1)] ⟨sF, sF, trivial⟩ ⟨⟨rfl, _, rfl, rpv⟩, ⟨rfl, _, rfl, rpv⟩, ⟨rfl, _, rfl, cvt⟩, trivial⟩ trivial) ?_
 refine rg [] rfl ?_
 refine sq (rg [] rfl ?_)
 refine sq ?_
 refine WP.ent (st' := mkSt [(2, .int g), (3, .rp 26 (encProg p)), (4, .rp 62 (encS s)), (7, .ptr (.s 7 0) 1 0 []), (8, .clo 219 [.ptr (.s 7 0) 1 0 []])] [(.s 7 0, .cells ⟨195, 1, fun _ => .own (.s 99 0) 0 0 0 none, 0⟩), (.s 99 0, cellsL 134 encBT bt0 [])]) ?_ ?_
 ·refine em [] trivial ⟨⟨rfl, _, rfl, cvt⟩, ⟨rfl, _, rfl, cvt⟩, ⟨rfl, _, rfl, cvt⟩, ⟨rfl, _, rfl, cvt⟩, ⟨rfl, _, rfl, cvt⟩, trivial⟩ ⟨obs rfl (hg := q0 conv_nil_own), ⟨fun _ _ => rfl, .inr ⟨rfl, 134, _, rfl, by decide⟩⟩, trivial⟩
 refine rgs [⟨true, [.s 7 0, .s 99 0], .tup [], putO [bt 5 g true]⟩] rfl ?_ ?_
 ·have hq := put_acR [] 5 g true (by simp) (by omega) (by omega)
  simp only [holdsC, under, CG.pure]
  repeat' with_reducible refine And.intro ?_ ?_
  all_goals (try with_reducible intros)
  all_goals (first | exact trivial | assumption | omega | exact hq | exact (ho1 []) | exact (ho2 [bt 5 g true]) | (simp; done) | grind)
 refine sq ?_
 refine WP.ent (st' := mkSt [(2, .int g), (3, .rp 26 (encProg p)), (4, .rp 62 (encS s)), (7, .ptr (.s 7 0) 1 0 []), (8, .clo 219 [.ptr (.s 7 0) 1 0 []])] [(.s 7 0, .cells ⟨195, 1, fun _ => .own (.s 99 0) 1 0 1 none, 0⟩), (.s 99 0, cellsL 134 encBT bt0 [bt 5 g true])]) ?_ ?_
 ·refine em [] trivial ⟨⟨rfl, _, rfl, cvt⟩, ⟨rfl, _, rfl, cvt⟩, ⟨rfl, _, rfl, cvt⟩, ⟨rfl, _, rfl, cvt⟩, ⟨rfl, _, rfl, cvt⟩, trivial⟩ ⟨obs rfl, ob_list (okIds_BT _) rfl rfl rfl rfl rfl (fun q hq => ren_BT _ _), trivial⟩
 refine rgs [CG.pure (encIns (atI p s g))] rfl ?_ ?_
 ·have hq := at_ac p s g h
  simp only [holdsC, under, CG.pure]
  repeat' with_reducible refine And.intro ?_ ?_
  all_goals (try with_reducible intros)
  all_goals (first | exact trivial | assumption | omega | exact hq | (simp; done) | grind)
 refine WP.seqJ (α := List BT) (fun l => mkSt [(7, .ptr (.s 7 0) 1 0 [])] [(.s 7 0, .cells ⟨195, 1, fun _ => .own (.s 99 0) l.length 0 l.length none, 0⟩), (.s 99 0, cellsL 134 encBT bt0 l)]) (fun l => l = rawT p s g) ?_ ?_
 ·refine sq ?_
  refine WP.ent (st' := mkSt [(2, .int g), (3, .rp 26 (encProg p)), (4, .rp 62 (encS s)), (7, .ptr (.s 7 0) 1 0 []), (8, .clo 219 [.ptr (.s 7 0) 1 0 []]), (9, .rp 120 (encIns (atI p s g)))] [(.s 7 0, .cells ⟨195, 1, fun _ => .own (.s 99 0) 1 0 1 none, 0⟩), (.s 99 0, cellsL 134 encBT bt0 [bt 5 g true])]) ?_ ?_
  ·refine em [(.s 9 0, 1)] ⟨sF, trivial⟩ ⟨⟨rfl, _, rfl, cvt⟩, ⟨rfl, _, rfl, cvt⟩, ⟨rfl, _, rfl, cvt⟩, ⟨rfl, _, rfl, cvt⟩, ⟨rfl, _, rfl, cvt⟩, ⟨rfl, _, rfl, rpv⟩, trivial⟩ ⟨obs rfl, ob_list (okIds_BT _) rfl rfl rfl rfl rfl (fun q hq => rfl), trivial⟩
  refine rg [] rfl ?_
  refine bk (sq (rg [] rfl ?_))
  refine cd rfl (fun h6 => ?_) (fun h6 => ?_)
  ·have e : (atI p s g).op = 50 := by simpa using h6
   have hx := hrg.1 (by omega)
   refine rgs [⟨true, [.s 7 0, .s 99 0], .tup [], putO ([bt 5 g true] ++ [bt 1 (atI p s g).b false])⟩] rfl ?_ ?_
   ·have hq := hg0 1 (atI p s g).b false (by omega) hx
    simp only [holdsC, under, CG.pure]
    repeat' with_reducible refine And.intro ?_ ?_
    all_goals (try with_reducible intros)
    all_goals (first | exact trivial | assumption | omega | exact hq | exact (ho1 [bt 5 g true]) | exact (ho2 ([bt 5 g true] ++ [bt 1 (atI p s g).b false])) | (simp; done) | grind)
   refine ⟨[bt 5 g true] ++ [bt 1 (atI p s g).b false], ?_, ?_⟩
   ·simp [rawT, e]
   ·refine em [] trivial ⟨⟨rfl, _, rfl, cvt⟩, trivial⟩ ⟨obs rfl, ob_list (okIds_BT _) rfl rfl rfl rfl rfl (fun q hq => ren_BT _ _), trivial⟩
  ·have e50 : (atI p s g).op ≠ 50 := by simpa using h6
   refine sq (rg [] rfl ?_)
   refine cd rfl (fun h8 => ?_) (fun h8 => ?_)
   ·have e : (atI p s g).op = 54 := by simpa using h8
    have hx := hrg.2 (by omega)
    refine rgs [⟨true, [.s 7 0, .s 99 0], .tup [], putO ([bt 5 g true] ++ [bt 1 (atI p s g).a false])⟩] rfl ?_ ?_
    ·have hq := hg0 1 (atI p s g).a false (by omega) hx
     simp only [holdsC, under, CG.pure]
     repeat' with_reducible refine And.intro ?_ ?_
     all_goals (try with_reducible intros)
     all_goals (first | exact trivial | assumption | omega | exact hq | exact (ho1 [bt 5 g true]) | exact (ho2 ([bt 5 g true] ++ [bt 1 (atI p s g).a false])) | (simp; done) | grind)
    refine ⟨[bt 5 g true] ++ [bt 1 (atI p s g).a false], ?_, ?_⟩
    ·simp [rawT, e]
    ·refine em [] trivial ⟨⟨rfl, _, rfl, cvt⟩, trivial⟩ ⟨obs rfl, ob_list (okIds_BT _) rfl rfl rfl rfl rfl (fun q hq => ren_BT _ _), trivial⟩
   ·have e54 : (atI p s g).op ≠ 54 := by simpa using h8
    refine sq (rg [] rfl ?_)
    refine cd rfl (fun h10 => ?_) (fun h10 => ?_)
    ·have e : (atI p s g).op = 51 := by simpa using h10
     have hx := hrg.2 (by omega)
     refine rgs [⟨true, [.s 7 0, .s 99 0], .tup [], putO ([bt 5 g true] ++ [bt 1 (atI p s g).a true])⟩] rfl ?_ ?_
     ·have hq := hg0 1 (atI p s g).a true (by omega) hx
      simp only [holdsC, under, CG.pure]
      repeat' with_reducible refine And.intro ?_ ?_
      all_goals (try with_reducible intros)
      all_goals (first | exact trivial | assumption | omega | exact hq | exact (ho1 [bt 5 g true]) | exact (ho2 ([bt 5 g true] ++ [bt 1 (atI p s g).a true])) | (simp; done) | grind)
     refine ⟨[bt 5 g true] ++ [bt 1 (atI p s g).a true], ?_, ?_⟩
     ·simp [rawT, e]
     ·refine em [] trivial ⟨⟨rfl, _, rfl, cvt⟩, trivial⟩ ⟨obs rfl, ob_list (okIds_BT _) rfl rfl rfl rfl rfl (fun q hq => ren_BT _ _), trivial⟩
    ·have e51 : (atI p s g).op ≠ 51 := by simpa using h10
     refine sq (sq (rg [] rfl ?_))
     refine cd rfl (fun h12 => ?_) (fun h12 => ?_)
     ·have e : (atI p s g).op = 52 := by simpa using h12
      have hx := hrg.1 (by omega)
      refine sk ?_
      refine cd rfl (fun h12 => ?_) (fun h12 => ?_)
      ·refine rgs [⟨true, [.s 7 0, .s 99 0], .tup [], putO ([bt 5 g true] ++ [bt 1 (atI p s g).b true])⟩] rfl ?_ ?_
       ·have hq := hg0 1 (atI p s g).b true (by omega) hx
        simp only [holdsC, under, CG.pure]
        repeat' with_reducible refine And.intro ?_ ?_
        all_goals (try with_reducible intros)
        all_goals (first | exact trivial | assumption | omega | exact hq | exact (ho1 [bt 5 g true]) | exact (ho2 ([bt 5 g true] ++ [bt 1 (atI p s g).b true])) | (simp; done) | grind)
       refine ⟨[bt 5 g true] ++ [bt 1 (atI p s g).b true], ?_, ?_⟩
       ·simp [rawT, e]
       ·refine em [] trivial ⟨⟨rfl, _, rfl, cvt⟩, trivial⟩ ⟨obs rfl, ob_list (okIds_BT _) rfl rfl rfl rfl rfl (fun q hq => ren_BT _ _), trivial⟩
      ·simp_all
     ·have e52 : (atI p s g).op ≠ 52 := by simpa using h12
      refine rg [] rfl ?_
      refine cd rfl (fun h13 => ?_) (fun h13 => ?_)
      ·have e : (atI p s g).op = 53 := by simpa using h13
       have hx := hrg.1 (by omega)
       refine rgs [⟨true, [.s 7 0, .s 99 0], .tup [], putO ([bt 5 g true] ++ [bt 1 (atI p s g).b true])⟩] rfl ?_ ?_
       ·have hq := hg0 1 (atI p s g).b true (by omega) hx
        simp only [holdsC, under, CG.pure]
        repeat' with_reducible refine And.intro ?_ ?_
        all_goals (try with_reducible intros)
        all_goals (first | exact trivial | assumption | omega | exact hq | exact (ho1 [bt 5 g true]) | exact (ho2 ([bt 5 g true] ++ [bt 1 (atI p s g).b true])) | (simp; done) | grind)
       refine ⟨[bt 5 g true] ++ [bt 1 (atI p s g).b true], ?_, ?_⟩
       ·simp [rawT, e]
       ·refine em [] trivial ⟨⟨rfl, _, rfl, cvt⟩, trivial⟩ ⟨obs rfl, ob_list (okIds_BT _) rfl rfl rfl rfl rfl (fun q hq => ren_BT _ _), trivial⟩
      ·have e53 : (atI p s g).op ≠ 53 := by simpa using h13
       refine sq (sq (rg [] rfl ?_))
       refine cd rfl (fun h15 => ?_) (fun h15 => ?_)
       ·have e : (atI p s g).op = 55 := by simpa using h15
        have hx := hrg.2 (by omega)
        refine sk ?_
        refine cd rfl (fun h15 => ?_) (fun h15 => ?_)
        ·refine rgs [⟨true, [.s 7 0, .s 99 0], .tup [], putO ([bt 5 g true] ++ [bt 2 (atI p s g).a true])⟩] rfl ?_ ?_
         ·have hq := hg0 2 (atI p s g).a true (by omega) hx
          simp only [holdsC, under, CG.pure]
          repeat' with_reducible refine And.intro ?_ ?_
          all_goals (try with_reducible intros)
          all_goals (first | exact trivial | assumption | omega | exact hq | exact (ho1 [bt 5 g true]) | exact (ho2 ([bt 5 g true] ++ [bt 2 (atI p s g).a true])) | (simp; done) | grind)
         refine ⟨[bt 5 g true] ++ [bt 2 (atI p s g).a true], ?_, ?_⟩
         ·simp [rawT, e]
         ·refine em [] trivial ⟨⟨rfl, _, rfl, cvt⟩, trivial⟩ ⟨obs rfl, ob_list (okIds_BT _) rfl rfl rfl rfl rfl (fun q hq => ren_BT _ _), trivial⟩
        ·simp_all
       ·have e55 : (atI p s g).op ≠ 55 := by simpa using h15
        refine rg [] rfl ?_
        refine cd rfl (fun h16 => ?_) (fun h16 => ?_)
        ·have e : (atI p s g).op = 56 := by simpa using h16
         have hx := hrg.2 (by omega)
         refine rgs [⟨true, [.s 7 0, .s 99 0], .tup [], putO ([bt 5 g true] ++ [bt 2 (atI p s g).a true])⟩] rfl ?_ ?_
         ·have hq := hg0 2 (atI p s g).a true (by omega) hx
          simp only [holdsC, under, CG.pure]
          repeat' with_reducible refine And.intro ?_ ?_
          all_goals (try with_reducible intros)
          all_goals (first | exact trivial | assumption | omega | exact hq | exact (ho1 [bt 5 g true]) | exact (ho2 ([bt 5 g true] ++ [bt 2 (atI p s g).a true])) | (simp; done) | grind)
         refine ⟨[bt 5 g true] ++ [bt 2 (atI p s g).a true], ?_, ?_⟩
         ·simp [rawT, e]
         ·refine em [] trivial ⟨⟨rfl, _, rfl, cvt⟩, trivial⟩ ⟨obs rfl, ob_list (okIds_BT _) rfl rfl rfl rfl rfl (fun q hq => ren_BT _ _), trivial⟩
        ·have e56 : (atI p s g).op ≠ 56 := by simpa using h16
         refine sq (rg [] rfl ?_)
         refine cd rfl (fun h18 => ?_) (fun h18 => ?_)
         ·have e : (atI p s g).op = 57 := by simpa using h18
          have hx := hrg.1 (by omega)
          refine rgs [⟨true, [.s 7 0, .s 99 0], .tup [], putO ([bt 5 g true] ++ [bt 2 (atI p s g).b true])⟩] rfl ?_ ?_
          ·have hq := hg0 2 (atI p s g).b true (by omega) hx
           simp only [holdsC, under, CG.pure]
           repeat' with_reducible refine And.intro ?_ ?_
           all_goals (try with_reducible intros)
           all_goals (first | exact trivial | assumption | omega | exact hq | exact (ho1 [bt 5 g true]) | exact (ho2 ([bt 5 g true] ++ [bt 2 (atI p s g).b true])) | (simp; done) | grind)
          refine ⟨[bt 5 g true] ++ [bt 2 (atI p s g).b true], ?_, ?_⟩
          ·simp [rawT, e]
          ·refine em [] trivial ⟨⟨rfl, _, rfl, cvt⟩, trivial⟩ ⟨obs rfl, ob_list (okIds_BT _) rfl rfl rfl rfl rfl (fun q hq => ren_BT _ _), trivial⟩
         ·have e57 : (atI p s g).op ≠ 57 := by simpa using h18
          refine sq (sq (rg [] rfl ?_))
          refine cd rfl (fun h20 => ?_) (fun h20 => ?_)
          ·have e : (atI p s g).op = 58 := by simpa using h20
           have hx := hrg.2 (by omega)
           refine sk ?_
           refine cd rfl (fun h20 => ?_) (fun h20 => ?_)
           ·refine rgs [⟨true, [.s 7 0, .s 99 0], .tup [], putO ([bt 5 g true] ++ [bt 3 (atI p s g).a true])⟩] rfl ?_ ?_
            ·have hq := hg0 3 (atI p s g).a true (by omega) hx
             simp only [holdsC, under, CG.pure]
             repeat' with_reducible refine And.intro ?_ ?_
             all_goals (try with_reducible intros)
             all_goals (first | exact trivial | assumption | omega | exact hq | exact (ho1 [bt 5 g true]) | exact (ho2 ([bt 5 g true] ++ [bt 3 (atI p s g).a true])) | (simp; done) | grind)
            refine ⟨[bt 5 g true] ++ [bt 3 (atI p s g).a true], ?_, ?_⟩
            ·simp [rawT, e]
            ·refine em [] trivial ⟨⟨rfl, _, rfl, cvt⟩, trivial⟩ ⟨obs rfl, ob_list (okIds_BT _) rfl rfl rfl rfl rfl (fun q hq => ren_BT _ _), trivial⟩
           ·simp_all
          ·have e58 : (atI p s g).op ≠ 58 := by simpa using h20
           refine sq (rg [] rfl ?_)
           refine cd rfl (fun h21 => ?_) (fun h21 => ?_)
           ·have e : (atI p s g).op = 60 := by simpa using h21
            have hx := hrg.2 (by omega)
            refine sk ?_
            refine cd rfl (fun h21 => ?_) (fun h21 => ?_)
            ·refine rgs [⟨true, [.s 7 0, .s 99 0], .tup [], putO ([bt 5 g true] ++ [bt 3 (atI p s g).a true])⟩] rfl ?_ ?_
             ·have hq := hg0 3 (atI p s g).a true (by omega) hx
              simp only [holdsC, under, CG.pure]
              repeat' with_reducible refine And.intro ?_ ?_
              all_goals (try with_reducible intros)
              all_goals (first | exact trivial | assumption | omega | exact hq | exact (ho1 [bt 5 g true]) | exact (ho2 ([bt 5 g true] ++ [bt 3 (atI p s g).a true])) | (simp; done) | grind)
             refine ⟨[bt 5 g true] ++ [bt 3 (atI p s g).a true], ?_, ?_⟩
             ·simp [rawT, e]
             ·refine em [] trivial ⟨⟨rfl, _, rfl, cvt⟩, trivial⟩ ⟨obs rfl, ob_list (okIds_BT _) rfl rfl rfl rfl rfl (fun q hq => ren_BT _ _), trivial⟩
            ·simp_all
           ·have e60 : (atI p s g).op ≠ 60 := by simpa using h21
            refine rg [] rfl ?_
            refine cd rfl (fun h22 => ?_) (fun h22 => ?_)
            ·have e : (atI p s g).op = 66 := by simpa using h22
             have hx := hrg.2 (by omega)
             refine rgs [⟨true, [.s 7 0, .s 99 0], .tup [], putO ([bt 5 g true] ++ [bt 3 (atI p s g).a true])⟩] rfl ?_ ?_
             ·have hq := hg0 3 (atI p s g).a true (by omega) hx
              simp only [holdsC, under, CG.pure]
              repeat' with_reducible refine And.intro ?_ ?_
              all_goals (try with_reducible intros)
              all_goals (first | exact trivial | assumption | omega | exact hq | exact (ho1 [bt 5 g true]) | exact (ho2 ([bt 5 g true] ++ [bt 3 (atI p s g).a true])) | (simp; done) | grind)
             refine ⟨[bt 5 g true] ++ [bt 3 (atI p s g).a true], ?_, ?_⟩
             ·simp [rawT, e]
             ·refine em [] trivial ⟨⟨rfl, _, rfl, cvt⟩, trivial⟩ ⟨obs rfl, ob_list (okIds_BT _) rfl rfl rfl rfl rfl (fun q hq => ren_BT _ _), trivial⟩
            ·have e66 : (atI p s g).op ≠ 66 := by simpa using h22
             refine sq (rg [] rfl ?_)
             refine cd rfl (fun h24 => ?_) (fun h24 => ?_)
             ·have e : (atI p s g).op = 59 := by simpa using h24
              have hx := hrg.1 (by omega)
              refine rgs [⟨true, [.s 7 0, .s 99 0], .tup [], putO ([bt 5 g true] ++ [bt 3 (atI p s g).b true])⟩] rfl ?_ ?_
              ·have hq := hg0 3 (atI p s g).b true (by omega) hx
               simp only [holdsC, under, CG.pure]
               repeat' with_reducible refine And.intro ?_ ?_
               all_goals (try with_reducible intros)
               all_goals (first | exact trivial | assumption | omega | exact hq | exact (ho1 [bt 5 g true]) | exact (ho2 ([bt 5 g true] ++ [bt 3 (atI p s g).b true])) | (simp; done) | grind)
              refine ⟨[bt 5 g true] ++ [bt 3 (atI p s g).b true], ?_, ?_⟩
              ·simp [rawT, e]
              ·refine em [] trivial ⟨⟨rfl, _, rfl, cvt⟩, trivial⟩ ⟨obs rfl, ob_list (okIds_BT _) rfl rfl rfl rfl rfl (fun q hq => ren_BT _ _), trivial⟩
             ·have e59 : (atI p s g).op ≠ 59 := by simpa using h24
              refine sq (rg [] rfl ?_)
              refine cd rfl (fun h26 => ?_) (fun h26 => ?_)
              ·have e : (atI p s g).op = 61 := by simpa using h26
               have hse := h.sel e
               have hbn := hse.1; have hb2 := h.fit.2.1
               have hsl := hse.2.len
               refine sq (drs [] rfl ?_ ?_)
               ·simp only [bndP, fnOf, goI] at hbn hb2
                simp [-List.getD_eq_getElem?_getD, holdsC, under]; omega
               refine bk ?_
               refine WP.loop (α := Nat) (fun k => mkSt [(7, .ptr (.s 7 0) 1 0 []), (8, .clo 219 [.ptr (.s 7 0) 1 0 []]), (91, rowP 215 encCase case0 (selI p s g).cases), (92, .int (selI p s g).cases.length), (93, .int k)] [(.s 7 0, .cells ⟨195, 1, fun _ => .own (.s 99 0) ([bt 5 g true] ++ caseBT ((selI p s g).cases.take k)).length 0 ([bt 5 g true] ++ caseBT ((selI p s g).cases.take k)).length none, 0⟩), (.s 99 0, cellsL 134 encBT bt0 ([bt 5 g true] ++ caseBT ((selI p s g).cases.take k)))]) (fun k => k ≤ (selI p s g).cases.length) (fun k => (selI p s g).cases.length - k) ?_ ?_
               ·refine ⟨0, ?_, ?_⟩
                ·exact Nat.zero_le _
                ·refine em [] trivial ⟨⟨rfl, _, rfl, cvt⟩, ⟨rfl, _, rfl, cvt⟩, ⟨rfl, _, rfl, cvt⟩, ⟨rfl, _, rfl, cvt⟩, ⟨rfl, _, rfl, cvt⟩, trivial⟩ ⟨obs rfl, ob_list (okIds_BT _) rfl rfl rfl rfl rfl (fun q hq => rfl), trivial⟩
               ·rintro k hk
                refine sq (rg [] rfl ?_)
                refine sq ?_
                refine cd rfl (fun h28 => ?_) (fun h28 => ?_)
                ·have hkl : k < (selI p s g).cases.length := by simp [-List.getD_eq_getElem?_getD] at h28; omega
                 have hch := (hse.2.case (caseAt (selI p s g) k) (by unfold caseAt; rw [List.getD_eq_getElem?_getD, List.getElem?_eq_getElem hkl]; exact List.getElem_mem _)).chan
                 have hsn : ([bt 5 g true] ++ caseBT ((selI p s g).cases.take k)) ++ [bt 3 (caseAt (selI p s g) k).chan true] = [bt 5 g true] ++ caseBT ((selI p s g).cases.take (k + 1)) := by
                   rw [List.append_assoc, ← caseBT_snoc hkl]
                 have hln : ([bt 5 g true] ++ caseBT ((selI p s g).cases.take k)).length ≤ 100 := by simp [caseBT]; omega
                 refine sk (sq (bk (sq (rgs [] rfl ?_ ?_))))
                 ·simp [-List.getD_eq_getElem?_getD, holdsC, under]; omega
                 refine rgs [⟨true, [.s 7 0, .s 99 0], .tup [], putO (([bt 5 g true] ++ caseBT ((selI p s g).cases.take k)) ++ [bt 3 (caseAt (selI p s g) k).chan true])⟩] rfl ?_ ?_
                 ·unfold bndP at hch
                  have hq := put_acR ([bt 5 g true] ++ caseBT ((selI p s g).cases.take k)) 3 (caseAt (selI p s g) k).chan true hln (by omega) (by omega)
                  have ha1 := ho1 ([bt 5 g true] ++ caseBT ((selI p s g).cases.take k))
                  have ha2 := ho2 (([bt 5 g true] ++ caseBT ((selI p s g).cases.take k)) ++ [bt 3 (caseAt (selI p s g) k).chan true])
                  simp only [holdsC, under, CG.pure]
                  repeat' with_reducible refine And.intro ?_ ?_
                  all_goals (try with_reducible intros)
                  all_goals (first | exact trivial | assumption | omega | exact hq | exact ha1 | exact ha2 | (simp; done) | grind)
                 refine rg [] rfl ?_
                 refine ⟨k + 1, ?_, ?_, ?_⟩
                 ·exact hkl
                 ·refine em [] trivial ⟨⟨rfl, _, rfl, cvt⟩, ⟨rfl, _, rfl, cvt⟩, ⟨rfl, _, rfl, cvt⟩, ⟨rfl, _, rfl, cvt⟩, ⟨rfl, _, rfl, cvt⟩, trivial⟩ ⟨obs rfl (hg := q0 (conv_eq (by rw [← hsn] <;> rfl))), ob_list (okIds_BT _) rfl rfl (by rw [← hsn] <;> rfl) rfl rfl (fun q hq => by rw [← hsn]; exact ren_BT _ _), trivial⟩
                 ·(try simp only []); first | omega | grind
                ·have hkl : k = (selI p s g).cases.length := by simp [-List.getD_eq_getElem?_getD] at h28; omega
                 refine xt ?_
                 refine ⟨[bt 5 g true] ++ caseBT ((selI p s g).cases.take k), ?_, ?_⟩
                 ·rw [hkl, List.take_length]; simp [rawT, e]
                 ·refine em [] trivial ⟨⟨rfl, _, rfl, cvt⟩, trivial⟩ ⟨obs rfl, ob_list (okIds_BT _) rfl rfl rfl rfl rfl (fun q hq => rfl), trivial⟩
              ·have e61 : (atI p s g).op ≠ 61 := by simpa using h26
               refine sq (rg [] rfl ?_)
               refine cd rfl (fun h32 => ?_) (fun h32 => ?_)
               ·have e : (atI p s g).op = 62 := by simpa using h32
                refine sq (rgs [⟨true, [.s 7 0, .s 99 0], .tup [], putO ([bt 5 g true] ++ [bt 4 0 true])⟩] rfl ?_ ?_)
                ·have hq := hg0 4 0 true (by omega) (by omega)
                 simp only [holdsC, under, CG.pure]
                 repeat' with_reducible refine And.intro ?_ ?_
                 all_goals (try with_reducible intros)
                 all_goals (first | exact trivial | assumption | omega | exact hq | exact (ho1 [bt 5 g true]) | exact (ho2 ([bt 5 g true] ++ [bt 4 0 true])) | (simp; done) | grind)
                refine sq (rg [] rfl ?_)
                refine cd rfl (fun h34 => ?_) (fun h34 => ?_)
                ·have hct : s.count < 6 := by simpa using h34
                 refine WP.ent (st' := mkSt [(4, .rp 62 (encS s)), (7, .ptr (.s 7 0) 1 0 []), (8, .clo 219 [.ptr (.s 7 0) 1 0 []])] [(.s 7 0, .cells ⟨195, 1, fun _ => .own (.s 99 0) 2 0 2 none, 0⟩), (.s 99 0, cellsL 134 encBT bt0 ([bt 5 g true] ++ [bt 4 0 true]))]) ?_ ?_
                 ·refine em [] trivial ⟨⟨rfl, _, rfl, cvt⟩, ⟨rfl, _, rfl, cvt⟩, ⟨rfl, _, rfl, cvt⟩, trivial⟩ ⟨obs rfl, ob_list (okIds_BT _) rfl rfl rfl rfl rfl (fun q hq => ren_BT _ _), trivial⟩
                 refine rgs [⟨true, [.s 7 0, .s 99 0], .tup [], putO (([bt 5 g true] ++ [bt 4 0 true]) ++ [bt 5 s.count true])⟩] rfl ?_ ?_
                 ·have hq := put_acR ([bt 5 g true] ++ [bt 4 0 true]) 5 s.count true (by simp) (by omega) (by omega)
                  have ha1 := ho1 ([bt 5 g true] ++ [bt 4 0 true])
                  have ha2 := ho2 (([bt 5 g true] ++ [bt 4 0 true]) ++ [bt 5 s.count true])
                  simp only [holdsC, under, CG.pure]
                  repeat' with_reducible refine And.intro ?_ ?_
                  all_goals (try with_reducible intros)
                  all_goals (first | exact trivial | assumption | omega | exact hq | exact ha1 | exact ha2 | (simp; done) | grind)
                 refine ⟨([bt 5 g true] ++ [bt 4 0 true]) ++ [bt 5 s.count true], ?_, ?_⟩
                 ·simp [rawT, e, hct]
                 ·refine em [] trivial ⟨⟨rfl, _, rfl, cvt⟩, trivial⟩ ⟨obs rfl, ob_list (okIds_BT _) rfl rfl rfl rfl rfl (fun q hq => ren_BT _ _), trivial⟩
                ·have hct : ¬ s.count < 6 := by simpa using h34
                 refine sk ?_
                 refine ⟨[bt 5 g true] ++ [bt 4 0 true], ?_, ?_⟩
                 ·simp [rawT, e, hct]
                 ·refine em [] trivial ⟨⟨rfl, _, rfl, cvt⟩, trivial⟩ ⟨obs rfl, ob_list (okIds_BT _) rfl rfl rfl rfl rfl (fun q hq => ren_BT _ _), trivial⟩
               ·have e62 : (atI p s g).op ≠ 62 := by simpa using h32
                refine sq (rg [] rfl ?_)
                refine cd rfl (fun h36 => ?_) (fun h36 => ?_)
                ·have e : (atI p s g).op = 63 := by simpa using h36
                 have hja := hat.join (.inl e)
                 refine sq (rgs [⟨true, [.s 7 0, .s 99 0], .tup [], putO ([bt 5 g true] ++ [bt 4 0 false])⟩] rfl ?_ ?_)
                 ·have hq := hg0 4 0 false (by omega) (by omega)
                  simp only [holdsC, under, CG.pure]
                  repeat' with_reducible refine And.intro ?_ ?_
                  all_goals (try with_reducible intros)
                  all_goals (first | exact trivial | assumption | omega | exact hq | exact (ho1 [bt 5 g true]) | exact (ho2 ([bt 5 g true] ++ [bt 4 0 false])) | (simp; done) | grind)
                 refine sq (drs [] rfl ?_ ?_)
                 ·simp [-List.getD_eq_getElem?_getD, holdsC, under]; omega
                 refine sq (rgs [CG.pure (.bool (thereB s g (regI (goI s g) (atI p s g).a)))] rfl ?_ ?_)
                 ·have hq := there_ac s g (regI (goI s g) (atI p s g).a)
                  simp only [holdsC, under, CG.pure]
                  repeat' with_reducible refine And.intro ?_ ?_
                  all_goals (try with_reducible intros)
                  all_goals (first | exact trivial | assumption | omega | exact hq | (simp; done) | grind)
                 refine cd rfl (fun h39 => ?_) (fun h39 => ?_)
                 ·have hth : 0 ≤ regI (goI s g) (atI p s g).a ∧ regI (goI s g) (atI p s g).a < 8 := by simp only [thereB, decide_eq_true_eq] at h39; omega
                  refine WP.ent (st' := mkSt [(12, .int (regI (goI s g) (atI p s g).a)), (7, .ptr (.s 7 0) 1 0 []), (8, .clo 219 [.ptr (.s 7 0) 1 0 []])] [(.s 7 0, .cells ⟨195, 1, fun _ => .own (.s 99 0) 2 0 2 none, 0⟩), (.s 99 0, cellsL 134 encBT bt0 ([bt 5 g true] ++ [bt 4 0 false]))]) ?_ ?_
                  ·refine em [] trivial ⟨⟨rfl, _, rfl, cvt⟩, ⟨rfl, _, rfl, cvt⟩, ⟨rfl, _, rfl, cvt⟩, trivial⟩ ⟨obs rfl, ob_list (okIds_BT _) rfl rfl rfl rfl rfl (fun q hq => ren_BT _ _), trivial⟩
                  refine rgs [⟨true, [.s 7 0, .s 99 0], .tup [], putO (([bt 5 g true] ++ [bt 4 0 false]) ++ [bt 5 (regI (goI s g) (atI p s g).a) false])⟩] rfl ?_ ?_
                  ·have ew : IntKind.i64.wrap (regI (goI s g) (atI p s g).a) = regI (goI s g) (atI p s g).a := wrap_id (by omega) (by omega)
                   have hq := put_acR ([bt 5 g true] ++ [bt 4 0 false]) 5 (regI (goI s g) (atI p s g).a) false (by simp) (by omega) (by omega)
                   have ha1 := ho1 ([bt 5 g true] ++ [bt 4 0 false])
                   have ha2 := ho2 (([bt 5 g true] ++ [bt 4 0 false]) ++ [bt 5 (regI (goI s g) (atI p s g).a) false])
                   simp only [ew]
                   simp only [holdsC, under, CG.pure]
                   repeat' with_reducible refine And.intro ?_ ?_
                   all_goals (try with_reducible intros)
                   all_goals (first | exact trivial | assumption | omega | exact hq | exact ha1 | exact ha2 | (simp; done) | grind)
                  refine ⟨([bt 5 g true] ++ [bt 4 0 false]) ++ [bt 5 (regI (goI s g) (atI p s g).a) false], ?_, ?_⟩
                  ·simp [-List.getD_eq_getElem?_getD, rawT, e, h39]
                  ·refine em [] trivial ⟨⟨rfl, _, rfl, cvt⟩, trivial⟩ ⟨obs rfl, ob_list (okIds_BT _) rfl rfl rfl rfl rfl (fun q hq => ren_BT _ _), trivial⟩
                 ·refine sk ?_
                  refine ⟨[bt 5 g true] ++ [bt 4 0 false], ?_, ?_⟩
                  ·simp [-List.getD_eq_getElem?_getD, rawT, e, h39]
                  ·refine em [] trivial ⟨⟨rfl, _, rfl, cvt⟩, trivial⟩ ⟨obs rfl, ob_list (okIds_BT _) rfl rfl rfl rfl rfl (fun q hq => ren_BT _ _), trivial⟩
                ·have e63 : (atI p s g).op ≠ 63 := by simpa using h36
                 refine sq (rg [] rfl ?_)
                 refine cd rfl (fun h41 => ?_) (fun h41 => ?_)
                 ·have e : (atI p s g).op = 65 := by simpa using h41
                  refine rgs [⟨true, [.s 7 0, .s 99 0], .tup [], putO ([bt 5 g true] ++ [bt 6 0 true])⟩] rfl ?_ ?_
                  ·have hq := hg0 6 0 true (by omega) (by omega)
                   simp only [holdsC, under, CG.pure]
                   repeat' with_reducible refine And.intro ?_ ?_
                   all_goals (try with_reducible intros)
                   all_goals (first | exact trivial | assumption | omega | exact hq | exact (ho1 [bt 5 g true]) | exact (ho2 ([bt 5 g true] ++ [bt 6 0 true])) | (simp; done) | grind)
                  refine ⟨[bt 5 g true] ++ [bt 6 0 true], ?_, ?_⟩
                  ·simp [rawT, e]
                  ·refine em [] trivial ⟨⟨rfl, _, rfl, cvt⟩, trivial⟩ ⟨obs rfl, ob_list (okIds_BT _) rfl rfl rfl rfl rfl (fun q hq => ren_BT _ _), trivial⟩
                 ·have e65 : (atI p s g).op ≠ 65 := by simpa using h41
                  refine sk ?_
                  refine ⟨[bt 5 g true], ?_, ?_⟩
                  ·simp [rawT, e50, e54, e51, e52, e53, e55, e56, e57, e58, e60, e66, e59, e61, e62, e63, e65]
                  ·refine em [] trivial ⟨⟨rfl, _, rfl, cvt⟩, trivial⟩ ⟨obs rfl, ob_list (okIds_BT _) rfl rfl rfl rfl rfl (fun q hq => rfl), trivial⟩
 ·rintro l hl
  refine sq ?_
  have hrl : l.length ≤ 5 := by rw [hl]; exact rawT_len h
  refine rgs [⟨true, [.s 99 0], .tup [], [cellsBT (sortBT l)]⟩] rfl ?_ ?_
  ·have hq := btSort_acR l (by omega)
   have hk1 : okOs [.s 99 0] [cellsL 134 encBT bt0 l] := ⟨fun _ _ => rfl, trivial⟩
   have hk2 : okOs (bs 1) [cellsBT (sortBT l)] := ⟨fun _ _ => rfl, trivial⟩
   simp only [holdsC, under, CG.pure]
   repeat' with_reducible refine And.intro ?_ ?_
   all_goals (try with_reducible intros)
   all_goals (first | exact trivial | assumption | omega | exact hq | exact hk1 | exact hk2 | (simp; done) | grind)
  refine sq ?_
  have hsl : (sortBT l).length = l.length := sortBy_len swoBT l
  refine WP.ent (st' := mkSt [(7, .ptr (.s 7 0) 1 0 [])] [(.s 7 0, .cells ⟨195, 1, fun _ => .own (.s 99 0) (sortBT l).length 0 (sortBT l).length none, 0⟩), (.s 99 0, cellsL 134 encBT bt0 (sortBT l))]) ?_ ?_
  ·refine em [] trivial ⟨⟨rfl, _, rfl, cvt⟩, trivial⟩ ⟨obs rfl (hg := q0 (conv_eq (by rw [hsl]))), ob_list (okIds_BT _) rfl rfl rfl rfl rfl (fun q hq => ren_BT _ _), trivial⟩
  refine rgs [⟨true, [.s 99 0], .own (.b 0) (sortBT l).length 0 (dd bt0 (sortBT l) (sortBT l).length).length none, [ddO (sortBT l)]⟩] rfl ?_ ?_
  ·have hq := compactA_acR (sortBT l)
   have hk1 : okOs [.s 99 0] [cellsL 134 encBT bt0 (sortBT l)] := ⟨fun _ _ => rfl, trivial⟩
   have hk2 : okOs (bs 1) [ddO (sortBT l)] := ⟨ddO_ok _ _, trivial⟩
   simp only [holdsC, under, CG.pure]
   repeat' with_reducible refine And.intro ?_ ?_
   all_goals (try with_reducible intros)
   all_goals (first | exact trivial | assumption | omega | exact hq | exact hk1 | exact hk2 | (simp; done) | grind)
  refine WP.ret ?_
  change Fin ..
  have hdl := dd_len bt0 (sortBT l) (sortBT l).length
  refine fin_mk hT [(.s 99 0, (sortBT l).length)] (ts := [(6, rowP 134 encBT bt0 (touchL p s g))]) (l := [rowP 134 encBT bt0 (touchL p s g)]) ⟨⟨_, rfl, Nat.le_refl _⟩, trivial⟩ ⟨⟨rfl, _, rfl, ?_⟩, trivial⟩ trivial rfl rfl rfl
  rw [touchL, ← hl]
  refine conv_row rfl rfl rfl (fun h => by cases h) (by simp [lookF, idbeq_self]; exact hdl) (fun q hq => ?_)
  show noIds (ren _ (bif Nat.blt (0 + q) _ then _ else _)) = true ∧ AEq (ren _ (bif Nat.blt (0 + q) _ then _ else _)) _
  rw [Nat.zero_add, blt_bif hq, ren_BT]
  exact ⟨rfl, AEq.refl _⟩
end Go.Ab


/- What is ready: Ready. -/
set_option autoImplicit false
set_option maxRecDepth 20000
set_option maxHeartbeats 4000000
set_option linter.unusedSimpArgs false
set_option linter.unusedVariables false
namespace Go.Ab
open Go.Proofs
structure PPick where
  go : Int
  alt : Int
  deriving DecidableEq
def pick0 : PPick := ⟨0, 0⟩
def encPick (x : PPick) : AV := stru 122 [.int x.go, .int x.alt]
theorem okIds_pick (ids : List Id) (x : PPick) : okIds ids (encPick x) = true := rfl
def askF (p : PProg) (s : PSt) : Int := if rightB p = false then 3 else if ¬ validP p s then 4 else 0
theorem asked_ac (p : PProg) (s : PSt) (ho : OkS s) : AC Tryz.prog T tysN 114 [encProg p, encS s] [] (.int (askF p s)) [] := by
 refine AC_intro hT Tryz.func114 rfl rfl (Nat.le_of_ble_eq_true rfl) ?_
 refine sq (rg [] rfl ?_)
 refine sq (sq ?_)
 refine WP.ent (st' := mkSt [(2, .rp 26 (encProg p)), (3, .rp 62 (encS s))] []) (em [(.s 2 0, 1), (.s 3 0, 1)] ⟨sF, sF, trivial⟩ ⟨⟨rfl, _, rfl, rpv⟩, ⟨rfl, _, rfl, rpv⟩, trivial⟩ trivial) ?_
 refine rgs [CG.pure (checkA p)] rfl ?_ ?_
 ·have hq := pcheck_ac p
  simp only [holdsC, under, CG.pure]
  repeat' with_reducible refine And.intro ?_ ?_
  all_goals (try with_reducible intros)
  all_goals (first | exact trivial | assumption | omega | exact hq | (simp; done) | grind)
 refine sq (rg [] rfl ?_)
 refine cd rfl (fun h2 => ?_) (fun h2 => ?_)
 ·have hr : rightB p = false := by simp at h2; simp [rightB]; exact h2
  refine sq (rg [] rfl ?_)
  refine WP.ret ?_
  change Fin ..
  exact finI hT (by rfl) (by rw [askF, if_pos hr])
 ·have hr : ¬ rightB p = false := by simp at h2; simp [rightB]; exact h2
  refine sk (sq (sq (rgs [CG.pure (.bool (decide (validP p s)))] rfl ?_ ?_)))
  ·have hq := valid_ac p s ho
   simp only [holdsC, under, CG.pure]
   repeat' with_reducible refine And.intro ?_ ?_
   all_goals (try with_reducible intros)
   all_goals (first | exact trivial | assumption | omega | exact hq | (simp; done) | grind)
  refine cd rfl (fun h4 => ?_) (fun h4 => ?_)
  ·have hv : ¬ validP p s := by simpa using h4
   refine sq (rg [] rfl ?_)
   refine WP.ret ?_
   change Fin ..
   exact finI hT (by rfl) (by rw [askF, if_neg hr, if_pos hv])
  ·have hv : ¬ ¬ validP p s := by simpa using h4
   refine sk (sq (rg [] rfl ?_))
   refine WP.ret ?_
   change Fin ..
   exact finI hT (by rfl) (by rw [askF, if_neg hr, if_neg hv])
theorem ask0 {p : PProg} {s : PSt} (h : askF p s = 0) : validP p s := by
  unfold askF at h
  split at h
  · cases h
  · split at h
    · cases h
    · rename_i h1 h2; simpa using h2
def pickL (p : PProg) (s : PSt) (g : Int) : List PPick := (altL p s g).map fun a => ⟨g, a⟩
def readyL (p : PProg) (s : PSt) : List PPick := if askF p s = 0 then (liveL s).flatMap (pickL p s) else []
theorem stands_of {p : PProg} {s : PSt} (ho : OkS s) (hv : validP p s) {g : Int} (h : g ∈ liveL s) : Stands p s g := by
  obtain ⟨j, h1, h2, h3⟩ := liveTo_mem.1 h
  exact ⟨ho, hv, by rw [goI, h2]; exact h3, by omega⟩
def rdyTo (p : PProg) (s : PSt) (i j : Nat) : List PPick := ((liveL s).take i).flatMap (pickL p s) ++ (pickL p s ((liveL s).getD i 0)).take j
theorem flat_le {α β : Type} {f : α → List β} {n : Nat} : ∀ {l : List α}, (∀ x ∈ l, (f x).length ≤ n) → (l.flatMap f).length ≤ n * l.length
  | [], _ => by simp
  | x :: r, h => by
    have h1 := h x (by simp)
    have h2 := flat_le (l := r) (fun y hy => h y (by simp [hy]))
    rw [List.flatMap_cons, List.length_append, List.length_cons, Nat.mul_succ]; omega
theorem rdyTo_len {p : PProg} {s : PSt} (ho : OkS s) (hv : validP p s) (i j : Nat) : (rdyTo p s i j).length ≤ 30 + j := by
  have h1 : (((liveL s).take i).flatMap (pickL p s)).length ≤ 5 * ((liveL s).take i).length := flat_le fun x hx => by
    rw [pickL, List.length_map]; exact altL_len (stands_of ho hv (List.mem_of_mem_take hx))
  have h2 : (liveL s).length ≤ 6 := liveTo_len s 6
  have h3 : ((liveL s).take i).length ≤ (liveL s).length := by rw [List.length_take]; omega
  rw [rdyTo, List.length_append, List.length_take]; omega
theorem pick_at {p : PProg} {s : PSt} {x : Int} {j : Nat} (hj : j < (altL p s x).length) : (pickL p s x)[j]? = some ⟨x, (altL p s x).getD j 0⟩ := by simp [pickL, hj]
theorem rdyTo_snoc {p : PProg} {s : PSt} {i j : Nat} (hj : j < (altL p s ((liveL s).getD i 0)).length) : rdyTo p s i j ++ [⟨(liveL s).getD i 0, (altL p s ((liveL s).getD i 0)).getD j 0⟩] = rdyTo p s i (j + 1) := by
  rw [rdyTo, rdyTo, List.append_assoc, List.take_add_one (l := pickL p s ((liveL s).getD i 0)), pick_at hj]; rfl
theorem rdyTo_next {p : PProg} {s : PSt} {i : Nat} (hi : i < (liveL s).length) : rdyTo p s i (altL p s ((liveL s).getD i 0)).length = rdyTo p s (i + 1) 0 := by
  rw [rdyTo, rdyTo, List.take_of_length_le (l := pickL p s ((liveL s).getD i 0)) (by simp [pickL]), List.take_add_one (l := liveL s), List.getElem?_eq_getElem hi, List.flatMap_append]
  simp [hi]
abbrev rowPk (l : List PPick) : AV := rowP 122 encPick pick0 l
theorem readyS_ac (p : PProg) (s : PSt) (ho : OkS s) : AC Tryz.prog T tysN 69 [encProg p, encS s] [] (.tup [rowPk (readyL p s), .int (askF p s)]) [] := by
 refine AC_intro hT Tryz.func69 rfl rfl (Nat.le_of_ble_eq_true rfl) ?_
 refine sq (rg [] rfl ?_)
 refine sq (sq ?_)
 refine WP.ent (st' := mkSt [(2, .rp 26 (encProg p)), (3, .rp 62 (encS s))] []) (em [(.s 2 0, 1), (.s 3 0, 1)] ⟨sF, sF, trivial⟩ ⟨⟨rfl, _, rfl, rpv⟩, ⟨rfl, _, rfl, rpv⟩, trivial⟩ trivial) ?_
 refine rgs [CG.pure (.int (askF p s))] rfl ?_ ?_
 ·have hq := asked_ac p s ho
  simp only [holdsC, under, CG.pure]
  repeat' with_reducible refine And.intro ?_ ?_
  all_goals (try with_reducible intros)
  all_goals (first | exact trivial | assumption | omega | exact hq | (simp; done) | grind)
 refine sq (rg [] rfl ?_)
 refine cd rfl (fun h2 => ?_) (fun h2 => ?_)
 ·have ha : askF p s ≠ 0 := by simpa using h2
  refine sq (rg [] rfl ?_)
  refine WP.ret ?_
  change Fin ..
  refine fin_mk hT [] (ts := [(4, rowPk (readyL p s)), (5, .int (askF p s))]) (l := [rowPk (readyL p s), .int (askF p s)]) trivial ⟨⟨rfl, _, rfl, ?_⟩, ⟨rfl, _, rfl, cvt⟩, trivial⟩ trivial rfl rfl rfl
  rw [readyL, if_neg ha]
  exact conv_nil_row (by decide)
 ·have ha : askF p s = 0 := by simpa using h2
  have hv := ask0 ha
  refine sk (sq (rg [] rfl ?_))
  refine sq (sq (rgs [CG.pure (ints false (liveL s))] rfl ?_ ?_))
  ·have hq := live_ac s
   simp only [holdsC, under, CG.pure]
   repeat' with_reducible refine And.intro ?_ ?_
   all_goals (try with_reducible intros)
   all_goals (first | exact trivial | assumption | omega | exact hq | (simp; done) | grind)
  refine bk ?_
  refine WP.loop (α := Nat) (fun i => mkSt [(2, .rp 26 (encProg p)), (3, .rp 62 (encS s)), (7, .own (.s 39 0) (rdyTo p s i 0).length 0 (rdyTo p s i 0).length none), (19, ints false (liveL s)), (20, .int (liveL s).length), (21, .int i)] [(.s 39 0, cellsL 122 encPick pick0 (rdyTo p s i 0))]) (fun i => i ≤ (liveL s).length) (fun i => (liveL s).length - i) ?_ ?_
  ·refine ⟨0, ?_, ?_⟩
   ·exact Nat.zero_le _
   ·refine em [] trivial ⟨⟨rfl, _, rfl, cvt⟩, ⟨rfl, _, rfl, cvt⟩, ⟨rfl, _, rfl, conv_nil_own⟩, ⟨rfl, _, rfl, cvt⟩, ⟨rfl, _, rfl, cvt⟩, ⟨rfl, _, rfl, cvt⟩, trivial⟩ ⟨⟨fun _ _ => rfl, .inr ⟨rfl, 122, _, rfl, by decide⟩⟩, trivial⟩
  ·rintro i hi
   refine sq (rg [] rfl ?_)
   refine sq ?_
   refine cd rfl (fun h6 => ?_) (fun h6 => ?_)
   ·have hil : i < (liveL s).length := by simp [-List.getD_eq_getElem?_getD] at h6; omega
    have hst : Stands p s ((liveL s).getD i 0) := stands_of ho hv (by rw [List.getD_eq_getElem?_getD, List.getElem?_eq_getElem hil]; exact List.getElem_mem _)
    have hl6 : (liveL s).length ≤ 6 := liveTo_len s 6
    refine sk (sq (bk (sq (rgs [] rfl ?_ ?_))))
    ·simp [-List.getD_eq_getElem?_getD, holdsC, under]; omega
    refine sq (rgs [CG.pure (ints false (altL p s ((liveL s).getD i 0)))] rfl ?_ ?_)
    ·have hq := alts_ac p s _ hst
     simp only [holdsC, under, CG.pure]
     repeat' with_reducible refine And.intro ?_ ?_
     all_goals (try with_reducible intros)
     all_goals (first | exact trivial | assumption | omega | exact hq | (simp; done) | grind)
    refine bk ?_
    refine WP.loop (α := Nat) (fun j => mkSt [(2, .rp 26 (encProg p)), (3, .rp 62 (encS s)), (7, .own (.s 39 0) (rdyTo p s i j).length 0 (rdyTo p s i j).length none), (9, .int ((liveL s).getD i 0)), (19, ints false (liveL s)), (20, .int (liveL s).length), (21, .int i), (28, ints false (altL p s ((liveL s).getD i 0))), (29, .int (altL p s ((liveL s).getD i 0)).length), (30, .int j)] [(.s 39 0, cellsL 122 encPick pick0 (rdyTo p s i j))]) (fun j => j ≤ (altL p s ((liveL s).getD i 0)).length) (fun j => (altL p s ((liveL s).getD i 0)).length - j) ?_ ?_
    ·refine ⟨0, ?_, ?_⟩
     ·exact Nat.zero_le _
     ·refine em [] trivial ⟨⟨rfl, _, rfl, cvt⟩, ⟨rfl, _, rfl, cvt⟩, ⟨rfl, _, rfl, cvt⟩, ⟨rfl, _, rfl, cvt⟩, ⟨rfl, _, rfl, cvt⟩, ⟨rfl, _, rfl, cvt⟩, ⟨rfl, _, rfl, cvt⟩, ⟨rfl, _, rfl, cvt⟩, ⟨rfl, _, rfl, cvt⟩, ⟨rfl, _, rfl, cvt⟩, trivial⟩ ⟨ob_list (okIds_pick _) rfl rfl rfl rfl rfl (fun q hq => rfl), trivial⟩
    ·rintro j hj
     refine sq (rg [] rfl ?_)
     refine sq ?_
     refine cd rfl (fun h9 => ?_) (fun h9 => ?_)
     ·have hjl : j < (altL p s ((liveL s).getD i 0)).length := by simp [-List.getD_eq_getElem?_getD] at h9; omega
      have hl5 := altL_len hst
      have hrl := rdyTo_len ho hv i j
      refine sk (sq (bk (sq (rgs [] rfl ?_ ?_))))
      ·simp [-List.getD_eq_getElem?_getD, holdsC, under]; omega
      refine rgs [] rfl ?_ ?_
      ·have hbt : (T 122).bytes = 16 := rfl
       simp [holdsC, under, hbt]; omega
      refine rg [] rfl ?_
      have hsn := rdyTo_snoc hjl
      refine ⟨j + 1, ?_, ?_, ?_⟩
      ·exact hjl
      ·refine em [] trivial ⟨⟨rfl, _, rfl, cvt⟩, ⟨rfl, _, rfl, cvt⟩, ⟨rfl, _, rfl, conv_eq (by rw [← hsn, len_snc])⟩, ⟨rfl, _, rfl, cvt⟩, ⟨rfl, _, rfl, cvt⟩, ⟨rfl, _, rfl, cvt⟩, ⟨rfl, _, rfl, cvt⟩, ⟨rfl, _, rfl, cvt⟩, ⟨rfl, _, rfl, cvt⟩, ⟨rfl, _, rfl, cvt⟩, trivial⟩ ⟨ob_list (okIds_pick _) rfl rfl (by rw [← hsn, len_snc]) rfl rfl (by rw [← hsn]; exact appL (z := (T 122).zero) rfl (agg_ext (fun q => by match q with | 0 | 1 | q + 2 => rfl)) (fun q hq => rfl)), trivial⟩
      ·(try simp only []); first | omega | grind
     ·have hjl : j = (altL p s ((liveL s).getD i 0)).length := by simp [-List.getD_eq_getElem?_getD] at h9; omega
      subst hjl
      refine xt (rg [] rfl ?_)
      have hnx := rdyTo_next (p := p) hil
      refine ⟨i + 1, ?_, ?_, ?_⟩
      ·exact hil
      ·refine em [] trivial ⟨⟨rfl, _, rfl, cvt⟩, ⟨rfl, _, rfl, cvt⟩, ⟨rfl, _, rfl, conv_eq (by rw [hnx])⟩, ⟨rfl, _, rfl, cvt⟩, ⟨rfl, _, rfl, cvt⟩, ⟨rfl, _, rfl, cvt⟩, trivial⟩ ⟨ob_list (okIds_pick _) rfl rfl (by rw [hnx]) rfl rfl (fun q hq => by rw [← hnx]), trivial⟩
      ·(try simp only []); first | omega | grind
   ·have hil : i = (liveL s).length := by simp [-List.getD_eq_getElem?_getD] at h6; omega
    have e : rdyTo p s i 0 = readyL p s := by rw [rdyTo, hil, List.take_length, List.take_zero, List.append_nil, readyL, if_pos ha]
    refine xt (sq (rg [] rfl ?_))
    refine WP.ret ?_
    change Fin ..
    refine fin_mk hT [(.s 39 0, (rdyTo p s i 0).length)] (ts := [(4, rowPk (readyL p s)), (5, .int (askF p s))]) (l := [rowPk (readyL p s), .int (askF p s)]) ⟨⟨_, rfl, Nat.le_refl _⟩, trivial⟩ ⟨⟨rfl, _, rfl, ?_⟩, ⟨rfl, _, rfl, conv_eq (by rw [ha])⟩, trivial⟩ trivial rfl rfl rfl
    rw [← e]
    exact conv_row rfl rfl rfl (fun h => by cases h) (by simp [lookF, idbeq_self]) (fun q hq => by rw [Nat.zero_add]; exact ⟨rfl, AEq.refl _⟩)
end Go.Ab


/- A step that is being taken: own, set, fail, settle. -/
set_option autoImplicit false
set_option maxRecDepth 20000
set_option maxHeartbeats 4000000
set_option linter.unusedSimpArgs false
set_option linter.unusedVariables false
namespace Go.Ab
open Go.Proofs
structure PM where
  s : PSt
  g : Int
  fuel : Int
  val : Int
  over : Bool
def encMc (p : PProg) (m : PM) : AV := stru 263 [encProg p, encS m.s, .int m.g, .int m.fuel, .int m.val, .bool m.over]
abbrev mO (p : PProg) (m : PM) : Ob := .cells ⟨263, 1, fun _ => encMc p m, 0⟩
theorem ren_prog (σ : Id → Id) (p : PProg) : ren σ (encProg p) = encProg p := agg_ext (fun q => by match q with | 0 | 1 | 2 | 3 | q + 4 => rfl)
theorem ren_go (σ : Id → Id) (g : PGo) : ren σ (encGo g) = encGo g := agg_ext (fun q => by match q with | 0 | 1 | 2 | 3 | 4 | q + 5 => rfl)
theorem ren_ch (σ : Id → Id) (c : PChan) : ren σ (encCh c) = encCh c := agg_ext (fun q => by match q with | 0 | 1 | 2 | 3 | 4 | 5 | q + 6 => rfl)
theorem ren_S (σ : Id → Id) (s : PSt) : ren σ (encS s) = encS s := agg_ext (fun q => by
  match q with
  | 0 | 1 | 4 | q + 5 => rfl
  | 2 => exact agg_ext fun i => ren_ch σ _
  | 3 => exact agg_ext fun i => ren_go σ _)
theorem ren_M (σ : Id → Id) (p : PProg) (m : PM) : ren σ (encMc p m) = encMc p m := agg_ext (fun q => by
  match q with
  | 0 => exact ren_prog σ p
  | 1 => exact ren_S σ _
  | 2 | 3 | 4 | 5 | q + 6 => rfl)
theorem renO_M (σ : Id → Id) (p : PProg) (m : PM) : List.map (renO σ) [mO p m] = [mO p m] := by
  show [Ob.cells ⟨_, _, fun _ => ren σ (encMc p m), _⟩] = _
  rw [ren_M]
theorem okOs_M (ids : List Id) (p : PProg) (m : PM) : okOs ids [mO p m] := ⟨fun _ _ => rfl, trivial⟩
theorem putM_s {p : PProg} {m : PM} {q : List Nat} {y : AV} {s : PSt} (e : (encS m.s).put q y = encS s) : (encMc p m).put (1 :: q) y = encMc p { m with s := s } := (stru_put (Nat.le_of_ble_eq_true rfl)).trans (congrArg (fun z => stru 263 [encProg p, z, .int m.g, .int m.fuel, .int m.val, .bool m.over]) e)
theorem putM_val (p : PProg) (m : PM) (x : Int) : (encMc p m).put [4] (.int x) = encMc p { m with val := x } := stru_put (Nat.le_of_ble_eq_true rfl)
theorem putM_over (p : PProg) (m : PM) (x : Bool) : (encMc p m).put [5] (.bool x) = encMc p { m with over := x } := stru_put (Nat.le_of_ble_eq_true rfl)
abbrev ownG (m : PM) : PGo := goI m.s m.g
abbrev setGo (m : PM) (x : PGo) : PM := { m with s := { m.s with gos := m.s.gos.set m.g.toNat x } }
abbrev setCh (m : PM) (c : Int) (x : PChan) : PM := { m with s := { m.s with chans := m.s.chans.set c.toNat x } }
structure OkM (m : PM) : Prop where
  s : OkS m.s
  g : 0 ≤ m.g ∧ m.g < 6
theorem OkS.setGo {s : PSt} (h : OkS s) {k : Nat} {x : PGo} (hx : okGo x) : OkS { s with gos := s.gos.set k x } := ⟨h.vars, h.owner, h.chans, by show (s.gos.set k x).length = 6; rw [List.length_set]; exact h.gos, h.ch, fun g hg => by
  rcases List.mem_or_eq_of_mem_set hg with h1 | h1
  · exact h.go g h1
  · rw [h1]; exact hx⟩
theorem OkS.setCh {s : PSt} (h : OkS s) {k : Nat} {x : PChan} (hx : okCh x) : OkS { s with chans := s.chans.set k x } := ⟨h.vars, h.owner, by show (s.chans.set k x).length = 4; rw [List.length_set]; exact h.chans, h.gos, fun c hc => by
  rcases List.mem_or_eq_of_mem_set hc with h1 | h1
  · exact h.ch c h1
  · rw [h1]; exact hx, h.go⟩
theorem OkS.setVar {s : PSt} (h : OkS s) (k : Nat) (x : Int) : OkS { s with vars := s.vars.set k x } := ⟨by show (s.vars.set k x).length = 8; rw [List.length_set]; exact h.vars, h.owner, h.chans, h.gos, h.ch, h.go⟩
theorem OkS.setOwn {s : PSt} (h : OkS s) (k : Nat) (x : Int) : OkS { s with owner := s.owner.set k x } := ⟨h.vars, by show (s.owner.set k x).length = 4; rw [List.length_set]; exact h.owner, h.chans, h.gos, h.ch, h.go⟩
theorem putM_goL {p : PProg} {m : PM} {q : List Nat} {y : AV} {x : PGo} (h : m.g.toNat < m.s.gos.length) (e : (encGo (ownG m)).put q y = encGo x) : (encMc p m).put (1 :: 3 :: m.g.toNat :: q) y = encMc p (setGo m x) := putM_s (putS_go h e)
theorem putM_chL {p : PProg} {m : PM} {c : Int} {q : List Nat} {y : AV} {x : PChan} (h : c.toNat < m.s.chans.length) (e : (encCh (chI m.s c)).put q y = encCh x) : (encMc p m).put (1 :: 2 :: c.toNat :: q) y = encMc p (setCh m c x) := putM_s (putS_ch h e)
theorem putM_go {p : PProg} {m : PM} {q : List Nat} {y : AV} {x : PGo} (h : OkM m) (e : (encGo (ownG m)).put q y = encGo x) : (encMc p m).put (1 :: 3 :: m.g.toNat :: q) y = encMc p (setGo m x) := putM_goL (by rw [h.s.gos]; have := h.g; omega) e
theorem putM_ch {p : PProg} {m : PM} {c : Int} {q : List Nat} {y : AV} {x : PChan} (h : OkM m) (hc : 0 ≤ c ∧ c < 4) (e : (encCh (chI m.s c)).put q y = encCh x) : (encMc p m).put (1 :: 2 :: c.toNat :: q) y = encMc p (setCh m c x) := putM_chL (by rw [h.s.chans]; omega) e
theorem chI_setL {s : PSt} {c : Int} {x : PChan} (hl : c.toNat < s.chans.length) : chI { s with chans := s.chans.set c.toNat x } c = x := by
  show (s.chans.set c.toNat x).getD c.toNat ch0 = x
  simp [hl]
theorem setCh2 {m : PM} {c : Int} (x y : PChan) : setCh (setCh m c x) c y = setCh m c y := by simp [setCh]
theorem putM_ch2 {p : PProg} {m : PM} {c : Int} {q q' : List Nat} {y y' : AV} {x x' : PChan} (h : c.toNat < m.s.chans.length) (e : (encCh (chI m.s c)).put q y = encCh x) (e' : (encCh x).put q' y' = encCh x') : ((encMc p m).put (1 :: 2 :: c.toNat :: q) y).put (1 :: 2 :: c.toNat :: q') y' = encMc p (setCh m c x') := by
  rw [putM_chL h e, putM_chL (m := setCh m c x) (x := x') (by show c.toNat < (m.s.chans.set _ _).length; rw [List.length_set]; exact h) (by rw [chI_setL h]; exact e'), setCh2]
theorem putM_ch3 {p : PProg} {m : PM} {c : Int} {q q' q2 : List Nat} {y y' y2 : AV} {x x' x2 : PChan} (h : c.toNat < m.s.chans.length) (e : (encCh (chI m.s c)).put q y = encCh x) (e' : (encCh x).put q' y' = encCh x') (e2 : (encCh x').put q2 y2 = encCh x2) : (((encMc p m).put (1 :: 2 :: c.toNat :: q) y).put (1 :: 2 :: c.toNat :: q') y').put (1 :: 2 :: c.toNat :: q2) y2 = encMc p (setCh m c x2) := by
  rw [putM_ch2 h e e', putM_chL (m := setCh m c x') (x := x2) (by show c.toNat < (m.s.chans.set _ _).length; rw [List.length_set]; exact h) (by rw [chI_setL h]; exact e2), setCh2]
abbrev ownP1 (m : PM) : AV := .ptr (.b 0) 1 0 [1, 3, m.g.toNat]
theorem own_ac (p : PProg) (m : PM) (hg : 0 ≤ m.g ∧ m.g < 6) : AC Tryz.prog T tysN 162 [.ptr (.b 0) 1 0 []] [mO p m] (ownP1 m) [mO p m] := by
 refine AC_intro hT Tryz.func162 rfl rfl (Nat.le_of_ble_eq_true rfl) ?_
 refine sq (rg [] rfl ?_)
 refine sq (drs [] rfl ?_ ?_)
 ·simp [-List.getD_eq_getElem?_getD, holdsC, under]; omega
 refine WP.ret ?_
 change Fin ..
 exact fin_mk hT [] (ts := [(2, ownP1 m)]) (l := [ownP1 m]) trivial ⟨⟨rfl, _, rfl, cvt⟩, trivial⟩ ⟨obs rfl, trivial⟩ rfl rfl rfl
theorem own_acR (p : PProg) (m : PM) (hg : 0 ≤ m.g ∧ m.g < 6) : AC Tryz.prog T tysN 162 [.ptr (.b 0) 1 0 []] (List.map (renO (sig [.b 0] 0)) [mO p m]) (ownP1 m) [mO p m] := by rw [renO_M]; exact own_ac p m hg
def msetF (m : PM) (r x : Int) : PM := if 0 ≤ r then setGo m (setR (ownG m) r x) else m
theorem okM_set {m : PM} (h : OkM m) (r x : Int) : OkM (msetF m r x) := by
  unfold msetF; split
  · exact ⟨h.s.setGo (by show ((ownG m).regs.set _ _).length = 8; rw [List.length_set]; exact okGo_at h.s _), h.g⟩
  · exact h
theorem mset_ac (p : PProg) (m : PM) (r x : Int) (h : OkM m) (hr : r < 8) : AC Tryz.prog T tysN 227 [.ptr (.b 0) 1 0 [], .int r, .int x] [mO p m] (.tup []) [mO p (msetF m r x)] := by
 refine AC_intro hT Tryz.func227 rfl rfl (Nat.le_of_ble_eq_true rfl) ?_
 refine sq (rg [] rfl ?_)
 refine cd rfl (fun h0 => ?_) (fun h0 => ?_)
 ·have h0' : 0 ≤ r := by simpa using h0
  have h8 : (ownG m).regs.length = 8 := okGo_at h.s _
  refine rgs [⟨true, [.b 0], ownP1 m, [mO p m]⟩] rfl ?_ ?_
  ·have hq := own_acR p m h.g
   have hk1 := okOs_M [.b 0] p m
   have hk2 := okOs_M (bs 1) p m
   simp only [holdsC, under, CG.pure]
   repeat' with_reducible refine And.intro ?_ ?_
   all_goals (try with_reducible intros)
   all_goals (first | exact trivial | assumption | omega | exact hq | exact hk1 | exact hk2 | (simp; done) | grind)
  change Fin ..
  first
  | (refine fin_mk hT [] (ts := []) (l := []) trivial trivial ⟨obs rfl (hg := q0 (conv_eq ?_)), trivial⟩ rfl rfl rfl
     show (ren _ (encMc p m)).put _ _ = _
     rw [ren_M, msetF, if_pos h0']
     exact putM_go h (putGo_reg x (by omega)))
  | (have e : msetF m r x = m := by rw [msetF, if_neg (by simp at h0; omega)]
     rw [e]
     exact fin_mk hT [] (ts := []) (l := []) trivial trivial ⟨obs rfl, trivial⟩ rfl rfl rfl)
 ·refine sk ?_
  change Fin ..
  first
  | (refine fin_mk hT [] (ts := []) (l := []) trivial trivial ⟨obs rfl (hg := q0 (conv_eq ?_)), trivial⟩ rfl rfl rfl
     show (ren _ (encMc p m)).put _ _ = _
     rw [ren_M, msetF, if_pos h0']
     exact putM_go h (putGo_reg x (by omega)))
  | (have e : msetF m r x = m := by rw [msetF, if_neg (by simp at h0; omega)]
     rw [e]
     exact fin_mk hT [] (ts := []) (l := []) trivial trivial ⟨obs rfl, trivial⟩ rfl rfl rfl)
theorem mset_acR (p : PProg) (m : PM) (r x : Int) (h : OkM m) (hr : r < 8) : AC Tryz.prog T tysN 227 [.ptr (.b 0) 1 0 [], .int r, .int x] (List.map (renO (sig [.b 0] 0)) [mO p m]) (.tup []) [mO p (msetF m r x)] := by rw [renO_M]; exact mset_ac p m r x h hr
def failF (m : PM) (why : Int) : PM := { setGo m (endG (ownG m) 4 why) with val := 0, over := true }
theorem okM_fail {m : PM} (h : OkM m) (why : Int) : OkM (failF m why) := ⟨h.s.setGo rfl, h.g⟩
theorem failGo (g : PGo) (why : Int) : ((((T 59).zero.put [0] (.int 4)).put [1] (.int g.func)).put [2] (.int g.pc)).put [3] (.int why) = encGo (endG g 4 why) := by
  rw [zeroGo, putGo_status, show (encGo { go0 with status := 4 }).put [1] (.int g.func) = encGo { go0 with status := 4, func := g.func } from stru_put (Nat.le_of_ble_eq_true rfl), putGo_pc, putGo_why]; rfl
theorem fail_ac (p : PProg) (m : PM) (why : Int) (h : OkM m) : AC Tryz.prog T tysN 233 [.ptr (.b 0) 1 0 [], .int why] [mO p m] (.tup []) [mO p (failF m why)] := by
 refine AC_intro hT Tryz.func233 rfl rfl (Nat.le_of_ble_eq_true rfl) ?_
 refine sq (rgs [⟨true, [.b 0], ownP1 m, [mO p m]⟩] rfl ?_ ?_)
 ·have hq := own_acR p m h.g
  have hk1 := okOs_M [.b 0] p m
  have hk2 := okOs_M (bs 1) p m
  simp only [holdsC, under, CG.pure]
  repeat' with_reducible refine And.intro ?_ ?_
  all_goals (try with_reducible intros)
  all_goals (first | exact trivial | assumption | omega | exact hq | exact hk1 | exact hk2 | (simp; done) | grind)
 refine sq ?_
 refine WP.ent (st' := mkSt [(0, .ptr (.b 0) 1 0 []), (1, .int why), (4, ownP1 m)] [(.b 0, mO p m)]) ?_ ?_
 ·refine em [] trivial ⟨⟨rfl, _, rfl, cvt⟩, ⟨rfl, _, rfl, cvt⟩, ⟨rfl, _, rfl, cvt⟩, trivial⟩ ⟨obs rfl (hg := q0 (conv_eq (ren_M _ _ _))), trivial⟩
 refine dr [] rfl ?_
 refine WP.ent (st' := mkSt [(0, .ptr (.b 0) 1 0 [])] [(.b 0, mO p (setGo m (endG (ownG m) 4 why)))]) ?_ ?_
 ·refine em [] trivial ⟨⟨rfl, _, rfl, cvt⟩, trivial⟩ ⟨obs rfl (hg := q0 (conv_eq (putM_go h (by rw [← failGo]; rfl)))), trivial⟩
 refine rg [] rfl ?_
 change Fin ..
 refine fin_mk hT [] (ts := []) (l := []) trivial trivial ⟨obs rfl (hg := q0 (conv_eq ?_)), trivial⟩ rfl rfl rfl
 exact (congrArg (fun z => AV.put z [5] (.bool true)) (putM_val p (setGo m (endG (ownG m) 4 why)) 0)).trans (putM_over p { setGo m (endG (ownG m) 4 why) with val := 0 } true)
theorem fail_acR (p : PProg) (m : PM) (why : Int) (h : OkM m) : AC Tryz.prog T tysN 233 [.ptr (.b 0) 1 0 [], .int why] (List.map (renO (sig [.b 0] 0)) [mO p m]) (.tup []) [mO p (failF m why)] := by rw [renO_M]; exact fail_ac p m why h
def msettleF (p : PProg) (m : PM) (g : Int) : PM := { m with s := (settleF p m.s g m.fuel).1 }
theorem msettle_ac (p : PProg) (m : PM) (g : Int) (h : OkS m.s) : AC Tryz.prog T tysN 163 [.ptr (.b 0) 1 0 [], .int g] [mO p m] (.tup []) [mO p (msettleF p m g)] := by
 refine AC_intro hT Tryz.func163 rfl rfl (Nat.le_of_ble_eq_true rfl) ?_
 refine drs [CG.pure (.tup [encS (settleF p m.s g m.fuel).1, .int (settleF p m.s g m.fuel).2])] rfl ?_ ?_
 ·have hq := settle_ac p m.s g m.fuel h
  simp only [holdsC, under, CG.pure]
  repeat' with_reducible refine And.intro ?_ ?_
  all_goals (try with_reducible intros)
  all_goals (first | exact trivial | assumption | omega | exact hq | (simp; done) | grind)
 change Fin ..
 exact fin_mk hT [] (ts := []) (l := []) trivial trivial ⟨obs rfl (hg := q0 (conv_eq (putM_s (putS _ _)))), trivial⟩ rfl rfl rfl
end Go.Ab


/- A step that is being taken: send, recv, taken, shut. -/
set_option autoImplicit false
set_option maxRecDepth 20000
set_option maxHeartbeats 4000000
set_option linter.unusedSimpArgs false
set_option linter.unusedVariables false
namespace Go.Ab
open Go.Proofs
abbrev chM (c : Int) : AV := .ptr (.b 0) 1 0 [1, 2, c.toNat]
theorem okM_val {m : PM} (h : OkM m) (x : Int) : OkM { m with val := x } := ⟨h.s, h.g⟩
theorem okM_over {m : PM} (h : OkM m) (x : Bool) : OkM { m with over := x } := ⟨h.s, h.g⟩
theorem okM_go {m : PM} (h : OkM m) {x : PGo} (hx : okGo x) : OkM (setGo m x) := ⟨h.s.setGo hx, h.g⟩
theorem okM_ch {m : PM} (h : OkM m) (c : Int) {x : PChan} (hx : okCh x) : OkM (setCh m c x) := ⟨h.s.setCh hx, h.g⟩
abbrev bufSet (x : PChan) (k v : Int) : PChan := { x with buf := x.buf.set k.toNat v }
def sendF (p : PProg) (m : PM) (c x : Int) : PM :=
  if (chI m.s c).closed = true then failF { m with val := x } 4 else
  if 0 < p.chans.getD c.toNat 0 then setCh { m with val := x } c { bufSet (chI m.s c) (chI m.s c).len x with len := (chI m.s c).len + 1 } else
  { setGo (setCh { m with val := x } c { chI m.s c with offer := 1, frm := m.g, val := x }) { ownG m with status := 2 } with over := true }
theorem okM_send {p : PProg} {m : PM} (h : OkM m) (c x : Int) : OkM (sendF p m c x) := by
  have hb : (chI m.s c).buf.length = 4 := okCh_at h.s _
  unfold sendF
  split
  · exact okM_fail (okM_val h x) 4
  · split
    · exact okM_ch (okM_val h x) c (by show ((chI m.s c).buf.set _ _).length = 4; rw [List.length_set]; exact hb)
    · exact okM_over (okM_go (okM_ch (okM_val h x) c (x := { chI m.s c with offer := 1, frm := m.g, val := x }) hb) (x := { ownG m with status := 2 }) (okGo_at h.s _)) true
theorem msend_ac (p : PProg) (m : PM) (c x : Int) (h : OkM m) (hc : bndP c p.chans.length) (hp : ProgP p) (hs : sendsB p m.s c = true) (hlen : 0 ≤ (chI m.s c).len) : AC Tryz.prog T tysN 225 [.ptr (.b 0) 1 0 [], .int c, .int x] [mO p m] (.tup []) [mO p (sendF p m c x)] := by
 refine AC_intro hT Tryz.func225 rfl rfl (Nat.le_of_ble_eq_true rfl) ?_
 have hc4 := hp.chans
 have hcap : p.chans.getD c.toNat 0 ≤ 4 := (hp.caps _ (by unfold bndP at hc; rw [List.getD_eq_getElem?_getD, List.getElem?_eq_getElem (show c.toNat < p.chans.length by omega)]; exact List.getElem_mem _)).2
 unfold bndP at hc
 have hcc : 0 ≤ c ∧ c < 4 := by omega
 have hb : (chI m.s c).buf.length = 4 := okCh_at h.s _
 refine sq (rgs [] rfl ?_ ?_)
 ·simp [-List.getD_eq_getElem?_getD, holdsC, under]; omega
 refine sq (rg [] rfl ?_)
 refine bk (sq ?_)
 refine WP.ent (st' := mkSt [(0, .ptr (.b 0) 1 0 []), (1, .int c), (2, .int x), (6, chM c)] [(.b 0, mO p { m with val := x })]) ?_ ?_
 ·refine em [] trivial ⟨⟨rfl, _, rfl, cvt⟩, ⟨rfl, _, rfl, cvt⟩, ⟨rfl, _, rfl, cvt⟩, ⟨rfl, _, rfl, cvt⟩, trivial⟩ ⟨obs rfl (hg := q0 (conv_eq (putM_val _ _ _))), trivial⟩
 refine rg [] rfl ?_
 refine cd rfl (fun h5 => ?_) (fun h5 => ?_)
 ·have hcl : (chI m.s c).closed = true := by simp [-List.getD_eq_getElem?_getD] at h5; exact h5
  refine rgs [⟨true, [.b 0], .tup [], [mO p (failF { m with val := x } 4)]⟩] rfl ?_ ?_
  ·have hq := fail_acR p { m with val := x } 4 (okM_val h x)
   have hk1 := okOs_M [.b 0] p { m with val := x }
   have hk2 := okOs_M (bs 1) p (failF { m with val := x } 4)
   simp only [holdsC, under, CG.pure]
   repeat' with_reducible refine And.intro ?_ ?_
   all_goals (try with_reducible intros)
   all_goals (first | exact trivial | assumption | omega | exact hq | exact hk1 | exact hk2 | (simp; done) | grind)
  change Fin ..
  first
  | (refine fin_mk hT [] (ts := []) (l := []) trivial trivial ⟨obs rfl (hg := q0 (conv_eq ?_)), trivial⟩ rfl rfl rfl
     rw [sendF, if_pos hcl]
     exact ren_M _ _ _)
  | (refine fin_mk hT [] (ts := []) (l := []) trivial trivial ⟨obs rfl (hg := q0 (conv_eq ?_)), trivial⟩ rfl rfl rfl
     rw [sendF, if_neg hcl, if_pos hpos]
     have hcl4 : c.toNat < m.s.chans.length := by rw [h.s.chans]; omega
     have hz : IntKind.i64.wrap ((chI (setCh { m with val := x } c (bufSet (chI m.s c) (chI m.s c).len x)).s c).len + 1) = (chI m.s c).len + 1 := by
       rw [chI_setL hcl4]; exact wrap_id (by show _ ≤ (chI m.s c).len + 1; omega) (by show (chI m.s c).len + 1 < _; omega)
     show (encMc p (setCh { m with val := x } c (bufSet (chI m.s c) (chI m.s c).len x))).put [1, 2, c.toNat, 1] (AV.int (IntKind.i64.wrap ((chI (setCh { m with val := x } c (bufSet (chI m.s c) (chI m.s c).len x)).s c).len + 1))) = _
     rw [hz]
     refine (putM_chL (m := setCh { m with val := x } c (bufSet (chI m.s c) (chI m.s c).len x)) (by show c.toNat < (m.s.chans.set _ _).length; rw [List.length_set]; exact hcl4) (by rw [chI_setL hcl4]; exact putCh_len _ _)).trans ?_
     rw [setCh2])
  | (refine fin_mk hT [] (ts := []) (l := []) trivial trivial ⟨obs rfl (hg := q0 (conv_eq ?_)), trivial⟩ rfl rfl rfl
     rw [sendF, if_neg hcl, if_neg hpos]
     exact putM_over _ _ _)
 ·have hcl : ¬ (chI m.s c).closed = true := by simp [-List.getD_eq_getElem?_getD] at h5; exact fun e => absurd (h5.symm.trans e) (by decide)
  refine sq (rgs [] rfl ?_ ?_)
  ·simp [-List.getD_eq_getElem?_getD, holdsC, under]; omega
  refine cd rfl (fun h7 => ?_) (fun h7 => ?_)
  ·have hpos : 0 < p.chans.getD c.toNat 0 := by simp [-List.getD_eq_getElem?_getD] at h7; omega
   have hll : (chI m.s c).len < p.chans.getD c.toNat 0 := by
     have := hs
     simp only [sendsB, Bool.or_eq_true, Bool.and_eq_true, decide_eq_true_eq, beq_iff_eq] at this
     rcases this with (h1 | h1) | h1
     · exact absurd h1 hcl
     · exact h1.2
     · omega
   refine sq (drs [] rfl ?_ ?_)
   ·simp only [chI] at hlen hll hb
    simp [-List.getD_eq_getElem?_getD, holdsC, under]; omega
   refine WP.ent (st' := mkSt [(6, chM c)] [(.b 0, mO p (setCh { m with val := x } c (bufSet (chI m.s c) (chI m.s c).len x)))]) ?_ ?_
   ·refine em [] trivial ⟨⟨rfl, _, rfl, cvt⟩, trivial⟩ ⟨obs rfl (hg := q0 (conv_eq (putM_ch (okM_val h x) hcc (putCh_buf x (by show (chI m.s c).len.toNat < (chI m.s c).buf.length; omega))))), trivial⟩
   refine rg [] rfl ?_
   change Fin ..
   first
   | (refine fin_mk hT [] (ts := []) (l := []) trivial trivial ⟨obs rfl (hg := q0 (conv_eq ?_)), trivial⟩ rfl rfl rfl
      rw [sendF, if_pos hcl]
      exact ren_M _ _ _)
   | (refine fin_mk hT [] (ts := []) (l := []) trivial trivial ⟨obs rfl (hg := q0 (conv_eq ?_)), trivial⟩ rfl rfl rfl
      rw [sendF, if_neg hcl, if_pos hpos]
      have hcl4 : c.toNat < m.s.chans.length := by rw [h.s.chans]; omega
      have hz : IntKind.i64.wrap ((chI (setCh { m with val := x } c (bufSet (chI m.s c) (chI m.s c).len x)).s c).len + 1) = (chI m.s c).len + 1 := by
        rw [chI_setL hcl4]; exact wrap_id (by show _ ≤ (chI m.s c).len + 1; omega) (by show (chI m.s c).len + 1 < _; omega)
      show (encMc p (setCh { m with val := x } c (bufSet (chI m.s c) (chI m.s c).len x))).put [1, 2, c.toNat, 1] (AV.int (IntKind.i64.wrap ((chI (setCh { m with val := x } c (bufSet (chI m.s c) (chI m.s c).len x)).s c).len + 1))) = _
      rw [hz]
      refine (putM_chL (m := setCh { m with val := x } c (bufSet (chI m.s c) (chI m.s c).len x)) (by show c.toNat < (m.s.chans.set _ _).length; rw [List.length_set]; exact hcl4) (by rw [chI_setL hcl4]; exact putCh_len _ _)).trans ?_
      rw [setCh2])
   | (refine fin_mk hT [] (ts := []) (l := []) trivial trivial ⟨obs rfl (hg := q0 (conv_eq ?_)), trivial⟩ rfl rfl rfl
      rw [sendF, if_neg hcl, if_neg hpos]
      exact putM_over _ _ _)
  ·have hpos : ¬ 0 < p.chans.getD c.toNat 0 := by simp [-List.getD_eq_getElem?_getD] at h7; omega
   refine sq (rg [] rfl ?_)
   refine sq ?_
   refine WP.ent (st' := mkSt [(0, .ptr (.b 0) 1 0 [])] [(.b 0, mO p (setCh { m with val := x } c { chI m.s c with offer := 1, frm := m.g, val := x }))]) ?_ ?_
   ·refine em [] trivial ⟨⟨rfl, _, rfl, cvt⟩, trivial⟩ ⟨obs rfl (hg := q0 (conv_eq (putM_ch3 (m := { m with val := x }) (by show c.toNat < m.s.chans.length; rw [h.s.chans]; omega) (putCh_offer _ 1) (putCh_frm _ m.g) (putCh_val _ x)))), trivial⟩
   refine rgs [⟨true, [.b 0], ownP1 m, [mO p (setCh { m with val := x } c { chI m.s c with offer := 1, frm := m.g, val := x })]⟩] rfl ?_ ?_
   ·have hq := own_acR p (setCh { m with val := x } c { chI m.s c with offer := 1, frm := m.g, val := x }) h.g
    have hk1 := okOs_M [.b 0] p (setCh { m with val := x } c { chI m.s c with offer := 1, frm := m.g, val := x })
    have hk2 := okOs_M (bs 1) p (setCh { m with val := x } c { chI m.s c with offer := 1, frm := m.g, val := x })
    simp only [holdsC, under, CG.pure]
    repeat' with_reducible refine And.intro ?_ ?_
    all_goals (try with_reducible intros)
    all_goals (first | exact trivial | assumption | omega | exact hq | exact hk1 | exact hk2 | (simp; done) | grind)
   refine WP.ent (st' := mkSt [(0, .ptr (.b 0) 1 0 [])] [(.b 0, mO p (setGo (setCh { m with val := x } c { chI m.s c with offer := 1, frm := m.g, val := x }) { ownG m with status := 2 }))]) ?_ ?_
   ·refine em [] trivial ⟨⟨rfl, _, rfl, cvt⟩, trivial⟩ ⟨obs rfl (hg := q0 (conv_eq ((congrArg (fun z => AV.put z [1, 3, m.g.toNat, 0] (.int 2)) (ren_M _ _ _)).trans (putM_go (okM_ch (okM_val h x) c hb) (putGo_status _ 2))))), trivial⟩
   refine rg [] rfl ?_
   change Fin ..
   first
   | (refine fin_mk hT [] (ts := []) (l := []) trivial trivial ⟨obs rfl (hg := q0 (conv_eq ?_)), trivial⟩ rfl rfl rfl
      rw [sendF, if_pos hcl]
      exact ren_M _ _ _)
   | (refine fin_mk hT [] (ts := []) (l := []) trivial trivial ⟨obs rfl (hg := q0 (conv_eq ?_)), trivial⟩ rfl rfl rfl
      rw [sendF, if_neg hcl, if_pos hpos]
      have hcl4 : c.toNat < m.s.chans.length := by rw [h.s.chans]; omega
      have hz : IntKind.i64.wrap ((chI (setCh { m with val := x } c (bufSet (chI m.s c) (chI m.s c).len x)).s c).len + 1) = (chI m.s c).len + 1 := by
        rw [chI_setL hcl4]; exact wrap_id (by show _ ≤ (chI m.s c).len + 1; omega) (by show (chI m.s c).len + 1 < _; omega)
      show (encMc p (setCh { m with val := x } c (bufSet (chI m.s c) (chI m.s c).len x))).put [1, 2, c.toNat, 1] (AV.int (IntKind.i64.wrap ((chI (setCh { m with val := x } c (bufSet (chI m.s c) (chI m.s c).len x)).s c).len + 1))) = _
      rw [hz]
      refine (putM_chL (m := setCh { m with val := x } c (bufSet (chI m.s c) (chI m.s c).len x)) (by show c.toNat < (m.s.chans.set _ _).length; rw [List.length_set]; exact hcl4) (by rw [chI_setL hcl4]; exact putCh_len _ _)).trans ?_
      rw [setCh2])
   | (refine fin_mk hT [] (ts := []) (l := []) trivial trivial ⟨obs rfl (hg := q0 (conv_eq ?_)), trivial⟩ rfl rfl rfl
      rw [sendF, if_neg hcl, if_neg hpos]
      exact putM_over _ _ _)
def shiftB (l : List Int) : List Int := [l.getD 1 0, l.getD 2 0, l.getD 3 0, l.getD 3 0]
def recvM (m : PM) (c : Int) : PM × Bool :=
  if 0 < (chI m.s c).len then (setCh { m with val := (chI m.s c).buf.getD 0 0 } c { chI m.s c with buf := (shiftB (chI m.s c).buf).set ((chI m.s c).len - 1).toNat 0, len := (chI m.s c).len - 1 }, true) else
  if (chI m.s c).offer = 1 then (setCh { m with val := (chI m.s c).val } c { chI m.s c with offer := 2, val := 0 }, true) else ({ m with val := 0 }, false)
theorem okM_recv {m : PM} (h : OkM m) (c : Int) : OkM (recvM m c).1 := by
  have hb : (chI m.s c).buf.length = 4 := okCh_at h.s _
  unfold recvM
  split
  · exact okM_ch (okM_val h _) c (by show (List.set _ _ _).length = 4; rw [List.length_set]; rfl)
  · split
    · exact okM_ch (okM_val h _) c (x := { chI m.s c with offer := 2, val := 0 }) hb
    · exact okM_val h _
theorem shift_ag {l : List Int} (h : l.length = 4) : (AV.agg 54 4 fun j => bif Nat.ble 0 j && Nat.blt j 3 then .int (l.getD (1 + j) 0) else .int (l.getD j 0)) = arrI 54 4 .i64 (shiftB l) := agg_ext fun j => by
  match j with
  | 0 | 1 | 2 | 3 => rfl
  | j + 4 => exact congrArg AV.int (show l.getD (j + 4) 0 = 0 by simp [List.getElem?_eq_none (show l.length ≤ j + 4 by omega)])
theorem mrecv_ac (p : PProg) (m : PM) (c : Int) (h : OkM m) (hc : 0 ≤ c ∧ c < 4) (hlen : (chI m.s c).len ≤ 4) : AC Tryz.prog T tysN 226 [.ptr (.b 0) 1 0 [], .int c] [mO p m] (.bool (recvM m c).2) [mO p (recvM m c).1] := by
 refine AC_intro hT Tryz.func226 rfl rfl (Nat.le_of_ble_eq_true rfl) ?_
 have hb : (chI m.s c).buf.length = 4 := okCh_at h.s _
 have hcl4 : c.toNat < m.s.chans.length := by rw [h.s.chans]; omega
 refine sq (rg [] rfl ?_)
 refine sq (rgs [] rfl ?_ ?_)
 ·simp [-List.getD_eq_getElem?_getD, holdsC, under]; omega
 refine sq (bk (sq (rg [] rfl ?_)))
 refine cd rfl (fun h4 => ?_) (fun h4 => ?_)
 ·have hpos : 0 < (chI m.s c).len := by simp [-List.getD_eq_getElem?_getD] at h4; omega
  refine sq (rg [] rfl ?_)
  refine sq ?_
  refine WP.ent (st' := mkSt [(5, chM c)] [(.b 0, mO p { m with val := (chI m.s c).buf.getD 0 0 })]) ?_ ?_
  ·refine em [] trivial ⟨⟨rfl, _, rfl, cvt⟩, trivial⟩ ⟨obs rfl (hg := q0 (conv_eq (putM_val _ _ _))), trivial⟩
  refine dr [] rfl ?_
  refine sq ?_
  refine WP.ent (st' := mkSt [(5, chM c)] [(.b 0, mO p (setCh { m with val := (chI m.s c).buf.getD 0 0 } c { chI m.s c with buf := shiftB (chI m.s c).buf }))]) ?_ ?_
  ·refine em [] trivial ⟨⟨rfl, _, rfl, cvt⟩, trivial⟩ ⟨obs rfl (hg := q0 (conv_eq (putM_chL (m := { m with val := (chI m.s c).buf.getD 0 0 }) hcl4 ((congrArg (fun z => (encCh (chI m.s c)).put [0] z) (shift_ag hb)).trans (stru_put (Nat.le_of_ble_eq_true rfl)))))), trivial⟩
  refine rg [] rfl ?_
  have hz : IntKind.i64.wrap ((chI (setCh { m with val := (chI m.s c).buf.getD 0 0 } c { chI m.s c with buf := shiftB (chI m.s c).buf }).s c).len - 1) = (chI m.s c).len - 1 := by
    rw [chI_setL hcl4]; exact wrap_id (by show _ ≤ (chI m.s c).len - 1; omega) (by show (chI m.s c).len - 1 < _; omega)
  refine WP.ent (st' := mkSt [(5, chM c)] [(.b 0, mO p (setCh { m with val := (chI m.s c).buf.getD 0 0 } c { chI m.s c with buf := shiftB (chI m.s c).buf, len := (chI m.s c).len - 1 }))]) ?_ ?_
  ·refine em [] trivial ⟨⟨rfl, _, rfl, cvt⟩, trivial⟩ ⟨obs rfl (hg := q0 (conv_eq ((congrArg (fun z => AV.put (encMc p (setCh { m with val := (chI m.s c).buf.getD 0 0 } c { chI m.s c with buf := shiftB (chI m.s c).buf })) [1, 2, c.toNat, 1] (.int z)) hz).trans ((putM_chL (m := setCh { m with val := (chI m.s c).buf.getD 0 0 } c { chI m.s c with buf := shiftB (chI m.s c).buf }) (by show c.toNat < (m.s.chans.set _ _).length; rw [List.length_set]; exact hcl4) (by rw [chI_setL hcl4]; exact putCh_len _ _)).trans (by rw [setCh2]))))), trivial⟩
  refine drs [] rfl ?_ ?_
  ·have e : (chI (setCh { m with val := (chI m.s c).buf.getD 0 0 } c { chI m.s c with buf := shiftB (chI m.s c).buf, len := (chI m.s c).len - 1 }).s c).len = (chI m.s c).len - 1 := by rw [chI_setL hcl4]
   have hA : 0 ≤ (chI (setCh { m with val := (chI m.s c).buf.getD 0 0 } c { chI m.s c with buf := shiftB (chI m.s c).buf, len := (chI m.s c).len - 1 }).s c).len ∧ (chI (setCh { m with val := (chI m.s c).buf.getD 0 0 } c { chI m.s c with buf := shiftB (chI m.s c).buf, len := (chI m.s c).len - 1 }).s c).len < 4 := by rw [e]; omega
   simp only [holdsC, under, CG.pure]
   repeat' with_reducible refine And.intro ?_ ?_
   all_goals (try with_reducible intros)
   all_goals (first | exact trivial | assumption | omega | exact hA | exact hA.1 | exact hA.2 | (simp; done) | grind)
  refine sq (rg [] rfl ?_)
  refine WP.ret ?_
  change Fin ..
  have e : (chI (setCh { m with val := (chI m.s c).buf.getD 0 0 } c { chI m.s c with buf := shiftB (chI m.s c).buf, len := (chI m.s c).len - 1 }).s c).len = (chI m.s c).len - 1 := by rw [chI_setL hcl4]
  have er : recvM m c = (setCh { m with val := (chI m.s c).buf.getD 0 0 } c { chI m.s c with buf := (shiftB (chI m.s c).buf).set ((chI m.s c).len - 1).toNat 0, len := (chI m.s c).len - 1 }, true) := by rw [recvM, if_pos hpos]
  rw [er]
  refine fin_mk hT [] (ts := [(4, .bool true)]) (l := [.bool true]) trivial ⟨⟨rfl, _, rfl, cvt⟩, trivial⟩ ⟨obs rfl (hg := q0 (conv_eq ?_)), trivial⟩ rfl rfl rfl
  show (encMc p (setCh { m with val := (chI m.s c).buf.getD 0 0 } c { chI m.s c with buf := shiftB (chI m.s c).buf, len := (chI m.s c).len - 1 })).put [1, 2, c.toNat, 0, (chI (setCh { m with val := (chI m.s c).buf.getD 0 0 } c { chI m.s c with buf := shiftB (chI m.s c).buf, len := (chI m.s c).len - 1 }).s c).len.toNat] (.int 0) = _
  rw [e]
  refine (putM_chL (m := setCh { m with val := (chI m.s c).buf.getD 0 0 } c { chI m.s c with buf := shiftB (chI m.s c).buf, len := (chI m.s c).len - 1 }) (by show c.toNat < (m.s.chans.set _ _).length; rw [List.length_set]; exact hcl4) (by rw [chI_setL hcl4]; exact putCh_buf 0 (by show _ < 4; omega))).trans ?_
  rw [setCh2]
 ·have hpos : ¬ 0 < (chI m.s c).len := by simp [-List.getD_eq_getElem?_getD] at h4; exact Int.not_lt.mpr h4
  refine sq (rg [] rfl ?_)
  refine cd rfl (fun h9 => ?_) (fun h9 => ?_)
  ·have hof : (chI m.s c).offer = 1 := by simp [-List.getD_eq_getElem?_getD] at h9; exact h9
   refine sq (rg [] rfl ?_)
   refine WP.ent (st' := mkSt [(5, chM c)] [(.b 0, mO p { m with val := (chI m.s c).val })]) ?_ ?_
   ·refine em [] trivial ⟨⟨rfl, _, rfl, cvt⟩, trivial⟩ ⟨obs rfl (hg := q0 (conv_eq (putM_val _ _ _))), trivial⟩
   refine rg [] rfl ?_
   refine sq (rg [] rfl ?_)
   refine WP.ret ?_
   change Fin ..
   have er : recvM m c = (setCh { m with val := (chI m.s c).val } c { chI m.s c with offer := 2, val := 0 }, true) := by rw [recvM, if_neg hpos, if_pos hof]
   rw [er]
   exact fin_mk hT [] (ts := [(4, .bool true)]) (l := [.bool true]) trivial ⟨⟨rfl, _, rfl, cvt⟩, trivial⟩ ⟨obs rfl (hg := q0 (conv_eq (putM_ch2 (m := { m with val := (chI m.s c).val }) hcl4 (putCh_offer _ 2) (putCh_val _ 0)))), trivial⟩ rfl rfl rfl
  ·have hof : ¬ (chI m.s c).offer = 1 := by simp [-List.getD_eq_getElem?_getD] at h9; exact h9
   refine sq (rg [] rfl ?_)
   refine sq (rg [] rfl ?_)
   refine WP.ret ?_
   change Fin ..
   have er : recvM m c = ({ m with val := 0 }, false) := by rw [recvM, if_neg hpos, if_neg hof]
   rw [er]
   exact fin_mk hT [] (ts := [(4, .bool false)]) (l := [.bool false]) trivial ⟨⟨rfl, _, rfl, cvt⟩, trivial⟩ ⟨obs rfl (hg := q0 (conv_eq (putM_val _ _ _))), trivial⟩ rfl rfl rfl
def takenM0 (m : PM) (c : Int) : PM := setGo (setCh m c { chI m.s c with offer := 0, frm := 0, val := 0 }) { ownG m with status := 1 }
def takenF (m : PM) (c : Int) : PM := if (chI m.s c).offer = 3 then failF (takenM0 m c) 4 else takenM0 m c
theorem okM_taken0 {m : PM} (h : OkM m) (c : Int) : OkM (takenM0 m c) := okM_go (okM_ch h c (x := { chI m.s c with offer := 0, frm := 0, val := 0 }) (okCh_at h.s _)) (x := { ownG m with status := 1 }) (okGo_at h.s _)
theorem mtaken_ac (p : PProg) (m : PM) (c : Int) (h : OkM m) (hc : 0 ≤ c ∧ c < 4) : AC Tryz.prog T tysN 229 [.ptr (.b 0) 1 0 [], .int c] [mO p m] (.tup []) [mO p (takenF m c)] := by
 refine AC_intro hT Tryz.func229 rfl rfl (Nat.le_of_ble_eq_true rfl) ?_
 have hcl4 : c.toNat < m.s.chans.length := by rw [h.s.chans]; omega
 have hb : okCh (chI m.s c) := okCh_at h.s _
 refine sq (rgs [] rfl ?_ ?_)
 ·simp [-List.getD_eq_getElem?_getD, holdsC, under]; omega
 refine sq (rg [] rfl ?_)
 refine sq (rg [] rfl ?_)
 refine sq ?_
 refine WP.ent (st' := mkSt [(0, .ptr (.b 0) 1 0 []), (5, .bool ((chI m.s c).offer == 3))] [(.b 0, mO p (setCh m c { chI m.s c with offer := 0, frm := 0, val := 0 }))]) ?_ ?_
 ·refine em [] trivial ⟨⟨rfl, _, rfl, cvt⟩, ⟨rfl, _, rfl, cvt⟩, trivial⟩ ⟨obs rfl (hg := q0 (conv_eq (putM_ch3 hcl4 (putCh_offer _ 0) (putCh_frm _ 0) (putCh_val _ 0)))), trivial⟩
 refine rgs [⟨true, [.b 0], ownP1 m, [mO p (setCh m c { chI m.s c with offer := 0, frm := 0, val := 0 })]⟩] rfl ?_ ?_
 ·have hq := own_acR p (setCh m c { chI m.s c with offer := 0, frm := 0, val := 0 }) h.g
  have hk1 := okOs_M [.b 0] p (setCh m c { chI m.s c with offer := 0, frm := 0, val := 0 })
  have hk2 := okOs_M (bs 1) p (setCh m c { chI m.s c with offer := 0, frm := 0, val := 0 })
  simp only [holdsC, under, CG.pure]
  repeat' with_reducible refine And.intro ?_ ?_
  all_goals (try with_reducible intros)
  all_goals (first | exact trivial | assumption | omega | exact hq | exact hk1 | exact hk2 | (simp; done) | grind)
 refine sq ?_
 refine WP.ent (st' := mkSt [(0, .ptr (.b 0) 1 0 []), (5, .bool ((chI m.s c).offer == 3))] [(.b 0, mO p (takenM0 m c))]) ?_ ?_
 ·refine em [] trivial ⟨⟨rfl, _, rfl, cvt⟩, ⟨rfl, _, rfl, cvt⟩, trivial⟩ ⟨obs rfl (hg := q0 (conv_eq ((congrArg (fun z => AV.put z [1, 3, m.g.toNat, 0] (.int 1)) (ren_M _ _ _)).trans (putM_go (okM_ch h c (x := { chI m.s c with offer := 0, frm := 0, val := 0 }) hb) (putGo_status _ 1))))), trivial⟩
 refine rg [] rfl ?_
 refine cd rfl (fun h4 => ?_) (fun h4 => ?_)
 ·have hl : (chI m.s c).offer = 3 := by simpa using h4
  refine rgs [⟨true, [.b 0], .tup [], [mO p (failF (takenM0 m c) 4)]⟩] rfl ?_ ?_
  ·have hq := fail_acR p (takenM0 m c) 4 (okM_taken0 h c)
   have hk1 := okOs_M [.b 0] p (takenM0 m c)
   have hk2 := okOs_M (bs 1) p (failF (takenM0 m c) 4)
   simp only [holdsC, under, CG.pure]
   repeat' with_reducible refine And.intro ?_ ?_
   all_goals (try with_reducible intros)
   all_goals (first | exact trivial | assumption | omega | exact hq | exact hk1 | exact hk2 | (simp; done) | grind)
  change Fin ..
  first
  | (refine fin_mk hT [] (ts := []) (l := []) trivial trivial ⟨obs rfl (hg := q0 (conv_eq ?_)), trivial⟩ rfl rfl rfl
     rw [takenF, if_pos hl]
     exact ren_M _ _ _)
  | (refine fin_mk hT [] (ts := []) (l := []) trivial trivial ⟨obs rfl (hg := q0 (conv_eq ?_)), trivial⟩ rfl rfl rfl
     rw [takenF, if_neg hl])
 ·have hl : ¬ (chI m.s c).offer = 3 := by simpa using h4
  refine sk ?_
  change Fin ..
  first
  | (refine fin_mk hT [] (ts := []) (l := []) trivial trivial ⟨obs rfl (hg := q0 (conv_eq ?_)), trivial⟩ rfl rfl rfl
     rw [takenF, if_pos hl]
     exact ren_M _ _ _)
  | (refine fin_mk hT [] (ts := []) (l := []) trivial trivial ⟨obs rfl (hg := q0 (conv_eq ?_)), trivial⟩ rfl rfl rfl
     rw [takenF, if_neg hl])
def shutF (m : PM) (c : Int) : PM := if (chI m.s c).closed = true then failF m 5 else if (chI m.s c).offer = 1 then setCh m c { chI m.s c with closed := true, offer := 3, val := 0 } else setCh m c { chI m.s c with closed := true }
theorem mshut_ac (p : PProg) (m : PM) (c : Int) (h : OkM m) (hc : 0 ≤ c ∧ c < 4) : AC Tryz.prog T tysN 230 [.ptr (.b 0) 1 0 [], .int c] [mO p m] (.tup []) [mO p (shutF m c)] := by
 refine AC_intro hT Tryz.func230 rfl rfl (Nat.le_of_ble_eq_true rfl) ?_
 have hcl4 : c.toNat < m.s.chans.length := by rw [h.s.chans]; omega
 refine sq (rgs [] rfl ?_ ?_)
 ·simp [-List.getD_eq_getElem?_getD, holdsC, under]; omega
 refine sq (sq (rg [] rfl ?_))
 refine cd rfl (fun h1 => ?_) (fun h1 => ?_)
 ·have hcl : (chI m.s c).closed = true := h1
  refine sq (rgs [⟨true, [.b 0], .tup [], [mO p (failF m 5)]⟩] rfl ?_ ?_)
  ·have hq := fail_acR p m 5 h
   have hk1 := okOs_M [.b 0] p m
   have hk2 := okOs_M (bs 1) p (failF m 5)
   simp only [holdsC, under, CG.pure]
   repeat' with_reducible refine And.intro ?_ ?_
   all_goals (try with_reducible intros)
   all_goals (first | exact trivial | assumption | omega | exact hq | exact hk1 | exact hk2 | (simp; done) | grind)
  refine WP.ret ?_
  change Fin ..
  refine fin_mk hT [] (ts := []) (l := []) trivial trivial ⟨obs rfl (hg := q0 (conv_eq ?_)), trivial⟩ rfl rfl rfl
  rw [shutF, if_pos hcl]
  exact ren_M _ _ _
 ·have hcl : ¬ (chI m.s c).closed = true := fun e => absurd (h1.symm.trans e) (by decide)
  refine sk (sq (rg [] rfl ?_))
  refine sq ?_
  have e1 : (chI (setCh m c { chI m.s c with closed := true }).s c) = { chI m.s c with closed := true } := chI_setL hcl4
  refine WP.ent (st' := mkSt [(4, chM c)] [(.b 0, mO p (setCh m c { chI m.s c with closed := true }))]) ?_ ?_
  ·refine em [] trivial ⟨⟨rfl, _, rfl, cvt⟩, trivial⟩ ⟨obs rfl (hg := q0 (conv_eq (putM_chL hcl4 (putCh_closed _ true)))), trivial⟩
  refine rg [] rfl ?_
  refine cd rfl (fun h4 => ?_) (fun h4 => ?_)
  ·have hof : (chI m.s c).offer = 1 := eq_of_beq ((congrArg (fun z : PChan => z.offer == 1) e1).symm.trans h4)
   refine rg [] rfl ?_
   change Fin ..
   first
   | (refine fin_mk hT [] (ts := []) (l := []) trivial trivial ⟨obs rfl (hg := q0 (conv_eq ?_)), trivial⟩ rfl rfl rfl
      rw [shutF, if_neg hcl, if_pos hof]
      refine (putM_ch2 (m := setCh m c { chI m.s c with closed := true }) (x := { chI m.s c with closed := true, offer := 3 }) (x' := { chI m.s c with closed := true, offer := 3, val := 0 }) (by show c.toNat < (m.s.chans.set _ _).length; rw [List.length_set]; exact hcl4) (by rw [e1]; exact putCh_offer _ 3) (putCh_val _ 0)).trans ?_
      rw [setCh2])
   | (refine fin_mk hT [] (ts := []) (l := []) trivial trivial ⟨obs rfl (hg := q0 (conv_eq ?_)), trivial⟩ rfl rfl rfl
      rw [shutF, if_neg hcl, if_neg hof])
  ·have hof : ¬ (chI m.s c).offer = 1 := fun e => absurd ((beq_iff_eq.2 e).symm.trans ((congrArg (fun z : PChan => z.offer == 1) e1).symm.trans h4)) (by decide)
   refine sk ?_
   change Fin ..
   first
   | (refine fin_mk hT [] (ts := []) (l := []) trivial trivial ⟨obs rfl (hg := q0 (conv_eq ?_)), trivial⟩ rfl rfl rfl
      rw [shutF, if_neg hcl, if_pos hof]
      refine (putM_ch2 (m := setCh m c { chI m.s c with closed := true }) (x := { chI m.s c with closed := true, offer := 3 }) (x' := { chI m.s c with closed := true, offer := 3, val := 0 }) (by show c.toNat < (m.s.chans.set _ _).length; rw [List.length_set]; exact hcl4) (by rw [e1]; exact putCh_offer _ 3) (putCh_val _ 0)).trans ?_
      rw [setCh2])
   | (refine fin_mk hT [] (ts := []) (l := []) trivial trivial ⟨obs rfl (hg := q0 (conv_eq ?_)), trivial⟩ rfl rfl rfl
      rw [shutF, if_neg hcl, if_neg hof])
theorem okM_shut {m : PM} (h : OkM m) (c : Int) : OkM (shutF m c) := by
  have hb : okCh (chI m.s c) := okCh_at h.s _
  unfold shutF
  split
  · exact okM_fail h 5
  · split
    · exact okM_ch h c (x := { chI m.s c with closed := true, offer := 3, val := 0 }) hb
    · exact okM_ch h c (x := { chI m.s c with closed := true }) hb
theorem okM_taken {m : PM} (h : OkM m) (c : Int) : OkM (takenF m c) := by
  unfold takenF
  split
  · exact okM_fail (okM_taken0 h c) 4
  · exact okM_taken0 h c
def numI (b : Bool) : Int := if b then 1 else 0
theorem number_ac (b : Bool) : AC Tryz.prog T tysN 228 [.bool b] [] (.int (numI b)) [] := by
 refine AC_intro hT Tryz.func228 rfl rfl (Nat.le_of_ble_eq_true rfl) ?_
 refine sq (rg [] rfl ?_)
 refine sq (sq (rg [] rfl ?_))
 refine cd rfl (fun h1 => ?_) (fun h1 => ?_)
 ·refine sq (rg [] rfl ?_)
  refine WP.ret ?_
  change Fin ..
  refine finI hT (by rfl) ?_
  simp_all [numI]
 ·refine sk (sq (rg [] rfl ?_))
  refine WP.ret ?_
  change Fin ..
  refine finI hT (by rfl) ?_
  simp_all [numI]
end Go.Ab


/- A step that is being taken: variables and locks. -/
set_option autoImplicit false
set_option maxRecDepth 20000
set_option maxHeartbeats 4000000
set_option linter.unusedSimpArgs false
set_option linter.unusedVariables false
namespace Go.Ab
open Go.Proofs
abbrev setVar (m : PM) (k x : Int) : PM := { m with s := { m.s with vars := m.s.vars.set k.toNat x } }
abbrev setLck (m : PM) (k x : Int) : PM := { m with s := { m.s with owner := m.s.owner.set k.toNat x } }
abbrev setVal (m : PM) (x : Int) : PM := { m with val := x }
theorem okM_var {m : PM} (h : OkM m) (k x : Int) : OkM (setVar m k x) := ⟨h.s.setVar _ _, h.g⟩
theorem okM_lck {m : PM} (h : OkM m) (k x : Int) : OkM (setLck m k x) := ⟨h.s.setOwn _ _, h.g⟩
theorem putM_var {p : PProg} {m : PM} (h : OkM m) {k : Int} (hk : 0 ≤ k ∧ k < 8) (x : Int) : (encMc p m).put [1, 0, k.toNat] (.int x) = encMc p (setVar m k x) := putM_s (putS_var x (by rw [h.s.vars]; omega))
theorem putM_lck {p : PProg} {m : PM} (h : OkM m) {k : Int} (hk : 0 ≤ k ∧ k < 4) (x : Int) : (encMc p m).put [1, 1, k.toNat] (.int x) = encMc p (setLck m k x) := putM_s (putS_own x (by rw [h.s.owner]; omega))
def casM (m : PM) (x : PIns) : PM := if numI (varI m.s x.b == regI (ownG m) x.c) = 1 then setVar (setVal m (numI (varI m.s x.b == regI (ownG m) x.c))) x.b (regI (ownG m) x.n) else setVal m (numI (varI m.s x.b == regI (ownG m) x.c))
def tryM (m : PM) (x : PIns) : PM := if numI (lckI m.s x.b == 0) = 1 then setLck (setVal m (numI (lckI m.s x.b == 0))) x.b (m.g + 1) else setVal m (numI (lckI m.s x.b == 0))
def bumpM (m : PM) (x : PIns) : PM := msetF (setVal m (regI (ownG m) x.c)) x.a (varI m.s x.b)
def sharedF (m : PM) (x : PIns) : PM × Bool :=
  if x.op = 50 then (msetF (setVal m (varI m.s x.b)) x.a (varI m.s x.b), true) else if x.op = 51 then (setVar (setVal m (regI (ownG m) x.b)) x.a (regI (ownG m) x.b), true) else
  if x.op = 52 then (setVar (bumpM m x) x.b (wI (varI (bumpM m x).s x.b + (bumpM m x).val)), true) else
  if x.op = 53 then (msetF (casM m x) x.a (numI (varI m.s x.b == regI (ownG m) x.c)), true) else if x.op = 54 then (setVal m (regI (ownG m) x.b), true) else
  if x.op = 55 then (setLck m x.a (m.g + 1), true) else if x.op = 56 then (if lckI m.s x.a ≠ m.g + 1 then (failF m 6, true) else (setLck m x.a 0, true)) else
  if x.op = 57 then (msetF (tryM m x) x.a (numI (lckI m.s x.b == 0)), true) else (m, false)
theorem okM_cas {m : PM} (h : OkM m) (x : PIns) : OkM (casM m x) := by
  unfold casM; split
  · exact okM_var (okM_val h _) _ _
  · exact okM_val h _
theorem okM_try {m : PM} (h : OkM m) (x : PIns) : OkM (tryM m x) := by
  unfold tryM; split
  · exact okM_lck (okM_val h _) _ _
  · exact okM_val h _
theorem okM_bump {m : PM} (h : OkM m) (x : PIns) : OkM (bumpM m x) := okM_set (okM_val h _) _ _
theorem okM_shared {m : PM} (h : OkM m) (x : PIns) : OkM (sharedF m x).1 := by
  unfold sharedF
  repeat' split
  · exact okM_set (okM_val h _) _ _
  · exact okM_var (okM_val h _) _ _
  · exact okM_var (okM_bump h x) _ _
  · exact okM_set (okM_cas h x) _ _
  · exact okM_val h _
  · exact okM_lck h _ _
  · exact okM_fail h _
  · exact okM_lck h _ _
  · exact okM_set (okM_try h x) _ _
  · exact h
theorem shared_ac (p : PProg) (m : PM) (F : PFun) (x : PIns) (h : OkM m) (hp : ProgP p) (hF : FunP p F) (hi : x.op ≠ 66 → InsP p F x) : AC Tryz.prog T tysN 224 [.ptr (.b 0) 1 0 [], encIns x] [mO p m] (.bool (sharedF m x).2) [mO p (sharedF m x).1] := by
 refine AC_intro hT Tryz.func224 rfl rfl (Nat.le_of_ble_eq_true rfl) ?_
 have hr := hF.regs; have hv := hp.vars; have hlk := hp.locks
 have hg := h.g
 have h8 : (ownG m).regs.length = 8 := okGo_at h.s _
 have hw1 : IntKind.i64.wrap (m.g + 1) = m.g + 1 := wrap_id (by omega) (by omega)
 refine sq (rg [] rfl ?_)
 refine sq ?_
 refine WP.ent (st' := mkSt [(0, .ptr (.b 0) 1 0 []), (3, .rp 120 (encIns x))] [(.b 0, mO p m)]) ?_ ?_
 ·refine em [(.s 3 0, 1)] ⟨sF, trivial⟩ ⟨⟨rfl, _, rfl, cvt⟩, ⟨rfl, _, rfl, rpv⟩, trivial⟩ ⟨obs rfl, trivial⟩
 refine rgs [⟨true, [.b 0], ownP1 m, [mO p m]⟩] rfl ?_ ?_
 ·have hq := own_acR p m h.g
  have hk1 := okOs_M [.b 0] p m
  have hk2 := okOs_M (bs 1) p m
  simp only [holdsC, under, CG.pure]
  repeat' with_reducible refine And.intro ?_ ?_
  all_goals (try with_reducible intros)
  all_goals (first | exact trivial | assumption | omega | exact hq | exact hk1 | exact hk2 | (simp; done) | grind)
 refine sq (sq ?_)
 refine WP.ent (st' := mkSt [(0, .ptr (.b 0) 1 0 []), (3, .rp 120 (encIns x)), (5, .rp 52 (arrI 52 8 .i64 (ownG m).regs))] [(.b 0, mO p m)]) ?_ ?_
 ·refine em [(.s 5 0, 1)] ⟨sF, trivial⟩ ⟨⟨rfl, _, rfl, cvt⟩, ⟨rfl, _, rfl, cvt⟩, ⟨rfl, _, rfl, rpv⟩, trivial⟩ ⟨obs rfl (hg := q0 (conv_eq (ren_M _ _ _))), trivial⟩
 refine rg [] rfl ?_
 refine bk (sq (rg [] rfl ?_))
 refine cd rfl (fun h4 => ?_) (fun h4 => ?_)
 ·have e : x.op = 50 := by simpa using h4
  have hx := (hi (by omega)).load e
  simp only [regP, bndP] at hx
  refine sq (drs [] rfl ?_ ?_)
  ·simp [-List.getD_eq_getElem?_getD, holdsC, under]; omega
  refine WP.ent (st' := mkSt [(0, .ptr (.b 0) 1 0 []), (3, .rp 120 (encIns x))] [(.b 0, mO p (setVal m (varI m.s x.b)))]) ?_ ?_
  ·refine em [] trivial ⟨⟨rfl, _, rfl, cvt⟩, ⟨rfl, _, rfl, cvt⟩, trivial⟩ ⟨obs rfl (hg := q0 (conv_eq (putM_val _ _ _))), trivial⟩
  refine drs [⟨true, [.b 0], .tup [], [mO p (msetF (setVal m (varI m.s x.b)) x.a (varI m.s x.b))]⟩] rfl ?_ ?_
  ·have hq := mset_acR p (setVal m (varI m.s x.b)) x.a (varI m.s x.b) (okM_val h _) (by omega)
   have hk1 := okOs_M [.b 0] p (setVal m (varI m.s x.b))
   have hk2 := okOs_M (bs 1) p (msetF (setVal m (varI m.s x.b)) x.a (varI m.s x.b))
   simp only [holdsC, under, CG.pure]
   repeat' with_reducible refine And.intro ?_ ?_
   all_goals (try with_reducible intros)
   all_goals (first | exact trivial | assumption | omega | exact hq | exact hk1 | exact hk2 | (simp; done) | grind)
  refine sq (rg [] rfl ?_)
  refine WP.ret ?_
  change Fin ..
  have er : sharedF m x = (msetF (setVal m (varI m.s x.b)) x.a (varI m.s x.b), true) := by rw [sharedF, if_pos e]
  rw [er]
  exact fin_mk hT [] (ts := [(4, .bool true)]) (l := [.bool true]) trivial ⟨⟨rfl, _, rfl, cvt⟩, trivial⟩ ⟨obs rfl (hg := q0 (conv_eq (ren_M _ _ _))), trivial⟩ rfl rfl rfl
 ·have e50 : x.op ≠ 50 := by simpa using h4
  refine sq (rg [] rfl ?_)
  refine cd rfl (fun h7 => ?_) (fun h7 => ?_)
  ·have e : x.op = 51 := by simpa using h7
   have hx := (hi (by omega)).store (.inl e)
   simp only [regP, bndP] at hx
   refine sq (rgs [] rfl ?_ ?_)
   ·simp [-List.getD_eq_getElem?_getD, holdsC, under]; omega
   refine WP.ent (st' := mkSt [(0, .ptr (.b 0) 1 0 []), (3, .rp 120 (encIns x))] [(.b 0, mO p (setVal m (regI (ownG m) x.b)))]) ?_ ?_
   ·refine em [] trivial ⟨⟨rfl, _, rfl, cvt⟩, ⟨rfl, _, rfl, cvt⟩, trivial⟩ ⟨obs rfl (hg := q0 (conv_eq (putM_val _ _ _))), trivial⟩
   refine drs [] rfl ?_ ?_
   ·simp [-List.getD_eq_getElem?_getD, holdsC, under]; omega
   refine sq (rg [] rfl ?_)
   refine WP.ret ?_
   change Fin ..
   have er : sharedF m x = (setVar (setVal m (regI (ownG m) x.b)) x.a (regI (ownG m) x.b), true) := by simp only [sharedF, e]; rfl
   rw [er]
   exact fin_mk hT [] (ts := [(4, .bool true)]) (l := [.bool true]) trivial ⟨⟨rfl, _, rfl, cvt⟩, trivial⟩ ⟨obs rfl (hg := q0 (conv_eq (putM_var (okM_val h _) (by omega) _))), trivial⟩ rfl rfl rfl
  ·have e51 : x.op ≠ 51 := by simpa using h7
   refine sq (rg [] rfl ?_)
   refine cd rfl (fun h10 => ?_) (fun h10 => ?_)
   ·have e : x.op = 52 := by simpa using h10
    have hx := (hi (by omega)).bump e
    simp only [regP, bndP] at hx
    refine sq (rgs [] rfl ?_ ?_)
    ·simp [-List.getD_eq_getElem?_getD, holdsC, under]; omega
    refine sq ?_
    refine WP.ent (st' := mkSt [(0, .ptr (.b 0) 1 0 []), (3, .rp 120 (encIns x))] [(.b 0, mO p (setVal m (regI (ownG m) x.c)))]) ?_ ?_
    ·refine em [] trivial ⟨⟨rfl, _, rfl, cvt⟩, ⟨rfl, _, rfl, cvt⟩, trivial⟩ ⟨obs rfl (hg := q0 (conv_eq (putM_val _ _ _))), trivial⟩
    refine drs [⟨true, [.b 0], .tup [], [mO p (bumpM m x)]⟩] rfl ?_ ?_
    ·have hq := mset_acR p (setVal m (regI (ownG m) x.c)) x.a (varI m.s x.b) (okM_val h _) (by omega)
     have hk1 := okOs_M [.b 0] p (setVal m (regI (ownG m) x.c))
     have hk2 := okOs_M (bs 1) p (bumpM m x)
     simp only [holdsC, under, CG.pure]
     repeat' with_reducible refine And.intro ?_ ?_
     all_goals (try with_reducible intros)
     all_goals (first | exact trivial | assumption | omega | exact hq | exact hk1 | exact hk2 | (simp; done) | grind)
    refine WP.ent (st' := mkSt [(0, .ptr (.b 0) 1 0 []), (3, .rp 120 (encIns x))] [(.b 0, mO p (bumpM m x))]) ?_ ?_
    ·refine em [] trivial ⟨⟨rfl, _, rfl, cvt⟩, ⟨rfl, _, rfl, cvt⟩, trivial⟩ ⟨obs rfl (hg := q0 (conv_eq (ren_M _ _ _))), trivial⟩
    refine drs [] rfl ?_ ?_
    ·simp [-List.getD_eq_getElem?_getD, holdsC, under]; omega
    refine sq (rg [] rfl ?_)
    refine WP.ret ?_
    change Fin ..
    have er : sharedF m x = (setVar (bumpM m x) x.b (wI (varI (bumpM m x).s x.b + (bumpM m x).val)), true) := by simp only [sharedF, e]; rfl
    rw [er]
    exact fin_mk hT [] (ts := [(4, .bool true)]) (l := [.bool true]) trivial ⟨⟨rfl, _, rfl, cvt⟩, trivial⟩ ⟨obs rfl (hg := q0 (conv_eq (putM_var (okM_bump h x) (by omega) _))), trivial⟩ rfl rfl rfl
   ·have e52 : x.op ≠ 52 := by simpa using h10
    refine sq (rg [] rfl ?_)
    refine cd rfl (fun h14 => ?_) (fun h14 => ?_)
    ·have e : x.op = 53 := by simpa using h14
     have hx := (hi (by omega)).cas e
     simp only [regP, bndP] at hx
     refine sq (drs [CG.pure (.int (numI (varI m.s x.b == regI (ownG m) x.c)))] rfl ?_ ?_)
     ·have hq := number_ac (varI m.s x.b == regI (ownG m) x.c)
      simp only [holdsC, under, CG.pure]
      repeat' with_reducible refine And.intro ?_ ?_
      all_goals (try with_reducible intros)
      all_goals (first | exact trivial | assumption | omega | exact hq | (simp; done) | grind)
     refine sq (sq ?_)
     refine WP.ent (st' := mkSt [(0, .ptr (.b 0) 1 0 []), (3, .rp 120 (encIns x)), (5, .rp 52 (arrI 52 8 .i64 (ownG m).regs))] [(.b 0, mO p (setVal m (numI (varI m.s x.b == regI (ownG m) x.c))))]) ?_ ?_
     ·refine em [] trivial ⟨⟨rfl, _, rfl, cvt⟩, ⟨rfl, _, rfl, cvt⟩, ⟨rfl, _, rfl, cvt⟩, trivial⟩ ⟨obs rfl (hg := q0 (conv_eq (putM_val _ _ _))), trivial⟩
     refine rg [] rfl ?_
     refine cd rfl (fun h16 => ?_) (fun h16 => ?_)
     ·have hz : numI (varI m.s x.b == regI (ownG m) x.c) = 1 := eq_of_beq h16
      have ec : casM m x = setVar (setVal m (numI (varI m.s x.b == regI (ownG m) x.c))) x.b (regI (ownG m) x.n) := by rw [casM, if_pos hz]
      refine drs [] rfl ?_ ?_
      ·simp [-List.getD_eq_getElem?_getD, holdsC, under]; omega
      refine WP.ent (st' := mkSt [(0, .ptr (.b 0) 1 0 []), (3, .rp 120 (encIns x))] [(.b 0, mO p (casM m x))]) ?_ ?_
      ·refine em [] trivial ⟨⟨rfl, _, rfl, cvt⟩, ⟨rfl, _, rfl, cvt⟩, trivial⟩ ⟨obs rfl (hg := q0 (conv_eq (by rw [ec]; exact putM_var (okM_val h _) (by omega) _))), trivial⟩
      refine drs [⟨true, [.b 0], .tup [], [mO p (msetF (casM m x) x.a (numI (varI m.s x.b == regI (ownG m) x.c)))]⟩] rfl ?_ ?_
      ·have ev : (casM m x).val = numI (varI m.s x.b == regI (ownG m) x.c) := by rw [ec]
       have hq := mset_acR p (casM m x) x.a (numI (varI m.s x.b == regI (ownG m) x.c)) (okM_cas h x) (by omega)
       have hk1 := okOs_M [.b 0] p (casM m x)
       have hk2 := okOs_M (bs 1) p (msetF (casM m x) x.a (numI (varI m.s x.b == regI (ownG m) x.c)))
       rw [← ev] at hq hk2 ⊢
       simp only [holdsC, under, CG.pure]
       repeat' with_reducible refine And.intro ?_ ?_
       all_goals (try with_reducible intros)
       all_goals (first | exact trivial | assumption | omega | exact hq | exact hk1 | exact hk2 | (simp; done) | grind)
      refine sq (rg [] rfl ?_)
      refine WP.ret ?_
      change Fin ..
      have er : sharedF m x = (msetF (casM m x) x.a (numI (varI m.s x.b == regI (ownG m) x.c)), true) := by simp only [sharedF, e]; rfl
      rw [er]
      exact fin_mk hT [] (ts := [(4, .bool true)]) (l := [.bool true]) trivial ⟨⟨rfl, _, rfl, cvt⟩, trivial⟩ ⟨obs rfl (hg := q0 (conv_eq (ren_M _ _ _))), trivial⟩ rfl rfl rfl
     ·have hz : ¬ numI (varI m.s x.b == regI (ownG m) x.c) = 1 := fun e => absurd ((beq_iff_eq.2 e).symm.trans h16) (by decide)
      have ec : casM m x = setVal m (numI (varI m.s x.b == regI (ownG m) x.c)) := by rw [casM, if_neg hz]
      refine sk ?_
      refine WP.ent (st' := mkSt [(0, .ptr (.b 0) 1 0 []), (3, .rp 120 (encIns x))] [(.b 0, mO p (casM m x))]) ?_ ?_
      ·refine em [] trivial ⟨⟨rfl, _, rfl, cvt⟩, ⟨rfl, _, rfl, cvt⟩, trivial⟩ ⟨obs rfl (hg := q0 (conv_eq (by rw [ec]))), trivial⟩
      refine drs [⟨true, [.b 0], .tup [], [mO p (msetF (casM m x) x.a (numI (varI m.s x.b == regI (ownG m) x.c)))]⟩] rfl ?_ ?_
      ·have ev : (casM m x).val = numI (varI m.s x.b == regI (ownG m) x.c) := by rw [ec]
       have hq := mset_acR p (casM m x) x.a (numI (varI m.s x.b == regI (ownG m) x.c)) (okM_cas h x) (by omega)
       have hk1 := okOs_M [.b 0] p (casM m x)
       have hk2 := okOs_M (bs 1) p (msetF (casM m x) x.a (numI (varI m.s x.b == regI (ownG m) x.c)))
       rw [← ev] at hq hk2 ⊢
       simp only [holdsC, under, CG.pure]
       repeat' with_reducible refine And.intro ?_ ?_
       all_goals (try with_reducible intros)
       all_goals (first | exact trivial | assumption | omega | exact hq | exact hk1 | exact hk2 | (simp; done) | grind)
      refine sq (rg [] rfl ?_)
      refine WP.ret ?_
      change Fin ..
      have er : sharedF m x = (msetF (casM m x) x.a (numI (varI m.s x.b == regI (ownG m) x.c)), true) := by simp only [sharedF, e]; rfl
      rw [er]
      exact fin_mk hT [] (ts := [(4, .bool true)]) (l := [.bool true]) trivial ⟨⟨rfl, _, rfl, cvt⟩, trivial⟩ ⟨obs rfl (hg := q0 (conv_eq (ren_M _ _ _))), trivial⟩ rfl rfl rfl
    ·have e53 : x.op ≠ 53 := by simpa using h14
     refine sq (rg [] rfl ?_)
     refine cd rfl (fun h19 => ?_) (fun h19 => ?_)
     ·have e : x.op = 54 := by simpa using h19
      have hx := (hi (by omega)).store (.inr e)
      simp only [regP, bndP] at hx
      refine rgs [] rfl ?_ ?_
      ·simp [-List.getD_eq_getElem?_getD, holdsC, under]; omega
      refine sq (rg [] rfl ?_)
      refine WP.ret ?_
      change Fin ..
      have er : sharedF m x = (setVal m (regI (ownG m) x.b), true) := by simp only [sharedF, e]; rfl
      rw [er]
      exact fin_mk hT [] (ts := [(4, .bool true)]) (l := [.bool true]) trivial ⟨⟨rfl, _, rfl, cvt⟩, trivial⟩ ⟨obs rfl (hg := q0 (conv_eq (putM_val _ _ _))), trivial⟩ rfl rfl rfl
     ·have e54 : x.op ≠ 54 := by simpa using h19
      refine sq (rg [] rfl ?_)
      refine cd rfl (fun h21 => ?_) (fun h21 => ?_)
      ·have e : x.op = 55 := by simpa using h21
       have hx := (hi (by omega)).lock (.inl e)
       refine drs [] rfl ?_ ?_
       ·simp [-List.getD_eq_getElem?_getD, holdsC, under]; omega
       refine sq (rg [] rfl ?_)
       refine WP.ret ?_
       change Fin ..
       have er : sharedF m x = (setLck m x.a (m.g + 1), true) := by simp only [sharedF, e]; rfl
       rw [er]
       exact fin_mk hT [] (ts := [(4, .bool true)]) (l := [.bool true]) trivial ⟨⟨rfl, _, rfl, cvt⟩, trivial⟩ ⟨obs rfl (hg := q0 (conv_eq ((congrArg (fun z => (encMc p m).put [1, 1, x.a.toNat] (.int z)) hw1).trans (putM_lck h (by omega) _)))), trivial⟩ rfl rfl rfl
      ·have e55 : x.op ≠ 55 := by simpa using h21
       refine sq (rg [] rfl ?_)
       refine cd rfl (fun h23 => ?_) (fun h23 => ?_)
       ·have e : x.op = 56 := by simpa using h23
        have hx := (hi (by omega)).lock (.inr e)
        refine sq (sq (drs [] rfl ?_ ?_))
        ·simp [-List.getD_eq_getElem?_getD, holdsC, under]; omega
        refine cd rfl (fun h24 => ?_) (fun h24 => ?_)
        ·have hz : lckI m.s x.a ≠ m.g + 1 := by
           have h9 : (lckI m.s x.a != IntKind.i64.wrap (m.g + 1)) = true := h24
           rw [hw1] at h9; exact bne_iff_ne.1 h9
         refine sq (rgs [⟨true, [.b 0], .tup [], [mO p (failF m 6)]⟩] rfl ?_ ?_)
         ·have hq := fail_acR p m 6 h
          have hk1 := okOs_M [.b 0] p m
          have hk2 := okOs_M (bs 1) p (failF m 6)
          simp only [holdsC, under, CG.pure]
          repeat' with_reducible refine And.intro ?_ ?_
          all_goals (try with_reducible intros)
          all_goals (first | exact trivial | assumption | omega | exact hq | exact hk1 | exact hk2 | (simp; done) | grind)
         refine sq (rg [] rfl ?_)
         refine WP.ret ?_
         change Fin ..
         have er : sharedF m x = (failF m 6, true) := by simp only [sharedF, e]; exact if_pos hz
         rw [er]
         exact fin_mk hT [] (ts := [(4, .bool true)]) (l := [.bool true]) trivial ⟨⟨rfl, _, rfl, cvt⟩, trivial⟩ ⟨obs rfl (hg := q0 (conv_eq (ren_M _ _ _))), trivial⟩ rfl rfl rfl
        ·have hz : ¬ lckI m.s x.a ≠ m.g + 1 := by
           have h9 : (lckI m.s x.a != IntKind.i64.wrap (m.g + 1)) = false := h24
           rw [hw1] at h9; simpa using h9
         refine sk (drs [] rfl ?_ ?_)
         ·simp [-List.getD_eq_getElem?_getD, holdsC, under]; omega
         refine sq (rg [] rfl ?_)
         refine WP.ret ?_
         change Fin ..
         have er : sharedF m x = (setLck m x.a 0, true) := by simp only [sharedF, e]; exact if_neg hz
         rw [er]
         exact fin_mk hT [] (ts := [(4, .bool true)]) (l := [.bool true]) trivial ⟨⟨rfl, _, rfl, cvt⟩, trivial⟩ ⟨obs rfl (hg := q0 (conv_eq (putM_lck h (by omega) _))), trivial⟩ rfl rfl rfl
       ·have e56 : x.op ≠ 56 := by simpa using h23
        refine sq (rg [] rfl ?_)
        refine cd rfl (fun h28 => ?_) (fun h28 => ?_)
        ·have e : x.op = 57 := by simpa using h28
         have hx := (hi (by omega)).try_ e
         simp only [regP, bndP] at hx
         refine sq (drs [CG.pure (.int (numI (lckI m.s x.b == 0)))] rfl ?_ ?_)
         ·have hq := number_ac (lckI m.s x.b == 0)
          simp only [holdsC, under, CG.pure]
          repeat' with_reducible refine And.intro ?_ ?_
          all_goals (try with_reducible intros)
          all_goals (first | exact trivial | assumption | omega | exact hq | (simp; done) | grind)
         refine sq (sq ?_)
         refine WP.ent (st' := mkSt [(0, .ptr (.b 0) 1 0 []), (3, .rp 120 (encIns x))] [(.b 0, mO p (setVal m (numI (lckI m.s x.b == 0))))]) ?_ ?_
         ·refine em [] trivial ⟨⟨rfl, _, rfl, cvt⟩, ⟨rfl, _, rfl, cvt⟩, trivial⟩ ⟨obs rfl (hg := q0 (conv_eq (putM_val _ _ _))), trivial⟩
         refine rg [] rfl ?_
         refine cd rfl (fun h30 => ?_) (fun h30 => ?_)
         ·have hz : numI (lckI m.s x.b == 0) = 1 := eq_of_beq h30
          have ec : tryM m x = setLck (setVal m (numI (lckI m.s x.b == 0))) x.b (m.g + 1) := by rw [tryM, if_pos hz]
          refine drs [] rfl ?_ ?_
          ·simp [-List.getD_eq_getElem?_getD, holdsC, under]; omega
          refine WP.ent (st' := mkSt [(0, .ptr (.b 0) 1 0 []), (3, .rp 120 (encIns x))] [(.b 0, mO p (tryM m x))]) ?_ ?_
          ·refine em [] trivial ⟨⟨rfl, _, rfl, cvt⟩, ⟨rfl, _, rfl, cvt⟩, trivial⟩ ⟨obs rfl (hg := q0 (conv_eq (by rw [ec]; exact (congrArg (fun z => (encMc p (setVal m (numI (lckI m.s x.b == 0)))).put [1, 1, x.b.toNat] (.int z)) hw1).trans (putM_lck (okM_val h _) (by omega) _)))), trivial⟩
          refine drs [⟨true, [.b 0], .tup [], [mO p (msetF (tryM m x) x.a (numI (lckI m.s x.b == 0)))]⟩] rfl ?_ ?_
          ·have ev : (tryM m x).val = numI (lckI m.s x.b == 0) := by rw [ec]
           have hq := mset_acR p (tryM m x) x.a (numI (lckI m.s x.b == 0)) (okM_try h x) (by omega)
           have hk1 := okOs_M [.b 0] p (tryM m x)
           have hk2 := okOs_M (bs 1) p (msetF (tryM m x) x.a (numI (lckI m.s x.b == 0)))
           rw [← ev] at hq hk2 ⊢
           simp only [holdsC, under, CG.pure]
           repeat' with_reducible refine And.intro ?_ ?_
           all_goals (try with_reducible intros)
           all_goals (first | exact trivial | assumption | omega | exact hq | exact hk1 | exact hk2 | (simp; done) | grind)
          refine sq (rg [] rfl ?_)
          refine WP.ret ?_
          change Fin ..
          have er : sharedF m x = (msetF (tryM m x) x.a (numI (lckI m.s x.b == 0)), true) := by simp only [sharedF, e]; rfl
          rw [er]
          exact fin_mk hT [] (ts := [(4, .bool true)]) (l := [.bool true]) trivial ⟨⟨rfl, _, rfl, cvt⟩, trivial⟩ ⟨obs rfl (hg := q0 (conv_eq (ren_M _ _ _))), trivial⟩ rfl rfl rfl
         ·have hz : ¬ numI (lckI m.s x.b == 0) = 1 := fun e => absurd ((beq_iff_eq.2 e).symm.trans h30) (by decide)
          have ec : tryM m x = setVal m (numI (lckI m.s x.b == 0)) := by rw [tryM, if_neg hz]
          refine sk ?_
          refine WP.ent (st' := mkSt [(0, .ptr (.b 0) 1 0 []), (3, .rp 120 (encIns x))] [(.b 0, mO p (tryM m x))]) ?_ ?_
          ·refine em [] trivial ⟨⟨rfl, _, rfl, cvt⟩, ⟨rfl, _, rfl, cvt⟩, trivial⟩ ⟨obs rfl (hg := q0 (conv_eq (by rw [ec]))), trivial⟩
          refine drs [⟨true, [.b 0], .tup [], [mO p (msetF (tryM m x) x.a (numI (lckI m.s x.b == 0)))]⟩] rfl ?_ ?_
          ·have ev : (tryM m x).val = numI (lckI m.s x.b == 0) := by rw [ec]
           have hq := mset_acR p (tryM m x) x.a (numI (lckI m.s x.b == 0)) (okM_try h x) (by omega)
           have hk1 := okOs_M [.b 0] p (tryM m x)
           have hk2 := okOs_M (bs 1) p (msetF (tryM m x) x.a (numI (lckI m.s x.b == 0)))
           rw [← ev] at hq hk2 ⊢
           simp only [holdsC, under, CG.pure]
           repeat' with_reducible refine And.intro ?_ ?_
           all_goals (try with_reducible intros)
           all_goals (first | exact trivial | assumption | omega | exact hq | exact hk1 | exact hk2 | (simp; done) | grind)
          refine sq (rg [] rfl ?_)
          refine WP.ret ?_
          change Fin ..
          have er : sharedF m x = (msetF (tryM m x) x.a (numI (lckI m.s x.b == 0)), true) := by simp only [sharedF, e]; rfl
          rw [er]
          exact fin_mk hT [] (ts := [(4, .bool true)]) (l := [.bool true]) trivial ⟨⟨rfl, _, rfl, cvt⟩, trivial⟩ ⟨obs rfl (hg := q0 (conv_eq (ren_M _ _ _))), trivial⟩ rfl rfl rfl
        ·have e57 : x.op ≠ 57 := by simpa using h28
         refine sq (rg [] rfl ?_)
         refine WP.ret ?_
         change Fin ..
         have er : sharedF m x = (m, false) := by rw [sharedF, if_neg e50, if_neg e51, if_neg e52, if_neg e53, if_neg e54, if_neg e55, if_neg e56, if_neg e57]
         rw [er]
         exact fin_mk hT [] (ts := [(4, .bool false)]) (l := [.bool false]) trivial ⟨⟨rfl, _, rfl, cvt⟩, trivial⟩ ⟨obs rfl, trivial⟩ rfl rfl rfl
end Go.Ab


/- A step that is being taken: spawn, choose. -/
set_option autoImplicit false
set_option maxRecDepth 20000
set_option maxHeartbeats 4000000
set_option linter.unusedSimpArgs false
set_option linter.unusedVariables false
namespace Go.Ab
open Go.Proofs
def parL (g : PGo) (c : Int) (k : Nat) : List Int := (List.range 8).map fun i => if i < k then regI g (c + i) else 0
theorem parL_len (g : PGo) (c : Int) (k : Nat) : (parL g c k).length = 8 := by simp [parL]
theorem parL_put {g : PGo} {c : Int} {k : Nat} (h : k < 8) : (parL g c k).set k (regI g (c + k)) = parL g c (k + 1) := by
  refine List.ext_getElem (by simp [parL]) fun i h1 h2 => ?_
  have hi : i < 8 := by simpa [parL] using h2
  rw [List.getElem_set]
  simp only [parL, List.getElem_map, List.getElem_range]
  split
  · subst_vars; rw [if_pos (by omega)]
  · by_cases e : i < k
    · rw [if_pos e, if_pos (by omega)]
    · rw [if_neg e, if_neg (by omega)]
def childG (g : PGo) (x : PIns) (k : Nat) : PGo := { status := 1, func := x.b, pc := 0, why := 0, regs := parL g x.c k }
abbrev parI (p : PProg) (x : PIns) : Int := (p.funcs.getD x.b.toNat fun0).params
def spawnM (p : PProg) (m : PM) (x : PIns) : PM := { m with s := { m.s with gos := m.s.gos.set m.s.count.toNat (childG (ownG m) x (parI p x).toNat), count := m.s.count + 1 }, val := m.s.count }
def spawnF (p : PProg) (m : PM) (x : PIns) : PM × Int := if m.s.count = 6 then (failF m 8, -1) else (msetF (spawnM p m x) x.a m.s.count, m.s.count)
theorem okM_spawnM {p : PProg} {m : PM} (h : OkM m) (x : PIns) : OkM (spawnM p m x) := ⟨⟨h.s.vars, h.s.owner, h.s.chans, by show (m.s.gos.set _ _).length = 6; rw [List.length_set]; exact h.s.gos, h.s.ch, fun g hg => by
  rcases List.mem_or_eq_of_mem_set hg with h1 | h1
  · exact h.s.go g h1
  · rw [h1]; exact parL_len _ _ _⟩, h.g⟩
theorem okM_spawn {p : PProg} {m : PM} (h : OkM m) (x : PIns) : OkM (spawnF p m x).1 := by
  unfold spawnF; split
  · exact okM_fail h 8
  · exact okM_set (okM_spawnM h x) _ _
theorem child0 (g : PGo) (x : PIns) : ((T 59).zero.put [0] (.int 1)).put [1] (.int x.b) = encGo (childG g x 0) := by
  rw [zeroGo, putGo_status, show (encGo { go0 with status := 1 }).put [1] (.int x.b) = encGo { go0 with status := 1, func := x.b } from stru_put (Nat.le_of_ble_eq_true rfl)]; rfl
theorem spawn_ac (p : PProg) (m : PM) (F : PFun) (x : PIns) (h : OkM m) (hp : ProgP p) (hF : FunP p F) (hi : InsP p F x) (e62 : x.op = 62) (hct : 0 ≤ m.s.count ∧ m.s.count ≤ 6) : AC Tryz.prog T tysN 232 [.ptr (.b 0) 1 0 [], encIns x] [mO p m] (.int (spawnF p m x).2) [mO p (spawnF p m x).1] := by
 refine AC_intro hT Tryz.func232 rfl rfl (Nat.le_of_ble_eq_true rfl) ?_
 have hr := hF.regs
 have hs := hi.spawn e62
 have hfl := hp.funcs
 simp only [regP, bndP] at hs
 have hgf : p.funcs.getD x.b.toNat fun0 ∈ p.funcs := by rw [List.getD_eq_getElem?_getD, List.getElem?_eq_getElem (show x.b.toNat < p.funcs.length by omega)]; exact List.getElem_mem _
 have hpr := (hp.fn _ hgf).pars
 have hpr8 := (hp.fn _ hgf).regs
 have hpc : (parI p x = 0 ∧ x.c = 0) ∨ 0 < parI p x ∧ 0 ≤ x.c ∧ x.c + parI p x ≤ F.regs := by
   have h1 := hs.2.2 _ rfl
   rcases h1 with h1 | h1
   · exact .inl h1
   · refine .inr ⟨h1.1, h1.2.1, ?_⟩
     have h2 := h1.2.2
     rw [wrap_id (by omega) (by omega)] at h2
     show x.c + (p.funcs.getD x.b.toNat fun0).params ≤ F.regs
     omega
 have hp8 : 0 ≤ parI p x ∧ parI p x ≤ 8 := by show 0 ≤ (p.funcs.getD x.b.toNat fun0).params ∧ (p.funcs.getD x.b.toNat fun0).params ≤ 8; omega
 have hg6 := h.s.gos
 have hgg := h.g
 refine sq (rg [] rfl ?_)
 refine sq (sq ?_)
 refine WP.ent (st' := mkSt [(0, .ptr (.b 0) 1 0 []), (3, .rp 120 (encIns x))] [(.b 0, mO p m)]) ?_ ?_
 ·refine em [(.s 3 0, 1)] ⟨sF, trivial⟩ ⟨⟨rfl, _, rfl, cvt⟩, ⟨rfl, _, rfl, rpv⟩, trivial⟩ ⟨obs rfl, trivial⟩
 refine rg [] rfl ?_
 refine cd rfl (fun h1 => ?_) (fun h1 => ?_)
 ·have hz : m.s.count = 6 := eq_of_beq h1
  refine sq (rgs [⟨true, [.b 0], .tup [], [mO p (failF m 8)]⟩] rfl ?_ ?_)
  ·have hq := fail_acR p m 8 h
   have hk1 := okOs_M [.b 0] p m
   have hk2 := okOs_M (bs 1) p (failF m 8)
   simp only [holdsC, under, CG.pure]
   repeat' with_reducible refine And.intro ?_ ?_
   all_goals (try with_reducible intros)
   all_goals (first | exact trivial | assumption | omega | exact hq | exact hk1 | exact hk2 | (simp; done) | grind)
  refine sq (rg [] rfl ?_)
  refine WP.ret ?_
  change Fin ..
  have er : spawnF p m x = (failF m 8, -1) := by rw [spawnF, if_pos hz]
  rw [er]
  exact fin_mk hT [] (ts := [(4, .int (-1))]) (l := [.int (-1)]) trivial ⟨⟨rfl, _, rfl, cvt⟩, trivial⟩ ⟨obs rfl (hg := q0 (conv_eq (ren_M _ _ _))), trivial⟩ rfl rfl rfl
 ·have hz : ¬ m.s.count = 6 := fun e => absurd ((beq_iff_eq.2 e).symm.trans h1) (by decide)
  refine sk (sq (rg [] rfl ?_))
  refine sq (sq (drs [] rfl ?_ ?_))
  ·simp [-List.getD_eq_getElem?_getD, holdsC, under]; omega
  refine bk ?_
  refine WP.loop (α := Nat) (fun k => mkSt [(0, .ptr (.b 0) 1 0 []), (3, .rp 120 (encIns x)), (5, .ptr (.s 5 0) 1 0 []), (28, .int (parI p x)), (29, .int k)] [(.b 0, mO p m), (.s 5 0, .cells ⟨59, 1, fun _ => encGo (childG (ownG m) x k), 0⟩)]) (fun k => (k : Int) ≤ parI p x) (fun k => 8 - k) ?_ ?_
  ·refine ⟨0, ?_, ?_⟩
   ·exact hp8.1
   ·refine em [] trivial ⟨⟨rfl, _, rfl, cvt⟩, ⟨rfl, _, rfl, cvt⟩, ⟨rfl, _, rfl, cvt⟩, ⟨rfl, _, rfl, cvt⟩, ⟨rfl, _, rfl, cvt⟩, trivial⟩ ⟨obs rfl, obs rfl (hg := q0 (conv_eq (child0 _ _))), trivial⟩
  ·rintro k hk
   refine sq (rg [] rfl ?_)
   refine sq ?_
   refine cd rfl (fun h6 => ?_) (fun h6 => ?_)
   ·have hkl : (k : Int) < parI p x := of_decide_eq_true h6
    have hw : IntKind.i64.wrap (x.c + (k : Int)) = x.c + k := wrap_id (by omega) (by omega)
    refine sk (sq (bk (sq (rg [] rfl ?_))))
    refine drs [⟨true, [.b 0], ownP1 m, [mO p m]⟩] rfl ?_ ?_
    ·have hq := own_acR p m h.g
     have hk1 := okOs_M [.b 0] p m
     have hk2 := okOs_M (bs 1) p m
     have ha : 0 ≤ IntKind.i64.wrap (x.c + (k : Int)) ∧ IntKind.i64.wrap (x.c + (k : Int)) < 8 := by rw [hw]; omega
     simp only [holdsC, under, CG.pure]
     repeat' with_reducible refine And.intro ?_ ?_
     all_goals (try with_reducible intros)
     all_goals (first | exact trivial | assumption | omega | exact hq | exact hk1 | exact hk2 | exact ha | exact ha.1 | exact ha.2 | (simp; done) | grind)
    refine rg [] rfl ?_
    refine ⟨k + 1, ?_, ?_, ?_⟩
    ·omega
    ·refine em [] trivial ⟨⟨rfl, _, rfl, cvt⟩, ⟨rfl, _, rfl, cvt⟩, ⟨rfl, _, rfl, cvt⟩, ⟨rfl, _, rfl, cvt⟩, ⟨rfl, _, rfl, cvt⟩, trivial⟩ ⟨obs rfl (hg := q0 (conv_eq (ren_M _ _ _))), obs rfl (hg := q0 (conv_eq ((congrArg (fun z : Int => (encGo (childG (ownG m) x k)).put [4, (k : Int).toNat] (.int (regI (ownG m) z))) hw).trans ((putGo_reg _ (by show (k : Int).toNat < (parL _ _ _).length; rw [parL_len]; omega)).trans (by simp only [Int.toNat_natCast, childG]; rw [parL_put (by omega)]))))), trivial⟩
    ·(try simp only []); first | omega | grind
   ·have hkl : ¬ (k : Int) < parI p x := of_decide_eq_false h6
    have ek : k = (parI p x).toNat := by omega
    subst ek
    refine xt (sq (rg [] rfl ?_))
    refine sq (drs [] rfl ?_ ?_)
    ·simp [-List.getD_eq_getElem?_getD, holdsC, under]; omega
    refine sq ?_
    refine WP.ent (st' := mkSt [(0, .ptr (.b 0) 1 0 []), (3, .rp 120 (encIns x)), (7, .int m.s.count)] [(.b 0, mO p { m with s := { m.s with gos := m.s.gos.set m.s.count.toNat (childG (ownG m) x (parI p x).toNat) } })]) ?_ ?_
    ·refine em [] trivial ⟨⟨rfl, _, rfl, cvt⟩, ⟨rfl, _, rfl, cvt⟩, ⟨rfl, _, rfl, cvt⟩, trivial⟩ ⟨obs rfl (hg := q0 (conv_eq (putM_s (putS_go (by omega) (putGo _ _))))), trivial⟩
    refine rg [] rfl ?_
    refine sq ?_
    have hw2 : IntKind.i64.wrap (m.s.count + 1) = m.s.count + 1 := wrap_id (by omega) (by omega)
    refine WP.ent (st' := mkSt [(0, .ptr (.b 0) 1 0 []), (3, .rp 120 (encIns x)), (7, .int m.s.count)] [(.b 0, mO p { m with s := { m.s with gos := m.s.gos.set m.s.count.toNat (childG (ownG m) x (parI p x).toNat), count := m.s.count + 1 } })]) ?_ ?_
    ·refine em [] trivial ⟨⟨rfl, _, rfl, cvt⟩, ⟨rfl, _, rfl, cvt⟩, ⟨rfl, _, rfl, cvt⟩, trivial⟩ ⟨obs rfl (hg := q0 (conv_eq ((congrArg (fun z => AV.put (encMc p { m with s := { m.s with gos := m.s.gos.set m.s.count.toNat (childG (ownG m) x (parI p x).toNat) } }) [1, 4] (.int z)) hw2).trans (putM_s (putS_count _ _))))), trivial⟩
    refine rg [] rfl ?_
    refine sq ?_
    refine WP.ent (st' := mkSt [(0, .ptr (.b 0) 1 0 []), (3, .rp 120 (encIns x)), (7, .int m.s.count)] [(.b 0, mO p (spawnM p m x))]) ?_ ?_
    ·refine em [] trivial ⟨⟨rfl, _, rfl, cvt⟩, ⟨rfl, _, rfl, cvt⟩, ⟨rfl, _, rfl, cvt⟩, trivial⟩ ⟨obs rfl (hg := q0 (conv_eq (putM_val _ _ _))), trivial⟩
    refine drs [⟨true, [.b 0], .tup [], [mO p (msetF (spawnM p m x) x.a m.s.count)]⟩] rfl ?_ ?_
    ·have hq := mset_acR p (spawnM p m x) x.a m.s.count (okM_spawnM h x) (by omega)
     have hk1 := okOs_M [.b 0] p (spawnM p m x)
     have hk2 := okOs_M (bs 1) p (msetF (spawnM p m x) x.a m.s.count)
     simp only [holdsC, under, CG.pure]
     repeat' with_reducible refine And.intro ?_ ?_
     all_goals (try with_reducible intros)
     all_goals (first | exact trivial | assumption | omega | exact hq | exact hk1 | exact hk2 | (simp; done) | grind)
    refine sq (rg [] rfl ?_)
    refine WP.ret ?_
    change Fin ..
    have er : spawnF p m x = (msetF (spawnM p m x) x.a m.s.count, m.s.count) := by rw [spawnF, if_neg hz]
    rw [er]
    exact fin_mk hT [] (ts := [(4, .int m.s.count)]) (l := [.int m.s.count]) trivial ⟨⟨rfl, _, rfl, cvt⟩, trivial⟩ ⟨obs rfl (hg := q0 (conv_eq (ren_M _ _ _))), trivial⟩ rfl rfl rfl
theorem msend_acR (p : PProg) (m : PM) (c x : Int) (h : OkM m) (hc : bndP c p.chans.length) (hp : ProgP p) (hs : sendsB p m.s c = true) (hlen : 0 ≤ (chI m.s c).len) : AC Tryz.prog T tysN 225 [.ptr (.b 0) 1 0 [], .int c, .int x] (List.map (renO (sig [.b 0] 0)) [mO p m]) (.tup []) [mO p (sendF p m c x)] := by rw [renO_M]; exact msend_ac p m c x h hc hp hs hlen
theorem mrecv_acR (p : PProg) (m : PM) (c : Int) (h : OkM m) (hc : 0 ≤ c ∧ c < 4) (hlen : (chI m.s c).len ≤ 4) : AC Tryz.prog T tysN 226 [.ptr (.b 0) 1 0 [], .int c] (List.map (renO (sig [.b 0] 0)) [mO p m]) (.bool (recvM m c).2) [mO p (recvM m c).1] := by rw [renO_M]; exact mrecv_ac p m c h hc hlen
def chooseF (p : PProg) (m : PM) (q : PSel) (alt : Int) : PM × Int :=
  if alt = q.cases.length then (m, q.els) else
  (if (caseAt q alt.toNat).send = true then sendF p m (caseAt q alt.toNat).chan (regI (ownG m) (caseAt q alt.toNat).reg) else msetF (recvM m (caseAt q alt.toNat).chan).1 (caseAt q alt.toNat).reg (recvM m (caseAt q alt.toNat).chan).1.val, (caseAt q alt.toNat).to)
theorem okM_choose {p : PProg} {m : PM} (h : OkM m) (q : PSel) (alt : Int) : OkM (chooseF p m q alt).1 := by
  unfold chooseF; split
  · exact h
  · show OkM (if _ then _ else _)
    split
    · exact okM_send h _ _
    · exact okM_set (okM_recv h _) _ _
def lensP (s : PSt) : Prop := ∀ c : Int, 0 ≤ c ∧ c < 4 → 0 ≤ (chI s c).len ∧ (chI s c).len ≤ 4
theorem choose_ac (p : PProg) (m : PM) (F : PFun) (q : PSel) (alt : Int) (h : OkM m) (hp : ProgP p) (hF : FunP p F) (hq : SelP p F q) (ha : 0 ≤ alt ∧ alt ≤ q.cases.length) (hl : lensP m.s) (hs : alt < q.cases.length → (caseAt q alt.toNat).send = true → sendsB p m.s (caseAt q alt.toNat).chan = true) : AC Tryz.prog T tysN 231 [.ptr (.b 0) 1 0 [], encSel q, .int alt] [mO p m] (.int (chooseF p m q alt).2) [mO p (chooseF p m q alt).1] := by
 refine AC_intro hT Tryz.func231 rfl rfl (Nat.le_of_ble_eq_true rfl) ?_
 have hc4 := hp.chans
 have hr := hF.regs
 refine sq (rg [] rfl ?_)
 refine sq (sq ?_)
 refine WP.ent (st' := mkSt [(0, .ptr (.b 0) 1 0 []), (2, .int alt), (4, .rp 103 (encSel q))] [(.b 0, mO p m)]) ?_ ?_
 ·refine em [(.s 4 0, 1)] ⟨sF, trivial⟩ ⟨⟨rfl, _, rfl, cvt⟩, ⟨rfl, _, rfl, cvt⟩, ⟨rfl, _, rfl, rpv⟩, trivial⟩ ⟨obs rfl, trivial⟩
 refine rg [] rfl ?_
 refine cd rfl (fun h1 => ?_) (fun h1 => ?_)
 ·have hz : alt = q.cases.length := eq_of_beq h1
  refine sq (rg [] rfl ?_)
  refine WP.ret ?_
  change Fin ..
  have er : chooseF p m q alt = (m, q.els) := by rw [chooseF, if_pos hz]
  rw [er]
  exact fin_mk hT [] (ts := [(6, .int q.els)]) (l := [.int q.els]) trivial ⟨⟨rfl, _, rfl, cvt⟩, trivial⟩ ⟨obs rfl, trivial⟩ rfl rfl rfl
 ·have hz : ¬ alt = q.cases.length := fun e => absurd ((beq_iff_eq.2 e).symm.trans h1) (by decide)
  have hal : alt.toNat < q.cases.length := by omega
  have hcp := hq.case (caseAt q alt.toNat) (by unfold caseAt; rw [List.getD_eq_getElem?_getD, List.getElem?_eq_getElem hal]; exact List.getElem_mem _)
  have hch := hcp.chan
  have hch4 : 0 ≤ (caseAt q alt.toNat).chan ∧ (caseAt q alt.toNat).chan < 4 := by unfold bndP at hch; omega
  refine sk (sq (rgs [] rfl ?_ ?_))
  ·simp [-List.getD_eq_getElem?_getD, holdsC, under]; omega
  refine sq (sq ?_)
  refine WP.ent (st' := mkSt [(0, .ptr (.b 0) 1 0 []), (7, .rp 215 (encCase (caseAt q alt.toNat)))] [(.b 0, mO p m)]) ?_ ?_
  ·refine em [(.s 7 0, 1)] ⟨sF, trivial⟩ ⟨⟨rfl, _, rfl, cvt⟩, ⟨rfl, _, rfl, rpv⟩, trivial⟩ ⟨obs rfl, trivial⟩
  refine rg [] rfl ?_
  refine cd rfl (fun h4 => ?_) (fun h4 => ?_)
  ·have hsd : (caseAt q alt.toNat).send = true := h4
   have hrg := hcp.reg (.inl hsd)
   unfold regP at hrg
   refine drs [⟨true, [.b 0], ownP1 m, [mO p m]⟩, ⟨true, [.b 0], .tup [], [mO p (sendF p m (caseAt q alt.toNat).chan (regI (ownG m) (caseAt q alt.toNat).reg))]⟩] rfl ?_ ?_
   ·have hq1 := own_acR p m h.g
    have hk1 := okOs_M [.b 0] p m
    have hk2 := okOs_M (bs 1) p m
    have hq2 := msend_acR p m (caseAt q alt.toNat).chan (regI (ownG m) (caseAt q alt.toNat).reg) h hch hp (hs (by omega) hsd) (hl _ hch4).1
    have hk3 := okOs_M (bs 1) p (sendF p m (caseAt q alt.toNat).chan (regI (ownG m) (caseAt q alt.toNat).reg))
    have hx : ∀ σ : Id → Id, Ob.cells ⟨263, 1, fun _ => ren σ (encMc p m), 0⟩ = mO p m := fun σ => by rw [ren_M]
    simp only [renO, hx]
    simp only [holdsC, under, CG.pure]
    repeat' with_reducible refine And.intro ?_ ?_
    all_goals (try with_reducible intros)
    all_goals (first | exact trivial | assumption | omega | exact hq1 | exact hk1 | exact hk2 | exact hq2 | exact hk3 | (simp; done) | grind)
   refine sq (rg [] rfl ?_)
   refine WP.ret ?_
   change Fin ..
   have er : chooseF p m q alt = (sendF p m (caseAt q alt.toNat).chan (regI (ownG m) (caseAt q alt.toNat).reg), (caseAt q alt.toNat).to) := by rw [chooseF, if_neg hz, if_pos hsd]
   rw [er]
   exact fin_mk hT [] (ts := [(6, .int (caseAt q alt.toNat).to)]) (l := [.int (caseAt q alt.toNat).to]) trivial ⟨⟨rfl, _, rfl, cvt⟩, trivial⟩ ⟨obs rfl (hg := q0 (conv_eq (ren_M _ _ _))), trivial⟩ rfl rfl rfl
  ·have hsd : ¬ (caseAt q alt.toNat).send = true := fun e => absurd (h4.symm.trans e) (by decide)
   have hrg : (caseAt q alt.toNat).reg < 8 := by
     by_cases e : (caseAt q alt.toNat).reg = -1
     · omega
     · have := hcp.reg (.inr e); unfold regP at this; omega
   refine sq (rgs [⟨true, [.b 0], .bool (recvM m (caseAt q alt.toNat).chan).2, [mO p (recvM m (caseAt q alt.toNat).chan).1]⟩] rfl ?_ ?_)
   ·have hq1 := mrecv_acR p m (caseAt q alt.toNat).chan h hch4 (hl _ hch4).2
    have hk1 := okOs_M [.b 0] p m
    have hk2 := okOs_M (bs 1) p (recvM m (caseAt q alt.toNat).chan).1
    simp only [holdsC, under, CG.pure]
    repeat' with_reducible refine And.intro ?_ ?_
    all_goals (try with_reducible intros)
    all_goals (first | exact trivial | assumption | omega | exact hq1 | exact hk1 | exact hk2 | (simp; done) | grind)
   refine WP.ent (st' := mkSt [(0, .ptr (.b 0) 1 0 []), (7, .rp 215 (encCase (caseAt q alt.toNat)))] [(.b 0, mO p (recvM m (caseAt q alt.toNat).chan).1)]) ?_ ?_
   ·refine em [] trivial ⟨⟨rfl, _, rfl, cvt⟩, ⟨rfl, _, rfl, cvt⟩, trivial⟩ ⟨obs rfl (hg := q0 (conv_eq (ren_M _ _ _))), trivial⟩
   refine drs [⟨true, [.b 0], .tup [], [mO p (msetF (recvM m (caseAt q alt.toNat).chan).1 (caseAt q alt.toNat).reg (recvM m (caseAt q alt.toNat).chan).1.val)]⟩] rfl ?_ ?_
   ·have hq1 := mset_acR p (recvM m (caseAt q alt.toNat).chan).1 (caseAt q alt.toNat).reg (recvM m (caseAt q alt.toNat).chan).1.val (okM_recv h _) hrg
    have hk1 := okOs_M [.b 0] p (recvM m (caseAt q alt.toNat).chan).1
    have hk2 := okOs_M (bs 1) p (msetF (recvM m (caseAt q alt.toNat).chan).1 (caseAt q alt.toNat).reg (recvM m (caseAt q alt.toNat).chan).1.val)
    simp only [holdsC, under, CG.pure]
    repeat' with_reducible refine And.intro ?_ ?_
    all_goals (try with_reducible intros)
    all_goals (first | exact trivial | assumption | omega | exact hq1 | exact hk1 | exact hk2 | (simp; done) | grind)
   refine sq (rg [] rfl ?_)
   refine WP.ret ?_
   change Fin ..
   have er : chooseF p m q alt = (msetF (recvM m (caseAt q alt.toNat).chan).1 (caseAt q alt.toNat).reg (recvM m (caseAt q alt.toNat).chan).1.val, (caseAt q alt.toNat).to) := by rw [chooseF, if_neg hz, if_neg hsd]
   rw [er]
   exact fin_mk hT [] (ts := [(6, .int (caseAt q alt.toNat).to)]) (l := [.int (caseAt q alt.toNat).to]) trivial ⟨⟨rfl, _, rfl, cvt⟩, trivial⟩ ⟨obs rfl (hg := q0 (conv_eq (ren_M _ _ _))), trivial⟩ rfl rfl rfl
end Go.Ab


/- A step that is being taken: act. -/
set_option autoImplicit false
set_option maxRecDepth 20000
set_option maxHeartbeats 4000000
set_option linter.unusedSimpArgs false
set_option linter.unusedVariables false
namespace Go.Ab
open Go.Proofs
theorem shared_no {m : PM} {x : PIns} (h : (sharedF m x).2 = false) : (sharedF m x).1 = m ∧ (x.op ≠ 50 ∧ x.op ≠ 51 ∧ x.op ≠ 52 ∧ x.op ≠ 53 ∧ x.op ≠ 54 ∧ x.op ≠ 55 ∧ x.op ≠ 56 ∧ x.op ≠ 57) := by
  unfold sharedF at h ⊢
  by_cases h0 : x.op = 50
  · rw [if_pos h0] at h; cases h
  rw [if_neg h0] at h ⊢
  by_cases h1 : x.op = 51
  · rw [if_pos h1] at h; cases h
  rw [if_neg h1] at h ⊢
  by_cases h2 : x.op = 52
  · rw [if_pos h2] at h; cases h
  rw [if_neg h2] at h ⊢
  by_cases h3 : x.op = 53
  · rw [if_pos h3] at h; cases h
  rw [if_neg h3] at h ⊢
  by_cases h4 : x.op = 54
  · rw [if_pos h4] at h; cases h
  rw [if_neg h4] at h ⊢
  by_cases h5 : x.op = 55
  · rw [if_pos h5] at h; cases h
  rw [if_neg h5] at h ⊢
  by_cases h6 : x.op = 56
  · rw [if_pos h6] at h; split at h <;> cases h
  rw [if_neg h6] at h ⊢
  by_cases h7 : x.op = 57
  · rw [if_pos h7] at h; cases h
  rw [if_neg h7]
  exact ⟨rfl, h0, h1, h2, h3, h4, h5, h6, h7⟩
def actF (p : PProg) (m : PM) (x : PIns) (alt : Int) : PM × Int × Int :=
  if (sharedF m x).2 = true then ((sharedF m x).1, (ownG m).pc + 1, -1) else
  if x.op = 58 then (sendF p m x.a (regI (ownG m) x.b), (ownG m).pc + 1, -1) else
  if x.op = 59 then (msetF (msetF (recvM m x.b).1 x.a (recvM m x.b).1.val) x.c (numI (recvM m x.b).2), (ownG m).pc + 1, -1) else
  if x.op = 66 then (takenF m x.a, (ownG m).pc + 1, -1) else if x.op = 60 then (shutF m x.a, (ownG m).pc + 1, -1) else
  if x.op = 61 then ((chooseF p m (selAt (fnOf p (ownG m)) x.a.toNat) alt).1, (chooseF p m (selAt (fnOf p (ownG m)) x.a.toNat) alt).2, -1) else
  if x.op = 62 then ((spawnF p m x).1, (ownG m).pc + 1, (spawnF p m x).2) else
  if x.op = 63 then (if thereB m.s m.g (regI (ownG m) x.a) = true then setVal m (regI (ownG m) x.a) else failF (setVal m (regI (ownG m) x.a)) 7, (ownG m).pc + 1, -1) else
  if x.op = 65 then (setVal m (regI (ownG m) x.a), (ownG m).pc + 1, -1) else (m, (ownG m).pc + 1, -1)
theorem caseTo_mem {p : PProg} {s : PSt} {q : PSel} {x : Int} : ∀ {k : Nat}, x ∈ caseTo p s q k ↔ ∃ j : Nat, j < k ∧ x = j ∧ caseB p s (caseAt q j) = true
  | 0 => by simp [caseTo]
  | k + 1 => by
    rw [caseTo, giveL]
    constructor
    · intro h
      split at h
      · rename_i hb
        rcases List.mem_append.1 h with h | h
        · obtain ⟨j, h1, h2, h3⟩ := caseTo_mem.1 h
          exact ⟨j, by omega, h2, h3⟩
        · exact ⟨k, by omega, by simpa using h, hb⟩
      · obtain ⟨j, h1, h2, h3⟩ := caseTo_mem.1 h
        exact ⟨j, by omega, h2, h3⟩
    · rintro ⟨j, h1, h2, h3⟩
      by_cases e : j = k
      · subst e; rw [if_pos h3]; simp [h2]
      · have : x ∈ caseTo p s q k := (caseTo_mem (k := k)).2 ⟨j, by omega, h2, h3⟩
        split
        · exact List.mem_append_left _ this
        · exact this
theorem alt_ready {p : PProg} {s : PSt} {g alt : Int} (ha : alt ∈ altL p s g) (h : (atI p s g).op ≠ 61) : readyB p s g = true ∧ alt = 0 := by
  rw [altL, if_pos h] at ha
  split at ha
  · rename_i hr; exact ⟨hr, by simpa using ha⟩
  · cases ha
theorem alt_case {p : PProg} {s : PSt} {g alt : Int} (ha : alt ∈ altL p s g) (h : (atI p s g).op = 61) : (0 ≤ alt ∧ alt ≤ (selI p s g).cases.length) ∧ (alt < (selI p s g).cases.length → caseB p s (caseAt (selI p s g) alt.toNat) = true) := by
  rw [altL, if_neg (by simp [h]), giveL] at ha
  have key : alt ∈ caseTo p s (selI p s g) (selI p s g).cases.length → (0 ≤ alt ∧ alt ≤ (selI p s g).cases.length) ∧ (alt < (selI p s g).cases.length → caseB p s (caseAt (selI p s g) alt.toNat) = true) := fun hm => by
    obtain ⟨j, h1, h2, h3⟩ := caseTo_mem.1 hm
    exact ⟨by omega, fun _ => by rw [h2, Int.toNat_natCast]; exact h3⟩
  split at ha
  · rcases List.mem_append.1 ha with h1 | h1
    · exact key h1
    · have h2 : alt = (selI p s g).cases.length := by simpa using h1
      exact ⟨by omega, fun h3 => by omega⟩
  · exact key ha
theorem lens_of {p : PProg} {s : PSt} (hv : validP p s) : lensP s := fun c hc => by
  have hp := prog_ok hv.1
  have h1 := hv.2.2.2.2.2.1 c.toNat (by omega)
  by_cases h2 : c.toNat < p.chans.length
  · have h3 := (h1.1 h2).1.1
    have h4 := hp.caps (capI p c.toNat) (by simp [capI, h2])
    exact ⟨h3.1, Int.le_trans h3.2 h4.2⟩
  · have h3 := h1.2 (by omega)
    have e : chI s c = ch0 := h3
    rw [e]; decide
def mach0 (s : PSt) (g n : Int) : PM := ⟨s, g, n, 0, false⟩
theorem act_ac (p : PProg) (s : PSt) (g n alt : Int) (h : Stands p s g) (ha : alt ∈ altL p s g) : AC Tryz.prog T tysN 161 [.ptr (.b 0) 1 0 [], encIns (atI p s g), .int alt] [mO p (mach0 s g n)] (.tup [.int (actF p (mach0 s g n) (atI p s g) alt).2.1, .int (actF p (mach0 s g n) (atI p s g) alt).2.2]) [mO p (actF p (mach0 s g n) (atI p s g) alt).1] := by
 refine AC_intro hT Tryz.func161 rfl rfl (Nat.le_of_ble_eq_true rfl) ?_
 have hp := h.prog
 have hF := h.fn
 have hat := h.at
 have hr := hF.regs
 have hc4 := hp.chans
 have hi : (atI p s g).op ≠ 66 → InsP p (fnOf p (goI s g)) (atI p s g) := fun e => by rw [hat.ins e]; exact h.ins
 have hok : OkM (mach0 s g n) := ⟨h.ok, h.pos⟩
 have hlens := lens_of h.valid
 have hpc := h.fit.2.2.1
 have hcl := hF.code
 unfold bndP at hpc
 have hw : IntKind.i64.wrap ((goI s g).pc + 1) = (goI s g).pc + 1 := wrap_id (by omega) (by omega)
 obtain ⟨m, hm⟩ : ∃ m, mach0 s g n = m := ⟨_, rfl⟩
 have hms : m.s = s := by rw [← hm]; rfl
 have hmg : m.g = g := by rw [← hm]; rfl
 have hmo : ownG m = goI s g := by rw [← hm]; rfl
 obtain ⟨x, hx⟩ : ∃ x, atI p s g = x := ⟨_, rfl⟩
 rw [hm] at hok ⊢
 rw [hx] at hi ⊢
 rw [← hmo] at hw
 have h8 : (ownG m).regs.length = 8 := okGo_at hok.s _
 refine sq (rg [] rfl ?_)
 refine sq ?_
 refine WP.ent (st' := mkSt [(0, .ptr (.b 0) 1 0 []), (2, .int alt), (4, .rp 120 (encIns x))] [(.b 0, mO p m)]) ?_ ?_
 ·refine em [(.s 4 0, 1)] ⟨sF, trivial⟩ ⟨⟨rfl, _, rfl, cvt⟩, ⟨rfl, _, rfl, cvt⟩, ⟨rfl, _, rfl, rpv⟩, trivial⟩ ⟨obs rfl, trivial⟩
 refine rgs [⟨true, [.b 0], ownP1 m, [mO p m]⟩] rfl ?_ ?_
 ·have hq := own_acR p m hok.g
  have hk1 := okOs_M [.b 0] p m
  have hk2 := okOs_M (bs 1) p m
  simp only [holdsC, under, CG.pure]
  repeat' with_reducible refine And.intro ?_ ?_
  all_goals (try with_reducible intros)
  all_goals (first | exact trivial | assumption | omega | exact hq | exact hk1 | exact hk2 | (simp; done) | grind)
 refine sq (sq ?_)
 refine WP.ent (st' := mkSt [(0, .ptr (.b 0) 1 0 []), (2, .int alt), (4, .rp 120 (encIns x)), (6, .int ((ownG m).pc + 1)), (7, .int (-1))] [(.b 0, mO p m)]) ?_ ?_
 ·refine em [] trivial ⟨⟨rfl, _, rfl, cvt⟩, ⟨rfl, _, rfl, cvt⟩, ⟨rfl, _, rfl, cvt⟩, ⟨rfl, _, rfl, conv_eq (congrArg AV.int hw)⟩, ⟨rfl, _, rfl, cvt⟩, trivial⟩ ⟨obs rfl (hg := q0 (conv_eq (ren_M _ _ _))), trivial⟩
 refine rgs [⟨true, [.b 0], .bool (sharedF m x).2, [mO p (sharedF m x).1]⟩] rfl ?_ ?_
 ·have hq : AC Tryz.prog T tysN 224 [.ptr (.b 0) 1 0 [], encIns x] (List.map (renO (sig [.b 0] 0)) [mO p m]) (.bool (sharedF m x).2) [mO p (sharedF m x).1] := by rw [renO_M]; exact shared_ac p m _ x hok hp hF hi
  have hk1 := okOs_M [.b 0] p m
  have hk2 := okOs_M (bs 1) p (sharedF m x).1
  have hz : ren (sig [.b 0] 0) (encIns x) = encIns x := agg_ext (fun q => by match q with | 0 | 1 | 2 | 3 | 4 | q + 5 => rfl)
  rw [← hz] at hq
  simp only [holdsC, under, CG.pure]
  repeat' with_reducible refine And.intro ?_ ?_
  all_goals (try with_reducible intros)
  all_goals (first | exact trivial | assumption | omega | exact hq | exact hk1 | exact hk2 | (simp; done) | grind)
 refine cd rfl (fun h2 => ?_) (fun h2 => ?_)
 ·have hs2 : (sharedF m x).2 = true := h2
  refine sq (rg [] rfl ?_)
  refine WP.ret ?_
  change Fin ..
  have er : actF p m x alt = ((sharedF m x).1, (ownG m).pc + 1, -1) := by rw [actF, if_pos hs2]
  rw [er]
  exact fin_mk hT [] (ts := [(6, .int ((ownG m).pc + 1)), (7, .int (-1))]) (l := [.int ((ownG m).pc + 1), .int (-1)]) trivial ⟨⟨rfl, _, rfl, cvt⟩, ⟨rfl, _, rfl, cvt⟩, trivial⟩ ⟨obs rfl (hg := q0 (conv_eq (ren_M _ _ _))), trivial⟩ rfl rfl rfl
 ·have hs2 : (sharedF m x).2 = false := h2
  obtain ⟨hsm, hn0, hn1, hn2, hn3, hn4, hn5, hn6, hn7⟩ := shared_no hs2
  have hs3 : ¬ (sharedF m x).2 = true := by rw [hs2]; decide
  refine sk (sq ?_)
  refine WP.ent (st' := mkSt [(0, .ptr (.b 0) 1 0 []), (2, .int alt), (4, .rp 120 (encIns x)), (6, .int ((ownG m).pc + 1)), (7, .int (-1))] [(.b 0, mO p m)]) ?_ ?_
  ·refine em [] trivial ⟨⟨rfl, _, rfl, cvt⟩, ⟨rfl, _, rfl, cvt⟩, ⟨rfl, _, rfl, cvt⟩, ⟨rfl, _, rfl, cvt⟩, ⟨rfl, _, rfl, cvt⟩, trivial⟩ ⟨obs rfl (hg := q0 (conv_eq ((ren_M _ _ _).trans (by rw [hsm])))), trivial⟩
  refine rgs [⟨true, [.b 0], ownP1 m, [mO p m]⟩] rfl ?_ ?_
  ·have hq := own_acR p m hok.g
   have hk1 := okOs_M [.b 0] p m
   have hk2 := okOs_M (bs 1) p m
   simp only [holdsC, under, CG.pure]
   repeat' with_reducible refine And.intro ?_ ?_
   all_goals (try with_reducible intros)
   all_goals (first | exact trivial | assumption | omega | exact hq | exact hk1 | exact hk2 | (simp; done) | grind)
  refine sq (sq ?_)
  refine WP.ent (st' := mkSt [(0, .ptr (.b 0) 1 0 []), (2, .int alt), (4, .rp 120 (encIns x)), (6, .int ((ownG m).pc + 1)), (7, .int (-1)), (8, .rp 52 (arrI 52 8 .i64 (ownG m).regs))] [(.b 0, mO p m)]) ?_ ?_
  ·refine em [(.s 8 0, 1)] ⟨sF, trivial⟩ ⟨⟨rfl, _, rfl, cvt⟩, ⟨rfl, _, rfl, cvt⟩, ⟨rfl, _, rfl, cvt⟩, ⟨rfl, _, rfl, cvt⟩, ⟨rfl, _, rfl, cvt⟩, ⟨rfl, _, rfl, rpv⟩, trivial⟩ ⟨obs rfl (hg := q0 (conv_eq (ren_M _ _ _))), trivial⟩
  refine rg [] rfl ?_
  refine bk (sq (rg [] rfl ?_))
  refine cd rfl (fun h6 => ?_) (fun h6 => ?_)
  ·have e : x.op = 58 := by simpa using h6
   have hb := hat.send
   rw [hx] at hb
   have hb := hb (.inl e)
   have hsd : sendsB p m.s x.a = true := by
     have h1 := (alt_ready ha (by rw [hx]; omega)).1
     unfold readyB at h1
     rw [hx] at h1
     simp only [e] at h1
     rw [hms]; exact h1
   have hxr := ((hi (by omega)).send e).2
   have hba := hb
   unfold regP at hxr
   unfold bndP at hba
   refine drs [⟨true, [.b 0], .tup [], [mO p (sendF p m x.a (regI (ownG m) x.b))]⟩] rfl ?_ ?_
   ·have hq := msend_acR p m x.a (regI (ownG m) x.b) hok hb hp hsd (by rw [hms]; exact (hlens x.a (by omega)).1)
    have hk1 := okOs_M [.b 0] p m
    have hk2 := okOs_M (bs 1) p (sendF p m x.a (regI (ownG m) x.b))
    simp only [holdsC, under, CG.pure]
    repeat' with_reducible refine And.intro ?_ ?_
    all_goals (try with_reducible intros)
    all_goals (first | exact trivial | assumption | omega | exact hq | exact hk1 | exact hk2 | (simp; done) | grind)
   refine sq (rg [] rfl ?_)
   refine WP.ret ?_
   change Fin ..
   have er : actF p m x alt = (sendF p m x.a (regI (ownG m) x.b), (ownG m).pc + 1, -1) := by simp only [actF, hs2, e]; rfl
   rw [er]
   exact fin_mk hT [] (ts := [(6, .int ((ownG m).pc + 1)), (7, .int (-1))]) (l := [.int ((ownG m).pc + 1), .int (-1)]) trivial ⟨⟨rfl, _, rfl, cvt⟩, ⟨rfl, _, rfl, cvt⟩, trivial⟩ ⟨obs rfl (hg := q0 (conv_eq (ren_M _ _ _))), trivial⟩ rfl rfl rfl
  ·have e58 : x.op ≠ 58 := by simpa using h6
   refine sq (rg [] rfl ?_)
   refine cd rfl (fun h8 => ?_) (fun h8 => ?_)
   ·have e : x.op = 59 := by simpa using h8
    have hxr := (hi (by omega)).recv e
    simp only [regP, bndP] at hxr
    refine sq (rgs [⟨true, [.b 0], .bool (recvM m x.b).2, [mO p (recvM m x.b).1]⟩] rfl ?_ ?_)
    ·have hq := mrecv_acR p m x.b hok (by omega) (by rw [hms]; exact (hlens x.b (by omega)).2)
     have hk1 := okOs_M [.b 0] p m
     have hk2 := okOs_M (bs 1) p (recvM m x.b).1
     simp only [holdsC, under, CG.pure]
     repeat' with_reducible refine And.intro ?_ ?_
     all_goals (try with_reducible intros)
     all_goals (first | exact trivial | assumption | omega | exact hq | exact hk1 | exact hk2 | (simp; done) | grind)
    refine sq ?_
    refine WP.ent (st' := mkSt [(0, .ptr (.b 0) 1 0 []), (4, .rp 120 (encIns x)), (6, .int ((ownG m).pc + 1)), (7, .int (-1)), (9, .bool (recvM m x.b).2)] [(.b 0, mO p (recvM m x.b).1)]) ?_ ?_
    ·refine em [] trivial ⟨⟨rfl, _, rfl, cvt⟩, ⟨rfl, _, rfl, cvt⟩, ⟨rfl, _, rfl, cvt⟩, ⟨rfl, _, rfl, cvt⟩, ⟨rfl, _, rfl, cvt⟩, trivial⟩ ⟨obs rfl (hg := q0 (conv_eq (ren_M _ _ _))), trivial⟩
    refine drs [⟨true, [.b 0], .tup [], [mO p (msetF (recvM m x.b).1 x.a (recvM m x.b).1.val)]⟩] rfl ?_ ?_
    ·have hq := mset_acR p (recvM m x.b).1 x.a (recvM m x.b).1.val (okM_recv hok _) (by omega)
     have hk1 := okOs_M [.b 0] p (recvM m x.b).1
     have hk2 := okOs_M (bs 1) p (msetF (recvM m x.b).1 x.a (recvM m x.b).1.val)
     simp only [holdsC, under, CG.pure]
     repeat' with_reducible refine And.intro ?_ ?_
     all_goals (try with_reducible intros)
     all_goals (first | exact trivial | assumption | omega | exact hq | exact hk1 | exact hk2 | (simp; done) | grind)
    refine WP.ent (st' := mkSt [(0, .ptr (.b 0) 1 0 []), (4, .rp 120 (encIns x)), (6, .int ((ownG m).pc + 1)), (7, .int (-1)), (9, .bool (recvM m x.b).2)] [(.b 0, mO p (msetF (recvM m x.b).1 x.a (recvM m x.b).1.val))]) ?_ ?_
    ·refine em [] trivial ⟨⟨rfl, _, rfl, cvt⟩, ⟨rfl, _, rfl, cvt⟩, ⟨rfl, _, rfl, cvt⟩, ⟨rfl, _, rfl, cvt⟩, ⟨rfl, _, rfl, cvt⟩, trivial⟩ ⟨obs rfl (hg := q0 (conv_eq (ren_M _ _ _))), trivial⟩
    refine drs [CG.pure (.int (numI (recvM m x.b).2)), ⟨true, [.b 0], .tup [], [mO p (msetF (msetF (recvM m x.b).1 x.a (recvM m x.b).1.val) x.c (numI (recvM m x.b).2))]⟩] rfl ?_ ?_
    ·have hq0 := number_ac (recvM m x.b).2
     have hq := mset_acR p (msetF (recvM m x.b).1 x.a (recvM m x.b).1.val) x.c (numI (recvM m x.b).2) (okM_set (okM_recv hok _) _ _) (by omega)
     have hk1 := okOs_M [.b 0] p (msetF (recvM m x.b).1 x.a (recvM m x.b).1.val)
     have hk2 := okOs_M (bs 1) p (msetF (msetF (recvM m x.b).1 x.a (recvM m x.b).1.val) x.c (numI (recvM m x.b).2))
     simp only [holdsC, under, CG.pure]
     repeat' with_reducible refine And.intro ?_ ?_
     all_goals (try with_reducible intros)
     all_goals (first | exact trivial | assumption | omega | exact hq0 | exact hq | exact hk1 | exact hk2 | (simp; done) | grind)
    refine sq (rg [] rfl ?_)
    refine WP.ret ?_
    change Fin ..
    have er : actF p m x alt = (msetF (msetF (recvM m x.b).1 x.a (recvM m x.b).1.val) x.c (numI (recvM m x.b).2), (ownG m).pc + 1, -1) := by simp only [actF, hs2, e]; rfl
    rw [er]
    exact fin_mk hT [] (ts := [(6, .int ((ownG m).pc + 1)), (7, .int (-1))]) (l := [.int ((ownG m).pc + 1), .int (-1)]) trivial ⟨⟨rfl, _, rfl, cvt⟩, ⟨rfl, _, rfl, cvt⟩, trivial⟩ ⟨obs rfl (hg := q0 (conv_eq (ren_M _ _ _))), trivial⟩ rfl rfl rfl
   ·have e59 : x.op ≠ 59 := by simpa using h8
    refine sq (rg [] rfl ?_)
    refine cd rfl (fun h12 => ?_) (fun h12 => ?_)
    ·have e : x.op = 66 := by simpa using h12
     have hb := hat.send
     rw [hx] at hb
     have hba := hb (.inr (.inr e))
     unfold bndP at hba
     refine rgs [⟨true, [.b 0], .tup [], [mO p (takenF m x.a)]⟩] rfl ?_ ?_
     ·have hq : AC Tryz.prog T tysN 229 [.ptr (.b 0) 1 0 [], .int x.a] (List.map (renO (sig [.b 0] 0)) [mO p m]) (.tup []) [mO p (takenF m x.a)] := by rw [renO_M]; exact mtaken_ac p m x.a hok (by omega)
      have hk1 := okOs_M [.b 0] p m
      have hk2 := okOs_M (bs 1) p (takenF m x.a)
      simp only [holdsC, under, CG.pure]
      repeat' with_reducible refine And.intro ?_ ?_
      all_goals (try with_reducible intros)
      all_goals (first | exact trivial | assumption | omega | exact hq | exact hk1 | exact hk2 | (simp; done) | grind)
     refine sq (rg [] rfl ?_)
     refine WP.ret ?_
     change Fin ..
     have er : actF p m x alt = (takenF m x.a, (ownG m).pc + 1, -1) := by simp only [actF, hs2, e]; rfl
     rw [er]
     exact fin_mk hT [] (ts := [(6, .int ((ownG m).pc + 1)), (7, .int (-1))]) (l := [.int ((ownG m).pc + 1), .int (-1)]) trivial ⟨⟨rfl, _, rfl, cvt⟩, ⟨rfl, _, rfl, cvt⟩, trivial⟩ ⟨obs rfl (hg := q0 (conv_eq (ren_M _ _ _))), trivial⟩ rfl rfl rfl
    ·have e66 : x.op ≠ 66 := by simpa using h12
     refine sq (rg [] rfl ?_)
     refine cd rfl (fun h14 => ?_) (fun h14 => ?_)
     ·have e : x.op = 60 := by simpa using h14
      have hb := hat.send
      rw [hx] at hb
      have hba := hb (.inr (.inl e))
      unfold bndP at hba
      refine rgs [⟨true, [.b 0], .tup [], [mO p (shutF m x.a)]⟩] rfl ?_ ?_
      ·have hq : AC Tryz.prog T tysN 230 [.ptr (.b 0) 1 0 [], .int x.a] (List.map (renO (sig [.b 0] 0)) [mO p m]) (.tup []) [mO p (shutF m x.a)] := by rw [renO_M]; exact mshut_ac p m x.a hok (by omega)
       have hk1 := okOs_M [.b 0] p m
       have hk2 := okOs_M (bs 1) p (shutF m x.a)
       simp only [holdsC, under, CG.pure]
       repeat' with_reducible refine And.intro ?_ ?_
       all_goals (try with_reducible intros)
       all_goals (first | exact trivial | assumption | omega | exact hq | exact hk1 | exact hk2 | (simp; done) | grind)
      refine sq (rg [] rfl ?_)
      refine WP.ret ?_
      change Fin ..
      have er : actF p m x alt = (shutF m x.a, (ownG m).pc + 1, -1) := by simp only [actF, hs2, e]; rfl
      rw [er]
      exact fin_mk hT [] (ts := [(6, .int ((ownG m).pc + 1)), (7, .int (-1))]) (l := [.int ((ownG m).pc + 1), .int (-1)]) trivial ⟨⟨rfl, _, rfl, cvt⟩, ⟨rfl, _, rfl, cvt⟩, trivial⟩ ⟨obs rfl (hg := q0 (conv_eq (ren_M _ _ _))), trivial⟩ rfl rfl rfl
     ·have e60 : x.op ≠ 60 := by simpa using h14
      refine sq (rg [] rfl ?_)
      refine cd rfl (fun h16 => ?_) (fun h16 => ?_)
      ·have e : x.op = 61 := by simpa using h16
       have hse := h.sel (by rw [hx]; exact e)
       have hca := alt_case ha (by rw [hx]; exact e)
       simp only [selI, hx] at hse hca
       rw [← hmo] at hse hca
       have hb1 := hse.1
       have hb2 := h.fit.2.1
       rw [← hmo] at hb2
       unfold bndP at hb1 hb2
       refine drs [⟨true, [.b 0], ownP1 m, []⟩, ⟨true, [.b 0], .int (chooseF p m (selAt (fnOf p (ownG m)) x.a.toNat) alt).2, [mO p (chooseF p m (selAt (fnOf p (ownG m)) x.a.toNat) alt).1]⟩] rfl ?_ ?_
       ·have hq1 : AC Tryz.prog T tysN 162 [.ptr (.b 0) 1 0 []] (List.map (renO (sig [.b 0] 0)) [mO p m]) (ownP1 m) (List.map (renO (sig [.b 0] 0)) [mO p m]) := by rw [renO_M]; exact own_ac p m hok.g
        have hk0 : List.map (renO (tau [.b 0])) (List.map (renO (sig [.b 0] 0)) [mO p m]) = [mO p m] := by rw [renO_M, renO_M]
        have hk1 := okOs_M [.b 0] p m
        have hk2 : okOs (bs 1) (List.map (renO (sig [.b 0] 0)) [mO p m]) := by rw [renO_M]; exact okOs_M _ p m
        have hq2 : AC Tryz.prog T tysN 231 [.ptr (.b 0) 1 0 [], ren (sig [.b 0] 0) (encSel (selAt (fnOf p (ownG m)) x.a.toNat)), .int alt] (List.map (renO (sig [.b 0] 0)) [mO p m]) (.int (chooseF p m (selAt (fnOf p (ownG m)) x.a.toNat) alt).2) [mO p (chooseF p m (selAt (fnOf p (ownG m)) x.a.toNat) alt).1] := by
          have hz : ren (sig [.b 0] 0) (encSel (selAt (fnOf p (ownG m)) x.a.toNat)) = encSel (selAt (fnOf p (ownG m)) x.a.toNat) := agg_ext (fun q => by match q with | 0 | 1 | q + 2 => rfl)
          rw [renO_M, hz]
          refine choose_ac p m (fnOf p (ownG m)) _ alt hok hp (by rw [hmo]; exact hF) hse.2 hca.1 (by rw [hms]; exact hlens) (fun h1 h2 => ?_)
          have h3 := hca.2 h1
          rw [caseB, h2] at h3
          rw [hms]; simpa using h3
        have hk3 := okOs_M (bs 1) p (chooseF p m (selAt (fnOf p (ownG m)) x.a.toNat) alt).1
        simp only [fnOf, ownG, goI] at hb1 hb2
        simp only [holdsC, under, CG.pure]
        repeat' with_reducible refine And.intro ?_ ?_
        all_goals (try with_reducible intros)
        all_goals (first | exact trivial | assumption | omega | exact hq1 | exact hk0 | exact hk1 | exact hk2 | exact hq2 | exact hk3 | (simp; done) | grind)
       refine sq (rg [] rfl ?_)
       refine WP.ret ?_
       change Fin ..
       have er : actF p m x alt = ((chooseF p m (selAt (fnOf p (ownG m)) x.a.toNat) alt).1, (chooseF p m (selAt (fnOf p (ownG m)) x.a.toNat) alt).2, -1) := by simp only [actF, hs2, e]; rfl
       rw [er]
       exact fin_mk hT [] (ts := [(6, .int ((chooseF p m (selAt (fnOf p (ownG m)) x.a.toNat) alt).2)), (7, .int (-1))]) (l := [.int ((chooseF p m (selAt (fnOf p (ownG m)) x.a.toNat) alt).2), .int (-1)]) trivial ⟨⟨rfl, _, rfl, cvt⟩, ⟨rfl, _, rfl, cvt⟩, trivial⟩ ⟨obs rfl (hg := q0 (conv_eq (ren_M _ _ _))), trivial⟩ rfl rfl rfl
      ·have e61 : x.op ≠ 61 := by simpa using h16
       refine sq (rg [] rfl ?_)
       refine cd rfl (fun h18 => ?_) (fun h18 => ?_)
       ·have e : x.op = 62 := by simpa using h18
        refine rgs [⟨true, [.b 0], .int (spawnF p m x).2, [mO p (spawnF p m x).1]⟩] rfl ?_ ?_
        ·have hct := h.valid.2.1
         have hq : AC Tryz.prog T tysN 232 [.ptr (.b 0) 1 0 [], encIns x] (List.map (renO (sig [.b 0] 0)) [mO p m]) (.int (spawnF p m x).2) [mO p (spawnF p m x).1] := by rw [renO_M]; exact spawn_ac p m _ x hok hp hF (hi (by omega)) e (by rw [hms]; omega)
         have hk1 := okOs_M [.b 0] p m
         have hk2 := okOs_M (bs 1) p (spawnF p m x).1
         have hz : ren (sig [.b 0] 0) (encIns x) = encIns x := agg_ext (fun q => by match q with | 0 | 1 | 2 | 3 | 4 | q + 5 => rfl)
         rw [← hz] at hq
         simp only [holdsC, under, CG.pure]
         repeat' with_reducible refine And.intro ?_ ?_
         all_goals (try with_reducible intros)
         all_goals (first | exact trivial | assumption | omega | exact hq | exact hk1 | exact hk2 | (simp; done) | grind)
        refine sq (rg [] rfl ?_)
        refine WP.ret ?_
        change Fin ..
        have er : actF p m x alt = ((spawnF p m x).1, (ownG m).pc + 1, (spawnF p m x).2) := by simp only [actF, hs2, e]; rfl
        rw [er]
        exact fin_mk hT [] (ts := [(6, .int ((ownG m).pc + 1)), (7, .int ((spawnF p m x).2))]) (l := [.int ((ownG m).pc + 1), .int ((spawnF p m x).2)]) trivial ⟨⟨rfl, _, rfl, cvt⟩, ⟨rfl, _, rfl, cvt⟩, trivial⟩ ⟨obs rfl (hg := q0 (conv_eq (ren_M _ _ _))), trivial⟩ rfl rfl rfl
       ·have e62 : x.op ≠ 62 := by simpa using h18
        refine sq (rg [] rfl ?_)
        refine cd rfl (fun h20 => ?_) (fun h20 => ?_)
        ·have e : x.op = 63 := by simpa using h20
         have hxr := (hi (by omega)).const (by omega)
         unfold regP at hxr
         refine sq (rgs [] rfl ?_ ?_)
         ·simp [-List.getD_eq_getElem?_getD, holdsC, under]; omega
         refine sq ?_
         refine WP.ent (st' := mkSt [(0, .ptr (.b 0) 1 0 []), (6, .int ((ownG m).pc + 1)), (7, .int (-1))] [(.b 0, mO p (setVal m (regI (ownG m) x.a)))]) ?_ ?_
         ·refine em [] trivial ⟨⟨rfl, _, rfl, cvt⟩, ⟨rfl, _, rfl, cvt⟩, ⟨rfl, _, rfl, cvt⟩, trivial⟩ ⟨obs rfl (hg := q0 (conv_eq (putM_val _ _ _))), trivial⟩
         refine drs [CG.pure (.bool (thereB m.s m.g (regI (ownG m) x.a)))] rfl ?_ ?_
         ·have hq := there_ac m.s m.g (regI (ownG m) x.a)
          simp only [holdsC, under, CG.pure]
          repeat' with_reducible refine And.intro ?_ ?_
          all_goals (try with_reducible intros)
          all_goals (first | exact trivial | assumption | omega | exact hq | (simp; done) | grind)
         refine cd rfl (fun h22 => ?_) (fun h22 => ?_)
         ·have hth : ¬ thereB m.s m.g (regI (ownG m) x.a) = true := by simpa using h22
          refine rgs [⟨true, [.b 0], .tup [], [mO p (failF (setVal m (regI (ownG m) x.a)) 7)]⟩] rfl ?_ ?_
          ·have hq := fail_acR p (setVal m (regI (ownG m) x.a)) 7 (okM_val hok _)
           have hk1 := okOs_M [.b 0] p (setVal m (regI (ownG m) x.a))
           have hk2 := okOs_M (bs 1) p (failF (setVal m (regI (ownG m) x.a)) 7)
           simp only [holdsC, under, CG.pure]
           repeat' with_reducible refine And.intro ?_ ?_
           all_goals (try with_reducible intros)
           all_goals (first | exact trivial | assumption | omega | exact hq | exact hk1 | exact hk2 | (simp; done) | grind)
          refine sq (rg [] rfl ?_)
          refine WP.ret ?_
          change Fin ..
          have er : actF p m x alt = (failF (setVal m (regI (ownG m) x.a)) 7, (ownG m).pc + 1, -1) := by simp only [actF, hs2, e]; exact congrArg (fun z => (z, _, _)) (if_neg hth)
          rw [er]
          exact fin_mk hT [] (ts := [(6, .int ((ownG m).pc + 1)), (7, .int (-1))]) (l := [.int ((ownG m).pc + 1), .int (-1)]) trivial ⟨⟨rfl, _, rfl, cvt⟩, ⟨rfl, _, rfl, cvt⟩, trivial⟩ ⟨obs rfl (hg := q0 (conv_eq (ren_M _ _ _))), trivial⟩ rfl rfl rfl
         ·have hth : thereB m.s m.g (regI (ownG m) x.a) = true := by simpa using h22
          refine sk (sq (rg [] rfl ?_))
          refine WP.ret ?_
          change Fin ..
          have er : actF p m x alt = (setVal m (regI (ownG m) x.a), (ownG m).pc + 1, -1) := by simp only [actF, hs2, e]; exact congrArg (fun z => (z, _, _)) (if_pos hth)
          rw [er]
          exact fin_mk hT [] (ts := [(6, .int ((ownG m).pc + 1)), (7, .int (-1))]) (l := [.int ((ownG m).pc + 1), .int (-1)]) trivial ⟨⟨rfl, _, rfl, cvt⟩, ⟨rfl, _, rfl, cvt⟩, trivial⟩ ⟨obs rfl (hg := q0 (conv_eq (rfl))), trivial⟩ rfl rfl rfl
        ·have e63 : x.op ≠ 63 := by simpa using h20
         refine sq (rg [] rfl ?_)
         refine cd rfl (fun h24 => ?_) (fun h24 => ?_)
         ·have e : x.op = 65 := by simpa using h24
          have hxr := (hi (by omega)).const (by omega)
          unfold regP at hxr
          refine rgs [] rfl ?_ ?_
          ·simp [-List.getD_eq_getElem?_getD, holdsC, under]; omega
          refine sq (rg [] rfl ?_)
          refine WP.ret ?_
          change Fin ..
          have er : actF p m x alt = (setVal m (regI (ownG m) x.a), (ownG m).pc + 1, -1) := by simp only [actF, hs2, e]; rfl
          rw [er]
          exact fin_mk hT [] (ts := [(6, .int ((ownG m).pc + 1)), (7, .int (-1))]) (l := [.int ((ownG m).pc + 1), .int (-1)]) trivial ⟨⟨rfl, _, rfl, cvt⟩, ⟨rfl, _, rfl, cvt⟩, trivial⟩ ⟨obs rfl (hg := q0 (conv_eq (putM_val _ _ _))), trivial⟩ rfl rfl rfl
         ·have e65 : x.op ≠ 65 := by simpa using h24
          refine sk (sq (rg [] rfl ?_))
          refine WP.ret ?_
          change Fin ..
          have er : actF p m x alt = (m, (ownG m).pc + 1, -1) := by rw [actF, if_neg hs3, if_neg e58, if_neg e59, if_neg e66, if_neg e60, if_neg e61, if_neg e62, if_neg e63, if_neg e65]
          rw [er]
          exact fin_mk hT [] (ts := [(6, .int ((ownG m).pc + 1)), (7, .int (-1))]) (l := [.int ((ownG m).pc + 1), .int (-1)]) trivial ⟨⟨rfl, _, rfl, cvt⟩, ⟨rfl, _, rfl, cvt⟩, trivial⟩ ⟨obs rfl (hg := q0 (conv_eq (rfl))), trivial⟩ rfl rfl rfl
end Go.Ab


/- slices.Index, slices.Contains at ints. -/
set_option autoImplicit false
set_option maxRecDepth 20000
set_option maxHeartbeats 4000000
set_option linter.unusedSimpArgs false
set_option linter.unusedVariables false
namespace Go.Ab
open Go.Proofs
def idxI (L : List Int) (x : Int) : Int := if x ∈ L then (L.findIdx (· == x) : Nat) else -1
theorem idxI_at {L : List Int} {x : Int} {i : Nat} (hi : i < L.length) (h : L.getD i 0 = x) (hn : ∀ j, j < i → L.getD j 0 ≠ x) : (i : Int) = idxI L x := by
  have hm : x ∈ L := by rw [← h]; simp [List.getD_eq_getElem?_getD, hi]
  rw [idxI, if_pos hm]
  congr 1
  symm
  rw [List.findIdx_eq hi]
  refine ⟨by simpa [List.getD_eq_getElem?_getD, hi] using h, fun j hj => ?_⟩
  have hj' : j < L.length := by omega
  have := hn j hj
  simpa [List.getD_eq_getElem?_getD, hj'] using this
theorem idxI_no {L : List Int} {x : Int} (hn : ∀ j, j < L.length → L.getD j 0 ≠ x) : -1 = idxI L x := by
  rw [idxI, if_neg]
  intro hm
  obtain ⟨j, hj, e⟩ := List.getElem_of_mem hm
  exact hn j hj (by simpa [List.getD_eq_getElem?_getD, hj] using e)
theorem index_ac (f : Bool) (L : List Int) (x : Int) : AC Tryz.prog T tysN 218 [ints f L, .int x] [] (.int (idxI L x)) [] := by
 refine AC_intro hT Tryz.func218 rfl rfl (Nat.le_of_ble_eq_true rfl) ?_
 refine WP.rowlen 0 rfl (fun hla => ?_)
 refine sq (rg [] rfl ?_)
 refine sq (sq (rg [] rfl ?_))
 refine bk ?_
 refine WP.loop (α := Nat) (fun i => mkSt [(0, ints f L), (1, .int x), (7, .int L.length), (8, .int i)] []) (fun i => i ≤ L.length ∧ ∀ j, j < i → L.getD j 0 ≠ x) (fun i => L.length - i) ?_ ?_
 ·refine ⟨0, ?_, ?_⟩
  ·exact ⟨Nat.zero_le _, fun j hj => by omega⟩
  ·refine em [] trivial ⟨⟨rfl, _, rfl, cvt⟩, ⟨rfl, _, rfl, cvt⟩, ⟨rfl, _, rfl, cvt⟩, ⟨rfl, _, rfl, cvt⟩, trivial⟩ trivial
 ·rintro i ⟨hi, hn⟩
  refine sq (rg [] rfl ?_)
  refine sq ?_
  refine cd rfl (fun h2 => ?_) (fun h2 => ?_)
  ·have hil : i < L.length := by simpa using h2
   refine sk (sq (bk (sq (rg [] rfl ?_))))
   refine sq (rg [] rfl ?_)
   refine cd rfl (fun h4 => ?_) (fun h4 => ?_)
   ·have he : L.getD i 0 = x := by
      have e : (x == L.getD i 0) = true := h4
      simp at e; exact e.symm
    refine sq (rg [] rfl ?_)
    refine WP.ret ?_
    change Fin ..
    exact finI hT (by rfl) (idxI_at hil he hn)
   ·have he : L.getD i 0 ≠ x := by
      have e : (x == L.getD i 0) = false := h4
      simp at e; exact fun h => e h.symm
    refine sk (rg [] rfl ?_)
    refine ⟨i + 1, ?_, ?_, ?_⟩
    ·exact ⟨hil, all_succ (Q := fun j => L.getD j 0 ≠ x) hn he⟩
    ·refine em [] trivial ⟨⟨rfl, _, rfl, cvt⟩, ⟨rfl, _, rfl, cvt⟩, ⟨rfl, _, rfl, cvt⟩, ⟨rfl, _, rfl, cvt⟩, trivial⟩ trivial
    ·(try simp only []); first | omega | grind
  ·have hil : i = L.length := by simp at h2; omega
   subst hil
   refine xt (sq (rg [] rfl ?_))
   refine WP.ret ?_
   change Fin ..
   exact finI hT (by rfl) (idxI_no hn)
theorem contains_ac (f : Bool) (L : List Int) (x : Int) : AC Tryz.prog T tysN 159 [ints f L, .int x] [] (.bool (decide (x ∈ L))) [] := by
 refine AC_intro hT Tryz.func159 rfl rfl (Nat.le_of_ble_eq_true rfl) ?_
 refine sq (rg [] rfl ?_)
 refine sq (rgs [CG.pure (.int (idxI L x))] rfl ?_ ?_)
 ·have h1 := index_ac f L x
  simp only [holdsC, under, CG.pure]
  repeat' with_reducible refine And.intro ?_ ?_
  all_goals (try with_reducible intros)
  all_goals (first | exact trivial | assumption | omega | exact h1 | (simp; done) | grind)
 refine WP.ret ?_
 change Fin ..
 refine fin1 hT (by rfl) ?_
 apply decide_eq_decide.2
 rw [idxI]
 split
 · rename_i h; exact ⟨fun _ => h, fun _ => by omega⟩
 · rename_i h; exact ⟨fun h2 => by omega, fun h2 => absurd h2 h⟩
end Go.Ab


/- A step: Do. -/
set_option autoImplicit false
set_option maxRecDepth 20000
set_option maxHeartbeats 4000000
set_option linter.unusedSimpArgs false
set_option linter.unusedVariables false
namespace Go.Ab
open Go.Proofs
def pickP (p : PProg) (s : PSt) (x : PPick) : Prop := (0 ≤ x.go ∧ x.go < 6) ∧ liveB (goI s x.go) = true ∧ x.alt ∈ altL p s x.go
instance (p : PProg) (s : PSt) (x : PPick) : Decidable (pickP p s x) := by unfold pickP; infer_instance
def endF (p : PProg) (m : PM) (next made : Int) : PM :=
  if m.over = true then m else if 0 ≤ made then msettleF p (msettleF p (setGo m { ownG m with pc := next }) m.g) made else msettleF p (setGo m { ownG m with pc := next }) m.g
def actD (p : PProg) (s : PSt) (x : PPick) (n : Int) : PM × Int × Int := actF p (mach0 s x.go n) (atI p s x.go) x.alt
def evtOf (p : PProg) (s : PSt) (x : PPick) (val : Int) : Evt := ⟨x.go, (goI s x.go).func, (goI s x.go).pc, (atI p s x.go).op, x.alt, val, if (atI p s x.go).op = 65 then (atI p s x.go).n else 0, (touchL p s x.go).map BT.t, (touchL p s x.go).length⟩
def doF (p : PProg) (s : PSt) (x : PPick) (n : Int) : PSt × Evt × Int :=
  if askF p s ≠ 0 then (st0, evt0, askF p s) else if ¬ (0 ≤ n ∧ n ≤ 4096) then (st0, evt0, 1) else if ¬ pickP p s x then (st0, evt0, 5) else
  ((endF p (actD p s x n).1 (actD p s x n).2.1 (actD p s x n).2.2).s, evtOf p s x (actD p s x n).1.val, 0)
theorem zeroE : (T 137).zero = encE evt0 := rfl
theorem encTs_put {l : List Tch} {t : Tch} (h : l.length < 6) : (encTs l).put [l.length] (encTch t) = encTs (l ++ [t]) := agg_ext fun j => by
  show (bif Nat.beq j l.length then _ else _) = _
  cases hz : Nat.beq j l.length with
  | true =>
    have := Nat.eq_of_beq_eq_true hz
    subst this
    simp [List.getD_eq_getElem?_getD]
    cases t; rfl
  | false =>
    have hne : j ≠ l.length := fun e => by subst e; simp at hz
    simp only [cond_false]
    show encTch (l.getD j tch0) = encTch ((l ++ [t]).getD j tch0)
    rcases Nat.lt_or_ge j l.length with h1 | h1
    · simp only [List.getD_eq_getElem?_getD, List.getElem?_append_left h1]
    · simp only [List.getD_eq_getElem?_getD, List.getElem?_eq_none (show l.length ≤ j by omega), List.getElem?_eq_none (show (l ++ [t]).length ≤ j by simp; omega)]
theorem putE_ts (e : Evt) {t : Tch} (h : e.ts.length < 6) : (encE e).put [7, e.ts.length] (encTch t) = encE { e with ts := e.ts ++ [t] } := (stru_put (Nat.le_of_ble_eq_true rfl)).trans (congrArg (fun z => stru 137 [.int e.go, .int e.a, .int e.b, .int e.op, .int e.c, .int e.val, .int e.tag, z, .int e.n]) (encTs_put h))
theorem putE_n (e : Evt) (x : Int) : (encE e).put [8] (.int x) = encE { e with n := x } := stru_put (Nat.le_of_ble_eq_true rfl)
theorem putE_val (e : Evt) (x : Int) : (encE e).put [5] (.int x) = encE { e with val := x } := stru_put (Nat.le_of_ble_eq_true rfl)
theorem putE_tag (e : Evt) (x : Int) : (encE e).put [6] (.int x) = encE { e with tag := x } := stru_put (Nat.le_of_ble_eq_true rfl)
theorem encE_of (a b c d e : Int) : (((((encE evt0).put [0] (.int a)).put [1] (.int b)).put [2] (.int c)).put [3] (.int d)).put [4] (.int e) = encE ⟨a, b, c, d, e, 0, 0, [], 0⟩ := by
  rw [show (encE evt0).put [0] (.int a) = encE { evt0 with go := a } from stru_put (Nat.le_of_ble_eq_true rfl), show (encE { evt0 with go := a }).put [1] (.int b) = encE { evt0 with go := a, a := b } from stru_put (Nat.le_of_ble_eq_true rfl),
    show (encE { evt0 with go := a, a := b }).put [2] (.int c) = encE { evt0 with go := a, a := b, b := c } from stru_put (Nat.le_of_ble_eq_true rfl), show (encE { evt0 with go := a, a := b, b := c }).put [3] (.int d) = encE { evt0 with go := a, a := b, b := c, op := d } from stru_put (Nat.le_of_ble_eq_true rfl),
    show (encE { evt0 with go := a, a := b, b := c, op := d }).put [4] (.int e) = encE { evt0 with go := a, a := b, b := c, op := d, c := e } from stru_put (Nat.le_of_ble_eq_true rfl)]; rfl
theorem touchL_len {p : PProg} {s : PSt} {g : Int} (h : Stands p s g) : (touchL p s g).length ≤ 5 := by
  have h1 := dd_len bt0 (sortBT (rawT p s g)) (sortBT (rawT p s g)).length
  have h2 : (sortBT (rawT p s g)).length = (rawT p s g).length := sortBy_len swoBT _
  have h3 := rawT_len h
  rw [touchL]; omega
def evtTo (p : PProg) (s : PSt) (x : PPick) (k : Nat) : Evt := ⟨x.go, (goI s x.go).func, (goI s x.go).pc, (atI p s x.go).op, x.alt, 0, 0, ((touchL p s x.go).take k).map BT.t, k⟩
theorem okM_mach {s : PSt} (h : OkS s) {g n : Int} (hg : 0 ≤ g ∧ g < 6) : OkM (mach0 s g n) := ⟨h, hg⟩
theorem okM_act {p : PProg} {m : PM} (h : OkM m) (x : PIns) (alt : Int) : OkM (actF p m x alt).1 := by
  unfold actF
  repeat' split
  · exact okM_shared h x
  · exact okM_send h _ _
  · exact okM_set (okM_set (okM_recv h _) _ _) _ _
  · exact okM_taken h _
  · exact okM_shut h _
  · exact okM_choose h _ _
  · exact okM_spawn h x
  · exact okM_val h _
  · exact okM_fail (okM_val h _) _
  · exact okM_val h _
  · exact h
theorem settle_ok {p : PProg} {s : PSt} (h : OkS s) (g n : Int) : OkS (settleF p s g n).1 := by
  unfold settleF
  split
  · exact ok_st0
  rename_i hr
  have hr : rightB p = true := by simpa using hr
  split
  · exact ok_st0
  rename_i hv
  have hv : validP p s := by simpa using hv
  split
  · exact ok_st0
  rename_i hg
  split
  · exact ok_st0
  rename_i hc
  split
  · have hfit := (hv.2.2.2.2.1 g.toNat (by omega)).1 (by omega)
    have hF : FunP p (fnOf p (goI s g)) := (prog_ok hr).fn _ (by
      rw [fnOf, List.getD_eq_getElem?_getD, List.getElem?_eq_getElem (show (goI s g).func.toNat < p.funcs.length by have h9 : 0 ≤ (goI s g).func ∧ (goI s g).func < p.funcs.length := hfit.2.1; omega)]; exact List.getElem_mem _)
    exact h.setGo (setF_ok hF (g := { goI s g with status := 1 }) ⟨okGo_at h _, hfit.2.2.1⟩).1.1
  · exact h
theorem encMc_of (p : PProg) (s : PSt) (g n : Int) : ((((T 263).zero.put [0] (encProg p)).put [1] (encS s)).put [2] (.int g)).put [3] (.int n) = encMc p (mach0 s g n) := agg_ext fun q => by match q with | 0 | 1 | 2 | 3 | 4 | 5 | q + 6 => rfl
theorem do_ac (p : PProg) (s : PSt) (x : PPick) (n : Int) (hs : OkS s) : AC Tryz.prog T tysN 113 [encProg p, encS s, encPick x, .int n] [] (.tup [encS (doF p s x n).1, encE (doF p s x n).2.1, .int (doF p s x n).2.2]) [] := by
 refine AC_intro hT Tryz.func113 rfl rfl (Nat.le_of_ble_eq_true rfl) ?_
 refine sq (rg [] rfl ?_)
 refine sq (sq ?_)
 refine WP.ent (st' := mkSt [(4, .rp 26 (encProg p)), (5, .rp 62 (encS s)), (6, .rp 122 (encPick x)), (3, .int n), (8, .ptr (.s 8 0) 1 0 []), (9, .ptr (.s 9 0) 1 0 [])] [(.s 8 0, .cells ⟨62, 1, fun _ => (T 62).zero, 0⟩), (.s 9 0, .cells ⟨137, 1, fun _ => (T 137).zero, 0⟩)]) (em [(.s 4 0, 1), (.s 5 0, 1), (.s 6 0, 1)] ⟨sF, sF, sF, trivial⟩ ⟨⟨rfl, _, rfl, rpv⟩, ⟨rfl, _, rfl, rpv⟩, ⟨rfl, _, rfl, rpv⟩, ⟨rfl, _, rfl, cvt⟩, ⟨rfl, _, rfl, cvt⟩, ⟨rfl, _, rfl, cvt⟩, trivial⟩ ⟨obs rfl, obs rfl, trivial⟩) ?_
 refine rgs [CG.pure (.int (askF p s))] rfl ?_ ?_
 ·have hq := asked_ac p s hs
  simp only [holdsC, under, CG.pure]
  repeat' with_reducible refine And.intro ?_ ?_
  all_goals (try with_reducible intros)
  all_goals (first | exact trivial | assumption | omega | exact hq | (simp; done) | grind)
 refine sq (rg [] rfl ?_)
 refine cd rfl (fun h2 => ?_) (fun h2 => ?_)
 ·have ha : askF p s ≠ 0 := by simpa using h2
  refine sq (rg [] rfl ?_)
  refine WP.ret ?_
  change Fin ..
  exact finC2T hT rfl rfl rfl rfl rfl (conv_eq (by rw [doF, if_pos ha]; exact zeroS)) (conv_eq (by rw [doF, if_pos ha]; exact zeroE)) (by rw [doF, if_pos ha]) (hno' := noIds_E _)
 ·have ha : ¬ askF p s ≠ 0 := by simpa using h2
  have hv : validP p s := ask0 (by simpa using ha)
  refine sk (sq (sq (rg [] rfl ?_)))
  refine cd rfl (fun h4 => ?_) (fun h4 => ?_)
  ·have hf : ¬ (0 ≤ n ∧ n ≤ 4096) := by simp only [bor] at h4; simp at h4; omega
   refine sq (rg [] rfl ?_)
   refine WP.ret ?_
   change Fin ..
   exact finC2T hT rfl rfl rfl rfl rfl (conv_eq (by rw [doF, if_neg ha, if_pos hf]; exact zeroS)) (conv_eq (by rw [doF, if_neg ha, if_pos hf]; exact zeroE)) (by rw [doF, if_neg ha, if_pos hf]) (hno' := noIds_E _)
  ·have hf : 0 ≤ n ∧ n ≤ 4096 := by simp only [bor] at h4; simp at h4; omega
   have hf0 : ¬ ¬ (0 ≤ n ∧ n ≤ 4096) := fun h => h hf
   refine sk (sq (sq (drs [CG.pure (.bool (liveB (goI s x.go))), CG.pure (ints false (altL p s x.go)), CG.pure (.bool (decide (x.alt ∈ altL p s x.go)))] rfl ?_ ?_)))
   ·have hq1 : 0 ≤ x.go ∧ x.go < 6 → _ := fun h => slive_ac s x.go h
    have hq2 : 0 ≤ x.go ∧ x.go < 6 → liveB (goI s x.go) = true → _ := fun h h' => alts_ac p s x.go ⟨hs, hv, h', h⟩
    have hq3 := contains_ac false (altL p s x.go) x.alt
    simp only [holdsC, under, CG.pure]
    repeat' with_reducible refine And.intro ?_ ?_
    all_goals (try with_reducible intros)
    all_goals (first | exact trivial | assumption | exact hq3 | (refine hq1 ?_; simp_all <;> omega) | (refine hq2 ?_ ?_ <;> simp_all <;> omega) | (simp_all; done))
   refine cd rfl (fun h6 => ?_) (fun h6 => ?_)
   ·have hp : ¬ pickP p s x := by
      simp only [bor] at h6
      intro h
      have a := h.1; have b := h.2.1; have c := h.2.2
      simp only [goI] at b
      rw [show decide (x.go < 0) = false from decide_eq_false (by omega), show decide (x.go ≥ 6) = false from decide_eq_false (by omega), decide_eq_true c] at h6
      simp [-List.getD_eq_getElem?_getD, b] at h6
    refine sq (rg [] rfl ?_)
    refine WP.ret ?_
    change Fin ..
    exact finC2T hT rfl rfl rfl rfl rfl (conv_eq (by rw [doF, if_neg ha, if_neg hf0, if_pos hp]; exact zeroS)) (conv_eq (by rw [doF, if_neg ha, if_neg hf0, if_pos hp]; exact zeroE)) (by rw [doF, if_neg ha, if_neg hf0, if_pos hp]) (hno' := noIds_E _)
   ·have hp : pickP p s x := by
      simp only [bor] at h6
      simp [-List.getD_eq_getElem?_getD] at h6
      exact ⟨by omega, by simp_all, by simp_all⟩
    have hp0 : ¬ ¬ pickP p s x := fun h => h hp
    have hst : Stands p s x.go := ⟨hs, hv, hp.2.1, hp.1⟩
    have hgo := hp.1
    refine sk (sq (rgs [CG.pure (encIns (atI p s x.go))] rfl ?_ ?_))
    ·have hq := at_ac p s x.go hst
     simp only [holdsC, under, CG.pure]
     repeat' with_reducible refine And.intro ?_ ?_
     all_goals (try with_reducible intros)
     all_goals (first | exact trivial | assumption | omega | exact hq | (simp; done) | grind)
    refine sq (drs [] rfl ?_ ?_)
    ·simp [-List.getD_eq_getElem?_getD, holdsC, under]; omega
    refine sq (sq ?_)
    refine WP.ent (st' := mkSt [(3, .int n), (4, .rp 26 (encProg p)), (5, .rp 62 (encS s)), (6, .rp 122 (encPick x)), (8, .ptr (.s 8 0) 1 0 []), (9, .ptr (.s 9 0) 1 0 []), (12, .rp 120 (encIns (atI p s x.go))), (13, .ptr (.s 13 0) 1 0 [])] [(.s 8 0, .cells ⟨62, 1, fun _ => (T 62).zero, 0⟩), (.s 9 0, .cells ⟨137, 1, fun _ => (T 137).zero, 0⟩), (.s 13 0, .cells ⟨137, 1, fun _ => encE (evtTo p s x 0), 0⟩)]) ?_ ?_
    ·refine em [(.s 12 0, 1)] ⟨sF, trivial⟩ ⟨⟨rfl, _, rfl, cvt⟩, ⟨rfl, _, rfl, cvt⟩, ⟨rfl, _, rfl, cvt⟩, ⟨rfl, _, rfl, cvt⟩, ⟨rfl, _, rfl, cvt⟩, ⟨rfl, _, rfl, cvt⟩, ⟨rfl, _, rfl, rpv⟩, ⟨rfl, _, rfl, cvt⟩, trivial⟩ ⟨obs rfl, obs rfl, obs rfl (hg := q0 (conv_eq (encE_of _ _ _ _ _))), trivial⟩
    refine rgs [CG.pure (rowP 134 encBT bt0 (touchL p s x.go))] rfl ?_ ?_
    ·have hq := touch_ac p s x.go hst
     simp only [holdsC, under, CG.pure]
     repeat' with_reducible refine And.intro ?_ ?_
     all_goals (try with_reducible intros)
     all_goals (first | exact trivial | assumption | omega | exact hq | (simp; done) | grind)
    refine bk ?_
    refine WP.loop (α := Nat) (fun k => mkSt [(3, .int n), (4, .rp 26 (encProg p)), (5, .rp 62 (encS s)), (6, .rp 122 (encPick x)), (8, .ptr (.s 8 0) 1 0 []), (9, .ptr (.s 9 0) 1 0 []), (12, .rp 120 (encIns (atI p s x.go))), (13, .ptr (.s 13 0) 1 0 []), (91, rowP 134 encBT bt0 (touchL p s x.go)), (92, .int (touchL p s x.go).length), (93, .int k)] [(.s 8 0, .cells ⟨62, 1, fun _ => (T 62).zero, 0⟩), (.s 9 0, .cells ⟨137, 1, fun _ => (T 137).zero, 0⟩), (.s 13 0, .cells ⟨137, 1, fun _ => encE (evtTo p s x k), 0⟩)]) (fun k => k ≤ (touchL p s x.go).length) (fun k => (touchL p s x.go).length - k) ?_ ?_
    ·refine ⟨0, ?_, ?_⟩
     ·exact Nat.zero_le _
     ·refine em [] trivial ⟨⟨rfl, _, rfl, cvt⟩, ⟨rfl, _, rfl, cvt⟩, ⟨rfl, _, rfl, cvt⟩, ⟨rfl, _, rfl, cvt⟩, ⟨rfl, _, rfl, cvt⟩, ⟨rfl, _, rfl, cvt⟩, ⟨rfl, _, rfl, cvt⟩, ⟨rfl, _, rfl, cvt⟩, ⟨rfl, _, rfl, cvt⟩, ⟨rfl, _, rfl, cvt⟩, ⟨rfl, _, rfl, cvt⟩, trivial⟩ ⟨obs rfl, obs rfl, obs rfl, trivial⟩
    ·rintro k hk
     have htl := touchL_len hst
     refine sq (rg [] rfl ?_)
     refine sq ?_
     refine cd rfl (fun h11 => ?_) (fun h11 => ?_)
     ·have hkl : k < (touchL p s x.go).length := by simp [-List.getD_eq_getElem?_getD] at h11; omega
      have htk : (evtTo p s x k).ts.length = k := by show (((touchL p s x.go).take k).map BT.t).length = k; rw [List.length_map, List.length_take]; omega
      refine sk (sq (bk (sq (rgs [] rfl ?_ ?_))))
      ·simp [-List.getD_eq_getElem?_getD, holdsC, under]; omega
      refine sq (rgs [] rfl ?_ ?_)
      ·have hk6 : 0 ≤ (evtTo p s x k).n ∧ (evtTo p s x k).n < 6 := by show 0 ≤ (k : Int) ∧ (k : Int) < 6; omega
       simp only [holdsC, under, CG.pure]
       repeat' with_reducible refine And.intro ?_ ?_
       all_goals (try with_reducible intros)
       all_goals (first | exact trivial | assumption | omega | exact hk6 | exact hk6.1 | exact hk6.2 | (simp; done) | grind)
      refine WP.ent (st' := mkSt [(3, .int n), (4, .rp 26 (encProg p)), (5, .rp 62 (encS s)), (6, .rp 122 (encPick x)), (8, .ptr (.s 8 0) 1 0 []), (9, .ptr (.s 9 0) 1 0 []), (12, .rp 120 (encIns (atI p s x.go))), (13, .ptr (.s 13 0) 1 0 []), (91, rowP 134 encBT bt0 (touchL p s x.go)), (92, .int (touchL p s x.go).length), (93, .int k)] [(.s 8 0, .cells ⟨62, 1, fun _ => (T 62).zero, 0⟩), (.s 9 0, .cells ⟨137, 1, fun _ => (T 137).zero, 0⟩), (.s 13 0, .cells ⟨137, 1, fun _ => encE { evtTo p s x k with ts := (evtTo p s x k).ts ++ [((touchL p s x.go).getD k bt0).t] }, 0⟩)]) ?_ ?_
      ·refine em [] trivial ⟨⟨rfl, _, rfl, cvt⟩, ⟨rfl, _, rfl, cvt⟩, ⟨rfl, _, rfl, cvt⟩, ⟨rfl, _, rfl, cvt⟩, ⟨rfl, _, rfl, cvt⟩, ⟨rfl, _, rfl, cvt⟩, ⟨rfl, _, rfl, cvt⟩, ⟨rfl, _, rfl, cvt⟩, ⟨rfl, _, rfl, cvt⟩, ⟨rfl, _, rfl, cvt⟩, ⟨rfl, _, rfl, cvt⟩, trivial⟩ ⟨obs rfl, obs rfl, obs rfl (hg := q0 (conv_eq ((congrArg (fun z : Nat => (encE (evtTo p s x k)).put [7, z] (encTch ((touchL p s x.go).getD k bt0).t)) (show ((evtTo p s x k).n).toNat = (evtTo p s x k).ts.length by rw [htk]; exact Int.toNat_natCast k)).trans (putE_ts (evtTo p s x k) (by omega))))), trivial⟩
      refine rg [] rfl ?_
      refine rg [] rfl ?_
      have e2 : encE { evtTo p s x k with ts := (evtTo p s x k).ts ++ [((touchL p s x.go).getD k bt0).t], n := (k : Int) + 1 } = encE (evtTo p s x (k + 1)) := by
        have e3 : (evtTo p s x k).ts ++ [((touchL p s x.go).getD k bt0).t] = (evtTo p s x (k + 1)).ts := by
          show ((touchL p s x.go).take k).map BT.t ++ _ = ((touchL p s x.go).take (k + 1)).map BT.t
          rw [List.take_add_one, List.getElem?_eq_getElem hkl, List.map_append]
          simp [hkl]
        rw [e3]; rfl
      have hw : IntKind.i64.wrap ((evtTo p s x k).n + 1) = (k : Int) + 1 := wrap_id (by show _ ≤ (k : Int) + 1; omega) (by show (k : Int) + 1 < _; omega)
      refine ⟨k + 1, ?_, ?_, ?_⟩
      ·exact hkl
      ·refine em [] trivial ⟨⟨rfl, _, rfl, cvt⟩, ⟨rfl, _, rfl, cvt⟩, ⟨rfl, _, rfl, cvt⟩, ⟨rfl, _, rfl, cvt⟩, ⟨rfl, _, rfl, cvt⟩, ⟨rfl, _, rfl, cvt⟩, ⟨rfl, _, rfl, cvt⟩, ⟨rfl, _, rfl, cvt⟩, ⟨rfl, _, rfl, cvt⟩, ⟨rfl, _, rfl, cvt⟩, ⟨rfl, _, rfl, cvt⟩, trivial⟩ ⟨obs rfl, obs rfl, obs rfl (hg := q0 (conv_eq ((congrArg (fun z : Int => (encE { evtTo p s x k with ts := (evtTo p s x k).ts ++ [((touchL p s x.go).getD k bt0).t] }).put [8] (.int z)) hw).trans ((putE_n _ _).trans e2)))), trivial⟩
      ·(try simp only []); first | omega | grind
     ·have hkl : k = (touchL p s x.go).length := by simp [-List.getD_eq_getElem?_getD] at h11; omega
      obtain ⟨ad, had⟩ : ∃ ad, actD p s x n = ad := ⟨_, rfl⟩
      have hokA : OkM ad.1 := by rw [← had]; exact okM_act (okM_mach hs hgo) _ _
      refine xt (sq (rg [] rfl ?_))
      refine sq ?_
      refine WP.ent (st' := mkSt [(4, .rp 26 (encProg p)), (5, .rp 62 (encS s)), (6, .rp 122 (encPick x)), (8, .ptr (.s 8 0) 1 0 []), (9, .ptr (.s 9 0) 1 0 []), (12, .rp 120 (encIns (atI p s x.go))), (13, .ptr (.s 13 0) 1 0 []), (16, .ptr (.s 113 0) 1 0 [])] [(.s 8 0, .cells ⟨62, 1, fun _ => (T 62).zero, 0⟩), (.s 9 0, .cells ⟨137, 1, fun _ => (T 137).zero, 0⟩), (.s 13 0, .cells ⟨137, 1, fun _ => encE (evtTo p s x k), 0⟩), (.s 113 0, mO p (mach0 s x.go n))]) ?_ ?_
      ·refine em [] trivial ⟨⟨rfl, _, rfl, cvt⟩, ⟨rfl, _, rfl, cvt⟩, ⟨rfl, _, rfl, cvt⟩, ⟨rfl, _, rfl, cvt⟩, ⟨rfl, _, rfl, cvt⟩, ⟨rfl, _, rfl, cvt⟩, ⟨rfl, _, rfl, cvt⟩, ⟨rfl, _, rfl, cvt⟩, trivial⟩ ⟨obs rfl, obs rfl, obs rfl, obs rfl (hg := q0 (conv_eq (encMc_of p s x.go n))), trivial⟩
      refine rgs [⟨true, [.s 113 0], .tup [.int ad.2.1, .int ad.2.2], [mO p ad.1]⟩] rfl ?_ ?_
      ·have hq : AC Tryz.prog T tysN 161 [.ptr (.b 0) 1 0 [], ren (sig [.s 113 0] 0) (encIns (atI p s x.go)), .int x.alt] (List.map (renO (sig [.s 113 0] 0)) [mO p (mach0 s x.go n)]) (.tup [.int ad.2.1, .int ad.2.2]) [mO p ad.1] := by
         have hz : ren (sig [.s 113 0] 0) (encIns (atI p s x.go)) = encIns (atI p s x.go) := agg_ext (fun q => by match q with | 0 | 1 | 2 | 3 | 4 | q + 5 => rfl)
         rw [renO_M, hz, ← had]
         exact act_ac p s x.go n x.alt hst hp.2.2
       have hk1 := okOs_M [.s 113 0] p (mach0 s x.go n)
       have hk2 := okOs_M (bs 1) p ad.1
       simp only [holdsC, under, CG.pure]
       repeat' with_reducible refine And.intro ?_ ?_
       all_goals (try with_reducible intros)
       all_goals (first | exact trivial | assumption | omega | exact hq | exact hk1 | exact hk2 | (simp; done) | grind)
      refine sq ?_
      refine WP.ent (st' := mkSt [(8, .ptr (.s 8 0) 1 0 []), (9, .ptr (.s 9 0) 1 0 []), (12, .rp 120 (encIns (atI p s x.go))), (13, .ptr (.s 13 0) 1 0 []), (16, .ptr (.s 113 0) 1 0 []), (17, .int ad.2.1), (18, .int ad.2.2)] [(.s 8 0, .cells ⟨62, 1, fun _ => (T 62).zero, 0⟩), (.s 9 0, .cells ⟨137, 1, fun _ => (T 137).zero, 0⟩), (.s 13 0, .cells ⟨137, 1, fun _ => encE (evtTo p s x k), 0⟩), (.s 113 0, mO p ad.1)]) ?_ ?_
      ·refine em [] trivial ⟨⟨rfl, _, rfl, cvt⟩, ⟨rfl, _, rfl, cvt⟩, ⟨rfl, _, rfl, cvt⟩, ⟨rfl, _, rfl, cvt⟩, ⟨rfl, _, rfl, cvt⟩, ⟨rfl, _, rfl, cvt⟩, ⟨rfl, _, rfl, cvt⟩, trivial⟩ ⟨obs rfl, obs rfl, obs rfl, obs rfl (hg := q0 (conv_eq (ren_M _ _ _))), trivial⟩
      refine rg [] rfl ?_
      refine WP.seqJ (α := Unit) (fun _ => mkSt [(8, .ptr (.s 8 0) 1 0 []), (9, .ptr (.s 9 0) 1 0 []), (13, .ptr (.s 13 0) 1 0 []), (16, .ptr (.s 113 0) 1 0 []), (17, .int ad.2.1), (18, .int ad.2.2)] [(.s 8 0, .cells ⟨62, 1, fun _ => (T 62).zero, 0⟩), (.s 9 0, .cells ⟨137, 1, fun _ => (T 137).zero, 0⟩), (.s 13 0, .cells ⟨137, 1, fun _ => encE (evtOf p s x ad.1.val), 0⟩), (.s 113 0, mO p ad.1)]) (fun _ => True) ?_ ?_
      ·refine sq ?_
       have ee : ∀ t : Int, encE { evtTo p s x k with val := ad.1.val, tag := t } = encE ⟨x.go, (goI s x.go).func, (goI s x.go).pc, (atI p s x.go).op, x.alt, ad.1.val, t, (touchL p s x.go).map BT.t, (touchL p s x.go).length⟩ := fun t => by
         rw [evtTo, hkl, List.take_length]
       refine WP.ent (st' := mkSt [(8, .ptr (.s 8 0) 1 0 []), (9, .ptr (.s 9 0) 1 0 []), (12, .rp 120 (encIns (atI p s x.go))), (13, .ptr (.s 13 0) 1 0 []), (16, .ptr (.s 113 0) 1 0 []), (17, .int ad.2.1), (18, .int ad.2.2)] [(.s 8 0, .cells ⟨62, 1, fun _ => (T 62).zero, 0⟩), (.s 9 0, .cells ⟨137, 1, fun _ => (T 137).zero, 0⟩), (.s 13 0, .cells ⟨137, 1, fun _ => encE { evtTo p s x k with val := ad.1.val }, 0⟩), (.s 113 0, mO p ad.1)]) ?_ ?_
       ·refine em [] trivial ⟨⟨rfl, _, rfl, cvt⟩, ⟨rfl, _, rfl, cvt⟩, ⟨rfl, _, rfl, cvt⟩, ⟨rfl, _, rfl, cvt⟩, ⟨rfl, _, rfl, cvt⟩, ⟨rfl, _, rfl, cvt⟩, ⟨rfl, _, rfl, cvt⟩, trivial⟩ ⟨obs rfl, obs rfl, obs rfl (hg := q0 (conv_eq (putE_val _ _))), obs rfl, trivial⟩
       refine rg [] rfl ?_
       refine cd rfl (fun h19 => ?_) (fun h19 => ?_)
       ·have e65 : (atI p s x.go).op = 65 := by simpa using h19
        refine rg [] rfl ?_
        refine ⟨(), ?_, ?_⟩
        ·trivial
        ·refine em [] trivial ⟨⟨rfl, _, rfl, cvt⟩, ⟨rfl, _, rfl, cvt⟩, ⟨rfl, _, rfl, cvt⟩, ⟨rfl, _, rfl, cvt⟩, ⟨rfl, _, rfl, cvt⟩, ⟨rfl, _, rfl, cvt⟩, trivial⟩ ⟨obs rfl, obs rfl, obs rfl (hg := q0 (conv_eq ((putE_tag _ _).trans ((ee _).trans (by rw [evtOf, if_pos e65]))))), obs rfl, trivial⟩
       ·have e65 : ¬ (atI p s x.go).op = 65 := by simpa using h19
        refine sk ?_
        refine ⟨(), ?_, ?_⟩
        ·trivial
        ·refine em [] trivial ⟨⟨rfl, _, rfl, cvt⟩, ⟨rfl, _, rfl, cvt⟩, ⟨rfl, _, rfl, cvt⟩, ⟨rfl, _, rfl, cvt⟩, ⟨rfl, _, rfl, cvt⟩, ⟨rfl, _, rfl, cvt⟩, trivial⟩ ⟨obs rfl, obs rfl, obs rfl (hg := q0 (conv_eq ((ee 0).trans (by rw [evtOf, if_neg e65])))), obs rfl, trivial⟩
      ·rintro _ h_inv
       refine sq (sq ?_)
       have hge : ad.1.g.toNat < ad.1.s.gos.length := by rw [hokA.s.gos]; have := hokA.g; omega
       refine rg [] rfl ?_
       refine cd rfl (fun h21 => ?_) (fun h21 => ?_)
       ·have hov : ¬ ad.1.over = true := by simpa using h21
        refine sq (rgs [⟨true, [.s 113 0], .ptr (.b 0) 1 0 [1, 3, ad.1.g.toNat], [mO p ad.1]⟩] rfl ?_ ?_)
        ·have hq : AC Tryz.prog T tysN 162 [.ptr (.b 0) 1 0 []] (List.map (renO (sig [.s 113 0] 0)) [mO p ad.1]) (ownP1 ad.1) [mO p ad.1] := by rw [renO_M]; exact own_ac p ad.1 hokA.g
         have hk1 := okOs_M [.s 113 0] p ad.1
         have hk2 := okOs_M (bs 1) p ad.1
         simp only [holdsC, under, CG.pure]
         repeat' with_reducible refine And.intro ?_ ?_
         all_goals (try with_reducible intros)
         all_goals (first | exact trivial | assumption | omega | exact hq | exact hk1 | exact hk2 | (simp; done) | grind)
        refine sq ?_
        refine WP.ent (st' := mkSt [(8, .ptr (.s 8 0) 1 0 []), (9, .ptr (.s 9 0) 1 0 []), (13, .ptr (.s 13 0) 1 0 []), (16, .ptr (.s 113 0) 1 0 []), (18, .int ad.2.2)] [(.s 8 0, .cells ⟨62, 1, fun _ => (T 62).zero, 0⟩), (.s 9 0, .cells ⟨137, 1, fun _ => (T 137).zero, 0⟩), (.s 13 0, .cells ⟨137, 1, fun _ => encE (evtOf p s x ad.1.val), 0⟩), (.s 113 0, mO p (setGo ad.1 { ownG ad.1 with pc := ad.2.1 }))]) ?_ ?_
        ·refine em [] trivial ⟨⟨rfl, _, rfl, cvt⟩, ⟨rfl, _, rfl, cvt⟩, ⟨rfl, _, rfl, cvt⟩, ⟨rfl, _, rfl, cvt⟩, ⟨rfl, _, rfl, cvt⟩, trivial⟩ ⟨obs rfl, obs rfl, obs rfl, obs rfl (hg := q0 (conv_eq ((congrArg (fun z => AV.put z [1, 3, ad.1.g.toNat, 2] (.int ad.2.1)) (ren_M _ _ _)).trans (putM_goL hge (putGo_pc _ _))))), trivial⟩
        refine rgs [⟨true, [.s 113 0], .tup [], [mO p (msettleF p (setGo ad.1 { ownG ad.1 with pc := ad.2.1 }) ad.1.g)]⟩] rfl ?_ ?_
        ·have hq : AC Tryz.prog T tysN 163 [.ptr (.b 0) 1 0 [], .int ad.1.g] (List.map (renO (sig [.s 113 0] 0)) [mO p (setGo ad.1 { ownG ad.1 with pc := ad.2.1 })]) (.tup []) [mO p (msettleF p (setGo ad.1 { ownG ad.1 with pc := ad.2.1 }) ad.1.g)] := by
           rw [renO_M]; exact msettle_ac p _ _ (hokA.s.setGo (x := { ownG ad.1 with pc := ad.2.1 }) (okGo_at hokA.s _))
         have hk1 := okOs_M [.s 113 0] p (setGo ad.1 { ownG ad.1 with pc := ad.2.1 })
         have hk2 := okOs_M (bs 1) p (msettleF p (setGo ad.1 { ownG ad.1 with pc := ad.2.1 }) ad.1.g)
         simp only [holdsC, under, CG.pure]
         repeat' with_reducible refine And.intro ?_ ?_
         all_goals (try with_reducible intros)
         all_goals (first | exact trivial | assumption | omega | exact hq | exact hk1 | exact hk2 | (simp; done) | grind)
        refine sq ?_
        refine WP.ent (st' := mkSt [(8, .ptr (.s 8 0) 1 0 []), (9, .ptr (.s 9 0) 1 0 []), (13, .ptr (.s 13 0) 1 0 []), (16, .ptr (.s 113 0) 1 0 []), (18, .int ad.2.2)] [(.s 8 0, .cells ⟨62, 1, fun _ => (T 62).zero, 0⟩), (.s 9 0, .cells ⟨137, 1, fun _ => (T 137).zero, 0⟩), (.s 13 0, .cells ⟨137, 1, fun _ => encE (evtOf p s x ad.1.val), 0⟩), (.s 113 0, mO p (msettleF p (setGo ad.1 { ownG ad.1 with pc := ad.2.1 }) ad.1.g))]) ?_ ?_
        ·refine em [] trivial ⟨⟨rfl, _, rfl, cvt⟩, ⟨rfl, _, rfl, cvt⟩, ⟨rfl, _, rfl, cvt⟩, ⟨rfl, _, rfl, cvt⟩, ⟨rfl, _, rfl, cvt⟩, trivial⟩ ⟨obs rfl, obs rfl, obs rfl, obs rfl (hg := q0 (conv_eq (ren_M _ _ _))), trivial⟩
        refine rg [] rfl ?_
        refine cd rfl (fun h24 => ?_) (fun h24 => ?_)
        ·have hmd : 0 ≤ ad.2.2 := of_decide_eq_true h24
         refine rgs [⟨true, [.s 113 0], .tup [], [mO p (msettleF p (msettleF p (setGo ad.1 { ownG ad.1 with pc := ad.2.1 }) ad.1.g) ad.2.2)]⟩] rfl ?_ ?_
         ·have hq : AC Tryz.prog T tysN 163 [.ptr (.b 0) 1 0 [], .int ad.2.2] (List.map (renO (sig [.s 113 0] 0)) [mO p (msettleF p (setGo ad.1 { ownG ad.1 with pc := ad.2.1 }) ad.1.g)]) (.tup []) [mO p (msettleF p (msettleF p (setGo ad.1 { ownG ad.1 with pc := ad.2.1 }) ad.1.g) ad.2.2)] := by
            rw [renO_M]; exact msettle_ac p _ _ (settle_ok (hokA.s.setGo (x := { ownG ad.1 with pc := ad.2.1 }) (okGo_at hokA.s _)) _ _)
          have hk1 := okOs_M [.s 113 0] p (msettleF p (setGo ad.1 { ownG ad.1 with pc := ad.2.1 }) ad.1.g)
          have hk2 := okOs_M (bs 1) p (msettleF p (msettleF p (setGo ad.1 { ownG ad.1 with pc := ad.2.1 }) ad.1.g) ad.2.2)
          simp only [holdsC, under, CG.pure]
          repeat' with_reducible refine And.intro ?_ ?_
          all_goals (try with_reducible intros)
          all_goals (first | exact trivial | assumption | omega | exact hq | exact hk1 | exact hk2 | (simp; done) | grind)
         refine sq (dr [] rfl ?_)
         refine WP.ret ?_
         change Fin ..
         have er : endF p ad.1 ad.2.1 ad.2.2 = msettleF p (msettleF p (setGo ad.1 { ownG ad.1 with pc := ad.2.1 }) ad.1.g) ad.2.2 := by rw [endF, if_neg hov, if_pos hmd]
         have ed : doF p s x n = ((msettleF p (msettleF p (setGo ad.1 { ownG ad.1 with pc := ad.2.1 }) ad.1.g) ad.2.2).s, evtOf p s x ad.1.val, 0) := by rw [doF, if_neg ha, if_neg hf0, if_neg hp0, had, er]
         rw [ed]
         exact finC2T hT rfl rfl rfl rfl rfl (conv_eq (ren_S _ _)) (conv_eq rfl) rfl (hno' := noIds_E _)
        ·have hmd : ¬ 0 ≤ ad.2.2 := of_decide_eq_false h24
         refine sk (sq (dr [] rfl ?_))
         refine WP.ret ?_
         change Fin ..
         have er : endF p ad.1 ad.2.1 ad.2.2 = msettleF p (setGo ad.1 { ownG ad.1 with pc := ad.2.1 }) ad.1.g := by rw [endF, if_neg hov, if_neg hmd]
         have ed : doF p s x n = ((msettleF p (setGo ad.1 { ownG ad.1 with pc := ad.2.1 }) ad.1.g).s, evtOf p s x ad.1.val, 0) := by rw [doF, if_neg ha, if_neg hf0, if_neg hp0, had, er]
         rw [ed]
         exact finC2T hT rfl rfl rfl rfl rfl (conv_eq (rfl)) (conv_eq rfl) rfl (hno' := noIds_E _)
       ·have hov : ad.1.over = true := by simpa using h21
        refine sk (sq (dr [] rfl ?_))
        refine WP.ret ?_
        change Fin ..
        have er : endF p ad.1 ad.2.1 ad.2.2 = ad.1 := by rw [endF, if_pos hov]
        have ed : doF p s x n = ((ad.1).s, evtOf p s x ad.1.val, 0) := by rw [doF, if_neg ha, if_neg hf0, if_neg hp0, had, er]
        rw [ed]
        exact finC2T hT rfl rfl rfl rfl rfl (conv_eq (rfl)) (conv_eq rfl) rfl (hno' := noIds_E _)
end Go.Ab


/- Schedules: what is asked; a run in which all have their turn. -/
set_option autoImplicit false
set_option maxRecDepth 20000
set_option maxHeartbeats 4000000
set_option linter.unusedSimpArgs false
set_option linter.unusedVariables false
namespace Go.Ab
open Go.Proofs
structure PBud where
  steps : Int
  fuel : Int
  runs : Int
def encBud (b : PBud) : AV := stru 28 [.int b.steps, .int b.fuel, .int b.runs]
def budP (b : PBud) : Prop := (0 ≤ b.steps ∧ b.steps ≤ 256) ∧ (0 ≤ b.fuel ∧ b.fuel ≤ 4096) ∧ (0 ≤ b.runs ∧ b.runs ≤ 65536)
instance (b : PBud) : Decidable (budP b) := by unfold budP; infer_instance
def inB (n m : Int) : Bool := decide (0 ≤ n ∧ n ≤ m)
theorem fitIn_ac (n m : Int) : AC Tryz.prog T tysN 112 [.int n, .int m] [] (.bool (inB n m)) [] := by
 refine AC_intro hT Tryz.func112 rfl rfl (Nat.le_of_ble_eq_true rfl) ?_
 refine sq (rg [] rfl ?_)
 refine sq (rg [] rfl ?_)
 refine WP.ret ?_
 change Fin ..
 refine fin1 hT (by rfl) ?_
 simp only [band]
 rw [inB, Bool.eq_iff_iff]; simp
def fitsF (p : PProg) (n : Int) (b : PBud) : Int := if rightB p = false then 3 else if 256 < n then 2 else if ¬ budP b then 6 else 0
theorem sfit_ac (p : PProg) (n : Int) (b : PBud) : AC Tryz.prog T tysN 66 [encProg p, .int n, encBud b] [] (.int (fitsF p n b)) [] := by
 refine AC_intro hT Tryz.func66 rfl rfl (Nat.le_of_ble_eq_true rfl) ?_
 refine sq (rg [] rfl ?_)
 refine sq (sq ?_)
 refine WP.ent (st' := mkSt [(3, .rp 26 (encProg p)), (5, .rp 28 (encBud b)), (1, .int n)] []) (em [(.s 3 0, 1), (.s 5 0, 1)] ⟨sF, sF, trivial⟩ ⟨⟨rfl, _, rfl, rpv⟩, ⟨rfl, _, rfl, rpv⟩, ⟨rfl, _, rfl, cvt⟩, trivial⟩ trivial) ?_
 refine rgs [CG.pure (checkA p)] rfl ?_ ?_
 ·have hq := pcheck_ac p
  simp only [holdsC, under, CG.pure]
  repeat' with_reducible refine And.intro ?_ ?_
  all_goals (try with_reducible intros)
  all_goals (first | exact trivial | assumption | omega | exact hq | (simp; done) | grind)
 refine sq (rg [] rfl ?_)
 refine cd rfl (fun h2 => ?_) (fun h2 => ?_)
 ·have hr : rightB p = false := by simp at h2; simp [rightB]; exact h2
  refine sq (rg [] rfl ?_)
  refine WP.ret ?_
  change Fin ..
  exact finI hT (by rfl) (by rw [fitsF, if_pos hr])
 ·have hr : ¬ rightB p = false := by simp at h2; simp [rightB]; exact h2
  refine sk (sq (sq (rg [] rfl ?_)))
  refine cd rfl (fun h4 => ?_) (fun h4 => ?_)
  ·have hn : 256 < n := by simpa using h4
   refine sq (rg [] rfl ?_)
   refine WP.ret ?_
   change Fin ..
   exact finI hT (by rfl) (by rw [fitsF, if_neg hr, if_pos hn])
  ·have hn : ¬ 256 < n := by simp at h4; omega
   refine sk (sq (rg [] rfl ?_))
   refine sq (sq (rgs [CG.pure (.bool (inB b.steps 256)), CG.pure (.bool (inB b.fuel 4096)), CG.pure (.bool (inB b.runs 65536))] rfl ?_ ?_))
   ·have hq1 := fitIn_ac b.steps 256
    have hq2 := fitIn_ac b.fuel 4096
    have hq3 := fitIn_ac b.runs 65536
    simp only [holdsC, under, CG.pure]
    repeat' with_reducible refine And.intro ?_ ?_
    all_goals (try with_reducible intros)
    all_goals (first | exact trivial | assumption | omega | exact hq1 | exact hq2 | exact hq3 | (simp; done) | grind)
   refine cd rfl (fun h7 => ?_) (fun h7 => ?_)
   ·have hb : ¬ budP b := by simp only [bor, inB] at h7; intro ⟨a, c, d⟩; simp at h7; omega
    refine sq (rg [] rfl ?_)
    refine WP.ret ?_
    change Fin ..
    exact finI hT (by rfl) (by rw [fitsF, if_neg hr, if_neg hn, if_pos hb])
   ·have hb : ¬ ¬ budP b := fun h => h (by simp only [bor, inB] at h7; simp at h7; exact ⟨by omega, by omega, by omega⟩)
    refine sk (sq (rg [] rfl ?_))
    refine WP.ret ?_
    change Fin ..
    exact finI hT (by rfl) (by rw [fitsF, if_neg hr, if_neg hn, if_neg hb])
theorem fits0 {p : PProg} {n : Int} {b : PBud} (h : fitsF p n b = 0) : rightB p = true ∧ n ≤ 256 ∧ budP b := by
  unfold fitsF at h
  split at h
  · cases h
  rename_i h1
  split at h
  · cases h
  rename_i h2
  split at h
  · cases h
  rename_i h3
  exact ⟨by simpa using h1, by omega, by simpa using h3⟩
theorem robIs_ac (x : PPick) (n : Int) : AC Tryz.prog T tysN 175 [encPick x, .rp 3 (.int n)] [] (.bool (x.go == n)) [] := by
 refine AC_intro hT Tryz.func175 rfl rfl (Nat.le_of_ble_eq_true rfl) ?_
 refine sq (rg [] rfl ?_)
 refine sq (rg [] rfl ?_)
 refine WP.ret ?_
 change Fin ..
 exact fin1 hT (by rfl) rfl
def fstPk (l : List PPick) (n : Int) : Int := if l.any (fun x => x.go == n) then (l.findIdx (fun x => x.go == n) : Nat) else -1
theorem fstPk_at {l : List PPick} {n : Int} {i : Nat} (hi : i < l.length) (h : ((l.getD i pick0).go == n) = true) (hn : ∀ j, j < i → ((l.getD j pick0).go == n) = false) : fstPk l n = i := by
  have e : l.getD i pick0 = l[i] := by simp [hi]
  have hm : l.any (fun x => x.go == n) = true := List.any_eq_true.2 ⟨l[i], List.getElem_mem hi, by rw [← e]; exact h⟩
  rw [fstPk, if_pos hm]
  congr 1
  rw [List.findIdx_eq hi]
  refine ⟨by rw [← e]; exact h, fun j hj => ?_⟩
  have := hn j hj
  have hj' : j < l.length := by omega
  rwa [List.getD_eq_getElem?_getD, List.getElem?_eq_getElem hj'] at this
theorem fstPk_no {l : List PPick} {n : Int} (hn : ∀ j, j < l.length → ((l.getD j pick0).go == n) = false) : fstPk l n = -1 := by
  rw [fstPk, if_neg]
  rw [List.any_eq_true]
  rintro ⟨x, hx, h⟩
  obtain ⟨j, hj, e⟩ := List.getElem_of_mem hx
  have := hn j hj
  rw [List.getD_eq_getElem?_getD, List.getElem?_eq_getElem hj, Option.getD_some, e] at this
  rw [this] at h; cases h
abbrev intO (n : Int) : Ob := .cells ⟨3, 1, fun _ => .int n, 0⟩
theorem robIdx_ac (g : Bool) (l : List PPick) (n : Int) : AC Tryz.prog T tysN 174 [.row 122 g l.length (fun i => encPick (l.getD i pick0)), .clo 175 [.ptr (.b 0) 1 0 []]] [intO n] (.int (fstPk l n)) [intO n] := by
 refine AC_intro hT Tryz.func174 rfl rfl (Nat.le_of_ble_eq_true rfl) ?_
 refine WP.rowlen 0 rfl (fun hl => ?_)
 refine sq (rg [] rfl ?_)
 refine sq (sq (rg [] rfl ?_))
 refine bk ?_
 refine WP.loop (α := Nat) (fun i => mkSt [(0, .row 122 g l.length (fun i => encPick (l.getD i pick0))), (1, .clo 175 [.ptr (.b 0) 1 0 []]), (7, .int l.length), (8, .int i)] [(.b 0, intO n)]) (fun i => i ≤ l.length ∧ ∀ j, j < i → ((l.getD j pick0).go == n) = false) (fun i => l.length - i) ?_ ?_
 ·refine ⟨0, ?_, ?_⟩
  ·exact ⟨Nat.zero_le _, fun j hj => by omega⟩
  ·refine em [] trivial ⟨⟨rfl, _, rfl, cvt⟩, ⟨rfl, _, rfl, cvt⟩, ⟨rfl, _, rfl, cvt⟩, ⟨rfl, _, rfl, cvt⟩, trivial⟩ ⟨obs rfl, trivial⟩
 ·rintro i ⟨hi, hn⟩
  refine sq (rg [] rfl ?_)
  refine sq ?_
  refine cd rfl (fun h2 => ?_) (fun h2 => ?_)
  ·have hil : i < l.length := by simpa using h2
   refine sk (sq (bk (sq (rg [] rfl ?_))))
   refine sq (rgs [CG.pure (.bool ((l.getD i pick0).go == n))] rfl ?_ ?_)
   ·have hq := robIs_ac (l.getD i pick0) n
    have hil2 : 0 ≤ (i : Int) ∧ (i : Int) < (l.length : Int) := by omega
    simp only [holdsC, under, CG.pure]
    repeat' with_reducible refine And.intro ?_ ?_
    all_goals (try with_reducible intros)
    all_goals (first | exact trivial | assumption | omega | exact hq | exact hil2 | exact hil2.1 | exact hil2.2 | exact rfl | (simp; done) | grind)
   refine cd rfl (fun h4 => ?_) (fun h4 => ?_)
   ·refine sq (rg [] rfl ?_)
    refine WP.ret ?_
    change Fin ..
    refine fin_mk hT [] (ts := [(4, .int (fstPk l n))]) (l := [.int (fstPk l n)]) trivial ⟨⟨rfl, _, rfl, conv_eq (congrArg AV.int (fstPk_at hil h4 hn).symm)⟩, trivial⟩ ⟨obs rfl, trivial⟩ rfl rfl rfl
   ·refine sk (rg [] rfl ?_)
    refine ⟨i + 1, ?_, ?_, ?_⟩
    ·exact ⟨hil, all_succ (Q := fun j => ((l.getD j pick0).go == n) = false) hn h4⟩
    ·refine em [] trivial ⟨⟨rfl, _, rfl, cvt⟩, ⟨rfl, _, rfl, cvt⟩, ⟨rfl, _, rfl, cvt⟩, ⟨rfl, _, rfl, cvt⟩, trivial⟩ ⟨obs rfl, trivial⟩
    ·(try simp only []); first | omega | grind
  ·have hil : i = l.length := by simp at h2; omega
   subst hil
   refine xt (sq (rg [] rfl ?_))
   refine WP.ret ?_
   change Fin ..
   refine fin_mk hT [] (ts := [(4, .int (fstPk l n))]) (l := [.int (fstPk l n)]) trivial ⟨⟨rfl, _, rfl, conv_eq (congrArg AV.int (fstPk_no hn).symm)⟩, trivial⟩ ⟨obs rfl, trivial⟩ rfl rfl rfl
def robF (l : List PPick) : Nat → Int → PPick × Int
  | 0, n => (pick0, n)
  | k + 1, n => if 0 ≤ fstPk l ((n + 1) % 6) then (l.getD (fstPk l ((n + 1) % 6)).toNat pick0, ((n + 1) % 6)) else robF l k ((n + 1) % 6)
theorem robF_bd (l : List PPick) : ∀ (k : Nat) (n : Int), 0 ≤ n ∧ n < 6 → 0 ≤ (robF l k n).2 ∧ (robF l k n).2 < 6
  | 0, n, h => h
  | k + 1, n, h => by
    have h1 : 0 ≤ ((n + 1) % 6) ∧ ((n + 1) % 6) < 6 := by omega
    rw [robF]
    split
    · exact h1
    · exact robF_bd l k _ h1
theorem fstPk_has {l : List PPick} {n : Int} {x : PPick} (hx : x ∈ l) (h : x.go = n) : 0 ≤ fstPk l n := by
  have hm : l.any (fun x => x.go == n) = true := List.any_eq_true.2 ⟨x, hx, beq_iff_eq.2 h⟩
  rw [fstPk, if_pos hm]; omega
theorem fstPk_lt {l : List PPick} {n : Int} (h : 0 ≤ fstPk l n) : (fstPk l n).toNat < l.length := by
  unfold fstPk at h ⊢
  split at h
  · rename_i hm
    rw [if_pos hm, Int.toNat_natCast]
    obtain ⟨x, hx, hp⟩ := List.any_eq_true.1 hm
    exact List.findIdx_lt_length_of_exists ⟨x, hx, hp⟩
  · omega
theorem robin1_ac (i : Int) (l : List PPick) (n : Int) (hn : 0 ≤ n ∧ n < 6) (hl : l ≠ []) (hg : ∀ x ∈ l, 0 ≤ x.go ∧ x.go < 6) : AC Tryz.prog T tysN 173 [.int i, rowPk l, .ptr (.b 0) 1 0 []] [intO n] (.tup [encPick (robF l 6 n).1, .bool true]) [intO (robF l 6 n).2] := by
 refine AC_intro hT Tryz.func173 rfl rfl (Nat.le_of_ble_eq_true rfl) ?_
 refine WP.rowlen 1 rfl (fun hll => ?_)
 refine sq (rg [] rfl ?_)
 refine bk ?_
 refine WP.loop (α := Nat × Int) (fun (⟨k, m⟩ : Nat × Int) => mkSt [(1, rowPk l), (2, .ptr (.b 0) 1 0 []), (5, .ptr (.s 5 0) 1 0 [])] [(.b 0, intO m), (.s 5 0, .cells ⟨122, 1, fun _ => encPick pick0, 0⟩)]) (fun (⟨k, m⟩ : Nat × Int) => robF l k m = robF l 6 n ∧ (0 ≤ m ∧ m < 6) ∧ ∃ x ∈ l, ∃ j : Nat, j < k ∧ x.go = (m + 1 + j) % 6) (fun (⟨k, m⟩ : Nat × Int) => k) ?_ ?_
 ·refine ⟨⟨6, n⟩, ?_, ?_⟩
  ·obtain ⟨x, hx⟩ := List.exists_mem_of_ne_nil l hl
   have := hg x hx
   refine ⟨rfl, hn, x, hx, ((x.go - n - 1) % 6).toNat, by omega, by omega⟩
  ·refine em [] trivial ⟨⟨rfl, _, rfl, cvt⟩, ⟨rfl, _, rfl, cvt⟩, ⟨rfl, _, rfl, cvt⟩, trivial⟩ ⟨obs rfl, obs rfl, trivial⟩
 ·rintro ⟨k, m⟩ ⟨hr, hm, x, hx, j, hj, hxg⟩
  obtain ⟨k, rfl⟩ : ∃ k', k = k' + 1 := ⟨k - 1, by omega⟩
  have hw : IntKind.i64.wrap (m + 1) = m + 1 := wrap_id (by omega) (by omega)
  have hm2 : 0 ≤ ((m + 1) % 6) ∧ ((m + 1) % 6) < 6 := by omega
  refine bk (sq (rg [] rfl ?_))
  refine sq ?_
  refine WP.ent (st' := mkSt [(1, rowPk l), (2, .ptr (.b 0) 1 0 []), (5, .ptr (.s 5 0) 1 0 [])] [(.b 0, intO ((m + 1) % 6)), (.s 5 0, .cells ⟨122, 1, fun _ => encPick pick0, 0⟩)]) ?_ ?_
  ·refine em [] trivial ⟨⟨rfl, _, rfl, cvt⟩, ⟨rfl, _, rfl, cvt⟩, ⟨rfl, _, rfl, cvt⟩, trivial⟩ ⟨obs rfl (hg := q0 (conv_eq ((congrArg (fun z : Int => AV.int (z.tmod 6)) hw).trans (congrArg AV.int (Int.tmod_eq_emod_of_nonneg (by omega)))))), obs rfl, trivial⟩
  refine rgs [⟨true, [.b 0], .int (fstPk l ((m + 1) % 6)), [intO ((m + 1) % 6)]⟩] rfl ?_ ?_
  ·have hq := robIdx_ac false l ((m + 1) % 6)
   have hk1 : okOs [.b 0] [intO ((m + 1) % 6)] := ⟨fun _ _ => rfl, trivial⟩
   have hk2 : okOs (bs 1) [intO ((m + 1) % 6)] := ⟨fun _ _ => rfl, trivial⟩
   simp only [holdsC, under, CG.pure]
   repeat' with_reducible refine And.intro ?_ ?_
   all_goals (try with_reducible intros)
   all_goals (first | exact trivial | assumption | omega | exact hq | exact hk1 | exact hk2 | (simp; done) | grind)
  refine sq (rg [] rfl ?_)
  refine cd rfl (fun h3 => ?_) (fun h3 => ?_)
  ·have hp : 0 ≤ fstPk l ((m + 1) % 6) := by simpa using h3
   have hpl := fstPk_lt hp
   refine sq (rgs [] rfl ?_ ?_)
   ·have hpl2 : 0 ≤ fstPk l ((m + 1) % 6) ∧ fstPk l ((m + 1) % 6) < (l.length : Int) := by omega
    simp only [holdsC, under, CG.pure]
    repeat' with_reducible refine And.intro ?_ ?_
    all_goals (try with_reducible intros)
    all_goals (first | exact trivial | assumption | omega | exact hpl2 | exact hpl2.1 | exact hpl2.2 | (simp; done) | grind)
   refine WP.ret ?_
   change Fin ..
   have er : robF l 6 n = (l.getD (fstPk l ((m + 1) % 6)).toNat pick0, ((m + 1) % 6)) := by rw [← hr, robF, if_pos hp]
   rw [er]
   refine fin_mk hT [(.s 5 0, 1)] (ts := [(5, .rp 122 (encPick (l.getD (fstPk l ((m + 1) % 6)).toNat pick0))), (6, .bool true)]) (l := [encPick (l.getD (fstPk l ((m + 1) % 6)).toNat pick0), .bool true]) ⟨sF, trivial⟩ ⟨⟨rfl, _, rfl, rpv (hF := by simp [lookF, idbeq_self])⟩, ⟨rfl, _, rfl, cvt⟩, trivial⟩ ⟨obs rfl, trivial⟩ rfl rfl rfl
  ·have hp : ¬ 0 ≤ fstPk l ((m + 1) % 6) := by simpa using h3
   refine sk ?_
   refine ⟨⟨k, ((m + 1) % 6)⟩, ?_, ?_, ?_⟩
   ·rw [robF, if_neg hp] at hr
    refine ⟨hr, hm2, x, hx, ?_⟩
    rcases Nat.eq_zero_or_pos j with h0 | h0
    · exact absurd (fstPk_has hx (by omega)) hp
    · exact ⟨j - 1, by omega, by omega⟩
   ·refine em [] trivial ⟨⟨rfl, _, rfl, cvt⟩, ⟨rfl, _, rfl, cvt⟩, ⟨rfl, _, rfl, cvt⟩, trivial⟩ ⟨obs rfl, obs rfl, trivial⟩
   ·(try simp only []); first | omega | grind
end Go.Ab


/- Schedules: Robin; what is wrong with a program and a budget. -/
set_option autoImplicit false
set_option maxRecDepth 20000
set_option maxHeartbeats 4000000
set_option linter.unusedSimpArgs false
set_option linter.unusedVariables false
namespace Go.Ab
open Go.Proofs
theorem do_ok {p : PProg} {s : PSt} {x : PPick} {n : Int} (h : OkS s) : OkS (doF p s x n).1 := by
  unfold doF
  split
  · exact ok_st0
  split
  · exact ok_st0
  split
  · exact ok_st0
  rename_i hp
  have hp : pickP p s x := by simpa using hp
  have h1 : OkM (actD p s x n).1 := okM_act (okM_mach h hp.1) _ _
  have h2 : OkS (setGo (actD p s x n).1 { ownG (actD p s x n).1 with pc := (actD p s x n).2.1 }).s := h1.s.setGo (x := { ownG (actD p s x n).1 with pc := (actD p s x n).2.1 }) (okGo_at h1.s _)
  show OkS (endF p _ _ _).s
  unfold endF
  split
  · exact h1.s
  split
  · exact settle_ok (settle_ok h2 _ _) _ _
  · exact settle_ok h2 _ _
theorem start_ok {p : PProg} {n : Int} : OkS (startF p n).1 := by
  unfold startF
  split
  · exact ok_st0
  rename_i hr
  split
  · exact ok_st0
  have hp := prog_ok (by simpa using hr)
  have hF : FunP p (funAt p 0) := hp.fn _ (by rw [funAt, List.getD_eq_getElem?_getD, List.getElem?_eq_getElem (show 0 < p.funcs.length by have := hp.funcs; omega)]; exact List.getElem_mem _)
  refine ⟨initTo_len _ _, rfl, rfl, rfl, ok_st0.ch, fun g hg => ?_⟩
  rcases List.mem_cons.1 hg with h1 | h1
  · rw [h1]; exact (setF_ok hF (good0 hp)).1.1
  · exact ok_st0.go g (List.mem_cons_of_mem _ h1)
theorem ready_go {p : PProg} {s : PSt} {x : PPick} (h : x ∈ readyL p s) : x.go ∈ liveL s ∧ x.alt ∈ altL p s x.go ∧ askF p s = 0 := by
  unfold readyL at h
  split at h
  · rename_i ha
    obtain ⟨g, h1, h2⟩ := List.mem_flatMap.1 h
    obtain ⟨a, h3, rfl⟩ := List.mem_map.1 h2
    exact ⟨h1, h3, ha⟩
  · cases h
theorem ready_bd {p : PProg} {s : PSt} {x : PPick} (h : x ∈ readyL p s) : 0 ≤ x.go ∧ x.go < 6 := by
  obtain ⟨j, h1, h2, _⟩ := liveTo_mem.1 (ready_go h).1
  omega
def robRun (p : PProg) (n : Int) : Nat → PSt → Int → List PPick × Int
  | 0, s, m => ([], m)
  | k + 1, s, m => if readyL p s = [] then ([], m) else
    ((robF (readyL p s) 6 m).1 :: (robRun p n k (doF p s (robF (readyL p s) 6 m).1 n).1 (robF (readyL p s) 6 m).2).1, (robRun p n k (doF p s (robF (readyL p s) 6 m).1 n).1 (robF (readyL p s) 6 m).2).2)
theorem ren_pick (σ : Id → Id) (x : PPick) : ren σ (encPick x) = encPick x := agg_ext (fun q => by match q with | 0 | 1 | q + 2 => rfl)
theorem choicesR_ac (p : PProg) (b : PBud) (n : Int) (hn : 0 ≤ n ∧ n < 6) (hb : 0 ≤ b.steps ∧ b.steps ≤ 256) : AC Tryz.prog T tysN 67 [encProg p, encBud b, .clo 173 [.ptr (.b 0) 1 0 []]] [intO n] (rowPk (robRun p b.fuel b.steps.toNat (startF p b.fuel).1 n).1) [intO (robRun p b.fuel b.steps.toNat (startF p b.fuel).1 n).2] := by
 refine AC_intro hT Tryz.func67 rfl rfl (Nat.le_of_ble_eq_true rfl) ?_
 refine sq (rg [] rfl ?_)
 refine sq ?_
 refine WP.ent (st' := mkSt [(2, .clo 173 [.ptr (.b 0) 1 0 []]), (3, .rp 26 (encProg p)), (4, .rp 28 (encBud b))] [(.b 0, intO n)]) ?_ ?_
 ·refine em [(.s 3 0, 1), (.s 4 0, 1)] ⟨sF, sF, trivial⟩ ⟨⟨rfl, _, rfl, cvt⟩, ⟨rfl, _, rfl, rpv⟩, ⟨rfl, _, rfl, rpv⟩, trivial⟩ ⟨obs rfl, trivial⟩
 refine rgs [CG.pure (.tup [encS (startF p b.fuel).1, .int (startF p b.fuel).2])] rfl ?_ ?_
 ·have hq := start_ac p b.fuel
  simp only [holdsC, under, CG.pure]
  repeat' with_reducible refine And.intro ?_ ?_
  all_goals (try with_reducible intros)
  all_goals (first | exact trivial | assumption | omega | exact hq | (simp; done) | grind)
 refine sq (rg [] rfl ?_)
 refine sq (bk ?_)
 refine WP.loop (α := List PPick × PSt × Int) (fun (⟨acc, s, m⟩ : List PPick × PSt × Int) => mkSt [(2, .clo 173 [.ptr (.b 0) 1 0 []]), (3, .rp 26 (encProg p)), (4, .rp 28 (encBud b)), (7, .ptr (.s 7 0) 1 0 []), (9, .own (.s 58 0) acc.length 0 acc.length none)] [(.b 0, intO m), (.s 7 0, .cells ⟨62, 1, fun _ => encS s, 0⟩), (.s 58 0, cellsL 122 encPick pick0 acc)]) (fun (⟨acc, s, m⟩ : List PPick × PSt × Int) => OkS s ∧ (0 ≤ m ∧ m < 6) ∧ acc.length ≤ b.steps.toNat ∧ acc ++ (robRun p b.fuel (b.steps.toNat - acc.length) s m).1 = (robRun p b.fuel b.steps.toNat (startF p b.fuel).1 n).1 ∧ (robRun p b.fuel (b.steps.toNat - acc.length) s m).2 = (robRun p b.fuel b.steps.toNat (startF p b.fuel).1 n).2) (fun (⟨acc, s, m⟩ : List PPick × PSt × Int) => b.steps.toNat - acc.length) ?_ ?_
 ·refine ⟨⟨[], (startF p b.fuel).1, n⟩, ?_, ?_⟩
  ·exact ⟨start_ok, hn, Nat.zero_le _, rfl, rfl⟩
  ·refine em [] trivial ⟨⟨rfl, _, rfl, cvt⟩, ⟨rfl, _, rfl, cvt⟩, ⟨rfl, _, rfl, cvt⟩, ⟨rfl, _, rfl, cvt⟩, ⟨rfl, _, rfl, conv_nil_own⟩, trivial⟩ ⟨obs rfl, obs rfl, ⟨fun _ _ => rfl, .inr ⟨rfl, 122, _, rfl, by decide⟩⟩, trivial⟩
 ·rintro ⟨acc, s, m⟩ ⟨hs, hm, hal, hr1, hr2⟩
  refine sq (sq (rg [] rfl ?_))
  refine cd rfl (fun h3 => ?_) (fun h3 => ?_)
  ·have hlt : acc.length < b.steps.toNat := by simp [-List.getD_eq_getElem?_getD] at h3; omega
   have hk : b.steps.toNat - acc.length = (b.steps.toNat - (acc.length + 1)) + 1 := by omega
   refine sk (bk (sq (rgs [CG.pure (.tup [rowPk (readyL p s), .int (askF p s)])] rfl ?_ ?_)))
   ·have hq := readyS_ac p s hs
    simp only [holdsC, under, CG.pure]
    repeat' with_reducible refine And.intro ?_ ?_
    all_goals (try with_reducible intros)
    all_goals (first | exact trivial | assumption | omega | exact hq | (simp; done) | grind)
   refine sq (sq (rg [] rfl ?_))
   refine cd rfl (fun h5 => ?_) (fun h5 => ?_)
   ·have hz : readyL p s = [] := List.eq_nil_of_length_eq_zero (by simp [-List.getD_eq_getElem?_getD] at h5; simpa using h5)
    refine xt (sq (rg [] rfl ?_))
    refine WP.ret ?_
    change Fin ..
    rw [hk, robRun, if_pos hz] at hr1 hr2
    simp only [List.append_nil] at hr1
    rw [← hr1, ← hr2]
    refine fin_mk hT [(.s 58 0, acc.length)] (ts := [(6, rowPk acc)]) (l := [rowPk acc]) ⟨⟨_, rfl, Nat.le_refl _⟩, trivial⟩ ⟨⟨rfl, _, rfl, ?_⟩, trivial⟩ ⟨obs rfl, trivial⟩ rfl rfl rfl
    exact conv_row rfl rfl rfl (fun h => by cases h) (by simp [lookF, idbeq_self]) (fun q hq => by rw [Nat.zero_add]; exact ⟨rfl, AEq.refl _⟩)
   ·have hz : ¬ readyL p s = [] := fun e => by rw [e] at h5; cases h5
    obtain ⟨r, hr⟩ : ∃ r, robF (readyL p s) 6 m = r := ⟨_, rfl⟩
    have hrb : 0 ≤ r.2 ∧ r.2 < 6 := by rw [← hr]; exact robF_bd _ _ _ hm
    refine sk (sq (rgs [⟨true, [.b 0], .tup [encPick r.1, .bool true], [intO r.2]⟩] rfl ?_ ?_))
    ·have hq := robin1_ac acc.length (readyL p s) m hm hz (fun x hx => ready_bd hx)
     rw [hr] at hq
     have hk1 : okOs [.b 0] [intO m] := ⟨fun _ _ => rfl, trivial⟩
     have hk2 : okOs (bs 1) [intO r.2] := ⟨fun _ _ => rfl, trivial⟩
     simp only [holdsC, under, CG.pure]
     repeat' with_reducible refine And.intro ?_ ?_
     all_goals (try with_reducible intros)
     all_goals (first | exact trivial | assumption | omega | exact hq | exact hk1 | exact hk2 | (simp; done) | grind)
    refine sq (sq (rg [] rfl ?_))
    refine cd rfl (fun h7 => ?_) (fun h7 => ?_)
    ·cases h7
    ·refine sk (sq ?_)
     refine WP.ent (st' := mkSt [(2, .clo 173 [.ptr (.b 0) 1 0 []]), (3, .rp 26 (encProg p)), (4, .rp 28 (encBud b)), (7, .ptr (.s 7 0) 1 0 []), (9, .own (.s 58 0) acc.length 0 acc.length none), (12, .rp 122 (encPick r.1))] [(.b 0, intO r.2), (.s 7 0, .cells ⟨62, 1, fun _ => encS s, 0⟩), (.s 58 0, cellsL 122 encPick pick0 acc)]) ?_ ?_
     ·refine em [(.s 12 0, 1)] ⟨sF, trivial⟩ ⟨⟨rfl, _, rfl, cvt⟩, ⟨rfl, _, rfl, cvt⟩, ⟨rfl, _, rfl, cvt⟩, ⟨rfl, _, rfl, cvt⟩, ⟨rfl, _, rfl, cvt⟩, ⟨rfl, _, rfl, conv_rpe rfl rfl (by decide) rfl (ren_pick _ _) rfl⟩, trivial⟩ ⟨obs rfl, obs rfl, ob_list (okIds_pick _) rfl rfl rfl rfl rfl (fun q hq => rfl), trivial⟩
     refine rgs [CG.pure (.tup [encS (doF p s r.1 b.fuel).1, encE (doF p s r.1 b.fuel).2.1, .int (doF p s r.1 b.fuel).2.2])] rfl ?_ ?_
     ·have hq := do_ac p s r.1 b.fuel hs
      simp only [holdsC, under, CG.pure]
      repeat' with_reducible refine And.intro ?_ ?_
      all_goals (try with_reducible intros)
      all_goals (first | exact trivial | assumption | omega | exact hq | (simp; done) | grind)
     refine rgs [] rfl ?_ ?_
     ·have hbt : (T 122).bytes = 16 := rfl
      simp [holdsC, under, hbt]; omega
     refine ⟨⟨acc ++ [r.1], (doF p s r.1 b.fuel).1, r.2⟩, ?_, ?_, ?_⟩
     ·rw [hk, robRun, if_neg hz, hr] at hr1 hr2
      refine ⟨do_ok hs, hrb, by rw [len_snc]; omega, ?_, ?_⟩
      · rw [← hr1, len_snc, List.append_assoc]; rfl
      · rw [← hr2, len_snc]
     ·refine em [] trivial ⟨⟨rfl, _, rfl, cvt⟩, ⟨rfl, _, rfl, cvt⟩, ⟨rfl, _, rfl, cvt⟩, ⟨rfl, _, rfl, cvt⟩, ⟨rfl, _, rfl, conv_eq (by rw [len_snc])⟩, trivial⟩ ⟨obs rfl, obs rfl, ob_list (okIds_pick _) rfl rfl (by rw [len_snc]) rfl rfl (appL (z := (T 122).zero) rfl rfl (fun q hq => rfl)), trivial⟩
     ·(show b.steps.toNat - (acc ++ [r.1]).length < b.steps.toNat - acc.length; rw [len_snc]; omega)
  ·have hlt : acc.length = b.steps.toNat := by simp [-List.getD_eq_getElem?_getD] at h3; omega
   refine xt (sq (rg [] rfl ?_))
   refine WP.ret ?_
   change Fin ..
   rw [hlt, Nat.sub_self, robRun] at hr1 hr2
   simp only [List.append_nil] at hr1
   rw [← hr1, ← hr2]
   refine fin_mk hT [(.s 58 0, acc.length)] (ts := [(6, rowPk acc)]) (l := [rowPk acc]) ⟨⟨_, rfl, Nat.le_refl _⟩, trivial⟩ ⟨⟨rfl, _, rfl, ?_⟩, trivial⟩ ⟨obs rfl, trivial⟩ rfl rfl rfl
   exact conv_row rfl rfl rfl (fun h => by cases h) (by simp [lookF, idbeq_self]) (fun q hq => by rw [Nat.zero_add]; exact ⟨rfl, AEq.refl _⟩)
def robinF (p : PProg) (b : PBud) : List PPick := if fitsF p 0 b = 0 then (robRun p b.fuel b.steps.toNat (startF p b.fuel).1 5).1 else []
theorem robin_ac (p : PProg) (b : PBud) : AC Tryz.prog T tysN 118 [encProg p, encBud b] [] (.tup [rowPk (robinF p b), .int (fitsF p 0 b)]) [] := by
 refine AC_intro hT Tryz.func118 rfl rfl (Nat.le_of_ble_eq_true rfl) ?_
 refine sq (rg [] rfl ?_)
 refine sq (sq ?_)
 refine WP.ent (st' := mkSt [(2, .rp 26 (encProg p)), (3, .rp 28 (encBud b))] []) (em [(.s 2 0, 1), (.s 3 0, 1)] ⟨sF, sF, trivial⟩ ⟨⟨rfl, _, rfl, rpv⟩, ⟨rfl, _, rfl, rpv⟩, trivial⟩ trivial) ?_
 refine rgs [CG.pure (.int (fitsF p 0 b))] rfl ?_ ?_
 ·have hq := sfit_ac p 0 b
  simp only [holdsC, under, CG.pure]
  repeat' with_reducible refine And.intro ?_ ?_
  all_goals (try with_reducible intros)
  all_goals (first | exact trivial | assumption | omega | exact hq | (simp; done) | grind)
 refine sq (rg [] rfl ?_)
 refine cd rfl (fun h2 => ?_) (fun h2 => ?_)
 ·have hz : fitsF p 0 b ≠ 0 := by simpa using h2
  refine sq (rg [] rfl ?_)
  refine WP.ret ?_
  change Fin ..
  refine fin_mk hT [] (ts := [(4, rowPk (robinF p b)), (5, .int (fitsF p 0 b))]) (l := [rowPk (robinF p b), .int (fitsF p 0 b)]) trivial ⟨⟨rfl, _, rfl, ?_⟩, ⟨rfl, _, rfl, cvt⟩, trivial⟩ trivial rfl rfl rfl
  rw [robinF, if_neg hz]
  exact conv_nil_row (by decide)
 ·have hz : fitsF p 0 b = 0 := by simpa using h2
  have hb := (fits0 hz).2.2
  refine sk (sq (rg [] rfl ?_))
  refine sq ?_
  refine WP.ent (st' := mkSt [(2, .rp 26 (encProg p)), (3, .rp 28 (encBud b)), (7, .ptr (.s 7 0) 1 0 [])] [(.s 7 0, intO 5)]) ?_ ?_
  ·refine em [] trivial ⟨⟨rfl, _, rfl, cvt⟩, ⟨rfl, _, rfl, cvt⟩, ⟨rfl, _, rfl, cvt⟩, trivial⟩ ⟨obs rfl, trivial⟩
  refine rgs [⟨true, [.s 7 0], rowPk (robinF p b), [intO (robRun p b.fuel b.steps.toNat (startF p b.fuel).1 5).2]⟩] rfl ?_ ?_
  ·have hq := choicesR_ac p b 5 (by omega) hb.1
   have e : robinF p b = (robRun p b.fuel b.steps.toNat (startF p b.fuel).1 5).1 := by rw [robinF, if_pos hz]
   rw [← e] at hq
   have hz1 : ren (sig [.s 7 0] 0) (encProg p) = encProg p := ren_prog _ p
   have hz2 : ren (sig [.s 7 0] 0) (encBud b) = encBud b := agg_ext (fun q => by match q with | 0 | 1 | 2 | q + 3 => rfl)
   rw [← hz1, ← hz2] at hq
   have hk1 : okOs [.s 7 0] [intO 5] := ⟨fun _ _ => rfl, trivial⟩
   have hk2 : okOs (bs 1) [intO (robRun p b.fuel b.steps.toNat (startF p b.fuel).1 5).2] := ⟨fun _ _ => rfl, trivial⟩
   simp only [holdsC, under, CG.pure]
   repeat' with_reducible refine And.intro ?_ ?_
   all_goals (try with_reducible intros)
   all_goals (first | exact trivial | assumption | omega | exact hq | exact hk1 | exact hk2 | (simp; done) | grind)
  refine WP.ret ?_
  change Fin ..
  exact fin_mk hT [] (ts := [(4, rowPk (robinF p b)), (5, .int (fitsF p 0 b))]) (l := [rowPk (robinF p b), .int (fitsF p 0 b)]) trivial ⟨⟨rfl, _, rfl, cvt⟩, ⟨rfl, _, rfl, conv_eq (by rw [hz])⟩, trivial⟩ trivial rfl rfl rfl
theorem begun_ac (p : PProg) (b : PBud) : AC Tryz.prog T tysN 98 [encProg p, encBud b] [] (.int (fitsF p 0 b)) [] := by
 refine AC_intro hT Tryz.func98 rfl rfl (Nat.le_of_ble_eq_true rfl) ?_
 refine sq (rg [] rfl ?_)
 refine sq (rgs [CG.pure (.tup [rowPk (robinF p b), .int (fitsF p 0 b)])] rfl ?_ ?_)
 ·have hq := robin_ac p b
  simp only [holdsC, under, CG.pure]
  repeat' with_reducible refine And.intro ?_ ?_
  all_goals (try with_reducible intros)
  all_goals (first | exact trivial | assumption | omega | exact hq | (simp; done) | grind)
 refine sq (rg [] rfl ?_)
 refine WP.ret ?_
 change Fin ..
 exact finI hT (by rfl) rfl
end Go.Ab


/- The tree of runs: slices of picks; a run is noted. -/
set_option autoImplicit false
set_option maxRecDepth 20000
set_option maxHeartbeats 4000000
set_option linter.unusedSimpArgs false
set_option linter.unusedVariables false
namespace Go.Ab
open Go.Proofs
theorem clonewPk_ac (f : Bool) (l : List PPick) (n : Nat) (h1 : n + 1 < 4294967296) : AC Tryz.prog T tysN 100 [.row 122 f (n + 1) (fun i => encPick (l.getD i pick0))] [] (.own (.b 0) (n + 1) 0 (n + 1) none) [.cells ⟨122, n + 1, fun i => encPick (l.getD i pick0), 0⟩] := by
 refine AC_intro hT Tryz.func100 rfl rfl (Nat.le_of_ble_eq_true rfl) ?_
 refine sq (rg [] rfl ?_)
 refine sq (sq (rg [] rfl ?_))
 refine cd rfl (fun h1 => ?_) (fun h1 => ?_)
 ·cases h1
 ·refine sk (sq (rgs [] rfl ?_ ?_))
  ·have hbt : (T 122).bytes = 16 := rfl
   simp [holdsC, under, hbt]
   omega
  refine WP.ret ?_
  change Fin ..
  refine fin_toB hT [] [.s 7 0] (ts := [(2, .own (.b 0) (n + 1) 0 (n + 1) none)]) (l := [.own (.b 0) (n + 1) 0 (n + 1) none]) trivial rfl ⟨⟨_, .own (.s 7 0) (n + 1) 0 (n + 1) none, rfl, conv_eq (by simp), rfl, rfl⟩, trivial⟩ ⟨.inl ⟨_, .cells ⟨122, n + 1, fun i => encPick (l.getD i pick0), 0⟩, rfl, ⟨fun i => encPick (l.getD i pick0), 0, ?_, Nat.le_refl _, Nat.zero_le _, Nat.zero_le _, fun i hi => conv_eq ?_⟩, fun _ _ => rfl, ?_⟩, trivial⟩ rfl rfl
  · simp
  · exact (joinG_ge (Nat.zero_le _) hi).trans rfl
  · show Ob.cells ⟨122, n + 1, fun i => encPick (l.getD i pick0), 0⟩ = Ob.cells ⟨122, n + 1, fun i => ren _ (encPick (l.getD i pick0)), 0⟩
    simp only [ren_pick]
theorem clone0Pk_ac (f : Bool) : AC Tryz.prog T tysN 100 [.row 122 f 0 (fun i => encPick (([] : List PPick).getD i pick0))] [] (.own (.b 0) 0 0 0 none) [cellsL 122 encPick pick0 []] := by
  refine AC_intro hT Tryz.func100 rfl rfl (Nat.le_of_ble_eq_true rfl) ?_
  refine sq (rg [] rfl ?_)
  refine sq (sq ?_)
  refine WP.nilreg (l := [_]) (gs := []) hT hE rfl rfl trivial rfl rfl rfl rfl rfl rfl (fun b => ?_)
  refine cd rfl (fun h1 => ?_) (fun h1 => ?_)
  · refine sq (rg [] rfl ?_)
    refine WP.ret ?_
    change Fin ..
    exact fin_toB hT [] [.s 7 0] (ts := [(2, .own (.b 0) 0 0 0 none)]) (l := [.own (.b 0) 0 0 0 none]) trivial rfl ⟨⟨_, .own (.s 7 0) 0 0 0 none, rfl, conv_nils, rfl, rfl⟩, trivial⟩ ⟨.inr ⟨rfl, 122, _, rfl, Nat.lt_of_lt_of_eq (by decide) (show 2 = (T 122).size from rfl)⟩, trivial⟩ rfl rfl
  · refine sk (sq (rgs [CG.mine, CG.nop] rfl ?_ ?_))
    · simp [holdsC, under]
    refine WP.ret ?_
    change Fin ..
    exact fin_toB hT [] [.s 5 0] (ts := [(2, .own (.b 0) 0 0 0 none)]) (l := [.own (.b 0) 0 0 0 none]) trivial rfl ⟨⟨_, .own (.s 5 0) 0 0 0 none, rfl, conv_eq rfl, rfl, rfl⟩, trivial⟩ ⟨.inl ⟨_, cellsL 122 encPick pick0 [], rfl, ⟨_, _, rfl, Nat.le_refl _, Nat.zero_le _, Nat.zero_le _, fun i hi => absurd hi (Nat.not_lt_zero _)⟩, fun _ _ => rfl, (renO_list (ren_pick _)).symm⟩, trivial⟩ rfl rfl
theorem clonePk_ac (l : List PPick) (h1 : l.length < 4294967296) : AC Tryz.prog T tysN 100 [rowPk l] [] (rowPk l) [] := by
  have h : AC Tryz.prog T tysN 100 [rowPk l] [] (.own (.b 0) l.length 0 l.length none) [cellsL 122 encPick pick0 l] := by
    cases l with
    | nil => exact clone0Pk_ac false
    | cons a r => exact clonewPk_ac false (a :: r) r.length (by simpa using h1)
  exact AC.ent h (Ent.mk (ms := []) (ts := [(0, rowPk l)]) hT [(.b 0, l.length)] ⟨⟨_, rfl, Nat.le_refl _⟩, trivial⟩ ⟨⟨rfl, _, rfl, conv_row rfl rfl rfl (fun h => by cases h) (by simp [lookF, idbeq_self]) (fun j hj => by rw [Nat.zero_add]; exact ⟨rfl, AEq.refl _⟩)⟩, trivial⟩ trivial rfl)
theorem clipPk_ac (l : List PPick) : AC Tryz.prog T tysN 144 [rowPk l] [] (.row 122 true l.length (fun i => encPick (l.getD i pick0))) [] := by
 refine AC_intro hT Tryz.func144 rfl rfl (Nat.le_of_ble_eq_true rfl) ?_
 refine sq (rg [] rfl ?_)
 refine sq (rg [] rfl ?_)
 refine WP.ret ?_
 change Fin ..
 refine fin_mk hT [] (ts := [(2, .row 122 true l.length (fun i => encPick (l.getD i pick0)))]) (l := [.row 122 true l.length (fun i => encPick (l.getD i pick0))]) trivial ⟨⟨rfl, _, rfl, ?_⟩, trivial⟩ trivial rfl rfl rfl
 refine conv_eq ?_
 simp [fullS, slB]
structure PRun where
  picks : List PPick
  cut : Bool
  rep : Bool
  deriving DecidableEq
def run0 : PRun := ⟨[], false, false⟩
def encRun (x : PRun) : AV := stru 45 [rowPk x.picks, .bool x.cut, .bool x.rep]
theorem okIds_run (ids : List Id) (x : PRun) : okIds ids (encRun x) = true := rfl
def foundA (n m : Nat) (i j : Id) : AV := stru 105 [.own i n 0 n none, .own j m 0 m none]
def foundO (n m : Nat) (i j : Id) : Ob := .cells ⟨105, 1, fun _ => foundA n m i j, 0⟩
abbrev runsO (l : List PRun) : Ob := cellsL 45 encRun run0 l
abbrev endsO (l : List PSt) : Ob := cellsL 62 encS st0 l
def tellB (b : PBud) (L : List PRun) : Bool := decide ((L.length : Int) < b.runs)
def tellR (b : PBud) (L : List PRun) (x : PRun) : List PRun := if tellB b L then L ++ [x] else L
def tellE (b : PBud) (L : List PRun) (E : List PSt) (s : PSt) : List PSt := if tellB b L then E ++ [s] else E
theorem told_ac (b : PBud) (hb : budP b) (L : List PRun) (E : List PSt) (hE : E.length = L.length) (picks : List PPick) (hp : picks.length ≤ 256) (s : PSt) (cut : Bool) : AC Tryz.prog T tysN 99 [rowPk picks, encS s, .bool cut, .ptr (.b 0) 1 0 [], .rp 28 (encBud b)] [foundO L.length E.length (.b 1) (.b 2), runsO L, endsO E] (.bool (tellB b L)) [foundO (tellR b L ⟨picks, cut, false⟩).length (tellE b L E s).length (.b 1) (.b 2), runsO (tellR b L ⟨picks, cut, false⟩), endsO (tellE b L E s)] := by
 refine AC_intro hT Tryz.func99 rfl rfl (Nat.le_of_ble_eq_true rfl) ?_
 obtain ⟨_, _, hb3, hb4⟩ := hb
 refine sq (rg [] rfl ?_)
 refine sq (sq ?_)
 refine WP.ent (st' := mkSt [(0, rowPk picks), (2, .bool cut), (3, .ptr (.b 0) 1 0 []), (4, .rp 28 (encBud b)), (6, .rp 62 (encS s)), (8, .bool false)] [(.b 0, foundO L.length E.length (.b 1) (.b 2)), (.b 1, runsO L), (.b 2, endsO E)]) ?_ ?_
 ·refine em [(.s 6 0, 1)] ⟨sF, trivial⟩ ⟨⟨rfl, _, rfl, cvt⟩, ⟨rfl, _, rfl, cvt⟩, ⟨rfl, _, rfl, cvt⟩, ⟨rfl, _, rfl, cvt⟩, ⟨rfl, _, rfl, rpv⟩, ⟨rfl, _, rfl, cvt⟩, trivial⟩ ⟨obs rfl, obs rfl, obs rfl, trivial⟩
 refine rg [] rfl ?_
 refine cd rfl (fun h1 => ?_) (fun h1 => ?_)
 ·have ht : tellB b L = false := by simp [-List.getD_eq_getElem?_getD, tellB] at h1 ⊢; omega
  refine sq (rg [] rfl ?_)
  refine WP.ret ?_
  change Fin ..
  rw [show tellR b L ⟨picks, cut, false⟩ = L by rw [tellR, ht]; rfl, show tellE b L E s = E by rw [tellE, ht]; rfl, ht]
  refine fin_mk hT [] (ts := [(8, .bool false)]) (l := [.bool false]) trivial ⟨⟨rfl, _, rfl, cvt⟩, trivial⟩ ⟨obs rfl, obs rfl, obs rfl, trivial⟩ rfl rfl rfl
 ·have ht : tellB b L = true := by simp [-List.getD_eq_getElem?_getD, tellB] at h1 ⊢; omega
  have hl : (L.length : Int) < b.runs := by simpa [tellB] using ht
  refine sk (sq (drs [CG.pure (rowPk picks)] rfl ?_ ?_))
  ·have hq := clonePk_ac picks (by omega)
   have hbt : (T 45).bytes = 32 := rfl
   simp only [holdsC, under, CG.pure]
   repeat' with_reducible refine And.intro ?_ ?_
   all_goals (try with_reducible intros)
   all_goals (first | exact trivial | assumption | omega | exact hq | exact hbt | (simp; done) | grind)
  refine sq (rgs [] rfl ?_ ?_)
  ·have hbs : (T 62).bytes ≤ 1024 := by decide
   have hm : (E.length + 1) * (T 62).bytes ≤ (E.length + 1) * 1024 := Nat.mul_le_mul_left _ hbs
   simp only [holdsC, under, CG.pure]
   repeat' with_reducible refine And.intro ?_ ?_
   all_goals (try with_reducible intros)
   all_goals (first | exact trivial | assumption | omega | exact hm | (simp; done) | grind)
  refine sq (rg [] rfl ?_)
  refine WP.ret ?_
  change Fin ..
  have e1 : tellR b L ⟨picks, cut, false⟩ = L ++ [⟨picks, cut, false⟩] := by rw [tellR, if_pos ht]
  have e2 : tellE b L E s = E ++ [s] := by rw [tellE, if_pos ht]
  rw [e1, e2, ht]
  refine fin_mk hT [] (ts := [(8, .bool true)]) (l := [.bool true]) trivial ⟨⟨rfl, _, rfl, cvt⟩, trivial⟩ ⟨obs rfl (hg := q0 (conv_eq ?_)), ob_list (okIds_run _) rfl rfl (by rw [len_snc]) rfl rfl (appL (z := (T 45).zero) rfl (agg_ext fun q => by match q with | 0 | 1 | 2 | q + 3 => rfl) (fun q hq => rfl)), ob_list (okIds_S _) rfl rfl (by rw [len_snc]) rfl rfl (appL (z := (T 62).zero) rfl rfl (fun q hq => rfl)), trivial⟩ rfl rfl rfl
  rw [len_snc, len_snc]
  exact agg_ext fun q => by match q with | 0 | 1 | q + 2 => rfl
end Go.Ab


/- The tree of runs: on. -/
set_option autoImplicit false
set_option maxRecDepth 20000
set_option maxHeartbeats 4000000
set_option linter.unusedSimpArgs false
set_option linter.unusedVariables false
namespace Go.Ab
open Go.Proofs
structure TS where
  runs : List PRun
  ends : List PSt
  spun : Bool
  short : Bool
  over : Bool
def encX (p : PProg) (b : PBud) (t : TS) : AV := stru 206 [encProg p, encBud b, .clo 99 [.ptr (.b 1) 1 0 [], .rp 28 (encBud b)], .bool t.spun, .bool t.short, .bool t.over]
abbrev xO (p : PProg) (b : PBud) (t : TS) : Ob := .cells ⟨206, 1, fun _ => encX p b t, 0⟩
abbrev fO (t : TS) : Ob := foundO t.runs.length t.ends.length (.b 2) (.b 3)
theorem ren_bud (σ : Id → Id) (b : PBud) : ren σ (encBud b) = encBud b := agg_ext (fun q => by match q with | 0 | 1 | 2 | q + 3 => rfl)
theorem ren_run (σ : Id → Id) (x : PRun) : ren σ (encRun x) = encRun x := agg_ext (fun q => by match q with | 0 | 1 | 2 | q + 3 => rfl)
theorem ren_X {σ : Id → Id} (h1 : σ (.b 1) = .b 1) (p : PProg) (b : PBud) (t : TS) : ren σ (encX p b t) = encX p b t := agg_ext (fun q => by
  match q with
  | 0 => exact ren_prog σ p
  | 1 => exact ren_bud σ b
  | 2 => show AV.clo _ [.ptr (σ (.b 1)) 1 0 [], .rp _ (encBud b)] = _; rw [h1]; rfl
  | 3 | 4 | 5 | q + 6 => rfl)
theorem renO_X {σ : Id → Id} (h1 : σ (.b 1) = .b 1) (p : PProg) (b : PBud) (t : TS) : renO σ (xO p b t) = xO p b t := by
  show Ob.cells ⟨_, _, fun _ => ren σ (encX p b t), _⟩ = _
  rw [ren_X h1]
theorem ren_found {σ : Id → Id} {n m : Nat} {i j i' j' : Id} (h1 : σ i = i') (h2 : σ j = j') : ren σ (foundA n m i j) = foundA n m i' j' := agg_ext (fun q => by
  match q with
  | 0 => show AV.own (σ i) n 0 n none = _; rw [h1]; rfl
  | 1 => show AV.own (σ j) m 0 m none = _; rw [h2]; rfl
  | q + 2 => rfl)
theorem renO_found {σ : Id → Id} {n m : Nat} {i j i' j' : Id} (h1 : σ i = i') (h2 : σ j = j') : renO σ (foundO n m i j) = foundO n m i' j' := by
  show Ob.cells ⟨_, _, fun _ => ren σ (foundA n m i j), _⟩ = _
  rw [ren_found h1 h2]; rfl
theorem putX_spun (p : PProg) (b : PBud) (t : TS) (x : Bool) : (encX p b t).put [3] (.bool x) = encX p b { t with spun := x } := stru_put (Nat.le_of_ble_eq_true rfl)
theorem putX_short (p : PProg) (b : PBud) (t : TS) (x : Bool) : (encX p b t).put [4] (.bool x) = encX p b { t with short := x } := stru_put (Nat.le_of_ble_eq_true rfl)
theorem putX_over (p : PProg) (b : PBud) (t : TS) (x : Bool) : (encX p b t).put [5] (.bool x) = encX p b { t with over := x } := stru_put (Nat.le_of_ble_eq_true rfl)
def spunTo (z : Bool) (s : PSt) : Nat → Bool
  | 0 => z
  | k + 1 => spunTo z s k || (s.gos.getD k go0).status == 5
abbrev spinT (t : TS) (s : PSt) (k : Nat) : TS := { t with spun := spunTo t.spun s k }
def leafF (b : PBud) (s : PSt) (picks : List PPick) (cut : Bool) (t : TS) : TS :=
  if tellB b t.runs = false then { t with over := true } else { t with runs := t.runs ++ [⟨picks, cut, false⟩], ends := t.ends ++ [s], short := t.short || cut }
def onF (p : PProg) (b : PBud) : Nat → PSt → List PPick → TS → TS
  | 0, s, picks, t => leafF b s picks (!(readyL p s).isEmpty) (spinT t s 6)
  | k + 1, s, picks, t => if readyL p s = [] then leafF b s picks false (spinT t s 6) else
    (readyL p s).foldl (fun t x => if t.over = true then t else onF p b k (doF p s x b.fuel).1 (picks ++ [x]) t) (spinT t s 6)
abbrev rndX (p : PProg) (b : PBud) (k : Nat) (s : PSt) (picks : List PPick) (t : TS) (x : PPick) : TS := if t.over = true then t else onF p b k (doF p s x b.fuel).1 (picks ++ [x]) t
theorem leaf_even {b : PBud} {s : PSt} {picks : List PPick} {c : Bool} {t : TS} (h : t.ends.length = t.runs.length) : (leafF b s picks c t).ends.length = (leafF b s picks c t).runs.length := by
  unfold leafF
  split
  · exact h
  · simp [h]
theorem fold_inv {α β : Type} {f : β → α → β} {P : β → Prop} (h : ∀ b a, P b → P (f b a)) : ∀ (l : List α) (b : β), P b → P (l.foldl f b)
  | [], _, hb => hb
  | a :: r, b, hb => fold_inv h r _ (h b a hb)
theorem on_even {p : PProg} {b : PBud} : ∀ (k : Nat) (s : PSt) (picks : List PPick) (t : TS), t.ends.length = t.runs.length → (onF p b k s picks t).ends.length = (onF p b k s picks t).runs.length
  | 0, s, picks, t, h => leaf_even h
  | k + 1, s, picks, t, h => by
    rw [onF]
    split
    · exact leaf_even h
    · refine fold_inv (P := fun t : TS => t.ends.length = t.runs.length) (fun t x ht => ?_) _ _ h
      show (rndX p b k s picks t x).ends.length = (rndX p b k s picks t x).runs.length
      unfold rndX
      split
      · exact ht
      · exact on_even k _ _ _ ht
theorem fold_over {p : PProg} {b : PBud} {k : Nat} {s : PSt} {picks : List PPick} : ∀ (l : List PPick) (t : TS), t.over = true → l.foldl (rndX p b k s picks) t = t
  | [], _, _ => rfl
  | x :: r, t, h => by
    have e : rndX p b k s picks t x = t := if_pos h
    rw [List.foldl_cons, e]; exact fold_over r t h
theorem told_acR (b : PBud) (hb : budP b) (t : TS) (hE : t.ends.length = t.runs.length) (picks : List PPick) (hp : picks.length ≤ 256) (s : PSt) (cut : Bool) : AC Tryz.prog T tysN 99 [rowPk picks, ren (sig [.b 1, .b 2, .b 3] 0) (encS s), .bool cut, .ptr (.b 0) 1 0 [], .rp 28 (encBud b)] [renO (sig [.b 1, .b 2, .b 3] 0) (fO t), renO (sig [.b 1, .b 2, .b 3] 0) (runsO t.runs), renO (sig [.b 1, .b 2, .b 3] 0) (endsO t.ends)] (.bool (tellB b t.runs)) [foundO (tellR b t.runs ⟨picks, cut, false⟩).length (tellE b t.runs t.ends s).length (.b 1) (.b 2), runsO (tellR b t.runs ⟨picks, cut, false⟩), endsO (tellE b t.runs t.ends s)] := by
  rw [ren_S, renO_found (i' := .b 1) (j' := .b 2) rfl rfl, renO_list (ren_run _), renO_list (ren_S _)]
  exact told_ac b hb t.runs t.ends hE picks hp s cut
theorem on_leaf {p : PProg} {b : PBud} {k : Nat} {s : PSt} {picks : List PPick} {t : TS} (h : readyL p s = [] ∨ k = 0) : onF p b k s picks t = leafF b s picks (!(readyL p s).isEmpty) (spinT t s 6) := by
  cases k with
  | zero => rfl
  | succ k =>
    have hz : readyL p s = [] := h.resolve_right (by omega)
    rw [onF, if_pos hz, hz]; rfl
theorem on_fold {p : PProg} {b : PBud} {k : Nat} {s : PSt} {picks : List PPick} {t : TS} (h : readyL p s ≠ []) : onF p b (k + 1) s picks t = (readyL p s).foldl (rndX p b k s picks) (spinT t s 6) := by
  rw [onF, if_neg h]
theorem renO_fO {σ : Id → Id} (h2 : σ (.b 2) = .b 2) (h3 : σ (.b 3) = .b 3) (t : TS) : renO σ (fO t) = fO t := renO_found h2 h3
abbrev onIH (p : PProg) (b : PBud) (k : Nat) : Prop := ∀ (s : PSt) (picks : List PPick) (t : TS), picks.length + k = b.steps.toNat → OkS s → t.ends.length = t.runs.length → AC Tryz.prog T tysN 102 [.ptr (.b 0) 1 0 [], encS s, rowPk picks] [xO p b t, fO t, runsO t.runs, endsO t.ends] (.tup []) [xO p b (onF p b k s picks t), fO (onF p b k s picks t), runsO (onF p b k s picks t).runs, endsO (onF p b k s picks t).ends]
theorem okOs_f {ids : List Id} {n m : Nat} {i j : Id} {L : List PRun} {E : List PSt} (h : okIds ids (foundA n m i j) = true) : okOs ids [foundO n m i j, runsO L, endsO E] := ⟨fun _ _ => h, fun _ _ => rfl, fun _ _ => rfl, trivial⟩
theorem on_acR {p : PProg} {b : PBud} {k : Nat} (ih : onIH p b k) (s : PSt) (picks : List PPick) (t : TS) (h1 : picks.length + k = b.steps.toNat) (h2 : OkS s) (h3 : t.ends.length = t.runs.length) : AC Tryz.prog T tysN 102 [.ptr (.b 0) 1 0 [], ren (sig [.b 0, .b 1, .b 2, .b 3] 0) (encS s), rowPk picks] [renO (sig [.b 0, .b 1, .b 2, .b 3] 0) (xO p b t), renO (sig [.b 0, .b 1, .b 2, .b 3] 0) (fO t), renO (sig [.b 0, .b 1, .b 2, .b 3] 0) (runsO t.runs), renO (sig [.b 0, .b 1, .b 2, .b 3] 0) (endsO t.ends)] (.tup []) [xO p b (onF p b k s picks t), fO (onF p b k s picks t), runsO (onF p b k s picks t).runs, endsO (onF p b k s picks t).ends] := by
  rw [ren_S, renO_X rfl, renO_fO rfl rfl, renO_list (ren_run _), renO_list (ren_S _)]
  exact ih s picks t h1 h2 h3
theorem app_pk (l : List PPick) (x : PPick) (j : Nat) (hj : j < l.length + 1) {g : Nat → AV} (hg : g 0 = encPick x) : joinG l.length 1 (fun i => encPick (l.getD i pick0)) g j = encPick ((l ++ [x]).getD j pick0) := by
  show (bif Nat.beq j l.length then g 0 else encPick (l.getD j pick0)) = _
  cases hz : Nat.beq j l.length with
  | true =>
    have := Nat.eq_of_beq_eq_true hz
    subst this
    simp [List.getD_eq_getElem?_getD, hg]
  | false =>
    have hne : j ≠ l.length := fun e => by subst e; simp at hz
    simp only [cond_false]
    simp only [List.getD_eq_getElem?_getD, List.getElem?_append_left (show j < l.length by omega)]
theorem okOs_x {ids : List Id} {p : PProg} {b : PBud} {t : TS} {n m : Nat} {i j : Id} {L : List PRun} {E : List PSt} (h : okIds ids (foundA n m i j) = true) (h2 : okIds ids (encX p b t) = true) : okOs ids [xO p b t, foundO n m i j, runsO L, endsO E] := ⟨fun _ _ => h2, fun _ _ => h, fun _ _ => rfl, fun _ _ => rfl, trivial⟩
theorem on_acS {p : PProg} {b : PBud} {k : Nat} (ih : onIH p b k) (s : PSt) (picks : List PPick) (x : PPick) (t : TS) (h1 : picks.length + 1 + k = b.steps.toNat) (h2 : OkS s) (h3 : t.ends.length = t.runs.length) {n : Nat} {f : Bool} {g : Nat → AV} (hn : n = picks.length + 1) (hg : ∀ j, j < picks.length + 1 → g j = encPick ((picks ++ [x]).getD j pick0)) : AC Tryz.prog T tysN 102 [.ptr (.b 0) 1 0 [], ren (sig [.b 0, .b 1, .b 2, .b 3] 0) (encS s), .row 122 f n g] [renO (sig [.b 0, .b 1, .b 2, .b 3] 0) (xO p b t), renO (sig [.b 0, .b 1, .b 2, .b 3] 0) (fO t), renO (sig [.b 0, .b 1, .b 2, .b 3] 0) (runsO t.runs), renO (sig [.b 0, .b 1, .b 2, .b 3] 0) (endsO t.ends)] (.tup []) [xO p b (onF p b k s (picks ++ [x]) t), fO (onF p b k s (picks ++ [x]) t), runsO (onF p b k s (picks ++ [x]) t).runs, endsO (onF p b k s (picks ++ [x]) t).ends] := by
  subst hn
  refine AC.args hT (on_acR ih s (picks ++ [x]) t (by rw [len_snc]; exact h1) h2 h3) rfl (fun i a c ha hc => ?_)
  match i, ha, hc with
  | 0, ha, hc => cases ha; cases hc; exact conv_eq rfl
  | 1, ha, hc => cases ha; cases hc; exact conv_eq rfl
  | 2, ha, hc =>
    cases ha; cases hc
    have e : rowPk (picks ++ [x]) = .row 122 false (picks.length + 1) (fun i => encPick ((picks ++ [x]).getD i pick0)) := by rw [← len_snc picks x]; rfl
    rw [e]
    exact conv_rowL (fun h => by cases h) hg
theorem on_step (p : PProg) (b : PBud) (hb : budP b) (k : Nat) (ih : ∀ k', k = k' + 1 → onIH p b k') (s : PSt) (picks : List PPick) (t : TS) (hk : picks.length + k = b.steps.toNat) (hs : OkS s) (ht : t.ends.length = t.runs.length) : AC Tryz.prog T tysN 102 [.ptr (.b 0) 1 0 [], encS s, rowPk picks] [xO p b t, fO t, runsO t.runs, endsO t.ends] (.tup []) [xO p b (onF p b k s picks t), fO (onF p b k s picks t), runsO (onF p b k s picks t).runs, endsO (onF p b k s picks t).ends] := by
 refine AC_intro hT Tryz.func102 rfl rfl (Nat.le_of_ble_eq_true rfl) ?_
 have hb1 := hb.1
 refine sq (rg [] rfl ?_)
 refine sq (sq ?_)
 refine WP.ent (st' := mkSt [(0, .ptr (.b 0) 1 0 []), (2, rowPk picks), (4, .rp 62 (encS s))] [(.b 0, xO p b t), (.b 1, fO t), (.b 2, runsO t.runs), (.b 3, endsO t.ends)]) ?_ ?_
 ·refine em [(.s 4 0, 1)] ⟨sF, trivial⟩ ⟨⟨rfl, _, rfl, cvt⟩, ⟨rfl, _, rfl, cvt⟩, ⟨rfl, _, rfl, rpv⟩, trivial⟩ ⟨obs rfl, obs rfl, obs rfl, obs rfl, trivial⟩
 refine rg [] rfl ?_
 refine bk ?_
 refine WP.loop (α := Nat) (fun i => mkSt [(0, .ptr (.b 0) 1 0 []), (2, rowPk picks), (4, .rp 62 (encS s)), (17, aggL 60 6 encGo go0 s.gos), (18, .int i)] [(.b 0, xO p b (spinT t s i)), (.b 1, fO t), (.b 2, runsO t.runs), (.b 3, endsO t.ends)]) (fun i => i ≤ 6) (fun i => 6 - i) ?_ ?_
 ·refine ⟨0, ?_, ?_⟩
  ·omega
  ·refine em [] trivial ⟨⟨rfl, _, rfl, cvt⟩, ⟨rfl, _, rfl, cvt⟩, ⟨rfl, _, rfl, cvt⟩, ⟨rfl, _, rfl, cvt⟩, ⟨rfl, _, rfl, cvt⟩, trivial⟩ ⟨obs rfl, obs rfl, obs rfl, obs rfl, trivial⟩
 ·rintro i hi
  refine sq (rg [] rfl ?_)
  refine sq ?_
  refine cd rfl (fun h2 => ?_) (fun h2 => ?_)
  ·have hil : i < 6 := by simp [-List.getD_eq_getElem?_getD] at h2; omega
   refine sk (sq (bk (sq (rgs [] rfl ?_ ?_))))
   ·simp [-List.getD_eq_getElem?_getD, holdsC, under]; omega
   refine rg [] rfl ?_
   refine rg [] rfl ?_
   refine ⟨i + 1, ?_, ?_, ?_⟩
   ·omega
   ·refine em [] trivial ⟨⟨rfl, _, rfl, cvt⟩, ⟨rfl, _, rfl, cvt⟩, ⟨rfl, _, rfl, cvt⟩, ⟨rfl, _, rfl, cvt⟩, ⟨rfl, _, rfl, cvt⟩, trivial⟩ ⟨obs rfl (hg := q0 (conv_eq ((putX_spun p b (spinT t s i) _).trans (by rfl)))), obs rfl, obs rfl, obs rfl, trivial⟩
   ·(try simp only []); first | omega | grind
  ·have hil : i = 6 := by simp [-List.getD_eq_getElem?_getD] at h2; omega
   subst hil
   refine xt (sq (drs [CG.pure (.tup [rowPk (readyL p s), .int (askF p s)])] rfl ?_ ?_))
   ·clear ih
    have hq := readyS_ac p s hs
    simp only [holdsC, under, CG.pure]
    repeat' with_reducible refine And.intro ?_ ?_
    all_goals (try with_reducible intros)
    all_goals (first | exact trivial | assumption | omega | exact hq | (simp; done) | grind)
   refine sq (sq (rg [] rfl ?_))
   refine cd rfl (fun h7 => ?_) (fun h7 => ?_)
   ·have hz : readyL p s = [] ∨ k = 0 := by
      rcases Nat.eq_zero_or_pos (readyL p s).length with h8 | h8
      · exact .inl (List.eq_nil_of_length_eq_zero h8)
      · refine .inr ?_
        rw [show (((readyL p s).length : Int) == 0) = false from beq_eq_false_iff_ne.2 (by omega)] at h7
        have h9 : (picks.length : Int) = b.steps := by simpa using h7
        omega
    rw [on_leaf hz]
    refine sq (rg [] rfl ?_)
    refine sq (sq ?_)
    refine WP.ent (st' := mkSt [(0, .ptr (.b 0) 1 0 []), (2, rowPk picks), (4, .rp 62 (encS s)), (10, .bool (!(readyL p s).isEmpty))] [(.b 0, xO p b (spinT t s 6)), (.b 1, fO t), (.b 2, runsO t.runs), (.b 3, endsO t.ends)]) ?_ ?_
    ·refine em [] trivial ⟨⟨rfl, _, rfl, cvt⟩, ⟨rfl, _, rfl, cvt⟩, ⟨rfl, _, rfl, cvt⟩, ⟨rfl, _, rfl, conv_eq (by cases (readyL p s) <;> simp)⟩, trivial⟩ ⟨obs rfl, obs rfl, obs rfl, obs rfl, trivial⟩
    refine drs [⟨true, [.b 1, .b 2, .b 3], .bool (tellB b t.runs), [foundO (tellR b t.runs ⟨picks, !(readyL p s).isEmpty, false⟩).length (tellE b t.runs t.ends s).length (.b 1) (.b 2), runsO (tellR b t.runs ⟨picks, !(readyL p s).isEmpty, false⟩), endsO (tellE b t.runs t.ends s)]⟩] rfl ?_ ?_
    ·clear ih
     have hq := told_acR b hb t ht picks (by omega) s (!(readyL p s).isEmpty)
     have hk1 : okOs [.b 1, .b 2, .b 3] [fO t, runsO t.runs, endsO t.ends] := okOs_f rfl
     have hk2 : okOs (bs 3) [foundO (tellR b t.runs ⟨picks, !(readyL p s).isEmpty, false⟩).length (tellE b t.runs t.ends s).length (.b 1) (.b 2), runsO (tellR b t.runs ⟨picks, !(readyL p s).isEmpty, false⟩), endsO (tellE b t.runs t.ends s)] := okOs_f rfl
     simp only [holdsC, under, CG.pure]
     repeat' with_reducible refine And.intro ?_ ?_
     all_goals (try with_reducible intros)
     all_goals (first | exact trivial | assumption | omega | exact hq | exact hk1 | exact hk2 | (simp; done) | grind)
    refine cd rfl (fun h9 => ?_) (fun h9 => ?_)
    ·have hb0 : tellB b t.runs = false := by simpa using h9
     have e1 : ∀ x, tellR b t.runs x = t.runs := fun x => by rw [tellR, hb0]; rfl
     have e2 : tellE b t.runs t.ends s = t.ends := by rw [tellE, hb0]; rfl
     refine sq (rg [] rfl ?_)
     refine WP.ret ?_
     change Fin ..
     rw [show leafF b s picks (!(readyL p s).isEmpty) (spinT t s 6) = { spinT t s 6 with over := true } by rw [leafF, if_pos hb0]]
     simp only [e1, e2]
     exact fin_mk hT [] (ts := []) (l := []) trivial trivial ⟨obs rfl (hg := q0 (conv_eq (putX_over p b (spinT t s 6) true))), obs rfl (hg := q0 (conv_eq (ren_found rfl rfl))), obs rfl (hg := fun q hq => conv_eq (ren_run _ _)), obs rfl (hg := fun q hq => conv_eq (ren_S _ _)), trivial⟩ rfl rfl rfl
    ·have hb0 : tellB b t.runs = true := by simpa using h9
     have e1 : ∀ x, tellR b t.runs x = t.runs ++ [x] := fun x => by rw [tellR, if_pos hb0]
     have e2 : tellE b t.runs t.ends s = t.ends ++ [s] := by rw [tellE, if_pos hb0]
     refine sk (sq (rg [] rfl ?_))
     refine WP.ret ?_
     change Fin ..
     rw [show leafF b s picks (!(readyL p s).isEmpty) (spinT t s 6) = { spinT t s 6 with runs := t.runs ++ [⟨picks, !(readyL p s).isEmpty, false⟩], ends := t.ends ++ [s], short := t.short || !(readyL p s).isEmpty } by rw [leafF, if_neg (by rw [show (spinT t s 6).runs = t.runs from rfl, hb0]; decide)]]
     simp only [e1, e2]
     exact fin_mk hT [] (ts := []) (l := []) trivial trivial ⟨obs rfl (hg := q0 (conv_eq ((putX_short p b (spinT t s 6) _).trans (by rfl)))), obs rfl (hg := q0 (conv_eq (ren_found rfl rfl))), obs rfl (hg := fun q hq => conv_eq (ren_run _ _)), obs rfl (hg := fun q hq => conv_eq (ren_S _ _)), trivial⟩ rfl rfl rfl
   ·have hz : readyL p s ≠ [] := fun e => by rw [e] at h7; cases h7
    obtain ⟨n, hn⟩ : ∃ n, k = n + 1 := by
      refine ⟨k - 1, ?_⟩
      rw [show (((readyL p s).length : Int) == 0) = false from beq_eq_false_iff_ne.2 (by have := List.length_pos_iff.2 hz; omega)] at h7
      have h9 : (picks.length : Int) ≠ b.steps := by simpa using h7
      omega
    subst hn
    rw [on_fold hz]
    refine sk (sq (rg [] rfl ?_))
    refine bk ?_
    refine WP.loop (α := Nat × TS) (fun (⟨i, z⟩ : Nat × TS) => mkSt [(0, .ptr (.b 0) 1 0 []), (2, rowPk picks), (4, .rp 62 (encS s)), (81, rowPk (readyL p s)), (82, .int (readyL p s).length), (83, .int i)] [(.b 0, xO p b z), (.b 1, fO z), (.b 2, runsO z.runs), (.b 3, endsO z.ends)]) (fun (⟨i, z⟩ : Nat × TS) => i ≤ (readyL p s).length ∧ z.ends.length = z.runs.length ∧ ((readyL p s).drop i).foldl (rndX p b n s picks) z = (readyL p s).foldl (rndX p b n s picks) (spinT t s 6)) (fun (⟨i, z⟩ : Nat × TS) => (readyL p s).length - i) ?_ ?_
    ·refine ⟨⟨0, spinT t s 6⟩, ?_, ?_⟩
     ·exact ⟨Nat.zero_le _, ht, rfl⟩
     ·refine em [] trivial ⟨⟨rfl, _, rfl, cvt⟩, ⟨rfl, _, rfl, cvt⟩, ⟨rfl, _, rfl, cvt⟩, ⟨rfl, _, rfl, cvt⟩, ⟨rfl, _, rfl, cvt⟩, ⟨rfl, _, rfl, cvt⟩, trivial⟩ ⟨obs rfl, obs rfl, obs rfl, obs rfl, trivial⟩
    ·rintro ⟨i, z⟩ ⟨hi2, hze, hfl⟩
     refine WP.rowlen 81 rfl (fun hl => ?_)
     refine sq (rg [] rfl ?_)
     refine sq ?_
     refine cd rfl (fun h13 => ?_) (fun h13 => ?_)
     ·have hil : i < (readyL p s).length := by simp [-List.getD_eq_getElem?_getD] at h13; omega
      have hdr : (readyL p s).drop i = (readyL p s).getD i pick0 :: (readyL p s).drop (i + 1) := by rw [List.drop_eq_getElem_cons hil]; simp [hil]
      rw [hdr, List.foldl_cons] at hfl
      obtain ⟨x, hx⟩ : ∃ x, (readyL p s).getD i pick0 = x := ⟨_, rfl⟩
      rw [hx] at hfl
      refine sk (sq (bk (sq (rg [] rfl ?_))))
      refine sq (sq ?_)
      refine WP.ent (st' := mkSt [(0, .ptr (.b 0) 1 0 []), (2, rowPk picks), (4, .rp 62 (encS s)), (12, .rp 122 (encPick x)), (81, rowPk (readyL p s)), (82, .int (readyL p s).length), (83, .int i)] [(.b 0, xO p b z), (.b 1, fO z), (.b 2, runsO z.runs), (.b 3, endsO z.ends)]) ?_ ?_
      ·refine em [(.s 12 0, 1)] ⟨sF, trivial⟩ ⟨⟨rfl, _, rfl, cvt⟩, ⟨rfl, _, rfl, cvt⟩, ⟨rfl, _, rfl, cvt⟩, ⟨rfl, _, rfl, conv_rpe rfl rfl (by decide) rfl (by rw [← hx]; rfl) rfl⟩, ⟨rfl, _, rfl, cvt⟩, ⟨rfl, _, rfl, cvt⟩, ⟨rfl, _, rfl, cvt⟩, trivial⟩ ⟨obs rfl, obs rfl, obs rfl, obs rfl, trivial⟩
      refine rg [] rfl ?_
      refine cd rfl (fun h15 => ?_) (fun h15 => ?_)
      ·refine WP.ret ?_
       change Fin ..
       have ho : z.over = true := h15
       have e3 : rndX p b n s picks z x = z := if_pos ho
       rw [e3, fold_over _ _ ho] at hfl
       rw [← hfl]
       exact fin_mk hT [] (ts := []) (l := []) trivial trivial ⟨obs rfl, obs rfl, obs rfl, obs rfl, trivial⟩ rfl rfl rfl
      ·have ho : ¬ z.over = true := fun e => absurd (e.symm.trans h15) (by decide)
       have e3 : rndX p b n s picks z x = onF p b n (doF p s x b.fuel).1 (picks ++ [x]) z := if_neg ho
       refine sk (sq (drs [CG.pure (.tup [encS (doF p s x b.fuel).1, encE (doF p s x b.fuel).2.1, .int (doF p s x b.fuel).2.2])] rfl ?_ ?_))
       ·clear ih
        have hq := do_ac p s x b.fuel hs
        simp only [holdsC, under, CG.pure]
        repeat' with_reducible refine And.intro ?_ ?_
        all_goals (try with_reducible intros)
        all_goals (first | exact trivial | assumption | omega | exact hq | (simp; done) | grind)
       refine drs [CG.pure (.row 122 true picks.length (fun i => encPick (picks.getD i pick0))), ⟨true, [.b 0, .b 1, .b 2, .b 3], .tup [], [xO p b (onF p b n (doF p s x b.fuel).1 (picks ++ [x]) z), fO (onF p b n (doF p s x b.fuel).1 (picks ++ [x]) z), runsO (onF p b n (doF p s x b.fuel).1 (picks ++ [x]) z).runs, endsO (onF p b n (doF p s x b.fuel).1 (picks ++ [x]) z).ends]⟩] rfl ?_ ?_
       ·have hq1 := clipPk_ac picks
        have hbt : (T 122).bytes = 16 := rfl
        have hk1 : okOs [.b 0, .b 1, .b 2, .b 3] [xO p b z, fO z, runsO z.runs, endsO z.ends] := okOs_x rfl rfl
        have hk2 : okOs (bs 4) [xO p b (onF p b n (doF p s x b.fuel).1 (picks ++ [x]) z), fO (onF p b n (doF p s x b.fuel).1 (picks ++ [x]) z), runsO (onF p b n (doF p s x b.fuel).1 (picks ++ [x]) z).runs, endsO (onF p b n (doF p s x b.fuel).1 (picks ++ [x]) z).ends] := okOs_x rfl rfl
        have ih1 := ih n rfl
        clear ih
        have hps : picks.length + 1 + n = b.steps.toNat := by omega
        have hpl : picks.length < 256 := by omega
        have hod := do_ok (p := p) (x := x) (n := b.fuel) hs
        simp only [holdsC, under, CG.pure]
        repeat' with_reducible refine And.intro ?_ ?_
        all_goals (try with_reducible intros)
        all_goals (first | exact trivial | assumption | omega | exact hq1 | (refine (congrArg noIds (app_pk picks x _ ?_ ?_)).trans rfl <;> first | rfl | omega) | (exact on_acS ih1 _ picks x z hps hod hze (by rfl) (fun j hj => app_pk picks x j hj (by rfl))) | (rw [hbt]; omega) | (simp; done) | trace_state)
       refine rg [] rfl ?_
       refine ⟨⟨i + 1, onF p b n (doF p s x b.fuel).1 (picks ++ [x]) z⟩, ?_, ?_, ?_⟩
       ·exact ⟨hil, on_even _ _ _ _ hze, by rw [← hfl, e3]⟩
       ·refine em [] trivial ⟨⟨rfl, _, rfl, cvt⟩, ⟨rfl, _, rfl, cvt⟩, ⟨rfl, _, rfl, cvt⟩, ⟨rfl, _, rfl, cvt⟩, ⟨rfl, _, rfl, cvt⟩, ⟨rfl, _, rfl, cvt⟩, trivial⟩ ⟨obs rfl (hg := q0 (conv_eq (ren_X rfl p b _))), obs rfl (hg := q0 (conv_eq (ren_found rfl rfl))), obs rfl (hg := fun q hq => conv_eq (ren_run _ _)), obs rfl (hg := fun q hq => conv_eq (ren_S _ _)), trivial⟩
       ·(try simp only []); first | omega | grind
     ·have hil : i = (readyL p s).length := by simp [-List.getD_eq_getElem?_getD] at h13; omega
      refine xt ?_
      rw [hil, List.drop_length] at hfl
      have hfl : z = _ := hfl
      rw [← hfl]
      exact fin_mk hT [] (ts := []) (l := []) trivial trivial ⟨obs rfl, obs rfl, obs rfl, obs rfl, trivial⟩ rfl rfl rfl
end Go.Ab


/- Ab, part 52: results: one in a box of ours, two beside it. -/
set_option autoImplicit false
set_option linter.unusedVariables false
namespace Go.Ab
section
variable {P : Program} {T : Nat → TI} {N : Nat}
theorem finC3 (hT : TOK P T N) {nt k j t i i' : Nat} {st : St} {y : AV} {a a' b b' : Value} {B : Blk} (F : List (Id × Nat)) (hF : entF st F) (h : st.t k = some (.always, .ptr (.s j 0) 1 0 [])) (h2 : st.t i = some (.always, .v a)) (h3 : st.t i' = some (.always, .v a')) (hm : st.m (.s j 0) = some (.cells B)) (hy : Conv st.m (fun id => lookF id F) T (B.get 0) y) (he : a = b) (he' : a' = b')
    (hz : lookF (.s j 0) F = 0 := by rfl) (hno : noIds y = true := by rfl) (hok : okIds [.s j 0] y = true := by rfl) (hnt : notTup y = true := by rfl) (hik : Nat.beq i k = false := by rfl) (hik' : Nat.beq i' k = false := by rfl) (hii' : Nat.beq i' i = false := by rfl) (hty : B.ty = t := by rfl) (hn : B.n = 1 := by rfl) (hfz : B.fz = 0 := by rfl) : Fin T N nt 0 [.cell k t, .tmp i, .tmp i'] (.tup [y, .v b, .v b']) [] st := by
  obtain ⟨ty, n, get, fz⟩ := B
  simp only at hty hn hfz hy
  subst hty hn hfz he he'
  refine Fin.ent (Ent.mk (P := P) hT F (ts := [(k, .ptr (.s j 0) 1 0 []), (i, .v a), (i', .v a')]) (ms := [(.s j 0, .cells ⟨ty, 1, fun _ => y, 0⟩)]) hF ⟨⟨by simp [okIds, hasId, idbeq_self], _, h, conv_eq rfl⟩, ⟨rfl, _, h2, conv_eq rfl⟩, ⟨rfl, _, h3, conv_eq rfl⟩, trivial⟩ ⟨⟨fun _ _ => hok, .inl ⟨_, hm, _, _, rfl, Nat.le_refl _, by rw [hz]; exact Nat.zero_le _, Nat.zero_le _, q0 hy⟩⟩, trivial⟩ rfl) ?_
  have h1 : (mkSt [(k, AV.ptr (.s j 0) 1 0 []), (i, .v a), (i', .v a')] [(.s j 0, Ob.cells ⟨ty, 1, fun _ => y, 0⟩)]).m (.s j 0) = some (.cells ⟨ty, 1, fun _ => y, 0⟩) := by simp [mkSt, lookI, idbeq_self]
  have hkk : Nat.beq k k = true := by simp
  have hii : Nat.beq i i = true := by simp
  have hjj : Nat.beq i' i' = true := by simp
  refine fin_mk hT [(.s j 0, 1)] (ts := [(k, .rp ty y), (i, .v a), (i', .v a')]) (l := [y, .v a, .v a']) ⟨⟨_, h1, Nat.le_refl _⟩, trivial⟩ ⟨⟨rfl, .ptr (.s j 0) 1 0 [], by simp only [mkSt, lookN, hkk]; rfl, ?_⟩, ⟨rfl, _, by simp only [mkSt, lookN, hik, hii]; rfl, conv_eq rfl⟩, ⟨rfl, _, by simp only [mkSt, lookN, hik', hii', hjj]; rfl, conv_eq rfl⟩, trivial⟩ trivial rfl ?_ rfl
  · exact conv_rpe h1 rfl (by simp [lookF, idbeq_self]) rfl (by show y.at [] = y; cases y <;> rfl) hno
  · have ht : Nat.beq ty ty = true := by simp
    simp only [resL, mkSt, lookN, hkk, hii, hik, hik', hii', hjj, cond_true, cond_false, Option.map_some]
    simp [ldA, ht, isTy, pathTy, nOf, andC, hnt, show notTup (AV.v a) = true from rfl, show notTup (AV.v a') = true from rfl]
end
end Go.Ab
