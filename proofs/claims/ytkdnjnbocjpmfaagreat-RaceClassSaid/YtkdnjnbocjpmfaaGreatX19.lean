/- Part 20 of a proof of a statement about the given program: an abstract machine over the model, proved sound, and contracts of the functions that the statement reaches; the last part proves the statement, for every input, with no condition. -/
import Derived.Test.YtkdnjnbocjpmfaaGreatX17
import Derived.Test.YtkdnjnbocjpmfaaGreatX15
import Derived.Test.YtkdnjnbocjpmfaaGreatX18
import Derived.Shelf.Slices.In.SortNone
import Derived.Test.YtkdnjnbocjpmfaaGreatX13
import Derived.Test.YtkdnjnbocjpmfaaGreatRows
set_option linter.unusedSimpArgs false
set_option linter.unusedVariables false
/- slices.Sort at ints: out of the library's contract. -/
set_option autoImplicit false
set_option linter.unusedSimpArgs false
set_option linter.unusedVariables false
namespace Go.Ab
open Go.Proofs Go.Sort
def sortI (l : List Int) : List Int := l.mergeSort fun x y => decide (x ≤ y)
theorem sort_len (l : List Int) : (sortI l).length = l.length := List.length_mergeSort l
theorem sort_calls (blk off cap : Nat) (zs : List Int) (w : World) (hH : Holds (Value.int .i64) w blk off zs.toArray) (hblk : blk < w.heap.size) (hsz : zs.length < 4611686018427387904) :
    Calls Tryz.prog 126 #[.slice (some ⟨blk, off, none⟩) zs.length cap] w fun e w' =>
      e = .returned (.tuple #[]) ∧ ∃ n os, w' = grow (putRow (Value.int .i64) (Sort.ahead w n) blk off (sortI zs).toArray) os :=
  Any.slices_Sort_int Tryz.laysSort blk off cap zs w hH hblk hsz
theorem sort_none (p : Option Addr) (cap : Nat) (w : World) : Calls Tryz.prog 126 #[.slice p 0 cap] w fun e w' => e = .returned (.tuple #[]) ∧ w' = w :=
  Any.slices_Sort_int_none Tryz.laysSort p cap w
theorem heap_put {α : Type} [Inhabited α] (enc : α → Value) (w : World) (n blk off : Nat) (d : Array α) (os : Array Obj) {r : Nat} (hr : r < w.heap.size) :
    (grow (putRow enc (Sort.ahead w n) blk off d) os).heap[r]? = if blk = r then (w.heap[r]?).map (onCells (putCells enc off d)) else w.heap[r]? := by
  have h1 : r < (putRow enc (Sort.ahead w n) blk off d).heap.size := by simpa [putRow, mapBlock, Sort.ahead] using hr
  rw [heap_grow_old _ _ h1]
  simp only [putRow, mapBlock, Sort.ahead, Array.getElem?_modify]
theorem sort_ac (l : List Int) (hl62 : l.length < 4611686018427387904) : AC Tryz.prog T tysN 126 [.own (.b 0) l.length 0 l.length none] [cellsI 3 .i64 l] (.tup []) [cellsI 3 .i64 (sortI l)] := by
  refine ⟨⟨_, Tryz.func126, rfl, rfl⟩, fun I ρ w vs hvl hvs hw => ?_⟩
  obtain ⟨v, rfl⟩ : ∃ v, vs = [v] := by
    match vs, hvl with
    | [v], _ => exact ⟨v, rfl⟩
  have hv := (hvs 0 _ v rfl rfl).rep1 (fun _ => by simp)
  have hm : ofB [cellsI 3 .i64 l] (.b 0) = some (cellsI 3 .i64 l) := rfl
  have hset : ofB [cellsI 3 .i64 (sortI l)] = setM (ofB [cellsI 3 .i64 l]) (.b 0) (cellsI 3 .i64 (sortI l)) := by
    funext a
    by_cases ha : a = .b 0
    · subst ha; rw [setM_self]; rfl
    · rw [setM_ne _ _ ha]
      cases a with
      | s _ _ => rfl
      | b j =>
        cases j with
        | zero => exact absurd rfl ha
        | succ j => rfl
  rcases Rep.own_inv hv with ⟨rfl, h0, _, _⟩ | ⟨q, hq, hqn, hx⟩
  · obtain rfl : l = [] := List.eq_nil_of_length_eq_zero h0
    refine (sort_none none 0 w).mono ?_
    rintro e w' ⟨rfl, rfl⟩
    exact ⟨_, I, ρ, rfl, Ev.refl _ _ _, .tup _ rfl (fun i c hi => by simp at hi), by rw [show sortI [] = [] by simp [sortI]]; exact hw⟩
  · obtain ⟨q', cs, c1, c2, c3, c4, c5, c6, c7, c8, c9, c10⟩ := hw.cellsAt hm hq
    rw [hq] at c1; cases c1
    obtain ⟨c, rfl, g1, g2, g3, g4, g5, g6⟩ := hx c3
    have hsz3 : (T 3).size = 1 := rfl
    simp only [cellsI, hsz3, Nat.mul_one] at c7 c8
    have hqt : (T q.ty).size = 1 := by rw [c2]; rfl
    have hcell : ∀ j, j < l.length → cs[j]? = some (.int .i64 (l.getD j 0)) := by
      intro j hj
      obtain ⟨seg, e1, e2, e3, e4⟩ := c8 j hj
      have := e4 0 (by omega)
      cases e1
      simpa using this
    have hlt := hw.place_lt hq
    have hH : Holds (Value.int .i64) w q.b 0 l.toArray := by
      intro j hj
      have hj' : j < l.length := by simpa using hj
      refine ⟨?_, ?_⟩
      · simp only [World.cell?, c5, Nat.zero_add]
        simp [hcell j hj', hj']
      · simp [World.frozen?, c5]
    have hcall := sort_calls q.b 0 c l w hH hlt (by omega)
    simp only [Nat.zero_mul]
    refine hcall.mono ?_
    rintro e w' ⟨rfl, n, os, rfl⟩
    have hput := fun r hr => heap_put (Value.int .i64) w n q.b 0 (sortI l).toArray os (r := r) hr
    have hcs' : ∀ j, (putCells (Value.int .i64) 0 (sortI l).toArray cs)[j]? = if j < l.length then some (.int .i64 ((sortI l).getD j 0)) else cs[j]? := by
      intro j
      simp only [putCells, Array.getElem?_mapIdx, Nat.zero_add, Nat.zero_le, true_and, List.size_toArray, sort_len, Nat.sub_zero]
      split
      · rename_i hj
        rw [hcell j hj]
        simp [sort_len, hj]
      · cases cs[j]? <;> rfl
    have hsw := seg_world (len := l.length) (i := 0) (h := fun j => .int ((sortI l).getD j 0)) (cs' := putCells (Value.int .i64) 0 (sortI l).toArray cs) (w' := grow (putRow (Value.int .i64) (Sort.ahead w n) q.b 0 (sortI l).toArray) os) hT hw hm hq (by simp) (Nat.zero_le _) c5 (by simp [putCells])
      (by rw [hput _ hlt, if_pos rfl, c5]; rfl) (fun b hb hne => by rw [hput _ hb, if_neg (Ne.symm hne)]) (by simp [putRow, mapBlock, Sort.ahead]) rfl rfl ⟨rfl, by simp [putRow, mapBlock, Sort.ahead, grow]⟩
      (fun j hj => ⟨[.int .i64 ((sortI l).getD j 0)], .v rfl, rfl, rfl, fun o ho => by
        have ho' : o = 0 := by
          have : (T 3).size = 1 := rfl
          change o < (T 3).size at ho
          omega
        subst ho'
        show (putCells (Value.int .i64) 0 (sortI l).toArray cs)[(0 + j) * 1 + 0]? = _
        rw [hcs', if_pos (by omega)]
        simp⟩)
      (fun k hk => by
        have : (T 3).size = 1 := rfl
        change k < 0 * (T 3).size ∨ (0 + l.length) * (T 3).size ≤ k at hk
        rw [this] at hk
        rw [hcs', if_neg (by omega)])
    refine ⟨_, I, ρ, rfl, hsw.1, .tup _ rfl (fun i c hi => by simp at hi), ?_⟩
    rw [hset]
    have e2 : (Ob.cells { ty := 3, n := l.length, get := fun j => bif Nat.ble 0 j && Nat.blt j (0 + l.length) then .int ((sortI l).getD (j - 0) 0) else .int (l.getD j 0), fz := 0 } : Ob) = cellsI 3 .i64 (sortI l) := by
      simp only [cellsI, Ob.cells.injEq, Blk.mk.injEq, sort_len, true_and, and_true]
      funext j
      by_cases hj : j < l.length
      · have e : (Nat.ble 0 j && Nat.blt j (0 + l.length)) = true := by rw [Bool.and_eq_true]; exact ⟨by simp, by rw [Nat.blt_eq]; omega⟩
        rw [e]
        rfl
      · have e : (Nat.ble 0 j && Nat.blt j (0 + l.length)) = false := by
          cases hb : (Nat.ble 0 j && Nat.blt j (0 + l.length)) with
          | false => rfl
          | true => rw [Bool.and_eq_true, Nat.blt_eq] at hb; omega
        rw [e]
        simp [sort_len, show l.length ≤ j by omega]
    have := hsw.2
    rw [show ({ty := 3, n := l.length, get := fun i => AV.v (Value.int .i64 (l.getD i 0)), fz := 0} : Blk).n = l.length from rfl] at this
    refine Eq.mp ?_ this
    exact congrArg (fun o => WRep T tysN I ρ (setM (ofB [cellsI 3 .i64 l]) (.b 0) o) _) e2
end Go.Ab


/- slices.Values, slices.Sorted; slices.Contains; slices.Concat. -/
set_option autoImplicit false
set_option maxRecDepth 20000
set_option maxHeartbeats 4000000
set_option linter.unusedSimpArgs false
set_option linter.unusedVariables false
namespace Go.Ab
open Go.Proofs Go.Sort
def encX (L : List Int) (x : {i : Nat // i < L.length}) : Array Value := #[.int .i64 (L.getD x.1 0)]
def tsV (l : Nat) (f : Bool) (L : List Int) (k : Nat) : List (Nat × AV) := [(0, .v (.func (.yield l) #[] #[])), (5, ints f L), (6, .int L.length), (7, .int k)]
def tsW (l : Nat) (f : Bool) (L : List Int) (k : Nat) (b : Bool) : List (Nat × AV) := [(0, .v (.func (.yield l) #[] #[])), (5, ints f L), (6, .int L.length), (7, .int k), (8, .bool b)]
def tsX (l : Nat) (f : Bool) (L : List Int) (k : Nat) : List (Nat × AV) := [(0, .v (.func (.yield l) #[] #[])), (4, .int (L.getD k 0)), (5, ints f L), (6, .int L.length), (7, .int k)]
theorem valsIt (f : Bool) (L : List Int) (hL : L.length ≤ 1000000) : IterC Tryz.prog T tysN 127 [.rp 23 (ints f L)] (encX L) (fun xs => xs.map (·.1) = List.range L.length) L.length := by
  refine ⟨enters_of Tryz.func127 rfl rfl, fun I lb hlb hcl l J Y0 W himm hY hr hJ0 => ?_⟩
  obtain ⟨v1, rfl⟩ : ∃ v1, lb = #[v1] := by
    obtain ⟨M⟩ := lb
    match M, hlb with
    | [x], _ => exact ⟨x, rfl⟩
  have hc1 := hcl 0 _ rfl
  simp only [List.getD_eq_getElem?_getD, Array.getD_eq_getD_getElem?] at hc1
  have hr' : Rounds Tryz.prog l L.length (encX L) J I := hr
  refine (callsIn_wide (n := 0)).1 (callsIn_of_wp Tryz.func127 rfl trivial ?_)
  have hst := ItS.start (fn := Tryz.f127) (T := T) (N := tysN) (args := [.v (.func (.yield l) #[] #[]), .rp 23 (ints f L)]) (vs := [.func (.yield l) #[] #[], v1]) hJ0 himm rfl (Nat.le_of_ble_eq_true rfl) (fun i x v hx hv => by
    match i with
    | 0 => simp at hx hv; subst hx hv; exact yield_rep
    | 1 => simp at hx hv; subst hx hv; exact .one (by simpa using hc1)
    | i + 2 => simp at hx)
  refine wpIn_seq ?_
  refine ItS.step hY hst (t' := (mkSt (tsV l f L 0) []).t) (WP.reg hT hE [] rfl trivial ⟨rfl, Ent.mk (ts := tsV l f L 0) (ms := []) hT [] trivial ⟨⟨rfl, _, rfl, conv_eq rfl⟩, ⟨rfl, _, rfl, conv_eq rfl⟩, ⟨rfl, _, rfl, conv_eq rfl⟩, ⟨rfl, _, rfl, conv_eq rfl⟩, trivial⟩ trivial rfl⟩) (fun a1 W1 hi1 => ?_)
  refine wpIn_block ?_
  refine wpIn_loop (fun a w => ∃ d pre, d ≤ L.length ∧ pre.map (·.1) = List.range d ∧ ItS T tysN _ J I pre (mkSt (tsV l f L d) []).t a w) (fun a w => match a.tmps.getD 7 undef with | .int _ n => (L.length - n).toNat | _ => 0) ⟨0, [], Nat.zero_le _, rfl, hi1⟩ ?_
  rintro a W ⟨d, pre, hd, hpre, hi⟩
  refine wpIn_seq ?_
  refine ItS.step hY hi (t' := (mkSt (tsW l f L d (decide ((d : Int) < L.length))) []).t) (WP.reg hT hE [] rfl trivial ⟨rfl, Ent.mk (ts := tsW l f L d (decide ((d : Int) < L.length))) (ms := []) hT [] trivial ⟨⟨rfl, _, rfl, conv_eq rfl⟩, ⟨rfl, _, rfl, conv_eq rfl⟩, ⟨rfl, _, rfl, conv_eq rfl⟩, ⟨rfl, _, rfl, conv_eq rfl⟩, ⟨rfl, _, rfl, conv_eq rfl⟩, trivial⟩ trivial rfl⟩) (fun a2 W2 hi2 => ?_)
  refine wpIn_seq ?_
  refine ItS.cond hi2 (by rfl) (fun hb => ?_) (fun hb => ?_)
  · have hdl : d < L.length := by simp at hb; omega
    have hm0 : (match a.tmps.getD 7 undef with | .int _ n => (L.length - n).toNat | _ => 0) = L.length - d := by
      rw [hi.val (k := 7) rfl]
      simp only; omega
    refine wpIn_skip ?_
    refine wpIn_seq (wpIn_block (wpIn_seq ?_))
    refine ItS.step hY hi2 (t' := (mkSt (tsX l f L d) []).t) (WP.reg hT hE [] rfl (by simp [holdsC, under]; omega) ⟨rfl, Ent.mk (ts := tsX l f L d) (ms := []) hT [] trivial ⟨⟨rfl, _, rfl, conv_eq rfl⟩, ⟨rfl, _, rfl, conv_eq rfl⟩, ⟨rfl, _, rfl, conv_eq rfl⟩, ⟨rfl, _, rfl, conv_eq rfl⟩, ⟨rfl, _, rfl, conv_eq rfl⟩, trivial⟩ trivial rfl⟩) (fun a3 W3 hi3 => ?_)
    refine wpIn_seq ?_
    refine wpIn_region_list (wpList_split 2 _ rfl ?_)
    refine ItS.begins hT hE hY [] hi3 rfl ?_ (fun a4 W4 hi4 => ?_)
    · trivial
    refine ItS.yield (d := 13) (l := l) (M := L.length) (x := ⟨d, hdl⟩) (G := .always) (G1 := .always) (G2 := .always) (xv := .int .i64 (L.getD d 0)) hY hr' hi4 rfl rfl rfl rfl (Nat.le_of_ble_eq_true rfl) rfl rfl (fun h => h) rfl (fun h => h) (fun _ => rfl) (fun _ => ?_) (fun hG a5 W5 hi5 => ?_) (fun hG => absurd trivial hG)
    · have : pre.length = d := by rw [← List.length_map (f := (·.1)), hpre, List.length_range]
      omega
    · refine ItS.ends hT hE hY [] hi5 rfl ?_ (fun a6 W6 hi6 => ?_)
      · trivial
      refine ItS.cond hi6 (by rfl) (fun hc => absurd hc (by decide)) (fun _ => ?_)
      refine wpIn_skip ?_
      refine ItS.step hY hi6 (t' := (mkSt (tsV l f L (d + 1)) []).t) (WP.reg hT hE [] rfl trivial ⟨rfl, Ent.mk (ts := tsV l f L (d + 1)) (ms := []) hT [] trivial ⟨⟨rfl, _, rfl, conv_eq rfl⟩, ⟨rfl, _, rfl, conv_eq rfl⟩, ⟨rfl, _, rfl, conv_eq rfl⟩, ⟨rfl, _, rfl, conv_eq (by rw [wrap_id (by omega) (by omega)]; rfl)⟩, trivial⟩ trivial rfl⟩) (fun a7 W7 hi7 => ?_)
      refine ⟨⟨d + 1, _, hdl, ?_, hi7⟩, ?_⟩
      · rw [List.map_append, hpre, List.range_succ]; rfl
      · simp only [hm0]
        rw [hi7.val (k := 7) rfl]
        simp only; omega
  · have hdl : d = L.length := by simp at hb; omega
    subst hdl
    refine wpIn_exit ?_
    exact ItS.fin hi2 hpre rfl
theorem values_ac (f : Bool) (L : List Int) : AC Tryz.prog T tysN 80 [ints f L] [] (.clo 127 [.rp 23 (ints f L)]) [] := by
 refine AC_intro hT Tryz.func80 rfl rfl (Nat.le_of_ble_eq_true rfl) ?_
 refine sq (rg [] rfl ?_)
 refine sq (rg [] rfl ?_)
 refine WP.ret ?_
 change Fin ..
 refine fin_mk hT [(.s 1 0, 1)] (ts := [(2, .clo 127 [.rp 23 (ints f L)])]) (l := [.clo 127 [.rp 23 (ints f L)]]) ⟨⟨_, rfl, Nat.le_refl _⟩, trivial⟩ ⟨⟨rfl, _, rfl, ?_⟩, trivial⟩ trivial rfl rfl rfl
 exact ⟨_, rfl, _, _, rfl, conv_rpe rfl rfl (by decide) rfl rfl rfl, rfl⟩
theorem vals_map (L : List Int) (xs : List {i : Nat // i < L.length}) (h : xs.map (·.1) = List.range L.length) : xs.map (fun x => L.getD x.1 0) = L := by
  have e : xs.map (fun x => L.getD x.1 0) = (xs.map (·.1)).map (fun i => L.getD i 0) := by rw [List.map_map]; rfl
  rw [e, h]
  refine List.ext_getElem (by simp) (fun i h1 h2 => ?_)
  simp [List.getD_eq_getElem?_getD, h2]
theorem sorted_ac (f : Bool) (L : List Int) (hL : L.length ≤ 1000000) : AC Tryz.prog T tysN 79 [.clo 127 [.rp 23 (ints f L)]] [] (ownI (sortI L)) [cellsI 3 .i64 (sortI L)] := by
 refine AC_intro hT Tryz.func79 rfl rfl (Nat.le_of_ble_eq_true rfl) ?_
 refine sq (rg [] rfl ?_)
 refine sq (rgs [⟨true, [], ownI L, [cellsI 3 .i64 L]⟩] rfl ?_ ?_)
 ·have h1 := collect1_ac 127 23 (ints f L) (fun x => L.getD x.1 0) (fun xs => xs.map (·.1) = List.range L.length) L.length L (valsIt f L hL) hL (fun xs h => vals_map L xs h)
  have h2 : okOs (bs 1) [cellsI 3 .i64 L] := ⟨fun _ _ => rfl, trivial⟩
  simp only [holdsC, under, CG.pure]
  repeat' with_reducible refine And.intro ?_ ?_
  all_goals (try with_reducible intros)
  all_goals (first | exact trivial | assumption | omega | exact h1 | exact h2 | (simp; done) | grind)
 refine sq (rgs [⟨true, [.s 5 1], .tup [], [cellsI 3 .i64 (sortI L)]⟩] rfl ?_ ?_)
 ·have h1 := sort_ac L (by omega)
  have h2 : okOs (bs 1) [cellsI 3 .i64 (sortI L)] := ⟨fun _ _ => rfl, trivial⟩
  have h3 : okOs [.s 5 1] [cellsI 3 .i64 L] := ⟨fun _ _ => rfl, trivial⟩
  simp only [holdsC, under, CG.pure]
  repeat' with_reducible refine And.intro ?_ ?_
  all_goals (try with_reducible intros)
  all_goals (first | exact trivial | assumption | omega | exact h1 | exact h2 | exact h3 | (simp; done) | grind)
 refine sq (rg [] rfl ?_)
 refine WP.ret ?_
 change Fin ..
 have hl := sort_len L
 refine fin_toB hT [] [.s 5 1] (ts := [(2, ownI (sortI L))]) (l := [ownI (sortI L)]) trivial rfl ⟨⟨_, .own (.s 5 1) (sortI L).length 0 (sortI L).length none, rfl, conv_eq (by rw [hl]; rfl), rfl, rfl⟩, trivial⟩ ⟨.inl ⟨_, cellsI 3 .i64 (sortI L), rfl, ?_, fun _ _ => rfl, rfl⟩, trivial⟩ rfl rfl
 exact ⟨_, _, rfl, Nat.le_refl _, Nat.zero_le _, Nat.zero_le _, fun i hi => conv_eq rfl⟩
def idxI (L : List Int) (x : Int) : Int := if x ∈ L then (L.findIdx (· == x) : Nat) else -1
theorem idxI_at {L : List Int} {x : Int} {i : Nat} (hi : i < L.length) (h : L.getD i 0 = x) (hn : ∀ j, j < i → L.getD j 0 ≠ x) : (i : Int) = idxI L x := by
  have hm : x ∈ L := by rw [← h]; simp [List.getD_eq_getElem?_getD, hi]
  rw [idxI, if_pos hm]
  congr 1
  symm
  rw [List.findIdx_eq hi]
  refine ⟨by simpa [List.getD_eq_getElem?_getD, hi] using h, fun j hj => ?_⟩
  have hj' : j < L.length := by omega
  have := hn j hj
  simpa [List.getD_eq_getElem?_getD, hj'] using this
theorem idxI_no {L : List Int} {x : Int} (hn : ∀ j, j < L.length → L.getD j 0 ≠ x) : -1 = idxI L x := by
  rw [idxI, if_neg]
  intro hm
  obtain ⟨j, hj, e⟩ := List.getElem_of_mem hm
  exact hn j hj (by simpa [List.getD_eq_getElem?_getD, hj] using e)
theorem index_ac (f : Bool) (L : List Int) (x : Int) : AC Tryz.prog T tysN 130 [ints f L, .int x] [] (.int (idxI L x)) [] := by
 refine AC_intro hT Tryz.func130 rfl rfl (Nat.le_of_ble_eq_true rfl) ?_
 refine WP.rowlen 0 rfl (fun hla => ?_)
 refine sq (rg [] rfl ?_)
 refine sq (sq (rg [] rfl ?_))
 refine bk ?_
 refine WP.loop (α := Nat) (fun i => mkSt [(0, ints f L), (1, .int x), (7, .int L.length), (8, .int i)] []) (fun i => i ≤ L.length ∧ ∀ j, j < i → L.getD j 0 ≠ x) (fun i => L.length - i) ?_ ?_
 ·refine ⟨0, ?_, ?_⟩
  ·exact ⟨Nat.zero_le _, fun j hj => by omega⟩
  ·refine em [] trivial ⟨⟨rfl, _, rfl, cvt⟩, ⟨rfl, _, rfl, cvt⟩, ⟨rfl, _, rfl, cvt⟩, ⟨rfl, _, rfl, cvt⟩, trivial⟩ trivial
 ·rintro i ⟨hi, hn⟩
  refine sq (rg [] rfl ?_)
  refine sq ?_
  refine cd rfl (fun h2 => ?_) (fun h2 => ?_)
  ·have hil : i < L.length := by simpa using h2
   refine sk (sq (bk (sq (rg [] rfl ?_))))
   refine sq (rg [] rfl ?_)
   refine cd rfl (fun h4 => ?_) (fun h4 => ?_)
   ·have he : L.getD i 0 = x := by
      have e : (x == L.getD i 0) = true := h4
      simp at e; exact e.symm
    refine sq (rg [] rfl ?_)
    refine WP.ret ?_
    change Fin ..
    exact finI hT (by rfl) (idxI_at hil he hn)
   ·have he : L.getD i 0 ≠ x := by
      have e : (x == L.getD i 0) = false := h4
      simp at e; exact fun h => e h.symm
    refine sk (rg [] rfl ?_)
    refine ⟨i + 1, ?_, ?_, ?_⟩
    ·exact ⟨hil, all_succ (Q := fun j => L.getD j 0 ≠ x) hn he⟩
    ·refine em [] trivial ⟨⟨rfl, _, rfl, cvt⟩, ⟨rfl, _, rfl, cvt⟩, ⟨rfl, _, rfl, cvt⟩, ⟨rfl, _, rfl, cvt⟩, trivial⟩ trivial
    ·(try simp only []); first | omega | grind
  ·have hil : i = L.length := by simp at h2; omega
   subst hil
   refine xt (sq (rg [] rfl ?_))
   refine WP.ret ?_
   change Fin ..
   exact finI hT (by rfl) (idxI_no hn)
theorem contains_ac (f : Bool) (L : List Int) (x : Int) : AC Tryz.prog T tysN 86 [ints f L, .int x] [] (.bool (decide (x ∈ L))) [] := by
 refine AC_intro hT Tryz.func86 rfl rfl (Nat.le_of_ble_eq_true rfl) ?_
 refine sq (rg [] rfl ?_)
 refine sq (rgs [CG.pure (.int (idxI L x))] rfl ?_ ?_)
 ·have h1 := index_ac f L x
  simp only [holdsC, under, CG.pure]
  repeat' with_reducible refine And.intro ?_ ?_
  all_goals (try with_reducible intros)
  all_goals (first | exact trivial | assumption | omega | exact h1 | (simp; done) | grind)
 refine WP.ret ?_
 change Fin ..
 refine fin1 hT (by rfl) ?_
 apply decide_eq_decide.2
 rw [idxI]
 split
 · rename_i h; exact ⟨fun _ => h, fun _ => by omega⟩
 · rename_i h; exact ⟨fun h2 => by omega, fun h2 => absurd h2 h⟩
theorem grow_ac (n : Nat) (hn : n ≤ 1000000) : AC Tryz.prog T tysN 128 [.nils, .int n] [] (.own (.b 0) 0 0 0 none) [cellsI 3 .i64 []] := by
  refine ⟨⟨_, Tryz.func128, rfl, rfl⟩, fun I ρ w vs hvl hvs hw => ?_⟩
  obtain ⟨v, u, rfl⟩ : ∃ v u, vs = [v, u] := by
    match vs, hvl with
    | [v, u], _ => exact ⟨v, u, rfl⟩
  have hv := (hvs 0 _ v rfl rfl).v
  have hu := (hvs 1 _ u rfl rfl).v
  obtain ⟨rfl, _⟩ := hv
  obtain ⟨rfl, _⟩ := hu
  rcases Nat.eq_zero_or_pos n with h0 | h0
  · subst h0
    refine (Any8.slices_Grow_room Tryz.layGrow none 0 0 0 w (Nat.le_refl _) (by omega) (by omega) (Nat.le_refl _)).mono ?_
    rintro e w' ⟨rfl, rfl⟩
    refine ⟨_, I, ρ, rfl, Ev.refl _ _ _, .one ⟨_, .own0, rfl⟩, ?_⟩
    have hnp : ρ (.b 0) = none := hw.none_place rfl
    refine ⟨fun id B hB => ?_, fun id es h => ?_, fun id p hp => ?_, hw.inj, hw.imm⟩
    · cases id with
      | b j =>
        cases j with
        | zero => cases hB; exact .inl ⟨hnp, rfl, rfl, by decide⟩
        | succ j => cases hB
      | s _ _ => cases hB
    · cases id with
      | b j =>
        cases j with
        | zero => cases h
        | succ j => cases h
      | s _ _ => cases h
    · rw [hw.none_place (by cases id with | b j => rfl | s _ _ => rfl)] at hp
      cases hp
  · obtain ⟨i0, z, hi0, hz0, hfz, hrz⟩ := hT.zero 3 (by decide) rfl
    obtain ⟨i1, hi1, hs1, hb1⟩ := hT.info 3 (by decide)
    rw [hi0] at hi1; cases hi1
    have hs : i0.size = 1 := hs1
    have hb : i0.bytes = 8 := hb1
    refine (Any8.slices_Grow_grow Tryz.layGrow i0 z hi0 hz0 (by omega) none 0 0 n [] w (Nat.le_refl _) (by omega) (by rw [hb]; omega) (by omega) (by simp) (fun _ => rfl) (fun a h => by cases h)).mono ?_
    rintro e w' ⟨rfl, rfl⟩
    generalize hG : grownCap w (0 + n) 0 (Tryz.layGrow_ren.t 25) = G
    generalize hcs : (([] : List Value).toArray ++ Builtin.zeroCells z.cells (0 + n - 0) ++ Builtin.zeroCells z.cells (G - (0 + n))) = cs
    have hG1 : 0 + n ≤ G := by rw [← hG]; exact grownCap_ge w _ _ _
    have hG2 : G ≤ maxLen := by rw [← hG]; exact grownCap_le_maxLen w _ _ _ (by unfold maxLen; omega)
    have hz1 : z.cells.size = 1 := by
      have h1 : ∀ cs, Rep T tysN I ρ (.v (.int .i64 0)) cs → cs.length = 1 := fun cs h => by cases h; rfl
      simpa using h1 _ (hrz I ρ)
    have hsz : cs.size = G := by
      rw [← hcs]
      simp [Builtin.zeroCells, hz1]
      omega
    have hnp : ρ (.b 0) = none := hw.none_place rfl
    have hfr := WRep.fresh (w' := w.drew.alloc (.cells cs 3)) (id := .b 0) (B := ⟨3, 0, fun i => .int (([] : List Int).getD i 0), 0⟩) (b := w.heap.size) (cs := cs) hw hnp (Nat.le_refl _) (fun r hr => heap_alloc_lt w.drew _ hr) (heap_alloc_self w.drew _) (by decide) (by simp) rfl (fun i hi => by simp at hi)
    refine ⟨_, I, setP ρ (.b 0) ⟨w.heap.size, 3, 0, cs.size⟩, rfl, ?_, .one ⟨[_], .own _ (setP_self _ _ _) (Nat.le_refl 0) rfl (fun _ => ⟨G, rfl, Nat.zero_le _, by unfold maxLen at hG2; omega, Nat.le_refl _, ?_, fun _ => ?_, fun k hk => by cases hk⟩), rfl⟩, ?_⟩
    · exact Ev.fresh hnp (Nat.le_refl _) (fun r hr => heap_alloc_lt w.drew _ hr) (by show w.heap.size ≤ (w.heap.push _).size; rw [Array.size_push]; exact Nat.le_succ _) rfl rfl ⟨rfl, Nat.le_succ _⟩
    · show (0 + G) * 1 ≤ cs.size; omega
    · show (0 + G) * 1 = cs.size; omega
    · have e : setM (ofB []) (.b 0) (.cells ⟨3, 0, fun i => .int (([] : List Int).getD i 0), 0⟩) = ofB [cellsI 3 .i64 []] := by
        funext a
        by_cases ha : a = .b 0
        · subst ha; rw [setM_self]; rfl
        · rw [setM_ne _ _ ha]
          cases a with
          | s _ _ => rfl
          | b j =>
            cases j with
            | zero => exact absurd rfl ha
            | succ j => rfl
      rw [← e]
      exact hfr.2
end Go.Ab


/- slices.Concat. -/
set_option autoImplicit false
set_option maxRecDepth 20000
set_option maxHeartbeats 4000000
set_option linter.unusedSimpArgs false
set_option linter.unusedVariables false
namespace Go.Ab
open Go.Proofs Go.Sort
def flTo (LL : List (List Int)) (i : Nat) : List Int := (LL.take i).flatten
theorem flTo_succ {LL : List (List Int)} {i : Nat} (h : i < LL.length) : flTo LL (i + 1) = flTo LL i ++ LL.getD i [] := by
  rw [flTo, List.take_add_one, List.getElem?_eq_getElem h, List.flatten_append]
  simp [flTo, List.getD_eq_getElem?_getD, h]
theorem flTo_le {LL : List (List Int)} : ∀ {i j : Nat}, i ≤ j → j ≤ LL.length → (flTo LL i).length ≤ (flTo LL j).length := by
  intro i j h hj
  induction j with
  | zero => rw [show i = 0 by omega]; exact Nat.le_refl _
  | succ j ih =>
    rcases Nat.lt_or_ge i (j + 1) with h1 | h1
    · have := ih (by omega) (by omega)
      rw [flTo_succ (by omega), List.length_append]
      omega
    · rw [show i = j + 1 by omega]; exact Nat.le_refl _
theorem join_flat {a b : List Int} {g h : Nat → AV} (hg : ∀ q, q < a.length → g q = .int (a.getD q 0)) (hh : ∀ q, q < b.length → h q = .int (b.getD q 0)) : ∀ q, q < (a ++ b).length → joinG a.length b.length g h q = .int ((a ++ b).getD q 0) := by
  intro q hq
  rw [List.length_append] at hq
  rcases Nat.lt_or_ge q a.length with h1 | h1
  · rw [joinG_lt h1, hg q h1]
    simp [List.getD_eq_getElem?_getD, List.getElem?_append_left h1]
  · rw [joinG_ge h1 hq, hh _ (by omega)]
    simp [List.getD_eq_getElem?_getD, List.getElem?_append_right h1]
theorem concat_ac (f : Bool) (LL : List (List Int)) (hl : LL.length ≤ 1000) (hs : (flTo LL LL.length).length ≤ 1000000) : AC Tryz.prog T tysN 81 [intss f LL] [] (ownI (flTo LL LL.length)) [cellsI 3 .i64 (flTo LL LL.length)] := by
 refine AC_intro hT Tryz.func81 rfl rfl (Nat.le_of_ble_eq_true rfl) ?_
 refine sq (rg [] rfl ?_)
 refine sq (rg [] rfl ?_)
 refine sq (sq (rg [] rfl ?_))
 refine bk ?_
 refine WP.loop (α := Nat) (fun i => mkSt [(0, intss f LL), (3, .int (flTo LL i).length), (9, intss f LL), (10, .int LL.length), (11, .int i)] []) (fun i => i ≤ LL.length) (fun i => LL.length - i) ?_ ?_
 ·refine ⟨0, ?_, ?_⟩
  ·exact Nat.zero_le _
  ·refine em [] trivial ⟨⟨rfl, _, rfl, cvt⟩, ⟨rfl, _, rfl, cvt⟩, ⟨rfl, _, rfl, cvt⟩, ⟨rfl, _, rfl, cvt⟩, ⟨rfl, _, rfl, cvt⟩, trivial⟩ trivial
 ·rintro i hi
  refine sq (rg [] rfl ?_)
  refine sq ?_
  refine cd rfl (fun h3 => ?_) (fun h3 => ?_)
  ·have hil : i < LL.length := by simpa using h3
   have h1 := flTo_le (LL := LL) (i := i + 1) (j := LL.length) (by omega) (Nat.le_refl _)
   have h2 := flTo_succ hil
   have h4 : (flTo LL (i + 1)).length = (flTo LL i).length + (LL.getD i []).length := by rw [h2, List.length_append]
   refine sk (sq (bk (sq (rg [] rfl ?_))))
   refine sq (rg [] rfl ?_)
   refine sq (rg [] rfl ?_)
   refine cd rfl (fun h6 => ?_) (fun h6 => ?_)
   ·exfalso
    have e : decide (IntKind.i64.wrap (((flTo LL i).length : Int) + ((LL.getD i []).length : Int)) < 0) = true := h6
    rw [wrap_id (by omega) (by omega)] at e
    simp at e
    omega
   ·refine sk (rg [] rfl ?_)
    refine ⟨i + 1, ?_, ?_, ?_⟩
    ·exact hil
    ·refine em [] trivial ⟨⟨rfl, _, rfl, cvt⟩, ⟨rfl, _, rfl, conv_eq (by rw [h4]; show AV.int (IntKind.i64.wrap (((flTo LL i).length : Int) + ((LL.getD i []).length : Int))) = _; rw [wrap_id (by omega) (by omega)]; rfl)⟩, ⟨rfl, _, rfl, cvt⟩, ⟨rfl, _, rfl, cvt⟩, ⟨rfl, _, rfl, cvt⟩, trivial⟩ trivial
    ·(try simp only []); first | omega | grind
  ·have hil : i = LL.length := by simp at h3; omega
   subst hil
   refine xt (sq (rgs [⟨true, [], .own (.b 0) 0 0 0 none, [cellsI 3 .i64 []]⟩] rfl ?_ ?_))
   ·have h1 := grow_ac (flTo LL LL.length).length hs
    have h2 : okOs (bs 1) [cellsI 3 .i64 []] := ⟨fun _ _ => rfl, trivial⟩
    simp only [holdsC, under, CG.pure]
    repeat' with_reducible refine And.intro ?_ ?_
    all_goals (try with_reducible intros)
    all_goals (first | exact trivial | assumption | omega | exact h1 | exact h2 | (simp; done) | grind)
   refine sq (sq (rg [] rfl ?_))
   refine bk ?_
   refine WP.loop (α := Nat) (fun i => mkSt [(6, .own (.s 24 1) (flTo LL i).length 0 (flTo LL i).length none), (25, intss f LL), (26, .int LL.length), (27, .int i)] [(.s 24 1, cellsI 3 .i64 (flTo LL i))]) (fun i => i ≤ LL.length) (fun i => LL.length - i) ?_ ?_
   ·refine ⟨0, ?_, ?_⟩
    ·exact Nat.zero_le _
    ·refine em [] trivial ⟨⟨rfl, _, rfl, cvt⟩, ⟨rfl, _, rfl, cvt⟩, ⟨rfl, _, rfl, cvt⟩, ⟨rfl, _, rfl, cvt⟩, trivial⟩ ⟨obs rfl, trivial⟩
   ·rintro i hi
    refine sq (rg [] rfl ?_)
    refine sq ?_
    refine cd rfl (fun h11 => ?_) (fun h11 => ?_)
    ·have hil : i < LL.length := by simpa using h11
     have h1 := flTo_le (LL := LL) (i := i + 1) (j := LL.length) (by omega) (Nat.le_refl _)
     have h2 := flTo_succ hil
     have h4 : (flTo LL (i + 1)).length = (flTo LL i).length + (LL.getD i []).length := by rw [h2, List.length_append]
     refine sk (sq (bk (sq (rg [] rfl ?_))))
     rcases Nat.eq_zero_or_pos (LL.getD i []).length with h0 | h0
     ·refine rgs [CG.nop] rfl ?_ ?_
      ·have e : (LL.getD i []).length = 0 := h0
       simp only [holdsC, under, CG.pure]
       repeat' with_reducible refine And.intro ?_ ?_
       all_goals (try with_reducible intros)
       all_goals (first | exact trivial | assumption | omega | exact e | (simp; done) | grind)
      refine rg [] rfl ?_
      have e3 : flTo LL (i + 1) = flTo LL i := by rw [h2, List.eq_nil_of_length_eq_zero h0, List.append_nil]
      refine ⟨i + 1, ?_, ?_, ?_⟩
      ·exact hil
      ·refine em [] trivial ⟨⟨rfl, _, rfl, conv_eq (by rw [e3])⟩, ⟨rfl, _, rfl, cvt⟩, ⟨rfl, _, rfl, cvt⟩, ⟨rfl, _, rfl, cvt⟩, trivial⟩ ⟨ob_ints rfl rfl (by rw [e3]) rfl rfl (fun q hq => by rw [e3]), trivial⟩
      ·(try simp only []); first | omega | grind
     ·refine rgs [] rfl ?_ ?_
      ·have hbt : (T 3).bytes = 8 := rfl
       have e1 : (((flTo LL i).length + (LL.getD i []).length) * (T 3).bytes ≤ 140737488355328) := by rw [hbt]; omega
       have e2 : 0 < (flTo LL i).length + (LL.getD i []).length := by omega
       simp only [holdsC, under, CG.pure]
       repeat' with_reducible refine And.intro ?_ ?_
       all_goals (try with_reducible intros)
       all_goals (first | exact trivial | assumption | omega | exact e1 | exact e2 | (simp; done) | grind)
      refine rg [] rfl ?_
      refine ⟨i + 1, ?_, ?_, ?_⟩
      ·exact hil
      ·refine em [] trivial ⟨⟨rfl, _, rfl, conv_eq (by rw [h4]; rfl)⟩, ⟨rfl, _, rfl, cvt⟩, ⟨rfl, _, rfl, cvt⟩, ⟨rfl, _, rfl, cvt⟩, trivial⟩ ⟨ob_ints rfl rfl (by rw [h4]; rfl) rfl rfl (by rw [h2]; exact join_flat (fun q hq => rfl) (fun q hq => rfl)), trivial⟩
      ·(try simp only []); first | omega | grind
    ·have hil : i = LL.length := by simp at h11; omega
     subst hil
     refine xt (sq (rg [] rfl ?_))
     refine WP.ret ?_
     change Fin ..
     refine fin_toB hT [] [.s 24 1] (ts := [(2, ownI (flTo LL LL.length))]) (l := [ownI (flTo LL LL.length)]) trivial rfl ⟨⟨_, .own (.s 24 1) (flTo LL LL.length).length 0 (flTo LL LL.length).length none, rfl, conv_eq rfl, rfl, rfl⟩, trivial⟩ ⟨.inl ⟨_, cellsI 3 .i64 (flTo LL LL.length), rfl, ?_, fun _ _ => rfl, rfl⟩, trivial⟩ rfl rfl
     exact ⟨_, _, rfl, Nat.le_refl _, Nat.zero_le _, Nat.zero_le _, fun i hi => conv_eq rfl⟩
end Go.Ab


/- Ab, part 49: whether a row is nil is not known: both answers. -/
set_option autoImplicit false
set_option linter.unusedVariables false
namespace Go.Ab
section
variable {R : Option Nat → Bool → Prop} {P : Program} {T : Nat → TI} {N nt nb : Nat} {post : Post}
theorem conv_nils {m : Id → Option Ob} {F : Id → Nat} {id : Id} {cap : Option Nat} : Conv m F T .nils (.own id 0 0 0 cap) := Or.inr ⟨rfl, .inl ⟨_, _, rfl⟩⟩
/-- A region whose last step asks whether a row is nil. -/
theorem WP.nilreg (hT : TOK P T N) (hE : EqOK P T N) {id : Nat} {ops : Array Oper} {o : Oper} {l : List Oper} {t t1 : Nat → Option (D × AV)} {m m1 : Id → Option Ob} {gs gs' : List CG} {c : Option Prop} {ty k3 k4 yt : Nat} {e len el : Nat} {f : Bool} {g : Nat → AV}
    (hl : ops.toList = l ++ [o]) (h : evF T (AC P T N) nt ops.toList l t m gs none = some ⟨⟨t1, m1⟩, gs', c⟩) (hc : holdsC c)
    (ho : o.op = .binOp .eql ty (.tmp k3) (.const (.slice none 0 0)) yt) (hd : o.dst = some k4) (hg : o.guard = none) (hnt : dstOk nt (some k4) = true) (ht : t1 k3 = some (.always, .row e f len g)) (hk : (T ty).kind = .slice el)
    (hp : ∀ b, post .normal ⟨setT t1 k4 (some (.always, .v (.bool b))), m1⟩) : WP R P T N nt nb (.region id ops false) post ⟨t, m⟩ := fun en h1 h2 I ρ a w hs rd hr n => by
  subst h1
  rw [evF_eq] at h
  have hgd : ∀ st, guardD ops.toList st o = some .always := fun st => by unfold guardD; rw [hg]
  refine wpIn_region_list ?_
  have hh : wpListIn (wideR rd) n P ops (fun ex a' w' => ∃ st' I' ρ', post ex st' ∧ StRep T N en I' ρ' st' a' w') (l ++ [o]) a w := by
    refine (evL_k (l2 := [o]) hT hE rd n l ⟨⟨t, m⟩, gs, none⟩ ⟨⟨t1, m1⟩, gs', c⟩ hs h hc (fun I' ρ' a' w' hs' => ?_)).2
    have hwant := guardD_wanted hs' (hgd ⟨t1, m1⟩)
    unfold wpListIn
    rw [if_pos (hwant.1 trivial)]
    refine ⟨fun _ _ => trivial, ?_⟩
    rw [Oper.semAt_eq _ _ _ (by simp [ho])]
    have hrow := ((hs'.tm k3 _ _ ht).1 trivial).rep1 (fun _ => by simp)
    have hu := (hT.sli hk).2
    have key : ∀ (v : Value) (sp : Option Addr) (ln cp : Nat), v = .slice sp ln cp → a'.eval (.tmp k3) = v → ∃ b, (do eqGuard .eql ty (.tmp k3) (.const (.slice none 0 0)) (a'.eval (.tmp k3)) (a'.eval (.const (.slice none 0 0))); binOp .eql ty (a'.eval (.tmp k3)) (a'.eval (.const (.slice none 0 0))) : Sem Value).run P w' = .ok (.bool b) w' := by
      rintro v sp ln cp rfl ev
      refine ⟨sp.isNone && true, ?_⟩
      have e2 : a'.eval (.const (.slice none 0 0)) = .slice none 0 0 := rfl
      rw [ev, e2]
      have hgg := run_eqGuard_scalar (P := P) (a := .slice sp ln cp) (b := .slice none 0 0) .eql ty (.tmp k3) (.const (.slice none 0 0)) (by simp) (by simp) w'
      simp only [Sem.run_bind, hgg, Result.andThen_ok, binOp]
      rw [run_equal_slices hu w' sp none ln cp 0 0 (.inr rfl)]
      rfl
    have hev : ∃ b, (do eqGuard .eql ty (.tmp k3) (.const (.slice none 0 0)) (a'.eval (.tmp k3)) (a'.eval (.const (.slice none 0 0))); binOp .eql ty (a'.eval (.tmp k3)) (a'.eval (.const (.slice none 0 0))) : Sem Value).run P w' = .ok (.bool b) w' := by
      rcases Rep.row_inv hrow with ⟨⟨ad, ex⟩, _, _⟩ | ⟨b, off, cap, segs, _, _, _, _, _, _, _, _, ex⟩
      · exact key _ _ _ _ ex rfl
      · exact key _ _ _ _ ex rfl
    obtain ⟨b, hb⟩ := hev
    have hrun : (execOp a'.eval o).run P w' = .ok (.value (.bool b)) w' := by
      unfold execOp
      rw [ho]
      exact runNext_value hb
    rw [hrun]
    refine ⟨_, I', ρ', hp b, ?_⟩
    have := strep_after (o := o) (G := .always) (r := ⟨.v (.bool b), [], [], none⟩) (v := .bool b) hs' (by rw [hd]; exact hnt) (.inr ⟨fun _ => repV_v rfl, fun h => absurd trivial h⟩) (Ev.refl _ _ _) hs'.wr
    have e3 : (St.after ⟨t1, m1⟩ o .always ⟨.v (.bool b), [], [], none⟩) = ⟨setT t1 k4 (some (.always, .v (.bool b))), m1⟩ := by
      simp only [St.after, St.put, hd, appM]
    rw [e3] at this
    exact this
  rw [← hl] at hh
  exact hh
/-- What a call leaves, seen otherwise. -/
theorem AC.ent {f : FuncId} {args : List AV} {B : List Ob} {r r2 : AV} {B' B2 : List Ob} (h : AC P T N f args B r B') (hent : Ent T N 1 B.length (mkSt [(0, r)] (mkB 0 B')) (mkSt [(0, r2)] (mkB 0 B2))) : AC P T N f args B r2 B2 := by
  refine ⟨h.1, fun I ρ w vs hl hvs hw => (h.2 I ρ w vs hl hvs hw).mono ?_⟩
  rintro e w' ⟨v, I', ρ', he, h1, h2, h3⟩
  have hm : ∀ B : List Ob, (mkSt [(0, r)] (mkB 0 B)).m = ofB B := fun B => mkB_ofB B
  have hm2 : ∀ B : List Ob, (mkSt [(0, r2)] (mkB 0 B)).m = ofB B := fun B => mkB_ofB B
  have hst : StRep T N ⟨I, ρ, w, 1, B.length, false⟩ I' ρ' (mkSt [(0, r)] (mkB 0 B')) { tmps := #[v], defers := [] } w' := by
    refine ⟨by rw [hm]; exact h3, fun t d x ht => ?_, rfl, ⟨Marks.nil, fun _ => rfl⟩, h1, fun id p hp => ?_⟩
    · simp only [mkSt, Option.map_eq_some_iff, Prod.mk.injEq] at ht
      obtain ⟨x0, k1, rfl, rfl⟩ := ht
      simp only [lookN] at k1
      cases hb : Nat.beq t 0 with
      | false => rw [hb] at k1; cases k1
      | true =>
        rw [hb] at k1
        cases k1
        obtain rfl := Nat.eq_of_beq_eq_true hb
        exact ⟨fun _ => h2, fun h => absurd trivial h⟩
    · have := hw.dom id p hp
      cases id with
      | s a b => exact absurd rfl this
      | b j =>
        refine ⟨j, ?_, rfl⟩
        cases hj : B[j]? with
        | none => simp [ofB, hj] at this
        | some o => exact (List.getElem?_eq_some_iff.1 hj).1
  obtain ⟨I2, ρ2, hs2⟩ := hent _ rfl rfl I' ρ' _ w' hst
  refine ⟨v, I2, ρ2, he, hs2.ev, ?_, ?_⟩
  · exact (hs2.tm 0 .always r2 rfl).1 trivial
  · have := hs2.wr
    rwa [hm2] at this
/-- A slice that was made is a row. -/
theorem AC.rowI (hT : TOK P T N) {f : FuncId} {args : List AV} {ty : Nat} {k : IntKind} {L : List Int} (h : AC P T N f args [] (.own (.b 0) L.length 0 L.length none) [cellsI ty k L]) : AC P T N f args [] (.row ty false L.length (fun i => .v (.int k (L.getD i 0)))) [] :=
  AC.ent h (Ent.mk (ms := []) (ts := [(0, .row ty false L.length (fun i => .v (.int k (L.getD i 0))))]) hT [(.b 0, L.length)] ⟨⟨_, rfl, Nat.le_refl _⟩, trivial⟩ ⟨⟨rfl, _, rfl, conv_row rfl rfl rfl (fun h => by cases h) (by simp [lookF, idbeq_self]) (fun j hj => by rw [Nat.zero_add]; exact ⟨rfl, AEq.refl _⟩)⟩, trivial⟩ trivial rfl)
end
end Go.Ab

/- slices.Clone of any row of ints. -/
set_option autoImplicit false
set_option maxRecDepth 20000
set_option maxHeartbeats 4000000
set_option linter.unusedSimpArgs false
set_option linter.unusedVariables false
namespace Go.Ab
open Go.Proofs Go.Sort
theorem clone0_ac (f : Bool) : AC Tryz.prog T tysN 85 [ints f []] [] (ownI []) [cellsI 3 .i64 []] := by
  refine AC_intro hT Tryz.func85 rfl rfl (Nat.le_of_ble_eq_true rfl) ?_
  refine sq (rg [] rfl ?_)
  refine sq (sq ?_)
  refine WP.nilreg (l := [_]) (gs := []) hT hE rfl rfl trivial rfl rfl rfl rfl rfl rfl (fun b => ?_)
  refine cd rfl (fun h1 => ?_) (fun h1 => ?_)
  · refine sq (rg [] rfl ?_)
    refine WP.ret ?_
    change Fin ..
    exact fin_toB hT [] [.s 7 0] (ts := [(2, ownI [])]) (l := [ownI []]) trivial rfl ⟨⟨_, .own (.s 7 0) 0 0 0 none, rfl, conv_nils, rfl, rfl⟩, trivial⟩ ⟨.inr ⟨rfl, 3, _, rfl, Nat.lt_of_lt_of_eq Nat.zero_lt_one rfl⟩, trivial⟩ rfl rfl
  · refine sk (sq (rgs [CG.mine, CG.nop] rfl ?_ ?_))
    · simp [holdsC, under]
    refine WP.ret ?_
    change Fin ..
    exact fin_toB hT [] [.s 5 0] (ts := [(2, ownI [])]) (l := [ownI []]) trivial rfl ⟨⟨_, .own (.s 5 0) 0 0 0 none, rfl, conv_eq rfl, rfl, rfl⟩, trivial⟩ ⟨.inl ⟨_, cellsI 3 .i64 [], rfl, ⟨_, _, rfl, Nat.le_refl _, Nat.zero_le _, Nat.zero_le _, fun i hi => absurd hi (Nat.not_lt_zero _)⟩, fun _ _ => rfl, rfl⟩, trivial⟩ rfl rfl
theorem clone_ac (f : Bool) (L : List Int) (h1 : L.length < 4294967296) : AC Tryz.prog T tysN 85 [ints f L] [] (ownI L) [cellsI 3 .i64 L] := by
  cases L with
  | nil => exact clone0_ac f
  | cons a r => exact cloneI_ac f (a :: r) (Nat.succ_pos _) h1
/-- What Compact leaves. -/
def ddI (s : List Int) : List Int := dd 0 s s.length
def dupsO (s : List Int) : Ob := .cells ⟨3, s.length, fun q => .int ((ddI s).getD q 0), 0⟩
theorem okOs_dups {ids : List Id} (s : List Int) : okOs ids [dupsO s] := ⟨fun j hj => rfl, trivial⟩
theorem compZ_ac (s : List Int) : AC Tryz.prog T tysN 83 [.own (.b 0) s.length 0 s.length none] [cellsI 3 .i64 s] (.own (.b 0) s.length 0 (ddI s).length none) [dupsO s] := by
  have h := compactI_ac s
  have e : (Ob.cells ⟨3, s.length, fun j => bif Nat.blt j (dd 0 s s.length).length then (fun x => AV.int x) ((dd 0 s s.length).getD j 0) else (AV.int 0), 0⟩) = dupsO s := by
    unfold dupsO ddI
    congr 2
    funext j
    cases hb : Nat.blt j (dd 0 s s.length).length with
    | true => rfl
    | false =>
      have hj : ¬ j < (dd 0 s s.length).length := fun h => by have := Nat.blt_eq.mpr h; rw [this] at hb; cases hb
      rw [List.getD_eq_getElem?_getD, List.getElem?_eq_none (by omega)]; rfl
  rw [e] at h
  exact h
end Go.Ab


/- order.listed, order.Linear. -/
set_option autoImplicit false
set_option maxRecDepth 20000
set_option maxHeartbeats 4000000
set_option linter.unusedSimpArgs false
set_option linter.unusedVariables false
namespace Go.Ab
open Go.Proofs Go.Sort
def lstE (t : List Evt) (l : List Int) : Int := if chkE t ≠ 0 then chkE t else if 256 < l.length then 2 else askE t l
theorem tab_nil {m : Id → Option Ob} {F : Id → Nat} {t : List Evt} {e : Int} (h : e ≠ 0) {x : AV} (hx : x = stru 147 [.nils, .nils]) : Conv m F T x (tabF t e) := by rw [hx]; exact conv_tz h
theorem listed_ac (g f : Bool) (t : List Evt) (l : List Int) : AC Tryz.prog T tysN 89 [evts g t, ints f l] [] (.tup [tabF t (lstE t l), .int (lstE t l)]) [] := by
 refine AC_intro hT Tryz.func89 rfl rfl (Nat.le_of_ble_eq_true rfl) ?_
 refine sq (rg [] rfl ?_)
 refine sq (sq (rgs [CG.pure (.int (chkE t))] rfl ?_ ?_))
 ·have h1 := dcheck_ac g t
  simp only [holdsC, under, CG.pure]
  repeat' with_reducible refine And.intro ?_ ?_
  all_goals (try with_reducible intros)
  all_goals (first | exact trivial | assumption | omega | exact h1 | (simp; done) | grind)
 refine sq (rg [] rfl ?_)
 refine cd rfl (fun h2 => ?_) (fun h2 => ?_)
 ·have hb : chkE t ≠ 0 := by simpa using h2
  refine sq (rg [] rfl ?_)
  refine WP.ret ?_
  change Fin ..
  have e : lstE t l = chkE t := if_pos hb
  rw [e]
  exact fin_tab rfl rfl rfl rfl rfl rfl (tab_nil hb rfl)
 ·have hb : chkE t = 0 := by simpa using h2
  refine sk (sq (sq (rg [] rfl ?_)))
  refine cd rfl (fun h4 => ?_) (fun h4 => ?_)
  ·have hl : 256 < l.length := by simp at h4; omega
   refine sq (rg [] rfl ?_)
   refine WP.ret ?_
   change Fin ..
   have e : lstE t l = 2 := by rw [lstE, if_neg (fun h => h hb), if_pos hl]
   rw [e]
   exact fin_tab rfl rfl rfl rfl rfl rfl (tab_nil (by decide) rfl)
  ·have hl : l.length ≤ 256 := by simp at h4; omega
   have e : lstE t l = askE t l := by rw [lstE, if_neg (fun h => h hb), if_neg (by omega)]
   refine sk (sq (rgs [CG.pure (.tup [tabF t (askE t l), .int (askE t l)])] rfl ?_ ?_))
   ·have h1 := asked_ac g f t l
    simp only [holdsC, under, CG.pure]
    repeat' with_reducible refine And.intro ?_ ?_
    all_goals (try with_reducible intros)
    all_goals (first | exact trivial | assumption | omega | exact h1 | (simp; done) | grind)
   refine WP.ret ?_
   change Fin ..
   rw [e]
   exact fin_tab rfl rfl rfl rfl rfl rfl (conv_eq rfl)
def cntI (l : List Int) : Nat := (ddI (sortI l)).length
def linE (t : List Evt) (l : List Int) : Int := if lstE t l ≠ 0 then lstE t l else if (cntI l != t.length || l.length != t.length) = true then 1 else 0
/-- What stands ahead of what happens before it. -/
def backB (t : List Evt) (l : List Int) (i j : Nat) : Bool := befB t (l.getD j 0).toNat (l.getD i 0).toNat
def linB (t : List Evt) (l : List Int) : Bool := (List.range l.length).all fun i => (List.range l.length).all fun j => !(decide (i < j) && backB t l i j)
def linF (t : List Evt) (l : List Int) : Bool := decide (linE t l = 0) && linB t l
theorem linB_yes {t : List Evt} {l : List Int} (h : ∀ i, i < l.length → ∀ j, j < l.length → i < j → backB t l i j = false) : linB t l = true := by
  simp only [linB, List.all_eq_true, List.mem_range]
  intro i hi j hj
  cases hij : decide (i < j) with
  | false => rfl
  | true => rw [h i hi j hj (by simpa using hij)]; rfl
theorem linB_no {t : List Evt} {l : List Int} {i j : Nat} (hi : i < l.length) (hj : j < l.length) (hij : i < j) (h : backB t l i j = true) : linB t l = false := by
  cases e : linB t l with
  | false => rfl
  | true =>
    simp only [linB, List.all_eq_true, List.mem_range] at e
    have := e i hi j hj
    rw [h] at this
    simp [hij] at this
theorem ask_all {t : List Evt} {l : List Int} (h : askE t l = 0) : GoOK t ∧ ∀ q, q < l.length → 0 ≤ l.getD q 0 ∧ l.getD q 0 < t.length := by
  unfold askE at h
  by_cases h1 : chkE t ≠ 0
  · rw [if_pos h1] at h; exact absurd h h1
  · rw [if_neg h1] at h
    refine ⟨chk_right (by simpa using h1), fun q hq => ?_⟩
    split at h
    · cases h
    · rename_i h2
      simp only [List.any_eq_true, not_exists, not_and] at h2
      have := h2 (l.getD q 0) (by simp [List.getD_eq_getElem?_getD, hq])
      simp at this
      simp only [List.getD_eq_getElem?_getD]
      omega
theorem lst_all {t : List Evt} {l : List Int} (h : lstE t l = 0) : l.length ≤ 256 ∧ askE t l = 0 := by
  unfold lstE at h
  split at h
  · rename_i e; exact absurd h e
  · split at h
    · cases h
    · exact ⟨by omega, h⟩
theorem linear_ac (g f : Bool) (t : List Evt) (l : List Int) : AC Tryz.prog T tysN 37 [evts g t, ints f l] [] (.tup [.bool (linF t l), .int (linE t l)]) [] := by
 refine AC_intro hT Tryz.func37 rfl rfl (Nat.le_of_ble_eq_true rfl) ?_
 refine sq (rg [] rfl ?_)
 refine sq (rgs [CG.pure (.tup [tabF t (lstE t l), .int (lstE t l)])] rfl ?_ ?_)
 ·have h1 := listed_ac g f t l
  simp only [holdsC, under, CG.pure]
  repeat' with_reducible refine And.intro ?_ ?_
  all_goals (try with_reducible intros)
  all_goals (first | exact trivial | assumption | omega | exact h1 | (simp; done) | grind)
 refine sq (sq (rg [] rfl ?_))
 refine cd rfl (fun h2 => ?_) (fun h2 => ?_)
 ·have hb : lstE t l ≠ 0 := by simpa using h2
  refine sq (rg [] rfl ?_)
  refine WP.ret ?_
  change Fin ..
  have e : linE t l = lstE t l := if_pos hb
  have e2 : linF t l = false := by rw [linF, e, decide_eq_false hb]; rfl
  rw [e, e2]
  exact fin_mk hT [] (ts := [(4, .bool false), (5, .int (lstE t l))]) (l := [.bool false, .int (lstE t l)]) trivial ⟨⟨rfl, _, rfl, cvt⟩, ⟨rfl, _, rfl, cvt⟩, trivial⟩ trivial rfl rfl rfl
 ·have hb : lstE t l = 0 := by simpa using h2
  obtain ⟨hl, hask⟩ := lst_all hb
  obtain ⟨hok, hin⟩ := ask_all hask
  have h256 := hok.1
  refine sk (sq ?_)
  refine WP.ent (st' := mkSt [(0, evts g t), (1, ints f l), (6, .ptr (.s 6 0) 1 0 []), (7, .int 0)] [(.s 6 0, .cells ⟨147, 1, fun _ => encTab t, 0⟩)]) ?_ ?_
  ·refine em [] trivial ⟨⟨rfl, _, rfl, cvt⟩, ⟨rfl, _, rfl, cvt⟩, ⟨rfl, _, rfl, cvt⟩, ⟨rfl, _, rfl, conv_eq (by rw [hb])⟩, trivial⟩ ⟨obs rfl (hok := fun _ _ => okIds_agg (fun i hi => by match i, hi with | 0, _ | 1, _ => rfl)) (hg := fun q hq => by (obtain rfl : q = 0 := (by simp at hq; exact hq)); exact conv_eq (by show tabF t (lstE t l) = _; rw [hb]; rfl)), trivial⟩
  refine rgs [CG.pure (.clo 127 [.rp 23 (ints f l)]), ⟨true, [], ownI (sortI l), [cellsI 3 .i64 (sortI l)]⟩] rfl ?_ ?_
  ·have h1 := values_ac f l
   have h2 := sorted_ac f l (by omega)
   have h3 : okOs (bs 1) [cellsI 3 .i64 (sortI l)] := ⟨fun _ _ => rfl, trivial⟩
   simp only [holdsC, under, CG.pure]
   repeat' with_reducible refine And.intro ?_ ?_
   all_goals (try with_reducible intros)
   all_goals (first | exact trivial | assumption | omega | exact h1 | exact h2 | exact h3 | (simp; done) | grind)
  refine sq (sq (rgs [⟨true, [.s 24 1], .own (.b 0) (sortI l).length 0 (cntI l) none, [dupsO (sortI l)]⟩] rfl ?_ ?_))
  ·have h1 := compZ_ac (sortI l)
   have h2 : okOs (bs 1) [dupsO (sortI l)] := okOs_dups (sortI l)
   have h3 : okOs [.s 24 1] [cellsI 3 .i64 (sortI l)] := ⟨fun _ _ => rfl, trivial⟩
   simp only [holdsC, under, CG.pure]
   repeat' with_reducible refine And.intro ?_ ?_
   all_goals (try with_reducible intros)
   all_goals (first | exact trivial | assumption | omega | exact h1 | exact h2 | exact h3 | (simp; done) | grind)
  refine cd rfl (fun h5 => ?_) (fun h5 => ?_)
  ·have hx : (cntI l != t.length || l.length != t.length) = true := by
     have e := h5
     rw [bor] at e
     rw [← e, Bool.eq_iff_iff]
     simp; omega
   have e : linE t l = 1 := by rw [linE, if_neg (fun h => h hb), if_pos hx]
   have e2 : linF t l = false := by rw [linF, e]; rfl
   refine sq (rg [] rfl ?_)
   refine WP.ret ?_
   change Fin ..
   rw [e, e2]
   exact fin_mk hT [] (ts := [(4, .bool false), (5, .int 1)]) (l := [.bool false, .int 1]) trivial ⟨⟨rfl, _, rfl, cvt⟩, ⟨rfl, _, rfl, cvt⟩, trivial⟩ trivial rfl rfl rfl
  ·have hx : (cntI l != t.length || l.length != t.length) = false := by
     have e := h5
     rw [bor] at e
     rw [← e, Bool.eq_iff_iff]
     simp; omega
   have e : linE t l = 0 := by rw [linE, if_neg (fun h => h hb), hx]; rfl
   refine sk (sq (sq (rg [] rfl ?_)))
   refine bk ?_
   refine WP.loop (α := Nat) (fun i => mkSt [(1, ints f l), (6, .ptr (.s 6 0) 1 0 []), (38, ints f l), (39, .int l.length), (40, .int i)] [(.s 6 0, .cells ⟨147, 1, fun _ => encTab t, 0⟩)]) (fun i => i ≤ l.length ∧ ∀ a, a < i → ∀ b, b < l.length → a < b → backB t l a b = false) (fun i => l.length - i) ?_ ?_
   ·refine ⟨0, ?_, ?_⟩
    ·exact ⟨Nat.zero_le _, fun a ha => absurd ha (Nat.not_lt_zero _)⟩
    ·refine em [] trivial ⟨⟨rfl, _, rfl, cvt⟩, ⟨rfl, _, rfl, cvt⟩, ⟨rfl, _, rfl, cvt⟩, ⟨rfl, _, rfl, cvt⟩, ⟨rfl, _, rfl, cvt⟩, trivial⟩ ⟨obs rfl (hok := fun _ _ => okIds_agg (fun i hi => by match i, hi with | 0, _ | 1, _ => rfl)), trivial⟩
   ·rintro i ⟨hi, hn⟩
    refine sq (rg [] rfl ?_)
    refine sq ?_
    refine cd rfl (fun h8 => ?_) (fun h8 => ?_)
    ·have hil : i < l.length := by simpa using h8
     have hri := hin i hil
     have hw : IntKind.i64.wrap ((i : Int) + 1) = ((i + 1 : Nat) : Int) := by rw [wrap_id (by omega) (by omega)]; omega
     refine sk (sq (bk (sq (rg [] rfl ?_))))
     refine sq (rgs [] rfl ?_ ?_)
     ·simp only [hw]
      simp [holdsC, under, slOk, slB]
      exact ⟨by omega, by simp [capEq]⟩
     refine bk ?_
     refine WP.loop (α := Nat) (fun k => mkSt [(1, ints f l), (6, .ptr (.s 6 0) 1 0 []), (10, .int (l.getD i 0)), (38, ints f l), (39, .int l.length), (40, .int i), (48, ints false (l.drop (i + 1))), (49, .int (l.drop (i + 1)).length), (50, .int k)] [(.s 6 0, .cells ⟨147, 1, fun _ => encTab t, 0⟩)]) (fun k => k ≤ (l.drop (i + 1)).length ∧ ∀ b, b < i + 1 + k → i < b → backB t l i b = false) (fun k => (l.drop (i + 1)).length - k) ?_ ?_
     ·refine ⟨0, ?_, ?_⟩
      ·exact ⟨Nat.zero_le _, fun b hb hb2 => by omega⟩
      ·refine em [] trivial ⟨⟨rfl, _, rfl, cvt⟩, ⟨rfl, _, rfl, cvt⟩, ⟨rfl, _, rfl, cvt⟩, ⟨rfl, _, rfl, cvt⟩, ⟨rfl, _, rfl, cvt⟩, ⟨rfl, _, rfl, cvt⟩, ⟨rfl, _, rfl, conv_rowN (by simp only [slB, hw, Option.getD_some, Option.getD_none, List.length_drop]; omega) (fun h => by cases h) (fun j hj => by simp only [slB, hw, Option.getD_some, Int.toNat_natCast, List.getD_eq_getElem?_getD, List.getElem?_drop])⟩, ⟨rfl, _, rfl, conv_eq (by simp only [slB, hw, Option.getD_some, Option.getD_none, List.length_drop]; congr 2; omega)⟩, ⟨rfl, _, rfl, cvt⟩, trivial⟩ ⟨obs rfl (hok := fun _ _ => okIds_agg (fun i hi => by match i, hi with | 0, _ | 1, _ => rfl)), trivial⟩
     ·rintro k ⟨hk, hm⟩
      refine sq (rg [] rfl ?_)
      refine sq ?_
      refine cd rfl (fun h11 => ?_) (fun h11 => ?_)
      ·have hkl : k < (l.drop (i + 1)).length := by simpa using h11
       have hkl2 : i + 1 + k < l.length := by rw [List.length_drop] at hkl; omega
       have hrk := hin (i + 1 + k) hkl2
       refine sk (sq (bk (sq (rg [] rfl ?_))))
       refine sq (rgs [CG.pure (.bool (backB t l i (i + 1 + k)))] rfl ?_ ?_)
       ·have h0 := before_ac t hok (l.getD (i + 1 + k) 0).toNat (l.getD i 0).toNat (by omega) (by omega)
        rw [Int.toNat_of_nonneg hrk.1, Int.toNat_of_nonneg hri.1] at h0
        have h1 : AC Tryz.prog T tysN 90 [encTab t, .int ((l.drop (i + 1)).getD k 0), .int (l.getD i 0)] [] (.bool (backB t l i (i + 1 + k))) [] := by
          rw [show (l.drop (i + 1)).getD k 0 = l.getD (i + 1 + k) 0 by simp only [List.getD_eq_getElem?_getD, List.getElem?_drop]]
          exact h0
        simp only [holdsC, under, CG.pure]
        repeat' with_reducible refine And.intro ?_ ?_
        all_goals (try with_reducible intros)
        all_goals (first | exact trivial | assumption | omega | exact h1 | (simp; done) | grind)
       refine cd rfl (fun h13 => ?_) (fun h13 => ?_)
       ·have hx : backB t l i (i + 1 + k) = true := h13
        have e2 : linF t l = false := by rw [linF, linB_no hil hkl2 (by omega) hx]; simp
        refine sq (rg [] rfl ?_)
        refine WP.ret ?_
        change Fin ..
        rw [e, e2]
        exact fin_mk hT [] (ts := [(4, .bool false), (5, .int 0)]) (l := [.bool false, .int 0]) trivial ⟨⟨rfl, _, rfl, cvt⟩, ⟨rfl, _, rfl, cvt⟩, trivial⟩ trivial rfl rfl rfl
       ·have hx : backB t l i (i + 1 + k) = false := h13
        refine sk (rg [] rfl ?_)
        refine ⟨k + 1, ?_, ?_, ?_⟩
        ·exact ⟨hkl, fun b hb1 hb2 => (Nat.lt_or_ge b (i + 1 + k)).elim (fun h => hm b h hb2) (fun h => (show b = i + 1 + k by omega) ▸ hx)⟩
        ·refine em [] trivial ⟨⟨rfl, _, rfl, cvt⟩, ⟨rfl, _, rfl, cvt⟩, ⟨rfl, _, rfl, cvt⟩, ⟨rfl, _, rfl, cvt⟩, ⟨rfl, _, rfl, cvt⟩, ⟨rfl, _, rfl, cvt⟩, ⟨rfl, _, rfl, cvt⟩, ⟨rfl, _, rfl, cvt⟩, ⟨rfl, _, rfl, cvt⟩, trivial⟩ ⟨obs rfl (hok := fun _ _ => okIds_agg (fun i hi => by match i, hi with | 0, _ | 1, _ => rfl)), trivial⟩
        ·(try simp only []); first | omega | grind
      ·have hkl : k = (l.drop (i + 1)).length := by simp at h11; rw [List.length_drop] at hk ⊢; omega
       refine xt (rg [] rfl ?_)
       refine ⟨i + 1, ?_, ?_, ?_⟩
       ·exact ⟨hil, fun a ha b hb hab => by
        rcases Nat.lt_or_ge a i with h | h
        · exact hn a h b hb hab
        · obtain rfl : a = i := by omega
          exact hm b (by rw [hkl, List.length_drop]; omega) hab⟩
       ·refine em [] trivial ⟨⟨rfl, _, rfl, cvt⟩, ⟨rfl, _, rfl, cvt⟩, ⟨rfl, _, rfl, cvt⟩, ⟨rfl, _, rfl, cvt⟩, ⟨rfl, _, rfl, cvt⟩, trivial⟩ ⟨obs rfl (hok := fun _ _ => okIds_agg (fun i hi => by match i, hi with | 0, _ | 1, _ => rfl)), trivial⟩
       ·(try simp only []); first | omega | grind
    ·have hil : i = l.length := by simp at h8; omega
     subst hil
     have e2 : linF t l = true := by rw [linF, e, linB_yes (fun a ha b hb hab => hn a ha b hb hab)]; rfl
     refine xt (sq (rg [] rfl ?_))
     refine WP.ret ?_
     change Fin ..
     rw [e, e2]
     exact fin_mk hT [] (ts := [(4, .bool true), (5, .int 0)]) (l := [.bool true, .int 0]) trivial ⟨⟨rfl, _, rfl, cvt⟩, ⟨rfl, _, rfl, cvt⟩, trivial⟩ trivial rfl rfl rfl
end Go.Ab


/- slices.DeleteFunc at ints in a block that is longer; slices.Compact, Concat as rows; race.Beside. -/
set_option autoImplicit false
set_option maxRecDepth 20000
set_option maxHeartbeats 4000000
set_option linter.unusedSimpArgs false
set_option linter.unusedVariables false
namespace Go.Ab
open Go.Proofs Go.Sort
theorem dlG_clearZ {p : Int → Bool} {l : List Int} (k : Nat) (hk : k = (keepG p l).length) (q : Nat) : (bif Nat.ble (k + 0) q && Nat.blt q (k + 0 + (l.length - k)) then AV.int 0 else AV.int (dlG 0 p l l.length q)) = AV.int ((keepG p l).getD q 0) := by
  by_cases hq : q < l.length
  · exact dlG_clear (enc := fun x => AV.int x) (d := 0) rfl k hk q hq
  · have hle : (keepG p l).length ≤ l.length := List.length_filter_le _ _
    have h1 : Nat.blt q (k + 0 + (l.length - k)) = false := by
      cases h : Nat.blt q (k + 0 + (l.length - k)) with
      | false => rfl
      | true => rw [Nat.blt_eq] at h; omega
    rw [h1, Bool.and_false, cond_false, dlG, List.take_length, if_neg (by omega)]
    have e1 : l.getD q 0 = 0 := by rw [List.getD_eq_getElem?_getD, List.getElem?_eq_none (by omega)]; rfl
    have e2 : (keepG p l).getD q 0 = 0 := by rw [List.getD_eq_getElem?_getD, List.getElem?_eq_none (by omega)]; rfl
    rw [e1, e2]
theorem delZ_ac (n : Nat) (l : List Int) (hn0 : l.length ≤ n) (f : FuncId) (ta : Nat) (xa : AV) (p : Int → Bool) (hp : ∀ x ∈ l, AC Tryz.prog T tysN f ((fun x => AV.int x) x :: [.rp ta xa]) [] (.bool (p x)) []) : AC Tryz.prog T tysN 82 [.own (.b 0) n 0 l.length none, .clo f [.rp ta xa]] [.cells ⟨3, n, fun q => .int (l.getD q 0), 0⟩] (.own (.b 0) n 0 (keepG p l).length none) [.cells ⟨3, n, fun q => (fun x => AV.int x) (((keepG p l).getD q 0)), 0⟩] := by
 refine AC_intro hT Tryz.func82 rfl rfl (Nat.le_of_ble_eq_true rfl) ?_
 refine WP.ownlen 0 rfl rfl rfl (fun hl => ?_)
 refine sq (rg [] rfl ?_)
 refine sq (rgs [CG.pure (.int (firstG p l))] rfl ?_ ?_)
 ·have ha := idxI_ac false l f ta xa p hp
  simp [holdsC, under, CG.pure, slOk, slB, capEq]
  exact ⟨fun _ _ => rfl, ha⟩
 refine sq (sq (rg [] rfl ?_))
 refine cd rfl (fun h2 => ?_) (fun h2 => ?_)
 ·have hn : l.any p = false := by
    have e : firstG p l = -1 := by simpa using h2
    unfold firstG at e
    split at e
    · rename_i h; exfalso; omega
    · rename_i h; simpa using h
  refine sq (rg [] rfl ?_)
  refine WP.ret ?_
  change Fin ..
  rw [firstG_none hn]
  refine fin_mk hT [] (ts := [(4, .own (.b 0) n 0 l.length none)]) (l := [.own (.b 0) n 0 l.length none]) trivial ⟨⟨rfl, _, rfl, conv_eq rfl⟩, trivial⟩ ⟨⟨fun _ _ => rfl, .inl ⟨_, rfl, _, _, rfl, Nat.le_refl _, Nat.zero_le _, Nat.zero_le _, fun q hq => conv_eq rfl⟩⟩, trivial⟩ rfl rfl rfl
 ·have hy : l.any p = true := by
    cases h : l.any p with
    | true => rfl
    | false => exfalso; simp [firstG, h] at h2
  have hf : firstG p l = (l.findIdx p : Int) := by simp [firstG, hy]
  obtain ⟨hf1, hf2⟩ := firstG_keep hy
  refine sk (sq (sq (rg [] rfl ?_)))
  refine bk ?_
  refine WP.loop (α := Nat) (fun j => mkSt [(0, .own (.b 0) n 0 l.length none), (1, .clo f [.rp ta xa]), (5, .int (keepG p (l.take j)).length), (6, .int j)] [(.b 0, .cells ⟨3, n, fun q => (fun x => AV.int x) (dlG 0 p l j q), 0⟩)]) (fun j => j ≤ l.length ∧ (keepG p (l.take j)).length < j) (fun j => l.length - j) ?_ ?_
  ·refine ⟨l.findIdx p + 1, ?_, ?_⟩
   ·refine ⟨hf1, ?_⟩
    rw [hf2, List.length_take]; omega
   ·refine em [] trivial ⟨⟨rfl, _, rfl, cvt⟩, ⟨rfl, _, rfl, cvt⟩, ⟨rfl, _, rfl, conv_eq (by rw [hf, hf2, List.length_take]; congr 2; omega)⟩, ⟨rfl, _, rfl, conv_eq (by rw [hf, wrap_id (by omega) (by omega)]; rfl)⟩, trivial⟩ ⟨⟨fun _ _ => rfl, .inl ⟨_, rfl, _, _, rfl, Nat.le_refl _, Nat.zero_le _, Nat.zero_le _, fun q hq => conv_eq (by rw [dlG_first hy])⟩⟩, trivial⟩
  ·rintro j ⟨hj, hkj⟩
   refine sq (sq (rg [] rfl ?_))
   refine cd rfl (fun h5 => ?_) (fun h5 => ?_)
   ·have hjl : j < l.length := by simpa using h5
    refine sk (sq (bk (sq (rgs [] rfl ?_ ?_))))
    ·simp [holdsC, under]; omega
    refine sq (rgs [CG.pure (.bool (p ((l.getD j 0))))] rfl ?_ ?_)
    ·have hd := hp ((l.getD j 0)) (by simp [List.getD_eq_getElem?_getD, hjl])
     skip
     show AC Tryz.prog T tysN f ((fun x => AV.int x) (dlG 0 p l j j) :: [.rp ta xa]) [] (.bool (p ((l.getD j 0)))) []
     rw [dlG_at]; exact hd
    refine cd rfl (fun h8 => ?_) (fun h8 => ?_)
    ·have hpx : p ((l.getD j 0)) = false := by simpa using h8
     refine sq (rgs [] rfl ?_ ?_)
     ·simp [holdsC, under]; omega
     refine rg [] rfl ?_
     refine rg [] rfl ?_
     refine ⟨j + 1, ?_, ?_, ?_⟩
     ·rw [keepG_snoc_yes hjl hpx, List.length_append, List.length_singleton]; exact ⟨hjl, by omega⟩
     ·refine em [] trivial ⟨⟨rfl, _, rfl, cvt⟩, ⟨rfl, _, rfl, cvt⟩, ⟨rfl, _, rfl, conv_eq (by rw [wrap_id (by omega) (by omega), keepG_snoc_yes hjl hpx, List.length_append, List.length_singleton]; rfl)⟩, ⟨rfl, _, rfl, cvt⟩, trivial⟩ ⟨⟨fun _ _ => rfl, .inl ⟨_, rfl, _, _, rfl, Nat.le_refl _, Nat.zero_le _, Nat.zero_le _, fun q hq => conv_eq (by rw [dlG_yes hjl hpx]; exact dlG_put (enc := (fun x => AV.int x)) (d := 0) _)⟩⟩, trivial⟩
     ·(try simp only []); first | omega | grind
    ·have hpx : p ((l.getD j 0)) = true := by simpa using h8
     refine sk (rg [] rfl ?_)
     refine ⟨j + 1, ?_, ?_, ?_⟩
     ·rw [keepG_snoc_no hjl hpx]; exact ⟨hjl, by omega⟩
     ·refine em [] trivial ⟨⟨rfl, _, rfl, cvt⟩, ⟨rfl, _, rfl, cvt⟩, ⟨rfl, _, rfl, conv_eq (by rw [keepG_snoc_no hjl hpx])⟩, ⟨rfl, _, rfl, cvt⟩, trivial⟩ ⟨⟨fun _ _ => rfl, .inl ⟨_, rfl, _, _, rfl, Nat.le_refl _, Nat.zero_le _, Nat.zero_le _, fun q hq => conv_eq (by rw [dlG_no hjl hpx])⟩⟩, trivial⟩
     ·(try simp only []); first | omega | grind
   ·have hjl : j = l.length := by simp at h5; omega
    subst hjl
    refine xt (sq (rgs [] rfl ?_ ?_))
    ·have hk2 : (keepG p l).length < l.length := by rw [List.take_length] at hkj; exact hkj
     simp [holdsC, under, slOk, slB]; omega
    refine sq (rgs [] rfl ?_ ?_)
    ·have hk2 : (keepG p l).length < l.length := by rw [List.take_length] at hkj; exact hkj
     simp [holdsC, under, slOk, slB]; omega
    refine WP.ret ?_
    change Fin ..
    refine fin_mk hT [] (ts := [(4, .own (.b 0) n 0 (keepG p l).length none)]) (l := [.own (.b 0) n 0 (keepG p l).length none]) trivial ⟨⟨rfl, _, rfl, conv_eq (by rw [List.take_length]; simp; done)⟩, trivial⟩ ⟨⟨fun _ _ => rfl, .inl ⟨_, rfl, _, _, rfl, Nat.le_refl _, Nat.zero_le _, Nat.zero_le _, fun q hq => conv_eq (Eq.trans rfl (dlG_clearZ (keepG p (l.take l.length)).length (by rw [List.take_length]) q))⟩⟩, trivial⟩ rfl rfl rfl
theorem concatR_ac (f : Bool) (LL : List (List Int)) (hl : LL.length ≤ 1000) (hs : (flTo LL LL.length).length ≤ 1000000) : AC Tryz.prog T tysN 81 [intss f LL] [] (ints false (flTo LL LL.length)) [] := AC.rowI hT (concat_ac f LL hl hs)
def pI (t : List Evt) (i : Int) : List Int := (pastI t i.toNat).reverse
def bothI (t : List Evt) (i j : Int) : List Int := flTo [pI t i, pI t j] 2
/-- The past of both, without i, then i, then j, then all others. -/
def ord0 (t : List Evt) (i j : Int) : List Int := keepG (fun x => x == i) (ddI (sortI (bothI t i j))) ++ [i, j]
def ordTo (t : List Evt) (i j : Int) : Nat → List Int
  | 0 => ord0 t i j
  | k + 1 => if (k : Int) ∈ ordTo t i j k then ordTo t i j k else ordTo t i j k ++ [(k : Int)]
def ordI (t : List Evt) (i j : Int) : List Int := ordTo t i j t.length
def askB (t : List Evt) (i j : Int) : Bool := plcF t i j != 0 || decide (i ≥ j)
def besL (t : List Evt) (i j : Int) : List Int := if (!askB t i j && linF t (ordI t i j)) = true then ordI t i j else []
theorem ddI_len (s : List Int) : (ddI s).length ≤ s.length := dd_len 0 s s.length
theorem pI_len (t : List Evt) (i : Int) : (pI t i).length ≤ i.toNat := by
  rw [pI, List.length_reverse, pastI, List.length_map]
  exact pastTo_len t _ _
theorem bothI_len (t : List Evt) (i j : Int) : (bothI t i j).length = (pI t i).length + (pI t j).length := by
  simp [bothI, flTo]
theorem ord0_len (t : List Evt) (i j : Int) : (ord0 t i j).length ≤ (pI t i).length + (pI t j).length + 2 := by
  have h1 := dd_len (0 : Int) (sortI (bothI t i j)) (sortI (bothI t i j)).length
  rw [sort_len, bothI_len] at h1
  have h2 : (keepG (fun x => x == i) (ddI (sortI (bothI t i j)))).length ≤ (ddI (sortI (bothI t i j))).length := List.length_filter_le _ _
  rw [ord0, List.length_append]
  have h3 : (ddI (sortI (bothI t i j))).length ≤ (pI t i).length + (pI t j).length := by rw [ddI, sort_len, bothI_len]; exact h1
  simp only [List.length_cons, List.length_nil]
  omega
theorem ordTo_len (t : List Evt) (i j : Int) : ∀ k, (ordTo t i j k).length ≤ (ord0 t i j).length + k
  | 0 => Nat.le_refl _
  | k + 1 => by
    have := ordTo_len t i j k
    rw [ordTo]
    split
    · omega
    · rw [List.length_append, List.length_singleton]; omega
theorem plc_ask {t : List Evt} {i j : Int} (h : plcF t i j = 0) : askE t [i] = 0 ∧ askE t [j] = 0 := by
  obtain ⟨h1, h2, h3⟩ := plc_at h
  constructor
  · rw [askE, if_neg (fun e => e h1), if_neg]
    simp; omega
  · rw [askE, if_neg (fun e => e h1), if_neg]
    simp; omega
theorem opastZ_ac (g : Bool) (t : List Evt) (i : Int) (h : askE t [i] = 0) : AC Tryz.prog T tysN 78 [evts g t, .int i] [] (.tup [ints false (pI t i), .int 0]) [] := by
  have h1 := opast_ac g t i
  rw [if_pos h, h] at h1
  exact h1
theorem concat2_ac (a b : List Int) (h : a.length + b.length ≤ 1000000) (g : Nat → AV) (h0 : g 0 = ints false a) (h1 : g 1 = ints false b) : AC Tryz.prog T tysN 81 [.row 23 true 2 g] [] (ints false (flTo [a, b] 2)) [] :=
  AC.conv hT (concatR_ac false [a, b] (Nat.le_of_ble_eq_true rfl) (by simpa [flTo] using h)) ⟨_, _, rfl, conv_rowL (fun h => by cases h) (fun q hq => by match q, hq with | 0, _ => exact h0 | 1, _ => exact h1), rfl⟩
theorem fun_ac (x i : Int) : AC Tryz.prog T tysN 84 [.int x, .rp 3 (.int i)] [] (.bool (x == i)) [] := by
 refine AC_intro hT Tryz.func84 rfl rfl (Nat.le_of_ble_eq_true rfl) ?_
 refine sq (rg [] rfl ?_)
 refine sq (rg [] rfl ?_)
 refine WP.ret ?_
 change Fin ..
 exact fin1 hT (by rfl) rfl
theorem beside_ac (g : Bool) (t : List Evt) (i j : Int) : AC Tryz.prog T tysN 32 [evts g t, .int i, .int j] [] (.tup [ints false (besL t i j), .bool (!askB t i j && linF t (ordI t i j)), .int (plcF t i j)]) [] := by
 refine AC_intro hT Tryz.func32 rfl rfl (Nat.le_of_ble_eq_true rfl) ?_
 refine sq (rg [] rfl ?_)
 refine sq (sq (rgs [CG.pure (.int (plcF t i j))] rfl ?_ ?_))
 ·have h1 := placed_ac g t i j
  simp only [holdsC, under, CG.pure]
  repeat' with_reducible refine And.intro ?_ ?_
  all_goals (try with_reducible intros)
  all_goals (first | exact trivial | assumption | omega | exact h1 | (simp; done) | grind)
 refine sq (rg [] rfl ?_)
 refine cd rfl (fun h2 => ?_) (fun h2 => ?_)
 ·have hb : askB t i j = true := by
    have e := h2
    rw [bor] at e
    exact e
  refine sq (rg [] rfl ?_)
  refine WP.ret ?_
  change Fin ..
  have e2 : besL t i j = [] := by rw [besL, hb]; rfl
  rw [e2, hb]
  refine fin_mk hT [] (ts := [(6, ints false []), (7, .bool false), (8, .int (plcF t i j))]) (l := [ints false [], .bool false, .int (plcF t i j)]) trivial ⟨⟨rfl, _, rfl, conv_nil_row (by decide)⟩, ⟨rfl, _, rfl, conv_eq rfl⟩, ⟨rfl, _, rfl, conv_eq rfl⟩, trivial⟩ trivial rfl rfl rfl
 ·have hb : askB t i j = false := by
    have e := h2
    rw [bor] at e
    exact e
  have hz : plcF t i j = 0 := by
    have e := hb
    simp [askB] at e
    exact e.1
  have hij : i < j := by
    have e := hb
    simp [askB] at e
    exact e.2
  obtain ⟨hc, hir, hjr⟩ := plc_at hz
  obtain ⟨ha1, ha2⟩ := plc_ask hz
  have hok := chk_right hc
  have h256 := hok.1
  have hl1 := pI_len t i
  have hl2 := pI_len t j
  have hl3 := bothI_len t i j
  have hsl := sort_len (bothI t i j)
  have hdl := ddI_len (sortI (bothI t i j))
  have hkl : (keepG (fun x => x == i) (ddI (sortI (bothI t i j)))).length ≤ (ddI (sortI (bothI t i j))).length := List.length_filter_le _ _
  have hol := ord0_len t i j
  refine sk (sq (rgs [CG.pure (.tup [ints false (pI t i), .int 0])] rfl ?_ ?_))
  ·have h1 := opastZ_ac g t i ha1
   simp only [holdsC, under, CG.pure]
   repeat' with_reducible refine And.intro ?_ ?_
   all_goals (try with_reducible intros)
   all_goals (first | exact trivial | assumption | omega | exact h1 | (simp; done) | grind)
  refine sq (rgs [CG.pure (.tup [ints false (pI t j), .int 0])] rfl ?_ ?_)
  ·have h1 := opastZ_ac g t j ha2
   simp only [holdsC, under, CG.pure]
   repeat' with_reducible refine And.intro ?_ ?_
   all_goals (try with_reducible intros)
   all_goals (first | exact trivial | assumption | omega | exact h1 | (simp; done) | grind)
  refine sq ?_
  refine WP.ent (st' := mkSt [(0, evts g t), (2, .int j), (4, .rp 3 (.int i)), (10, ints false (pI t i)), (12, ints false (pI t j))] []) ?_ ?_
  ·refine em [(.s 4 0, 1)] ⟨⟨_, rfl, Nat.le_refl _⟩, trivial⟩ ⟨⟨rfl, _, rfl, cvt⟩, ⟨rfl, _, rfl, cvt⟩, ⟨rfl, _, rfl, conv_rpe rfl rfl (by decide) rfl rfl rfl⟩, ⟨rfl, _, rfl, cvt⟩, ⟨rfl, _, rfl, cvt⟩, trivial⟩ trivial
  refine rgs [CG.pure (ints false (bothI t i j)), CG.pure (.clo 127 [.rp 23 (ints false (bothI t i j))]), ⟨true, [], ownI (sortI (bothI t i j)), [cellsI 3 .i64 (sortI (bothI t i j))]⟩] rfl ?_ ?_
  ·have h1 := concat2_ac (pI t i) (pI t j) (by omega)
   have h2 := values_ac false (bothI t i j)
   have h3 := sorted_ac false (bothI t i j) (by omega)
   have h4 : okOs (bs 1) [cellsI 3 .i64 (sortI (bothI t i j))] := ⟨fun _ _ => rfl, trivial⟩
   simp only [holdsC, under, CG.pure]
   repeat' with_reducible refine And.intro ?_ ?_
   all_goals (try with_reducible intros)
   all_goals (first | exact trivial | assumption | omega | exact h1 _ rfl rfl | exact h2 | exact h3 | exact h4 | (simp; done))
  refine sq (rgs [⟨true, [.s 48 1], .own (.b 0) (sortI (bothI t i j)).length 0 (ddI (sortI (bothI t i j))).length none, [dupsO (sortI (bothI t i j))]⟩, ⟨true, [.s 48 1], .own (.b 0) (sortI (bothI t i j)).length 0 (keepG (fun x => x == i) (ddI (sortI (bothI t i j)))).length none, [.cells ⟨3, (sortI (bothI t i j)).length, fun q => .int ((keepG (fun x => x == i) (ddI (sortI (bothI t i j)))).getD q 0), 0⟩]⟩] rfl ?_ ?_)
  ·have h1 := compZ_ac (sortI (bothI t i j))
   have h2 := delZ_ac (sortI (bothI t i j)).length (ddI (sortI (bothI t i j))) (ddI_len _) 84 3 (.int i) (fun x => x == i) (fun x _ => fun_ac x i)
   have h4 : okOs [.s 48 1] [cellsI 3 .i64 (sortI (bothI t i j))] := ⟨fun _ _ => rfl, trivial⟩
   have h5 : okOs (bs 1) [dupsO (sortI (bothI t i j))] := ⟨fun _ _ => rfl, trivial⟩
   have h6 : okOs [.s 48 1] [dupsO (sortI (bothI t i j))] := ⟨fun _ _ => rfl, trivial⟩
   have h7 : okOs (bs 1) [.cells ⟨3, (sortI (bothI t i j)).length, fun q => .int ((keepG (fun x => x == i) (ddI (sortI (bothI t i j)))).getD q 0), 0⟩] := ⟨fun _ _ => rfl, trivial⟩
   simp only [holdsC, under, CG.pure]
   repeat' with_reducible refine And.intro ?_ ?_
   all_goals (try with_reducible intros)
   all_goals (first | exact trivial | assumption | omega | exact h1 | exact h2 | exact h4 | exact h5 | exact h6 | exact h7 | (simp; done))
  refine sq (drs [⟨true, [], ownI (keepG (fun x => x == i) (ddI (sortI (bothI t i j)))), [cellsI 3 .i64 (keepG (fun x => x == i) (ddI (sortI (bothI t i j))))]⟩] rfl ?_ ?_)
  ·have h1 := fun f => clone_ac f (keepG (fun x => x == i) (ddI (sortI (bothI t i j)))) (by omega)
   have h4 : okOs (bs 1) [cellsI 3 .i64 (keepG (fun x => x == i) (ddI (sortI (bothI t i j))))] := ⟨fun _ _ => rfl, trivial⟩
   have hbt : (T 3).bytes = 8 := rfl
   simp [holdsC, under, CG.pure, hbt]
   exact ⟨⟨fun _ _ => rfl, trivial, h4, h1 _⟩, by omega⟩
  refine sq (sq (rg [] rfl ?_))
  refine bk ?_
  refine WP.loop (α := Nat) (fun k => mkSt [(0, evts g t), (15, .own (.s 54 1) (ordTo t i j k).length 0 (ordTo t i j k).length none), (60, .int t.length), (61, .int k)] [(.s 54 1, cellsI 3 .i64 (ordTo t i j k))]) (fun k => k ≤ t.length) (fun k => t.length - k) ?_ ?_
  ·refine ⟨0, ?_, ?_⟩
   ·exact Nat.zero_le _
   ·refine em [] trivial ⟨⟨rfl, _, rfl, cvt⟩, ⟨rfl, _, rfl, conv_eq (by show _ = AV.own _ (ord0 t i j).length 0 (ord0 t i j).length none; rw [ord0, List.length_append]; rfl)⟩, ⟨rfl, _, rfl, cvt⟩, ⟨rfl, _, rfl, cvt⟩, trivial⟩ ⟨ob_ints rfl rfl (by show _ = (ord0 t i j).length; rw [ord0, List.length_append]; rfl) rfl rfl (join_flat (b := [i, j]) (fun q hq => rfl) (fun q hq => by match q, hq with | 0, _ | 1, _ => rfl)), trivial⟩
  ·rintro k hk
   refine sq (rg [] rfl ?_)
   refine sq ?_
   refine cd rfl (fun h10 => ?_) (fun h10 => ?_)
   ·have hkt : k < t.length := by simpa using h10
    have hn1 := ordTo_len t i j k
    refine sk (sq (bk (sq (rg [] rfl ?_))))
    refine sq (rgs [CG.pure (.bool (decide ((k : Int) ∈ ordTo t i j k)))] rfl ?_ ?_)
    ·have h1 := contains_ac false (ordTo t i j k) k
     simp [holdsC, under, CG.pure]
     exact ⟨fun _ _ => rfl, h1⟩
    refine cd rfl (fun h12 => ?_) (fun h12 => ?_)
    ·have hx : ¬ ((k : Int) ∈ ordTo t i j k) := by
       have e : (!decide ((k : Int) ∈ ordTo t i j k)) = true := h12
       simpa using e
     have e3 : ordTo t i j (k + 1) = ordTo t i j k ++ [(k : Int)] := by rw [ordTo, if_neg hx]
     refine rgs [] rfl ?_ ?_
     ·have hbt : (T 3).bytes = 8 := rfl
      have e1 : ((ordTo t i j k).length + 1) * (T 3).bytes ≤ 140737488355328 := by rw [hbt]; omega
      simp only [holdsC, under, CG.pure]
      repeat' with_reducible refine And.intro ?_ ?_
      all_goals (try with_reducible intros)
      all_goals (first | exact trivial | assumption | omega | exact hbt | exact e1 | (simp; done) | grind)
     refine rg [] rfl ?_
     refine ⟨k + 1, ?_, ?_, ?_⟩
     ·exact hkt
     ·refine em [] trivial ⟨⟨rfl, _, rfl, cvt⟩, ⟨rfl, _, rfl, conv_eq (by rw [e3, List.length_append]; rfl)⟩, ⟨rfl, _, rfl, cvt⟩, ⟨rfl, _, rfl, cvt⟩, trivial⟩ ⟨ob_ints rfl rfl (by rw [e3, List.length_append]; rfl) rfl rfl (by rw [e3]; exact join_flat (fun q hq => rfl) (fun q hq => by (obtain rfl : q = 0 := (by simp at hq; exact hq)); rfl)), trivial⟩
     ·(try simp only []); first | omega | grind
    ·have hx : (k : Int) ∈ ordTo t i j k := by
       have e : (!decide ((k : Int) ∈ ordTo t i j k)) = false := h12
       simpa using e
     have e3 : ordTo t i j (k + 1) = ordTo t i j k := by rw [ordTo, if_pos hx]
     refine sk (rg [] rfl ?_)
     refine ⟨k + 1, ?_, ?_, ?_⟩
     ·exact hkt
     ·refine em [] trivial ⟨⟨rfl, _, rfl, cvt⟩, ⟨rfl, _, rfl, conv_eq (by rw [e3])⟩, ⟨rfl, _, rfl, cvt⟩, ⟨rfl, _, rfl, cvt⟩, trivial⟩ ⟨ob_ints rfl rfl (by rw [e3]) rfl rfl (fun q hq => by rw [e3]), trivial⟩
     ·(try simp only []); first | omega | grind
   ·have hkt : k = t.length := by simp at h10; omega
    subst hkt
    refine xt (sq (sq (rgs [CG.pure (.tup [.bool (linF t (ordI t i j)), .int (linE t (ordI t i j))])] rfl ?_ ?_)))
    ·have h1 := linear_ac g false t (ordI t i j)
     simp [holdsC, under, CG.pure]
     exact ⟨fun _ _ => rfl, h1⟩
    refine sq (rg [] rfl ?_)
    refine cd rfl (fun h16 => ?_) (fun h16 => ?_)
    ·have hx : linF t (ordI t i j) = false := by
       have e : (!linF t (ordI t i j)) = true := h16
       simpa using e
     refine sq (rg [] rfl ?_)
     refine WP.ret ?_
     change Fin ..
     have e2 : besL t i j = [] := by rw [besL, hx, Bool.and_false]; rfl
     rw [e2, hx, Bool.and_false, hz]
     refine fin_mk hT [] (ts := [(6, ints false []), (7, .bool false), (8, .int 0)]) (l := [ints false [], .bool false, .int 0]) trivial ⟨⟨rfl, _, rfl, conv_nil_row (by decide)⟩, ⟨rfl, _, rfl, conv_eq rfl⟩, ⟨rfl, _, rfl, conv_eq rfl⟩, trivial⟩ trivial rfl rfl rfl
    ·have hx : linF t (ordI t i j) = true := by
       have e : (!linF t (ordI t i j)) = false := h16
       simpa using e
     refine sk (sq (rg [] rfl ?_))
     refine WP.ret ?_
     change Fin ..
     have e2 : besL t i j = ordI t i j := by rw [besL, hx, hb]; rfl
     rw [e2, hx, hb, hz]
     refine fin_mk hT [(.s 54 1, (ordI t i j).length)] (ts := [(6, ints false (ordI t i j)), (7, .bool true), (8, .int 0)]) (l := [ints false (ordI t i j), .bool true, .int 0]) ⟨⟨_, rfl, Nat.le_refl _⟩, trivial⟩ ⟨⟨rfl, _, rfl, ?_⟩, ⟨rfl, _, rfl, conv_eq rfl⟩, ⟨rfl, _, rfl, conv_eq rfl⟩, trivial⟩ trivial rfl rfl rfl
     exact conv_row rfl rfl rfl (fun h => by cases h) (by simp [lookF, idbeq_self]; exact Nat.le_refl _) (fun q hq => by rw [Nat.zero_add]; exact ⟨rfl, AEq.refl _⟩)
theorem pastTo_mem {t : List Evt} {j x : Nat} : ∀ d, d ≤ j → (x ∈ pastTo t j d ↔ j - d ≤ x ∧ x < j ∧ befB t x j = true)
  | 0, _ => by
    constructor
    · intro h; cases h
    · rintro ⟨h1, h2, _⟩; omega
  | d + 1, hd => by
    rw [pastTo, List.mem_append, pastTo_mem d (by omega)]
    constructor
    · rintro (⟨h1, h2, h3⟩ | h)
      · exact ⟨by omega, h2, h3⟩
      · split at h
        · rename_i hb
          rw [List.mem_singleton] at h
          subst h
          exact ⟨by omega, by omega, hb⟩
        · cases h
    · rintro ⟨h1, h2, h3⟩
      by_cases e : j - d ≤ x
      · exact .inl ⟨e, h2, h3⟩
      · have e2 : x = j - 1 - d := by omega
        subst e2
        rw [h3]; exact .inr (by simp)
theorem pI_mem {t : List Evt} {j : Nat} {x : Int} : x ∈ pI t j ↔ ∃ k : Nat, x = k ∧ k < j ∧ befB t k j = true := by
  rw [pI, List.mem_reverse, pastI, List.mem_map, Int.toNat_natCast]
  constructor
  · rintro ⟨k, hk, rfl⟩
    rw [pastL, pastTo_mem j (Nat.le_refl _)] at hk
    exact ⟨k, rfl, hk.2.1, hk.2.2⟩
  · rintro ⟨k, rfl, h1, h2⟩
    exact ⟨k, by rw [pastL, pastTo_mem j (Nat.le_refl _)]; exact ⟨by omega, h1, h2⟩, rfl⟩
end Go.Ab


/- canon.before, canon.laid. -/
set_option autoImplicit false
set_option maxRecDepth 20000
set_option maxHeartbeats 4000000
set_option linter.unusedSimpArgs false
set_option linter.unusedVariables false
namespace Go.Ab
open Go.Proofs Go.Sort
/-- The pasts of the events below k. -/
def pasTo (t : List Evt) : Nat → List (List Int)
  | 0 => []
  | k + 1 => pasTo t k ++ [pI t k]
theorem pasTo_len (t : List Evt) : ∀ k, (pasTo t k).length = k
  | 0 => rfl
  | k + 1 => by rw [pasTo, List.length_append, pasTo_len t k]; rfl
theorem pasTo_get (t : List Evt) {i : Nat} : ∀ {k : Nat}, i < k → (pasTo t k).getD i [] = pI t i
  | k + 1, h => by
    rw [pasTo]
    rcases Nat.lt_or_ge i k with h1 | h1
    · rw [← pasTo_get t h1]
      simp [List.getD_eq_getElem?_getD, List.getElem?_append_left (show i < (pasTo t k).length by rw [pasTo_len]; exact h1)]
    · obtain rfl : i = k := by omega
      simp [List.getD_eq_getElem?_getD, pasTo_len]
def cellsR (l : List (List Int)) : Ob := cellsL 23 (ints false) [] l
theorem ask_nat {t : List Evt} (h : chkE t = 0) {k : Nat} (hk : k < t.length) : askE t [(k : Int)] = 0 := by
  rw [askE, if_neg (fun e => e h), if_neg]
  simp; omega
theorem cbefore_ac (g : Bool) (t : List Evt) (h : chkE t = 0) : AC Tryz.prog T tysN 117 [evts g t] [] (intss false (pasTo t t.length)) [] := by
 refine AC_intro hT Tryz.func117 rfl rfl (Nat.le_of_ble_eq_true rfl) ?_
 have h256 := (chk_right h).1
 refine sq (rg [] rfl ?_)
 refine sq (rg [] rfl ?_)
 refine sq (sq (rg [] rfl ?_))
 refine bk ?_
 refine WP.loop (α := Nat) (fun k => mkSt [(0, evts g t), (3, .own (.s 21 0) (pasTo t k).length 0 (pasTo t k).length none), (8, .int t.length), (9, .int k)] [(.s 21 0, cellsR (pasTo t k))]) (fun k => k ≤ t.length) (fun k => t.length - k) ?_ ?_
 ·refine ⟨0, ?_, ?_⟩
  ·exact Nat.zero_le _
  ·refine em [] trivial ⟨⟨rfl, _, rfl, cvt⟩, ⟨rfl, _, rfl, conv_nil_own⟩, ⟨rfl, _, rfl, cvt⟩, ⟨rfl, _, rfl, cvt⟩, trivial⟩ ⟨⟨fun _ _ => rfl, .inr ⟨rfl, 23, _, rfl, by decide⟩⟩, trivial⟩
 ·rintro k hk
  refine sq (rg [] rfl ?_)
  refine sq ?_
  refine cd rfl (fun h3 => ?_) (fun h3 => ?_)
  ·have hkt : k < t.length := by simpa using h3
   have hpl := pasTo_len t k
   refine sk (sq (bk (sq (rg [] rfl ?_))))
   refine sq (rgs [CG.pure (.tup [ints false (pI t k), .int 0])] rfl ?_ ?_)
   ·have h1 := opastZ_ac g t k (ask_nat h hkt)
    simp only [holdsC, under, CG.pure]
    repeat' with_reducible refine And.intro ?_ ?_
    all_goals (try with_reducible intros)
    all_goals (first | exact trivial | assumption | omega | exact h1 | (simp; done) | grind)
   refine rgs [] rfl ?_ ?_
   ·have hbt : (T 23).bytes = 24 := rfl
    have e1 : ((pasTo t k).length + 1) * (T 23).bytes ≤ 140737488355328 := by rw [hbt]; omega
    simp only [holdsC, under, CG.pure]
    repeat' with_reducible refine And.intro ?_ ?_
    all_goals (try with_reducible intros)
    all_goals (first | exact trivial | assumption | omega | exact hbt | exact e1 | (simp; done) | grind)
   refine rg [] rfl ?_
   refine ⟨k + 1, ?_, ?_, ?_⟩
   ·exact hkt
   ·refine em [] trivial ⟨⟨rfl, _, rfl, cvt⟩, ⟨rfl, _, rfl, conv_eq (by rw [pasTo, List.length_append]; rfl)⟩, ⟨rfl, _, rfl, cvt⟩, ⟨rfl, _, rfl, cvt⟩, trivial⟩ ⟨ob_list (fun _ => rfl) rfl rfl (by rw [pasTo, List.length_append]; rfl) rfl rfl (by rw [pasTo]; exact appL (z := (T 23).zero) rfl rfl (fun q hq => rfl)), trivial⟩
   ·(try simp only []); first | omega | grind
  ·have hkt : k = t.length := by simp at h3; omega
   subst hkt
   refine xt (sq (rg [] rfl ?_))
   refine WP.ret ?_
   change Fin ..
   refine fin_mk hT [(.s 21 0, (pasTo t t.length).length)] (ts := [(2, intss false (pasTo t t.length))]) (l := [intss false (pasTo t t.length)]) ⟨⟨_, rfl, Nat.le_refl _⟩, trivial⟩ ⟨⟨rfl, _, rfl, ?_⟩, trivial⟩ trivial rfl rfl rfl
   exact conv_row rfl rfl rfl (fun h => by cases h) (by simp [lookF, idbeq_self]) (fun q hq => by rw [Nat.zero_add]; exact ⟨rfl, AEq.refl _⟩)
/-- The trace's events in an order. -/
theorem take_snocJ {l : List Int} {k : Nat} (h : k < l.length) : l.take (k + 1) = l.take k ++ [l.getD k 0] := by
  rw [List.take_add_one, List.getElem?_eq_getElem h]
  simp [List.getD_eq_getElem?_getD, h]
def laidTo (t : List Evt) (l : List Int) (k : Nat) : List Evt := (l.take k).map fun i => eAt t i.toNat
theorem laidTo_succ {t : List Evt} {l : List Int} {k : Nat} (h : k < l.length) : laidTo t l (k + 1) = laidTo t l k ++ [eAt t (l.getD k 0).toNat] := by
  rw [laidTo, take_snocJ h, List.map_append]; rfl
theorem laidTo_len {t : List Evt} {l : List Int} {k : Nat} (h : k ≤ l.length) : (laidTo t l k).length = k := by
  rw [laidTo, List.length_map, List.length_take]; omega
def cellsE (l : List Evt) : Ob := cellsL 73 encE evt0 l
theorem okIds_ev (ids : List Id) (x : Evt) : okIds ids (encE x) = true := okIds_agg (fun q hq => by
  match q, hq with
  | 0, _ | 1, _ | 2, _ | 3, _ | 4, _ | 5, _ | 6, _ | 8, _ => rfl
  | 7, _ => rfl)
theorem claid_ac (g f : Bool) (t : List Evt) (l : List Int) (hl : l.length ≤ 1000000) (hin : ∀ q, q < l.length → 0 ≤ l.getD q 0 ∧ l.getD q 0 < t.length) : AC Tryz.prog T tysN 74 [evts g t, ints f l] [] (evts false (laidTo t l l.length)) [] := by
 refine AC_intro hT Tryz.func74 rfl rfl (Nat.le_of_ble_eq_true rfl) ?_
 refine sq (rg [] rfl ?_)
 refine sq (rg [] rfl ?_)
 refine sq (sq (rg [] rfl ?_))
 refine bk ?_
 refine WP.loop (α := Nat) (fun k => mkSt [(0, evts g t), (5, .own (.s 20 0) (laidTo t l k).length 0 (laidTo t l k).length none), (8, ints f l), (9, .int l.length), (10, .int k)] [(.s 20 0, cellsE (laidTo t l k))]) (fun k => k ≤ l.length) (fun k => l.length - k) ?_ ?_
 ·refine ⟨0, ?_, ?_⟩
  ·exact Nat.zero_le _
  ·refine em [] trivial ⟨⟨rfl, _, rfl, cvt⟩, ⟨rfl, _, rfl, conv_nil_own⟩, ⟨rfl, _, rfl, cvt⟩, ⟨rfl, _, rfl, cvt⟩, ⟨rfl, _, rfl, cvt⟩, trivial⟩ ⟨⟨fun _ _ => okIds_ev _ _, .inr ⟨rfl, 73, _, rfl, by decide⟩⟩, trivial⟩
 ·rintro k hk
  refine sq (rg [] rfl ?_)
  refine sq ?_
  refine cd rfl (fun h3 => ?_) (fun h3 => ?_)
  ·have hkl : k < l.length := by simpa using h3
   have hr := hin k hkl
   have hle := laidTo_len (t := t) hk
   refine sk (sq (bk (sq (rg [] rfl ?_))))
   refine rgs [] rfl ?_ ?_
   ·have hbt : (T 73).bytes = 208 := rfl
    simp only [List.getD_eq_getElem?_getD] at hr
    simp [holdsC, under, hbt]
    omega
   refine rg [] rfl ?_
   refine ⟨k + 1, ?_, ?_, ?_⟩
   ·exact hkl
   ·refine em [] trivial ⟨⟨rfl, _, rfl, cvt⟩, ⟨rfl, _, rfl, conv_eq (by rw [laidTo_succ hkl, List.length_append]; rfl)⟩, ⟨rfl, _, rfl, cvt⟩, ⟨rfl, _, rfl, cvt⟩, ⟨rfl, _, rfl, cvt⟩, trivial⟩ ⟨ob_list (fun _ => okIds_ev _ _) rfl rfl (by rw [laidTo_succ hkl, List.length_append]; rfl) rfl rfl (by rw [laidTo_succ hkl]; exact appL (z := (T 73).zero) rfl rfl (fun q hq => rfl)), trivial⟩
   ·(try simp only []); first | omega | grind
  ·have hkl : k = l.length := by simp at h3; omega
   subst hkl
   refine xt (sq (rg [] rfl ?_))
   refine WP.ret ?_
   change Fin ..
   refine fin_mk hT [(.s 20 0, (laidTo t l l.length).length)] (ts := [(4, evts false (laidTo t l l.length))]) (l := [evts false (laidTo t l l.length)]) ⟨⟨_, rfl, Nat.le_refl _⟩, trivial⟩ ⟨⟨rfl, _, rfl, ?_⟩, trivial⟩ trivial rfl rfl rfl
   exact conv_row rfl rfl rfl (fun h => by cases h) (by simp [lookF, idbeq_self]) (fun q hq => by rw [Nat.zero_add]; exact ⟨noIds_E _, AEq.refl _⟩)
end Go.Ab


/- canon.form: the closures. -/
set_option autoImplicit false
set_option maxRecDepth 20000
set_option maxHeartbeats 4000000
set_option linter.unusedSimpArgs false
set_option linter.unusedVariables false
namespace Go.Ab
open Go.Proofs Go.Sort
theorem firstG_any {p : Int → Bool} {l : List Int} : decide (firstG p l ≥ 0) = l.any p := by
  unfold firstG
  split
  · rename_i h
    rw [h]
    exact decide_eq_true (Int.natCast_nonneg _)
  · rename_i h
    cases e : l.any p with
    | true => exact absurd e h
    | false => rfl
theorem containsFI_ac (g : Bool) (l : List Int) (f : FuncId) (ta : Nat) (xa : AV) (p : Int → Bool) (hp : ∀ x ∈ l, AC Tryz.prog T tysN f ((fun x => AV.int x) x :: [.rp ta xa]) [] (.bool (p x)) []) : AC Tryz.prog T tysN 119 [.row 3 g l.length (fun i => (fun x => AV.int x) (l.getD i 0)), .clo f [.rp ta xa]] [] (.bool (l.any p)) [] := by
 refine AC_intro hT Tryz.func119 rfl rfl (Nat.le_of_ble_eq_true rfl) ?_
 refine sq (rg [] rfl ?_)
 refine sq (rgs [CG.pure (.int (firstG p l))] rfl ?_ ?_)
 ·have h1 := idxI_ac g l f ta xa p hp
  simp only [holdsC, under, CG.pure]
  repeat' with_reducible refine And.intro ?_ ?_
  all_goals (try with_reducible intros)
  all_goals (first | exact trivial | assumption | omega | exact h1 | (simp; done) | grind)
 refine WP.ret ?_
 change Fin ..
 exact fin1 hT (by rfl) firstG_any
theorem formIn_ac (n : Nat) (D : Nat → Bool) (x : Nat) (hx : x < n) : AC Tryz.prog T tysN 120 [.int x, .rp 123 (boolsR n D)] [] (.bool (!D x)) [] := by
 refine AC_intro hT Tryz.func120 rfl rfl (Nat.le_of_ble_eq_true rfl) ?_
 refine sq (rg [] rfl ?_)
 refine sq (rg [] rfl ?_)
 refine WP.ret ?_
 change Fin ..
 exact fin1 hT (by rfl) rfl
/-- Is e ready, where D are done? -/
def rdyB (t : List Evt) (D : Nat → Bool) (e : Nat) : Bool := !D e && !(pI t e).any fun x => !D x.toNat
theorem ready_ac (t : List Evt) (D : Nat → Bool) (e : Nat) (he : e < t.length) : AC Tryz.prog T tysN 118 [.int e, .rp 123 (boolsR t.length D), .rp 46 (intss false (pasTo t t.length))] [] (.bool (rdyB t D e)) [] := by
 refine AC_intro hT Tryz.func118 rfl rfl (Nat.le_of_ble_eq_true rfl) ?_
 have hg := pasTo_get t he
 have hpl := pasTo_len t t.length
 refine sq (rg [] rfl ?_)
 refine sq (rgs [CG.pure (.bool ((pI t e).any fun x => !D x.toNat))] rfl ?_ ?_)
 ·have h1 := containsFI_ac false (pI t e) 120 123 (boolsR t.length D) (fun x => !D x.toNat) (fun x hx => by
    obtain ⟨k, rfl, h1, _⟩ := pI_mem.1 hx
    exact formIn_ac t.length D k (by omega))
  rw [← hg] at h1 ⊢
  simp only [holdsC, under, CG.pure]
  repeat' with_reducible refine And.intro ?_ ?_
  all_goals (try with_reducible intros)
  all_goals (first | exact trivial | assumption | omega | exact h1 | exact hpl | (simp; done) | grind)
 refine WP.ret ?_
 change Fin ..
 exact fin1 hT (by rfl) (by rw [band]; rfl)
end Go.Ab


/- canon.form. -/
set_option autoImplicit false
set_option maxRecDepth 20000
set_option maxHeartbeats 4000000
set_option linter.unusedSimpArgs false
set_option linter.unusedVariables false
namespace Go.Ab
open Go.Proofs Go.Sort
/-- The ready event of the least goroutine, the first of these, among those below m. -/
def bstTo (t : List Evt) (D : Nat → Bool) : Nat → Int
  | 0 => -1
  | m + 1 => if (rdyB t D m && (decide (bstTo t D m < 0) || decide ((eAt t m).go < (eAt t (bstTo t D m).toNat).go))) = true then (m : Int) else bstTo t D m
def inL (l : List Int) (q : Nat) : Bool := decide ((q : Int) ∈ l)
def formTo (t : List Evt) : Nat → List Int
  | 0 => []
  | k + 1 => formTo t k ++ [bstTo t (inL (formTo t k)) t.length]
theorem formTo_len (t : List Evt) : ∀ k, (formTo t k).length = k
  | 0 => rfl
  | k + 1 => by rw [formTo, List.length_append, formTo_len t k]; rfl
theorem bst_in (t : List Evt) (D : Nat → Bool) : ∀ m, bstTo t D m = -1 ∨ ∃ e, e < m ∧ bstTo t D m = (e : Int) ∧ rdyB t D e = true
  | 0 => .inl rfl
  | m + 1 => by
    rw [bstTo]
    split
    · rename_i h
      rw [Bool.and_eq_true] at h
      exact .inr ⟨m, by omega, rfl, h.1⟩
    · rcases bst_in t D m with h | ⟨e, h1, h2⟩
      · exact .inl h
      · exact .inr ⟨e, by omega, h2⟩
theorem bst_none {t : List Evt} {D : Nat → Bool} : ∀ {m : Nat}, bstTo t D m = -1 → ∀ e, e < m → rdyB t D e = false
  | 0, _, e, he => absurd he (Nat.not_lt_zero _)
  | m + 1, h, e, he => by
    rw [bstTo] at h
    split at h
    · omega
    · rename_i hc
      rw [h] at hc
      have ih := bst_none h
      by_cases e1 : e = m
      · subst e1
        cases hr : rdyB t D e with
        | false => rfl
        | true => rw [hr] at hc; simp at hc
      · exact ih e (by omega)
/-- Somebody is ready. -/
theorem bst_some {t : List Evt} {l : List Int} (hl : l.length < t.length) : bstTo t (inL l) t.length ≠ -1 := by
  intro h
  have hn := bst_none h
  have hall : ∀ e, e < t.length → inL l e = true := by
    intro e
    induction e using Nat.strongRecOn with
    | _ e ih =>
      intro he
      have hr := hn e he
      rw [rdyB, Bool.and_eq_false_iff] at hr
      rcases hr with hr | hr
      · simpa using hr
      · exfalso
        rw [Bool.not_eq_false', List.any_eq_true] at hr
        obtain ⟨x, hx, hx2⟩ := hr
        obtain ⟨k, rfl, h1, _⟩ := pI_mem.1 hx
        rw [Int.toNat_natCast, ih k h1 (by omega)] at hx2
        cases hx2
  have hpig : ∀ (n : Nat) (l : List Int), (∀ e, e < n → (e : Int) ∈ l) → n ≤ l.length := by
    intro n
    induction n with
    | zero => intro l _; exact Nat.zero_le _
    | succ n ih =>
      intro l hl
      have hm := hl n (Nat.lt_succ_self n)
      have h1 := ih (l.erase (n : Int)) (fun e he => (List.mem_erase_of_ne (by omega)).2 (hl e (by omega)))
      rw [List.length_erase_of_mem hm] at h1
      have := List.length_pos_of_mem hm
      omega
  have := hpig t.length l (fun e he => by simpa [inL] using hall e he)
  omega
theorem inL_snoc (l : List Int) (b q : Nat) : inL (l ++ [(b : Int)]) q = (bif Nat.beq q b then true else inL l q) := by
  unfold inL
  cases hb : Nat.beq q b with
  | true =>
    obtain rfl := Nat.eq_of_beq_eq_true hb
    exact decide_eq_true (by simp)
  | false =>
    have : q ≠ b := fun e => by subst e; rw [Nat.beq_refl] at hb; cases hb
    show decide _ = decide _
    refine decide_eq_decide.2 ?_
    rw [List.mem_append, List.mem_singleton]
    constructor
    · rintro (h | h)
      · exact h
      · omega
    · exact .inl
theorem mark_eq (D : Nat → Bool) (b q : Nat) : (bif Nat.beq q (b + 0) then (AV.v (.bool (D (b + 0)))).put [] (AV.v (.bool true)) else AV.v (.bool (D q))) = AV.v (.bool (bif Nat.beq q b then true else D q)) := by
  rw [Nat.add_zero]
  cases Nat.beq q b <;> rfl
theorem cform_ac (g : Bool) (t : List Evt) (h : chkE t = 0) : AC Tryz.prog T tysN 73 [evts g t] [] (ints false (formTo t t.length)) [] := by
 refine AC_intro hT Tryz.func73 rfl rfl (Nat.le_of_ble_eq_true rfl) ?_
 have h256 := (chk_right h).1
 refine sq (rg [] rfl ?_)
 refine sq (rgs [CG.pure (intss false (pasTo t t.length))] rfl ?_ ?_)
 ·have h1 := cbefore_ac g t h
  simp only [holdsC, under, CG.pure]
  repeat' with_reducible refine And.intro ?_ ?_
  all_goals (try with_reducible intros)
  all_goals (first | exact trivial | assumption | omega | exact h1 | (simp; done) | grind)
 refine sq (rgs [] rfl ?_ ?_)
 ·have hbt : (T 4).bytes = 1 := rfl
  simp [holdsC, under, hbt]
  omega
 refine sq (rg [] rfl ?_)
 refine sq (rg [] rfl ?_)
 refine sq (sq (rg [] rfl ?_))
 refine bk ?_
 refine WP.loop (α := Nat) (fun k => mkSt [(0, evts g t), (4, .ptr (.s 4 0) 1 0 []), (5, .clo 118 [.ptr (.s 4 0) 1 0 [], .ptr (.s 3 0) 1 0 []]), (6, .own (.s 52 0) (formTo t k).length 0 (formTo t k).length none), (16, .int t.length), (17, .int k)] [(.s 3 0, .cells ⟨46, 1, fun _ => intss false (pasTo t t.length), 0⟩), (.s 4 0, .cells ⟨123, 1, fun _ => .own (.s 13 0) t.length 0 t.length none, 0⟩), (.s 13 0, .cells ⟨4, t.length, fun q => .v (.bool (inL (formTo t k) q)), 0⟩), (.s 52 0, cellsI 3 .i64 (formTo t k))]) (fun k => k ≤ t.length) (fun k => t.length - k) ?_ ?_
 ·refine ⟨0, ?_, ?_⟩
  ·exact Nat.zero_le _
  ·refine em [] trivial ⟨⟨rfl, _, rfl, cvt⟩, ⟨rfl, _, rfl, cvt⟩, ⟨rfl, _, rfl, cvt⟩, ⟨rfl, _, rfl, conv_nil_own⟩, ⟨rfl, _, rfl, cvt⟩, ⟨rfl, _, rfl, cvt⟩, trivial⟩ ⟨obs rfl, obs rfl, obs rfl, ⟨fun _ _ => rfl, .inr ⟨rfl, 3, _, rfl, by decide⟩⟩, trivial⟩
 ·rintro k hk
  refine sq (rg [] rfl ?_)
  refine sq ?_
  refine cd rfl (fun h6 => ?_) (fun h6 => ?_)
  ·have hkt : k < t.length := by simpa using h6
   refine sk (sq (bk (sq (rg [] rfl ?_))))
   refine sq (sq (rg [] rfl ?_))
   refine bk ?_
   refine WP.loop (α := Nat) (fun m => mkSt [(0, evts g t), (4, .ptr (.s 4 0) 1 0 []), (5, .clo 118 [.ptr (.s 4 0) 1 0 [], .ptr (.s 3 0) 1 0 []]), (6, .own (.s 52 0) (formTo t k).length 0 (formTo t k).length none), (7, .int (bstTo t (inL (formTo t k)) m)), (16, .int t.length), (17, .int k), (20, .int t.length), (21, .int m)] [(.s 3 0, .cells ⟨46, 1, fun _ => intss false (pasTo t t.length), 0⟩), (.s 4 0, .cells ⟨123, 1, fun _ => .own (.s 13 0) t.length 0 t.length none, 0⟩), (.s 13 0, .cells ⟨4, t.length, fun q => .v (.bool (inL (formTo t k) q)), 0⟩), (.s 52 0, cellsI 3 .i64 (formTo t k))]) (fun m => m ≤ t.length) (fun m => t.length - m) ?_ ?_
   ·refine ⟨0, ?_, ?_⟩
    ·exact Nat.zero_le _
    ·refine em [] trivial ⟨⟨rfl, _, rfl, cvt⟩, ⟨rfl, _, rfl, cvt⟩, ⟨rfl, _, rfl, cvt⟩, ⟨rfl, _, rfl, cvt⟩, ⟨rfl, _, rfl, cvt⟩, ⟨rfl, _, rfl, cvt⟩, ⟨rfl, _, rfl, cvt⟩, ⟨rfl, _, rfl, cvt⟩, ⟨rfl, _, rfl, cvt⟩, trivial⟩ ⟨obs rfl, obs rfl, obs rfl, obs rfl, trivial⟩
   ·rintro m hm
    refine sq (rg [] rfl ?_)
    refine sq ?_
    refine cd rfl (fun h9 => ?_) (fun h9 => ?_)
    ·have hmt : m < t.length := by simpa using h9
     refine sk (sq (bk (sq (rg [] rfl ?_))))
     refine sq (drs [CG.pure (.bool (rdyB t (inL (formTo t k)) m))] rfl ?_ ?_)
     ·have h1 := ready_ac t (inL (formTo t k)) m hmt
      have hbb : bstTo t (inL (formTo t k)) m < t.length := by
        rcases bst_in t (inL (formTo t k)) m with h2 | ⟨e, h2, h3, _⟩
        · omega
        · omega
      simp only [holdsC, under, CG.pure]
      repeat' with_reducible refine And.intro ?_ ?_
      all_goals (try with_reducible intros)
      all_goals (first | exact trivial | assumption | omega | exact h1 | exact ⟨rfl, fun _ _ => rfl⟩ | rfl | grind)
     refine cd rfl (fun h11 => ?_) (fun h11 => ?_)
     ·have hx : (rdyB t (inL (formTo t k)) m && (decide (bstTo t (inL (formTo t k)) m < 0) || decide ((eAt t m).go < (eAt t (bstTo t (inL (formTo t k)) m).toNat).go))) = true := by
        have e := h11
        rw [band, bor] at e
        exact e
      refine rg [] rfl ?_
      refine rg [] rfl ?_
      refine ⟨m + 1, ?_, ?_, ?_⟩
      ·exact hmt
      ·refine em [] trivial ⟨⟨rfl, _, rfl, cvt⟩, ⟨rfl, _, rfl, cvt⟩, ⟨rfl, _, rfl, cvt⟩, ⟨rfl, _, rfl, cvt⟩, ⟨rfl, _, rfl, conv_eq (by rw [bstTo, if_pos hx])⟩, ⟨rfl, _, rfl, cvt⟩, ⟨rfl, _, rfl, cvt⟩, ⟨rfl, _, rfl, cvt⟩, ⟨rfl, _, rfl, cvt⟩, trivial⟩ ⟨obs rfl, obs rfl, obs rfl, obs rfl, trivial⟩
      ·(try simp only []); first | omega | grind
     ·have hx : ¬ (rdyB t (inL (formTo t k)) m && (decide (bstTo t (inL (formTo t k)) m < 0) || decide ((eAt t m).go < (eAt t (bstTo t (inL (formTo t k)) m).toNat).go))) = true := by
        have e := h11
        rw [band, bor] at e
        intro h2
        rw [show (rdyB t (inL (formTo t k)) m && (decide (bstTo t (inL (formTo t k)) m < 0) || decide ((eAt t m).go < (eAt t (bstTo t (inL (formTo t k)) m).toNat).go))) = false from e] at h2
        cases h2
      refine sk (rg [] rfl ?_)
      refine ⟨m + 1, ?_, ?_, ?_⟩
      ·exact hmt
      ·refine em [] trivial ⟨⟨rfl, _, rfl, cvt⟩, ⟨rfl, _, rfl, cvt⟩, ⟨rfl, _, rfl, cvt⟩, ⟨rfl, _, rfl, cvt⟩, ⟨rfl, _, rfl, conv_eq (by rw [bstTo, if_neg hx])⟩, ⟨rfl, _, rfl, cvt⟩, ⟨rfl, _, rfl, cvt⟩, ⟨rfl, _, rfl, cvt⟩, ⟨rfl, _, rfl, cvt⟩, trivial⟩ ⟨obs rfl, obs rfl, obs rfl, obs rfl, trivial⟩
      ·(try simp only []); first | omega | grind
    ·have hmt : m = t.length := by simp at h9; omega
     subst hmt
     have hfl := formTo_len t k
     have hb : ∃ e, e < t.length ∧ bstTo t (inL (formTo t k)) t.length = (e : Int) := by
       rcases bst_in t (inL (formTo t k)) t.length with h1 | ⟨e, h1, h2, _⟩
       · exact absurd h1 (bst_some (by omega))
       · exact ⟨e, h1, h2⟩
     obtain ⟨b, hb1, hb2⟩ := hb
     have hsu : formTo t (k + 1) = formTo t k ++ [(b : Int)] := by rw [formTo, hb2]
     rw [hb2]
     refine xt (sq (rg [] rfl ?_))
     refine rgs [] rfl ?_ ?_
     ·have hbt : (T 3).bytes = 8 := rfl
      have e1 : ((formTo t k).length + 1) * (T 3).bytes ≤ 140737488355328 := by rw [hbt]; omega
      simp only [holdsC, under, CG.pure]
      repeat' with_reducible refine And.intro ?_ ?_
      all_goals (try with_reducible intros)
      all_goals (first | exact trivial | assumption | omega | exact hbt | exact e1 | (simp; done) | grind)
     refine rg [] rfl ?_
     refine ⟨k + 1, ?_, ?_, ?_⟩
     ·exact hkt
     ·refine em [] trivial ⟨⟨rfl, _, rfl, cvt⟩, ⟨rfl, _, rfl, cvt⟩, ⟨rfl, _, rfl, cvt⟩, ⟨rfl, _, rfl, conv_eq (by rw [hsu, List.length_append]; rfl)⟩, ⟨rfl, _, rfl, cvt⟩, ⟨rfl, _, rfl, cvt⟩, trivial⟩ ⟨obs rfl, obs rfl, obs rfl (hg := fun q hq => conv_eq (by rw [hsu, inL_snoc]; exact mark_eq _ _ _)), ob_ints rfl rfl (by rw [hsu, List.length_append]; rfl) rfl rfl (by rw [hsu]; exact app1 (z := (T 3).zero) rfl (fun q hq => rfl)), trivial⟩
     ·(try simp only []); first | omega | grind
  ·have hkt : k = t.length := by simp at h6; omega
   subst hkt
   refine xt (sq (rg [] rfl ?_))
   refine WP.ret ?_
   change Fin ..
   refine fin_mk hT [(.s 52 0, (formTo t t.length).length)] (ts := [(2, ints false (formTo t t.length))]) (l := [ints false (formTo t t.length)]) ⟨⟨_, rfl, Nat.le_refl _⟩, trivial⟩ ⟨⟨rfl, _, rfl, ?_⟩, trivial⟩ trivial rfl rfl rfl
   exact conv_row rfl rfl rfl (fun h => by cases h) (by simp [lookF, idbeq_self]) (fun q hq => by rw [Nat.zero_add]; exact ⟨rfl, AEq.refl _⟩)
end Go.Ab


/- canon.Form, canon.Apply. -/
set_option autoImplicit false
set_option maxRecDepth 20000
set_option maxHeartbeats 4000000
set_option linter.unusedSimpArgs false
set_option linter.unusedVariables false
namespace Go.Ab
open Go.Proofs Go.Sort
def cformL (t : List Evt) : List Int := if chkE t = 0 then formTo t t.length else []
theorem Form_ac (g : Bool) (t : List Evt) : AC Tryz.prog T tysN 29 [evts g t] [] (.tup [ints false (cformL t), .int (chkE t)]) [] := by
 refine AC_intro hT Tryz.func29 rfl rfl (Nat.le_of_ble_eq_true rfl) ?_
 refine sq (rg [] rfl ?_)
 refine sq (sq (rgs [CG.pure (.int (chkE t))] rfl ?_ ?_))
 ·have h1 := dcheck_ac g t
  simp only [holdsC, under, CG.pure]
  repeat' with_reducible refine And.intro ?_ ?_
  all_goals (try with_reducible intros)
  all_goals (first | exact trivial | assumption | omega | exact h1 | (simp; done) | grind)
 refine sq (rg [] rfl ?_)
 refine cd rfl (fun h2 => ?_) (fun h2 => ?_)
 ·have hb : chkE t ≠ 0 := by simpa using h2
  refine sq (rg [] rfl ?_)
  refine WP.ret ?_
  change Fin ..
  rw [cformL, if_neg hb]
  refine fin_mk hT [] (ts := [(2, ints false []), (3, .int (chkE t))]) (l := [ints false [], .int (chkE t)]) trivial ⟨⟨rfl, _, rfl, conv_nil_row (by decide)⟩, ⟨rfl, _, rfl, conv_eq rfl⟩, trivial⟩ trivial rfl rfl rfl
 ·have hb : chkE t = 0 := by simpa using h2
  refine sk (sq (rgs [CG.pure (ints false (formTo t t.length))] rfl ?_ ?_))
  ·have h1 := cform_ac g t hb
   simp only [holdsC, under, CG.pure]
   repeat' with_reducible refine And.intro ?_ ?_
   all_goals (try with_reducible intros)
   all_goals (first | exact trivial | assumption | omega | exact h1 | (simp; done) | grind)
  refine WP.ret ?_
  change Fin ..
  rw [cformL, if_pos hb, hb]
  refine fin_mk hT [] (ts := [(2, ints false (formTo t t.length)), (3, .int 0)]) (l := [ints false (formTo t t.length), .int 0]) trivial ⟨⟨rfl, _, rfl, conv_eq rfl⟩, ⟨rfl, _, rfl, conv_eq rfl⟩, trivial⟩ trivial rfl rfl rfl
def appE (t : List Evt) (l : List Int) : Int := if chkE t ≠ 0 then chkE t else if linF t l = true then 0 else 1
def appL' (t : List Evt) (l : List Int) : List Evt := if appE t l = 0 then laidTo t l l.length else []
theorem lin_in {t : List Evt} {l : List Int} (h : linF t l = true) : l.length ≤ 256 ∧ ∀ q, q < l.length → 0 ≤ l.getD q 0 ∧ l.getD q 0 < t.length := by
  rw [linF, Bool.and_eq_true, decide_eq_true_eq] at h
  have h0 : lstE t l = 0 := by
    have := h.1
    unfold linE at this
    split at this
    · rename_i e; exact absurd this e
    · rename_i e; simpa using e
  obtain ⟨h1, h2⟩ := lst_all h0
  exact ⟨h1, (ask_all h2).2⟩
theorem Apply_ac (g f : Bool) (t : List Evt) (l : List Int) : AC Tryz.prog T tysN 30 [evts g t, ints f l] [] (.tup [evts false (appL' t l), .int (appE t l)]) [] := by
 refine AC_intro hT Tryz.func30 rfl rfl (Nat.le_of_ble_eq_true rfl) ?_
 refine sq (rg [] rfl ?_)
 refine sq (sq (rgs [CG.pure (.int (chkE t))] rfl ?_ ?_))
 ·have h1 := dcheck_ac g t
  simp only [holdsC, under, CG.pure]
  repeat' with_reducible refine And.intro ?_ ?_
  all_goals (try with_reducible intros)
  all_goals (first | exact trivial | assumption | omega | exact h1 | (simp; done) | grind)
 refine sq (rg [] rfl ?_)
 refine cd rfl (fun h2 => ?_) (fun h2 => ?_)
 ·have hb : chkE t ≠ 0 := by simpa using h2
  refine sq (rg [] rfl ?_)
  refine WP.ret ?_
  change Fin ..
  have e : appE t l = chkE t := if_pos hb
  rw [appL', e, if_neg hb]
  refine fin_mk hT [] (ts := [(4, evts false []), (5, .int (chkE t))]) (l := [evts false [], .int (chkE t)]) trivial ⟨⟨rfl, _, rfl, conv_nil_row (by decide)⟩, ⟨rfl, _, rfl, conv_eq rfl⟩, trivial⟩ trivial rfl rfl rfl
 ·have hb : chkE t = 0 := by simpa using h2
  refine sk (sq (sq (rgs [CG.pure (.tup [.bool (linF t l), .int (linE t l)])] rfl ?_ ?_)))
  ·have h1 := linear_ac g f t l
   simp only [holdsC, under, CG.pure]
   repeat' with_reducible refine And.intro ?_ ?_
   all_goals (try with_reducible intros)
   all_goals (first | exact trivial | assumption | omega | exact h1 | (simp; done) | grind)
  refine sq (rg [] rfl ?_)
  refine cd rfl (fun h5 => ?_) (fun h5 => ?_)
  ·have hx : linF t l = false := by
     have e := h5
     rw [bor] at e
     cases hl : linF t l with
     | false => rfl
     | true =>
       rw [hl] at e
       rw [linF, Bool.and_eq_true, decide_eq_true_eq] at hl
       rw [hl.1] at e
       cases e
   refine sq (rg [] rfl ?_)
   refine WP.ret ?_
   change Fin ..
   have e : appE t l = 1 := by rw [appE, if_neg (fun h => h hb), hx]; rfl
   rw [appL', e]
   refine fin_mk hT [] (ts := [(4, evts false []), (5, .int 1)]) (l := [evts false [], .int 1]) trivial ⟨⟨rfl, _, rfl, conv_nil_row (by decide)⟩, ⟨rfl, _, rfl, conv_eq rfl⟩, trivial⟩ trivial rfl rfl rfl
  ·have hx : linF t l = true := by
     have e := h5
     rw [bor] at e
     simp at e
     exact e.2
   obtain ⟨hl1, hl2⟩ := lin_in hx
   refine sk (sq (rgs [CG.pure (evts false (laidTo t l l.length))] rfl ?_ ?_))
   ·have h1 := claid_ac g f t l (by omega) hl2
    simp only [holdsC, under, CG.pure]
    repeat' with_reducible refine And.intro ?_ ?_
    all_goals (try with_reducible intros)
    all_goals (first | exact trivial | assumption | omega | exact h1 | (simp; done) | grind)
   refine WP.ret ?_
   change Fin ..
   have e : appE t l = 0 := by rw [appE, if_neg (fun h => h hb), hx]; rfl
   rw [appL', e, if_pos rfl]
   refine fin_mk hT [] (ts := [(4, evts false (laidTo t l l.length)), (5, .int 0)]) (l := [evts false (laidTo t l l.length), .int 0]) trivial ⟨⟨rfl, _, rfl, conv_eq rfl⟩, ⟨rfl, _, rfl, conv_eq rfl⟩, trivial⟩ trivial rfl rfl rfl
end Go.Ab


/- The reference's Clocked and Beside. -/
set_option autoImplicit false
set_option maxRecDepth 20000
set_option maxHeartbeats 4000000
set_option linter.unusedSimpArgs false
set_option linter.unusedVariables false
namespace Go.Ab
open Go.Proofs Go.Sort
/-- The numbers below k of which p holds. -/
def fmTo (p : Nat → Bool) (k : Nat) : List Int := ((List.range k).filter p).map fun n : Nat => (n : Int)
theorem fmTo_yes {p : Nat → Bool} {k : Nat} (h : p k = true) : fmTo p (k + 1) = fmTo p k ++ [(k : Int)] := by
  rw [fmTo, List.range_succ, List.filter_append, List.filter_cons_of_pos h, List.map_append]; rfl
theorem fmTo_no {p : Nat → Bool} {k : Nat} (h : p k = false) : fmTo p (k + 1) = fmTo p k := by
  rw [fmTo, List.range_succ, List.filter_append, List.filter_cons_of_neg (by rw [h]; decide), List.filter_nil, List.append_nil]; rfl
theorem fmTo_len (p : Nat → Bool) (k : Nat) : (fmTo p k).length ≤ k := by
  have := List.length_filter_le p (List.range k)
  rw [List.length_range] at this
  rw [fmTo, List.length_map]; exact this
theorem fmTo_mem {p : Nat → Bool} {k : Nat} {x : Int} : x ∈ fmTo p k ↔ ∃ n : Nat, x = n ∧ n < k ∧ p n = true := by
  simp only [fmTo, List.mem_map, List.mem_filter, List.mem_range]
  constructor
  · rintro ⟨n, ⟨h1, h2⟩, rfl⟩; exact ⟨n, rfl, h1, h2⟩
  · rintro ⟨n, rfl, h1, h2⟩; exact ⟨n, ⟨h1, h2⟩, rfl⟩
def rclB (t : List Evt) (i j k : Nat) : Bool := (k != i && refT t i k) && depB (eAt t k) (eAt t j)
def rclkdF (t : List Evt) (i j : Nat) : Bool := !noQ t i j && (List.range j).all fun k => !rclB t i j k
theorem rclk_no {t : List Evt} {i j k : Nat} (hk : k < j) (h : rclB t i j k = true) : rclkdF t i j = false := by
  cases e : rclkdF t i j with
  | false => rfl
  | true =>
    simp only [rclkdF, Bool.and_eq_true, List.all_eq_true, List.mem_range] at e
    have := e.2 k hk
    rw [h] at this; cases this
theorem rclk_yes {t : List Evt} {i j : Nat} (hq : noQ t i j = false) (h : ∀ k, k < j → rclB t i j k = false) : rclkdF t i j = true := by
  simp only [rclkdF, Bool.and_eq_true, List.all_eq_true, List.mem_range]
  exact ⟨by rw [hq]; rfl, fun k hk => by rw [h k hk]; rfl⟩
theorem rclocked_ac (g : Bool) (t : List Evt) (i j : Nat) (h : GoOK t) (hi : i < t.length) (hj : j < t.length) : AC Tryz.prog T tysN 35 [evts g t, .int i, .int j] [] (.bool (rclkdF t i j)) [] := by
 refine AC_intro hT Tryz.func35 rfl rfl (Nat.le_of_ble_eq_true rfl) ?_
 have h256 := h.1
 refine sq (rg [] rfl ?_)
 refine sq (sq (drs [CG.pure (.bool (depB (eAt t i) (eAt t j)))] rfl ?_ ?_))
 ·have h1 := rdep_ac (eAt t i) (eAt t j)
  simp only [holdsC, under, CG.pure]
  repeat' with_reducible refine And.intro ?_ ?_
  all_goals (try with_reducible intros)
  all_goals (first | exact trivial | assumption | omega | exact h1 | (simp; done) | grind)
 refine cd rfl (fun h1 => ?_) (fun h1 => ?_)
 ·have hq : noQ t i j = true := by
    have e := h1
    rw [bor, bor] at e
    have e2 : (decide ((i : Int) ≥ j) || (eAt t i).go == (eAt t j).go || !depB (eAt t i) (eAt t j)) = true := e
    rw [noQ, ← e2, show decide (i ≥ j) = decide ((i : Int) ≥ j) from decide_eq_decide.2 (by omega)]
  refine sq (rg [] rfl ?_)
  refine WP.ret ?_
  change Fin ..
  exact fin1 hT (by rfl) (by rw [rclkdF, hq]; rfl)
 ·have hq : noQ t i j = false := by
    have e := h1
    rw [bor, bor] at e
    have e2 : (decide ((i : Int) ≥ j) || (eAt t i).go == (eAt t j).go || !depB (eAt t i) (eAt t j)) = false := e
    rw [noQ, ← e2, show decide (i ≥ j) = decide ((i : Int) ≥ j) from decide_eq_decide.2 (by omega)]
  refine sk (sq (rgs [CG.pure (tabB t.length (refT t))] rfl ?_ ?_))
  ·have h1 := rbef_ac g t h
   simp only [holdsC, under, CG.pure]
   repeat' with_reducible refine And.intro ?_ ?_
   all_goals (try with_reducible intros)
   all_goals (first | exact trivial | assumption | omega | exact h1 | (simp; done) | grind)
  refine sq (sq (rg [] rfl ?_))
  refine bk ?_
  refine WP.loop (α := Nat) (fun k => mkSt [(0, evts g t), (1, .int i), (2, .int j), (7, tabB t.length (refT t)), (8, .int k)] []) (fun k => k ≤ j ∧ ∀ a, a < k → rclB t i j a = false) (fun k => j - k) ?_ ?_
  ·refine ⟨0, ?_, ?_⟩
   ·exact ⟨Nat.zero_le _, fun a ha => absurd ha (Nat.not_lt_zero _)⟩
   ·refine em [] trivial ⟨⟨rfl, _, rfl, cvt⟩, ⟨rfl, _, rfl, cvt⟩, ⟨rfl, _, rfl, cvt⟩, ⟨rfl, _, rfl, cvt⟩, ⟨rfl, _, rfl, cvt⟩, trivial⟩ trivial
  ·rintro k ⟨hk, hn⟩
   refine sq (sq (rg [] rfl ?_))
   refine cd rfl (fun h5 => ?_) (fun h5 => ?_)
   ·have hkj : k < j := by simpa using h5
    refine sk (sq (bk (sq (drs [CG.pure (.bool (depB (eAt t k) (eAt t j)))] rfl ?_ ?_))))
    ·have h1 := rdep_ac (eAt t k) (eAt t j)
     simp only [holdsC, under, CG.pure]
     repeat' with_reducible refine And.intro ?_ ?_
     all_goals (try with_reducible intros)
     all_goals (first | exact trivial | assumption | omega | exact h1 | (simp; done) | grind)
    refine cd rfl (fun h7 => ?_) (fun h7 => ?_)
    ·have hx : rclB t i j k = true := by
       have e := h7
       rw [band, band] at e
       rw [rclB, ← e]
       congr 2
       rw [Bool.eq_iff_iff]
       simp; omega
     refine sq (rg [] rfl ?_)
     refine WP.ret ?_
     change Fin ..
     exact fin1 hT (by rfl) (rclk_no hkj hx).symm
    ·have hx : rclB t i j k = false := by
       have e := h7
       rw [band, band] at e
       rw [rclB, ← e]
       congr 2
       rw [Bool.eq_iff_iff]
       simp; omega
     refine sk (rg [] rfl ?_)
     refine ⟨k + 1, ?_, ?_, ?_⟩
     ·exact ⟨hkj, all_succ (Q := fun a => rclB t i j a = false) hn hx⟩
     ·refine em [] trivial ⟨⟨rfl, _, rfl, cvt⟩, ⟨rfl, _, rfl, cvt⟩, ⟨rfl, _, rfl, cvt⟩, ⟨rfl, _, rfl, cvt⟩, ⟨rfl, _, rfl, cvt⟩, trivial⟩ trivial
     ·(try simp only []); first | omega | grind
   ·have hkj : k = j := by simp at h5; omega
    subst hkj
    refine xt (sq (rg [] rfl ?_))
    refine WP.ret ?_
    change Fin ..
    exact fin1 hT (by rfl) (rclk_yes hq hn).symm
end Go.Ab


/- The reference's Beside. -/
set_option autoImplicit false
set_option maxRecDepth 20000
set_option maxHeartbeats 4000000
set_option linter.unusedSimpArgs false
set_option linter.unusedVariables false
namespace Go.Ab
open Go.Proofs Go.Sort
def offB (i j k : Nat) : Bool := k != i && k != j
def betK (t : List Evt) (i j k : Nat) : Bool := offB i j k && (refT t i k && refT t k j)
def firB (t : List Evt) (i j k : Nat) : Bool := offB i j k && (refT t k i || refT t k j)
def resB (t : List Evt) (i j k : Nat) : Bool := offB i j k && !(refT t k i || refT t k j)
def rordI (t : List Evt) (i j : Nat) : List Int := fmTo (firB t i j) t.length ++ [(i : Int), (j : Int)] ++ fmTo (resB t i j) t.length
def rbesB (t : List Evt) (i j : Nat) : Bool := !decide (i ≥ j) && !(List.range t.length).any (betK t i j)
def rbesL (t : List Evt) (i j : Nat) : List Int := if rbesB t i j = true then rordI t i j else []
theorem rbes_no {t : List Evt} {i j k : Nat} (hk : k < t.length) (h : betK t i j k = true) : rbesB t i j = false := by
  have : (List.range t.length).any (betK t i j) = true := List.any_eq_true.2 ⟨k, List.mem_range.2 hk, h⟩
  rw [rbesB, this, Bool.not_true, Bool.and_false]
theorem rbes_yes {t : List Evt} {i j : Nat} (hij : i < j) (h : ∀ k, k < t.length → betK t i j k = false) : rbesB t i j = true := by
  have : (List.range t.length).any (betK t i j) = false := by
    rw [List.any_eq_false]
    intro k hk
    rw [h k (List.mem_range.1 hk)]; decide
  rw [rbesB, this, decide_eq_false (by omega)]; rfl
theorem take_snocI {l : List Int} {k : Nat} (h : k < l.length) : l.take (k + 1) = l.take k ++ [l.getD k 0] := by
  rw [List.take_add_one, List.getElem?_eq_getElem h]
  simp [List.getD_eq_getElem?_getD, h]
theorem rbeside_ac (g : Bool) (t : List Evt) (i j : Nat) (h : GoOK t) (hi : i < t.length) (hj : j < t.length) : AC Tryz.prog T tysN 34 [evts g t, .int i, .int j] [] (.tup [ints false (rbesL t i j), .bool (rbesB t i j)]) [] := by
 refine AC_intro hT Tryz.func34 rfl rfl (Nat.le_of_ble_eq_true rfl) ?_
 have h256 := h.1
 refine sq (rg [] rfl ?_)
 refine sq (sq (rg [] rfl ?_))
 refine cd rfl (fun h1 => ?_) (fun h1 => ?_)
 ·have hb : rbesB t i j = false := by rw [rbesB, decide_eq_true (by simp at h1; omega)]; rfl
  refine sq (rg [] rfl ?_)
  refine WP.ret ?_
  change Fin ..
  rw [rbesL, hb]
  refine fin_mk hT [] (ts := [(6, ints false []), (7, .bool false)]) (l := [ints false [], .bool false]) trivial ⟨⟨rfl, _, rfl, conv_nil_row (by decide)⟩, ⟨rfl, _, rfl, conv_eq rfl⟩, trivial⟩ trivial rfl rfl rfl
 ·have hij : i < j := by simp at h1; omega
  refine sk (sq (rgs [CG.pure (tabB t.length (refT t))] rfl ?_ ?_))
  ·have h1 := rbef_ac g t h
   simp only [holdsC, under, CG.pure]
   repeat' with_reducible refine And.intro ?_ ?_
   all_goals (try with_reducible intros)
   all_goals (first | exact trivial | assumption | omega | exact h1 | (simp; done) | grind)
  refine sq (rg [] rfl ?_)
  refine sq (sq (rg [] rfl ?_))
  refine bk ?_
  refine WP.loop (α := Nat) (fun k => mkSt [(0, evts g t), (1, .int i), (2, .int j), (8, tabB t.length (refT t)), (9, .own (.s 67 0) (fmTo (firB t i j) k).length 0 (fmTo (firB t i j) k).length none), (10, .own (.s 71 0) (fmTo (resB t i j) k).length 0 (fmTo (resB t i j) k).length none), (11, .int k)] [(.s 67 0, cellsI 3 .i64 (fmTo (firB t i j) k)), (.s 71 0, cellsI 3 .i64 (fmTo (resB t i j) k))]) (fun k => k ≤ t.length ∧ ∀ a, a < k → betK t i j a = false) (fun k => t.length - k) ?_ ?_
  ·refine ⟨0, ?_, ?_⟩
   ·exact ⟨Nat.zero_le _, fun a ha => absurd ha (Nat.not_lt_zero _)⟩
   ·refine em [] trivial ⟨⟨rfl, _, rfl, cvt⟩, ⟨rfl, _, rfl, cvt⟩, ⟨rfl, _, rfl, cvt⟩, ⟨rfl, _, rfl, cvt⟩, ⟨rfl, _, rfl, conv_nil_own⟩, ⟨rfl, _, rfl, conv_nil_own⟩, ⟨rfl, _, rfl, cvt⟩, trivial⟩ ⟨⟨fun _ _ => rfl, .inr ⟨rfl, 3, _, rfl, by decide⟩⟩, ⟨fun _ _ => rfl, .inr ⟨rfl, 3, _, rfl, by decide⟩⟩, trivial⟩
  ·rintro k ⟨hk, hn⟩
   refine sq (sq (rg [] rfl ?_))
   refine cd rfl (fun h6 => ?_) (fun h6 => ?_)
   ·have hkt : k < t.length := by simpa using h6
    have hf1 := fmTo_len (firB t i j) k
    have hf2 := fmTo_len (resB t i j) k
    refine sk (sq (bk (sq (sq (rg [] rfl ?_)))))
    refine cd rfl (fun h8 => ?_) (fun h8 => ?_)
    ·have ho : offB i j k = false := by
       have e := h8
       rw [bor] at e
       rw [offB]
       simp at e ⊢
       omega
     have hx : betK t i j k = false := by rw [betK, ho]; rfl
     have hx1 : firB t i j k = false := by rw [firB, ho]; rfl
     have hx2 : resB t i j k = false := by rw [resB, ho]; rfl
     refine xt (rg [] rfl ?_)
     refine ⟨k + 1, ?_, ?_, ?_⟩
     ·exact ⟨hkt, all_succ (Q := fun a => betK t i j a = false) hn hx⟩
     ·refine em [] trivial ⟨⟨rfl, _, rfl, cvt⟩, ⟨rfl, _, rfl, cvt⟩, ⟨rfl, _, rfl, cvt⟩, ⟨rfl, _, rfl, cvt⟩, ⟨rfl, _, rfl, conv_eq (by rw [fmTo_no hx1])⟩, ⟨rfl, _, rfl, conv_eq (by rw [fmTo_no hx2])⟩, ⟨rfl, _, rfl, cvt⟩, trivial⟩ ⟨ob_ints rfl rfl (by rw [fmTo_no hx1]) rfl rfl (fun q hq => by rw [fmTo_no hx1]), ob_ints rfl rfl (by rw [fmTo_no hx2]) rfl rfl (fun q hq => by rw [fmTo_no hx2]), trivial⟩
     ·(try simp only []); first | omega | grind
    ·have ho : offB i j k = true := by
       have e := h8
       rw [bor] at e
       rw [offB]
       simp at e ⊢
       omega
     refine sk (sq (sq (rg [] rfl ?_)))
     refine cd rfl (fun h9 => ?_) (fun h9 => ?_)
     ·have hx : betK t i j k = true := by
        have e := h9
        rw [band] at e
        rw [betK, ho]
        exact e
      have hb := rbes_no hkt hx
      refine sq (rg [] rfl ?_)
      refine WP.ret ?_
      change Fin ..
      rw [rbesL, hb]
      refine fin_mk hT [] (ts := [(6, ints false []), (7, .bool false)]) (l := [ints false [], .bool false]) trivial ⟨⟨rfl, _, rfl, conv_nil_row (by decide)⟩, ⟨rfl, _, rfl, conv_eq rfl⟩, trivial⟩ trivial rfl rfl rfl
     ·have hx : betK t i j k = false := by
        have e := h9
        rw [band] at e
        rw [betK, ho]
        exact e
      refine sk (sq (rg [] rfl ?_))
      refine cd rfl (fun h11 => ?_) (fun h11 => ?_)
      ·have hx1 : firB t i j k = true := by
         have e := h11
         rw [bor] at e
         rw [firB, ho]
         exact e
       have hx2 : resB t i j k = false := by
         have e := h11
         rw [bor] at e
         have e2 : (refT t k i || refT t k j) = true := e
         rw [resB, ho, e2]; rfl
       refine rgs [] rfl ?_ ?_
       ·have hbt : (T 3).bytes = 8 := rfl
        have e1 : ((fmTo (firB t i j) k).length + 1) * (T 3).bytes ≤ 140737488355328 := by rw [hbt]; omega
        simp only [holdsC, under, CG.pure]
        repeat' with_reducible refine And.intro ?_ ?_
        all_goals (try with_reducible intros)
        all_goals (first | exact trivial | assumption | omega | exact hbt | exact e1 | (simp; done) | grind)
       refine rg [] rfl ?_
       refine ⟨k + 1, ?_, ?_, ?_⟩
       ·exact ⟨hkt, all_succ (Q := fun a => betK t i j a = false) hn hx⟩
       ·refine em [] trivial ⟨⟨rfl, _, rfl, cvt⟩, ⟨rfl, _, rfl, cvt⟩, ⟨rfl, _, rfl, cvt⟩, ⟨rfl, _, rfl, cvt⟩, ⟨rfl, _, rfl, conv_eq (by rw [fmTo_yes hx1, List.length_append]; rfl)⟩, ⟨rfl, _, rfl, conv_eq (by rw [fmTo_no hx2])⟩, ⟨rfl, _, rfl, cvt⟩, trivial⟩ ⟨ob_ints rfl rfl (by rw [fmTo_yes hx1, List.length_append]; rfl) rfl rfl (by rw [fmTo_yes hx1]; exact app1 (z := (T 3).zero) rfl (fun q hq => rfl)), ob_ints rfl rfl (by rw [fmTo_no hx2]) rfl rfl (fun q hq => by rw [fmTo_no hx2]), trivial⟩
       ·(try simp only []); first | omega | grind
      ·have hx1 : firB t i j k = false := by
         have e := h11
         rw [bor] at e
         rw [firB, ho]
         exact e
       have hx2 : resB t i j k = true := by
         have e := h11
         rw [bor] at e
         have e2 : (refT t k i || refT t k j) = false := e
         rw [resB, ho, e2]; rfl
       refine rgs [] rfl ?_ ?_
       ·have hbt : (T 3).bytes = 8 := rfl
        have e1 : ((fmTo (resB t i j) k).length + 1) * (T 3).bytes ≤ 140737488355328 := by rw [hbt]; omega
        simp only [holdsC, under, CG.pure]
        repeat' with_reducible refine And.intro ?_ ?_
        all_goals (try with_reducible intros)
        all_goals (first | exact trivial | assumption | omega | exact hbt | exact e1 | (simp; done) | grind)
       refine rg [] rfl ?_
       refine ⟨k + 1, ?_, ?_, ?_⟩
       ·exact ⟨hkt, all_succ (Q := fun a => betK t i j a = false) hn hx⟩
       ·refine em [] trivial ⟨⟨rfl, _, rfl, cvt⟩, ⟨rfl, _, rfl, cvt⟩, ⟨rfl, _, rfl, cvt⟩, ⟨rfl, _, rfl, cvt⟩, ⟨rfl, _, rfl, conv_eq (by rw [fmTo_no hx1])⟩, ⟨rfl, _, rfl, conv_eq (by rw [fmTo_yes hx2, List.length_append]; rfl)⟩, ⟨rfl, _, rfl, cvt⟩, trivial⟩ ⟨ob_ints rfl rfl (by rw [fmTo_no hx1]) rfl rfl (fun q hq => by rw [fmTo_no hx1]), ob_ints rfl rfl (by rw [fmTo_yes hx2, List.length_append]; rfl) rfl rfl (by rw [fmTo_yes hx2]; exact app1 (z := (T 3).zero) rfl (fun q hq => rfl)), trivial⟩
       ·(try simp only []); first | omega | grind
   ·have hkt : k = t.length := by simp at h6; omega
    subst hkt
    have hf1 := fmTo_len (firB t i j) t.length
    have hf2 := fmTo_len (resB t i j) t.length
    obtain ⟨A, hA⟩ : ∃ A, A = fmTo (firB t i j) t.length := ⟨_, rfl⟩
    obtain ⟨R, hR⟩ : ∃ R, R = fmTo (resB t i j) t.length := ⟨_, rfl⟩
    have hb := rbes_yes hij hn
    have hord : rordI t i j = A ++ [(i : Int), (j : Int)] ++ R := by rw [hA, hR]; rfl
    rw [← hA] at hf1 ⊢
    rw [← hR] at hf2 ⊢
    refine xt (sq (rgs [] rfl ?_ ?_))
    ·have hbt : (T 3).bytes = 8 := rfl
     have e1 : (A.length + 2) * (T 3).bytes ≤ 140737488355328 := by rw [hbt]; omega
     simp only [holdsC, under, CG.pure]
     repeat' with_reducible refine And.intro ?_ ?_
     all_goals (try with_reducible intros)
     all_goals (first | exact trivial | assumption | omega | exact hbt | exact e1 | (simp; done) | grind)
    refine sq (sq (rg [] rfl ?_))
    refine bk ?_
    refine WP.loop (α := Nat) (fun m => mkSt [(9, .own (.s 67 0) (A ++ [(i : Int), (j : Int)] ++ R.take m).length 0 (A ++ [(i : Int), (j : Int)] ++ R.take m).length none), (10, .own (.s 71 0) R.length 0 R.length none), (12, .int m)] [(.s 67 0, cellsI 3 .i64 (A ++ [(i : Int), (j : Int)] ++ R.take m)), (.s 71 0, cellsI 3 .i64 R)]) (fun m => m ≤ R.length) (fun m => R.length - m) ?_ ?_
    ·refine ⟨0, ?_, ?_⟩
     ·exact Nat.zero_le _
     ·refine em [] trivial ⟨⟨rfl, _, rfl, conv_eq (by rw [List.take_zero, List.append_nil, List.length_append]; rfl)⟩, ⟨rfl, _, rfl, cvt⟩, ⟨rfl, _, rfl, cvt⟩, trivial⟩ ⟨ob_ints rfl rfl (by rw [List.take_zero, List.append_nil, List.length_append]; rfl) rfl rfl (by rw [List.take_zero, List.append_nil]; exact join_flat (b := [(i : Int), (j : Int)]) (fun q hq => rfl) (fun q hq => by match q, hq with | 0, _ | 1, _ => rfl)), obs rfl, trivial⟩
    ·rintro m hm
     refine sq (sq (rg [] rfl ?_))
     refine cd rfl (fun h16 => ?_) (fun h16 => ?_)
     ·have hmr : m < R.length := by simpa using h16
      have hl : (A ++ [(i : Int), (j : Int)] ++ R.take m).length ≤ 514 := by
        rw [List.length_append, List.length_append, List.length_take]
        simp only [List.length_cons, List.length_nil]
        omega
      have e3 : A ++ [(i : Int), (j : Int)] ++ R.take (m + 1) = A ++ [(i : Int), (j : Int)] ++ R.take m ++ [R.getD m 0] := by rw [take_snocI hmr, ← List.append_assoc]
      refine sk (sq (bk (rgs [] rfl ?_ ?_)))
      ·have hbt : (T 3).bytes = 8 := rfl
       have e1 : ((A ++ [(i : Int), (j : Int)] ++ R.take m).length + 1) * (T 3).bytes ≤ 140737488355328 := by rw [hbt]; omega
       simp only [holdsC, under, CG.pure]
       repeat' with_reducible refine And.intro ?_ ?_
       all_goals (try with_reducible intros)
       all_goals (first | exact trivial | assumption | omega | exact hbt | exact e1 | (simp; done) | grind)
      refine rg [] rfl ?_
      refine ⟨m + 1, ?_, ?_, ?_⟩
      ·exact hmr
      ·refine em [] trivial ⟨⟨rfl, _, rfl, conv_eq (by rw [e3, len_snoc])⟩, ⟨rfl, _, rfl, cvt⟩, ⟨rfl, _, rfl, cvt⟩, trivial⟩ ⟨ob_ints rfl rfl (by rw [e3, len_snoc]) rfl rfl (by rw [e3]; exact app1 (z := (T 3).zero) rfl (fun q hq => rfl)), obs rfl, trivial⟩
      ·(try simp only []); first | omega | grind
     ·have hmr : m = R.length := by simp at h16; omega
      subst hmr
      rw [List.take_length, ← hord]
      refine xt (sq (rg [] rfl ?_))
      refine WP.ret ?_
      change Fin ..
      rw [rbesL, hb, if_pos rfl]
      refine fin_mk hT [(.s 67 0, (rordI t i j).length)] (ts := [(6, ints false (rordI t i j)), (7, .bool true)]) (l := [ints false (rordI t i j), .bool true]) ⟨⟨_, rfl, Nat.le_refl _⟩, trivial⟩ ⟨⟨rfl, _, rfl, ?_⟩, ⟨rfl, _, rfl, conv_eq rfl⟩, trivial⟩ trivial rfl rfl rfl
      exact conv_row rfl rfl rfl (fun h => by cases h) (by simp [lookF, idbeq_self]) (fun q hq => by rw [Nat.zero_add]; exact ⟨rfl, AEq.refl _⟩)
end Go.Ab


/- Law: Clocked by clocks or by what depends on what. -/
set_option autoImplicit false
set_option linter.unusedSimpArgs false
set_option linter.unusedVariables false
set_option linter.unusedSectionVars false
namespace Go.Ab
open Go.Proofs
section
variable {t : List Evt} (h : chkE t = 0)
include h
theorem clk_iff {i k : Nat} (hi : i < t.length) (hk : k < t.length) : (clkOf t i).getD (goN t i) 0 ≤ (clkOf t k).getD (goN t i) 0 ↔ (i = k ∨ HB t i k) := by
  have hok := chk_right h
  have hg := goN_lt hok hi
  constructor
  · intro h2
    have e1 := clk_get h hi (q := goN t i)
    rw [if_pos rfl] at e1
    have e2 := ((clk_le hok i hi).2 i (Nat.le_refl _)).2 _ hg
    rcases clk_wit h (goN t i) hg k hk with h3 | ⟨m, h3, h4, h5⟩
    · omega
    · have hm : m ≤ k := by
        rcases h3 with rfl | h3
        · exact Nat.le_refl _
        · exact Nat.le_of_lt h3.lt
      rcases Nat.lt_trichotomy m i with hki | rfl | hki
      · exfalso
        have hb : HB t m i := .dep hki (same_dep h (by omega) hi h4)
        have := clk_mono h hb hi (goN t i) hg
        omega
      · exact h3
      · have hb : HB t i m := .dep hki (same_dep h hi (by omega) h4.symm)
        rcases h3 with rfl | h3
        · exact .inr hb
        · exact .inr (hb.trans h3)
  · rintro (rfl | hb)
    · exact Int.le_refl _
    · have e1 := clk_mono h hb hk _ hg
      have e2 := clk_get h hk (q := goN t i)
      split at e2 <;> omega
omit h
theorem accX_iff {i j q : Nat} (hq : q < 6) {x : Int} (hx : 0 < x) : ∀ m, m ≤ j → (x ≤ (accX t i j m).getD q 0 ↔ ∃ k, k < m ∧ k ≠ i ∧ depB (eAt t k) (eAt t j) = true ∧ x ≤ (clkOf t k).getD q 0)
  | 0, _ => by
    rw [accX, zeroC_get]
    constructor
    · intro h; omega
    · rintro ⟨k, h1, _⟩; omega
  | m + 1, hm => by
    have ih := accX_iff hq hx (i := i) (j := j) m (by omega)
    rw [accX]
    have up : (∃ k, k < m ∧ k ≠ i ∧ depB (eAt t k) (eAt t j) = true ∧ x ≤ (clkOf t k).getD q 0) → ∃ k, k < m + 1 ∧ k ≠ i ∧ depB (eAt t k) (eAt t j) = true ∧ x ≤ (clkOf t k).getD q 0 := by
      rintro ⟨k, h1, h2⟩; exact ⟨k, by omega, h2⟩
    split
    · rename_i hc
      rw [Bool.and_eq_true] at hc
      have hmi : m ≠ i := by simpa using hc.1
      rw [joinC_get hq]
      have h3 := mx_ge ((accX t i j m).getD q 0) ((clkOf t m).getD q 0)
      constructor
      · intro hle
        rcases h3.2.2 with e | e
        · rw [e] at hle; exact up (ih.1 hle)
        · rw [e] at hle; exact ⟨m, by omega, hmi, hc.2, hle⟩
      · rintro ⟨k, k1, k2, k3, k4⟩
        by_cases e : k = m
        · subst e; exact Int.le_trans k4 h3.2.1
        · exact Int.le_trans (ih.2 ⟨k, by omega, k2, k3, k4⟩) h3.1
    · rename_i hc
      rw [ih]
      refine ⟨up, ?_⟩
      rintro ⟨k, k1, k2, k3, k4⟩
      by_cases e : k = m
      · subst e
        refine absurd ?_ hc
        rw [k3, Bool.and_true]
        simpa using k2
      · exact ⟨k, by omega, k2, k3, k4⟩
include h
theorem clkd_eq {i j : Nat} (hi : i < t.length) (hj : j < t.length) : clkdF t i j = rclkdF t i j := by
  have hok := chk_right h
  have hg := goN_lt hok hi
  have e0 := clk_get h hi (q := goN t i)
  rw [if_pos rfl] at e0
  have e2 := ((clk_le hok i hi).2 i (Nat.le_refl _)).2 _ hg
  have hx : 0 < (clkOf t i).getD (goN t i) 0 := by omega
  rw [clkdF, rclkdF]
  congr 1
  rw [Bool.eq_iff_iff, decide_eq_true_eq, List.all_eq_true]
  have hiff := accX_iff (t := t) (i := i) (j := j) hg hx j (Nat.le_refl _)
  have key : (∃ k, k < j ∧ k ≠ i ∧ depB (eAt t k) (eAt t j) = true ∧ (clkOf t i).getD (goN t i) 0 ≤ (clkOf t k).getD (goN t i) 0) ↔ ∃ k, k < j ∧ rclB t i j k = true := by
    constructor
    · rintro ⟨k, h1, h2, h3, h4⟩
      refine ⟨k, h1, ?_⟩
      have hb : HB t i k := by
        rcases (clk_iff h hi (by omega)).1 h4 with e | e
        · exact absurd e.symm h2
        · exact e
      rw [rclB, h3, (refT_iff (by omega)).2 hb]
      simpa using h2
    · rintro ⟨k, h1, h2⟩
      rw [rclB, Bool.and_eq_true, Bool.and_eq_true] at h2
      exact ⟨k, h1, by simpa using h2.1.1, h2.2, (clk_iff h hi (by omega)).2 (.inr ((refT_iff (by omega)).1 h2.1.2))⟩
  rw [key] at hiff
  constructor
  · intro hlt k hk
    have hk' := List.mem_range.1 hk
    cases e : rclB t i j k with
    | false => rfl
    | true =>
      have := hiff.2 ⟨k, hk', e⟩
      unfold goN at this
      omega
  · intro hall
    rcases Int.lt_or_le ((accX t i j j).getD (goN t i) 0) ((clkOf t i).getD (goN t i) 0) with hl | hl
    · exact hl
    · obtain ⟨k, h1, h2⟩ := hiff.1 hl
      have := hall k (List.mem_range.2 h1)
      rw [h2] at this
      cases this
end
end Go.Ab


/- Law: Beside by the code and by the reference. -/
set_option autoImplicit false
set_option linter.unusedSimpArgs false
set_option linter.unusedVariables false
set_option linter.unusedSectionVars false
namespace Go.Ab
open Go.Proofs Go.Sort
theorem sorted_ext : ∀ {a b : List Int}, a.Pairwise (· < ·) → b.Pairwise (· < ·) → (∀ x, x ∈ a ↔ x ∈ b) → a = b
  | [], [], _, _, _ => rfl
  | [], y :: b, _, _, h => by have := (h y).2 (by simp); cases this
  | x :: a, [], _, _, h => by have := (h x).1 (by simp); cases this
  | x :: a, y :: b, ha, hb, h => by
    rw [List.pairwise_cons] at ha hb
    have e : x = y := by
      have h1 := (h x).1 (by simp)
      have h2 := (h y).2 (by simp)
      rw [List.mem_cons] at h1 h2
      rcases h1 with h1 | h1
      · exact h1
      · rcases h2 with h2 | h2
        · exact h2.symm
        · have := ha.1 y h2
          have := hb.1 x h1
          omega
    subst e
    rw [sorted_ext ha.2 hb.2 (fun z => ?_)]
    have hz := h z
    rw [List.mem_cons, List.mem_cons] at hz
    constructor
    · intro hm
      rcases hz.1 (.inr hm) with e | e
      · subst e; exact absurd (ha.1 z hm) (Int.lt_irrefl _)
      · exact e
    · intro hm
      rcases hz.2 (.inr hm) with e | e
      · subst e; exact absurd (hb.1 z hm) (Int.lt_irrefl _)
      · exact e
theorem dd_props {l : List Int} (hs : l.Pairwise (· ≤ ·)) : ∀ k, k ≤ l.length → (dd 0 l k).Pairwise (· < ·) ∧ ∀ x, x ∈ dd 0 l k ↔ x ∈ l.take k
  | 0, _ => ⟨List.Pairwise.nil, fun x => by simp [dd]⟩
  | k + 1, hk => by
    obtain ⟨h1, h2⟩ := dd_props hs k (by omega)
    have hkl : k < l.length := hk
    have hget : l.getD k 0 = l[k] := by simp [List.getD_eq_getElem?_getD, hkl]
    have ht : l.take (k + 1) = l.take k ++ [l.getD k 0] := take_snocI hkl
    rw [dd]
    split
    · rename_i e
      refine ⟨h1, fun x => ?_⟩
      rw [h2, ht, List.mem_append, List.mem_singleton]
      refine ⟨.inl, fun h => h.elim id fun e2 => ?_⟩
      rw [e2, e.2]
      have hk1 : k - 1 < l.length := by omega
      rw [List.mem_take_iff_getElem]
      exact ⟨k - 1, by omega, by simp [List.getD_eq_getElem?_getD, hk1]⟩
    · rename_i e
      constructor
      · rw [List.pairwise_append]
        refine ⟨h1, List.pairwise_singleton _ _, fun x hx y hy => ?_⟩
        rw [List.mem_singleton] at hy
        subst hy
        rw [h2, List.mem_take_iff_getElem] at hx
        obtain ⟨m, hm, rfl⟩ := hx
        rw [List.pairwise_iff_getElem] at hs
        have hk0 : 0 < k := by omega
        have e1 : l[k - 1] ≠ l[k] := by
          intro e2
          refine e ⟨hk0, ?_⟩
          rw [hget, ← e2]
          simp [List.getD_eq_getElem?_getD, show k - 1 < l.length by omega]
        have e3 : l[k - 1] ≤ l[k] := hs (k - 1) k (by omega) hkl (by omega)
        have e4 : l[m] ≤ l[k - 1] := by
          by_cases e5 : m = k - 1
          · subst e5; exact Int.le_refl _
          · exact hs m (k - 1) (by omega) (by omega) (by omega)
        rw [hget]
        omega
      · intro x
        rw [List.mem_append, h2, ht, List.mem_append]
theorem sort_pw (l : List Int) : (sortI l).Pairwise (· ≤ ·) := by
  have h := List.pairwise_mergeSort (le := fun x y : Int => decide (x ≤ y)) (fun a b c h1 h2 => by simp at *; omega) (fun a b => by simp; omega) l
  exact h.imp (fun hab => by simpa using hab)
theorem ddS_pw (l : List Int) : (ddI (sortI l)).Pairwise (· < ·) := (dd_props (sort_pw l) _ (Nat.le_refl _)).1
theorem ddS_mem (l : List Int) (x : Int) : x ∈ ddI (sortI l) ↔ x ∈ l := by
  rw [ddI, (dd_props (sort_pw l) _ (Nat.le_refl _)).2 x, List.take_length, sortI, List.mem_mergeSort]
theorem fmTo_pw (p : Nat → Bool) (k : Nat) : (fmTo p k).Pairwise (· < ·) := by
  rw [fmTo, List.pairwise_map]
  exact (List.pairwise_lt_range.filter p).imp (fun h => by omega)
section
variable {t : List Evt} (h : chkE t = 0) {i j : Nat} (hi : i < t.length) (hj : j < t.length) (hij : i < j)
include h hi hj hij
theorem ord0_eq : ord0 t i j = fmTo (firB t i j) t.length ++ [(i : Int), (j : Int)] := by
  rw [ord0]
  congr 1
  refine sorted_ext ((ddS_pw _).filter _) (fmTo_pw _ _) (fun x => ?_)
  have e : bothI t (i : Int) (j : Int) = pI t i ++ pI t j := by simp [bothI, flTo]
  rw [keepG, List.mem_filter, ddS_mem, e, List.mem_append, pI_mem, pI_mem, fmTo_mem]
  constructor
  · rintro ⟨hx, hne⟩
    have hne : x ≠ (i : Int) := by simpa using hne
    rcases hx with ⟨k, rfl, h1, h2⟩ | ⟨k, rfl, h1, h2⟩
    · have hb := (befB_iff h (show k < t.length by omega) hi).1 h2
      exact ⟨k, rfl, by omega, by rw [firB, offB, (refT_iff hi).2 hb]; simp; omega⟩
    · have hb := (befB_iff h (show k < t.length by omega) hj).1 h2
      exact ⟨k, rfl, by omega, by rw [firB, offB, (refT_iff hj).2 hb]; simp; omega⟩
  · rintro ⟨k, rfl, h1, h2⟩
    simp only [firB, offB, Bool.and_eq_true, Bool.or_eq_true, bne_iff_ne, ne_eq] at h2
    obtain ⟨⟨h3, h4⟩, h5⟩ := h2
    refine ⟨?_, by simp; omega⟩
    rcases h5 with h5 | h5
    · have hb := (refT_iff hi).1 h5
      exact .inl ⟨k, rfl, hb.lt, (befB_iff h h1 hi).2 hb⟩
    · have hb := (refT_iff hj).1 h5
      exact .inr ⟨k, rfl, hb.lt, (befB_iff h h1 hj).2 hb⟩
theorem ord0_mem {k : Nat} (hk : k < t.length) : (k : Int) ∈ ord0 t i j ↔ resB t i j k = false := by
  rw [ord0_eq h hi hj hij, List.mem_append, fmTo_mem]
  have e : (∃ n : Nat, (k : Int) = n ∧ n < t.length ∧ firB t i j n = true) ↔ firB t i j k = true := by
    constructor
    · rintro ⟨n, h1, _, h3⟩
      have : k = n := by omega
      subst this; exact h3
    · intro h1; exact ⟨k, rfl, hk, h1⟩
  rw [e, firB, resB]
  simp only [List.mem_cons, List.not_mem_nil, or_false]
  cases ho : offB i j k with
  | true =>
    have : ¬ ((k : Int) = i ∨ (k : Int) = j) := by
      simp [offB] at ho; omega
    cases hx : (refT t k i || refT t k j) <;> simp [this]
  | false =>
    have : (k : Int) = i ∨ (k : Int) = j := by
      simp [offB] at ho; omega
    simp [this]
theorem ordTo_eq : ∀ k, k ≤ t.length → ordTo t i j k = ord0 t i j ++ fmTo (resB t i j) k
  | 0, _ => by simp [ordTo, fmTo]
  | k + 1, hk => by
    have ih := ordTo_eq k (by omega)
    have hm := ord0_mem h hi hj hij (show k < t.length by omega)
    rw [ordTo, ih]
    have e : (k : Int) ∈ ord0 t i j ++ fmTo (resB t i j) k ↔ resB t i j k = false := by
      rw [List.mem_append, hm]
      refine ⟨fun hh => hh.elim id fun h2 => ?_, .inl⟩
      obtain ⟨n, h3, h4, _⟩ := fmTo_mem.1 h2
      omega
    cases hr : resB t i j k with
    | false => rw [if_pos (e.2 hr), fmTo_no hr]
    | true => rw [if_neg (fun h2 => by rw [e.1 h2] at hr; cases hr), fmTo_yes hr, List.append_assoc]
theorem ordI_eq : ordI t i j = rordI t i j := by
  rw [ordI, ordTo_eq h hi hj hij _ (Nat.le_refl _), ord0_eq h hi hj hij]; rfl
theorem rord_mem {x : Int} : x ∈ rordI t i j ↔ 0 ≤ x ∧ x < t.length := by
  rw [← ordI_eq h hi hj hij, ordI, ordTo_eq h hi hj hij _ (Nat.le_refl _), List.mem_append, fmTo_mem]
  constructor
  · rintro (hx | ⟨n, rfl, h1, _⟩)
    · rw [ord0_eq h hi hj hij, List.mem_append, fmTo_mem] at hx
      rcases hx with ⟨n, rfl, h1, _⟩ | hx
      · omega
      · simp only [List.mem_cons, List.not_mem_nil, or_false] at hx
        omega
    · omega
  · rintro ⟨h1, h2⟩
    obtain ⟨k, rfl⟩ : ∃ k : Nat, x = k := ⟨x.toNat, by omega⟩
    have hk : k < t.length := by omega
    cases hr : resB t i j k with
    | false => exact .inl ((ord0_mem h hi hj hij hk).2 hr)
    | true => exact .inr ⟨k, rfl, hk, hr⟩
end
end Go.Ab


/- Law: Beside by the code and by the reference: whether the order fits. -/
set_option autoImplicit false
set_option linter.unusedSimpArgs false
set_option linter.unusedVariables false
set_option linter.unusedSectionVars false
namespace Go.Ab
open Go.Proofs Go.Sort
def RB (t : List Evt) (a b : Int) : Prop := befB t b.toNat a.toNat = false
theorem linB_iff {t : List Evt} {l : List Int} : linB t l = true ↔ l.Pairwise (RB t) := by
  rw [List.pairwise_iff_getElem]
  constructor
  · intro h i j hi hj hij
    simp only [linB, List.all_eq_true, List.mem_range] at h
    have := h i hi j hj
    rw [decide_eq_true hij, Bool.true_and, Bool.not_eq_true'] at this
    simpa [RB, backB, List.getD_eq_getElem?_getD, hi, hj] using this
  · intro h
    refine linB_yes (fun i hi j hj hij => ?_)
    have := h i j hi hj hij
    simpa [RB, backB, List.getD_eq_getElem?_getD, hi, hj] using this
section
variable {t : List Evt} (h : chkE t = 0) {i j : Nat} (hi : i < t.length) (hj : j < t.length) (hij : i < j)
include h hi hj hij
theorem rord_nodup : (rordI t i j).Nodup := by
  have ne : ∀ {a b : Int}, a < b → a ≠ b := fun h e => by omega
  rw [rordI, List.Nodup, List.pairwise_append, List.pairwise_append]
  refine ⟨⟨(fmTo_pw _ _).imp ne, ?_, ?_⟩, (fmTo_pw _ _).imp ne, ?_⟩
  · simp; omega
  · intro a ha b hb
    obtain ⟨n, rfl, h1, h2⟩ := fmTo_mem.1 ha
    simp only [firB, offB, Bool.and_eq_true, bne_iff_ne, ne_eq] at h2
    simp only [List.mem_cons, List.not_mem_nil, or_false] at hb
    omega
  · intro a ha b hb
    obtain ⟨n, rfl, h1, h2⟩ := fmTo_mem.1 hb
    rw [List.mem_append] at ha
    rcases ha with ha | ha
    · obtain ⟨m, rfl, h3, h4⟩ := fmTo_mem.1 ha
      intro e
      have e : m = n := by omega
      subst e
      simp only [firB, resB, Bool.and_eq_true, Bool.not_eq_true'] at h2 h4
      rw [h4.2] at h2
      cases h2.2
    · simp only [resB, offB, Bool.and_eq_true, bne_iff_ne, ne_eq] at h2
      simp only [List.mem_cons, List.not_mem_nil, or_false] at ha
      omega
omit h hi hj hij in
theorem all_len (n : Nat) : (fmTo (fun _ => true) n).length = n := by
  rw [fmTo, List.length_map, List.filter_eq_self.2 (fun _ _ => rfl), List.length_range]
theorem rord_len : (rordI t i j).length = t.length := by
  have hp : (rordI t i j).Perm (fmTo (fun _ => true) t.length) := by
    rw [List.perm_ext_iff_of_nodup (rord_nodup h hi hj hij) ((fmTo_pw _ _).imp (fun h e => by omega))]
    intro x
    rw [rord_mem h hi hj hij, fmTo_mem]
    constructor
    · rintro ⟨h1, h2⟩; exact ⟨x.toNat, by omega, by omega, rfl⟩
    · rintro ⟨n, rfl, h1, _⟩; omega
  rw [hp.length_eq, all_len]
theorem rord_cnt : cntI (rordI t i j) = t.length := by
  have e : ddI (sortI (rordI t i j)) = fmTo (fun _ => true) t.length := by
    refine sorted_ext (ddS_pw _) (fmTo_pw _ _) (fun x => ?_)
    rw [ddS_mem, rord_mem h hi hj hij, fmTo_mem]
    constructor
    · rintro ⟨h1, h2⟩; exact ⟨x.toNat, by omega, by omega, rfl⟩
    · rintro ⟨n, rfl, h1, _⟩; omega
  rw [cntI, e, all_len]
theorem rord_lin : linE t (rordI t i j) = 0 := by
  have h256 := (chk_right h).1
  have hlen := rord_len h hi hj hij
  have ha : askE t (rordI t i j) = 0 := by
    rw [askE, if_neg (fun e => e h), any_no]
    · rfl
    · intro q hq
      rw [← rord_mem h hi hj hij]
      simp [List.getD_eq_getElem?_getD, hq]
  have hl : lstE t (rordI t i j) = 0 := by rw [lstE, if_neg (fun e => e h), if_neg (by omega), ha]
  rw [linE, if_neg (fun e => e hl), if_neg]
  rw [rord_cnt h hi hj hij, hlen]
  simp
theorem rord_fits : linB t (rordI t i j) = true ↔ ∀ k, k < t.length → betK t i j k = false := by
  rw [linB_iff, rordI]
  have hin : ∀ {p : Nat → Bool} {a : Int}, a ∈ fmTo p t.length → ∃ n : Nat, a = n ∧ n < t.length ∧ p n = true := fmTo_mem.1
  constructor
  · intro hp k hk
    cases hb : betK t i j k with
    | false => rfl
    | true =>
      exfalso
      simp only [betK, Bool.and_eq_true] at hb
      rw [List.pairwise_append, List.pairwise_append] at hp
      have hm : (k : Int) ∈ fmTo (firB t i j) t.length := fmTo_mem.2 ⟨k, rfl, hk, by rw [firB, hb.1, hb.2.2, Bool.or_true]; rfl⟩
      have hr := hp.1.2.2 k hm i (by simp)
      rw [RB, Int.toNat_natCast, Int.toNat_natCast, (befB_iff h hi hk).2 ((refT_iff hk).1 hb.2.1)] at hr
      cases hr
  · intro hn
    have no : ∀ {a b : Nat}, a < t.length → b < t.length → ¬ HB t b a → RB t (a : Int) (b : Int) := by
      intro a b ha hb hne
      rw [RB, Int.toNat_natCast, Int.toNat_natCast]
      cases e : befB t b a with
      | false => rfl
      | true => exact absurd ((befB_iff h hb ha).1 e) hne
    have asc : ∀ p : Nat → Bool, (fmTo p t.length).Pairwise (RB t) := fun p => (fmTo_pw p _).imp_of_mem (fun {a b} ha hb hab => by
      obtain ⟨m, rfl, h1, _⟩ := hin ha
      obtain ⟨n, rfl, h2, _⟩ := hin hb
      exact no h1 h2 (fun hb => by have := hb.lt; omega))
    have bet : ∀ {k : Nat}, k < t.length → k ≠ i → k ≠ j → HB t i k → HB t k j → False := by
      intro k hk h1 h2 h3 h4
      have := hn k hk
      rw [betK, offB, (refT_iff hk).2 h3, (refT_iff hj).2 h4] at this
      simp at this
      omega
    have fir : ∀ {k : Nat}, k < t.length → firB t i j k = true → k ≠ i ∧ k ≠ j ∧ (HB t k i ∨ HB t k j) := by
      intro k hk h1
      simp only [firB, offB, Bool.and_eq_true, Bool.or_eq_true, bne_iff_ne, ne_eq] at h1
      refine ⟨h1.1.1, h1.1.2, ?_⟩
      rw [← refT_iff hi, ← refT_iff hj]
      exact h1.2
    have res : ∀ {k : Nat}, k < t.length → resB t i j k = true → k ≠ i ∧ k ≠ j ∧ ¬ HB t k i ∧ ¬ HB t k j := by
      intro k hk h1
      simp only [resB, offB, Bool.and_eq_true, Bool.not_eq_true', Bool.or_eq_false_iff, bne_iff_ne, ne_eq] at h1
      refine ⟨h1.1.1, h1.1.2, fun hb => ?_, fun hb => ?_⟩
      · rw [(refT_iff hi).2 hb] at h1; cases h1.2.1
      · rw [(refT_iff hj).2 hb] at h1; cases h1.2.2
    rw [List.pairwise_append, List.pairwise_append]
    refine ⟨⟨asc _, ?_, ?_⟩, asc _, ?_⟩
    · rw [List.pairwise_cons]
      refine ⟨fun b hb => ?_, List.pairwise_singleton _ _⟩
      rw [List.mem_singleton] at hb
      subst hb
      exact no hi hj (fun hb => by have := hb.lt; omega)
    · intro a ha b hb
      obtain ⟨m, rfl, h1, h2⟩ := hin ha
      obtain ⟨f1, f2, f3⟩ := fir h1 h2
      simp only [List.mem_cons, List.not_mem_nil, or_false] at hb
      rcases hb with rfl | rfl
      · refine no h1 hi (fun hb => ?_)
        rcases f3 with f3 | f3
        · have := hb.lt; have := f3.lt; omega
        · exact bet h1 f1 f2 hb f3
      · refine no h1 hj (fun hb => ?_)
        rcases f3 with f3 | f3
        · have := hb.lt; have := f3.lt; omega
        · have := hb.lt; have := f3.lt; omega
    · intro a ha b hb
      obtain ⟨n, rfl, h1, h2⟩ := hin hb
      obtain ⟨r1, r2, r3, r4⟩ := res h1 h2
      rw [List.mem_append] at ha
      rcases ha with ha | ha
      · obtain ⟨m, rfl, h3, h4⟩ := hin ha
        obtain ⟨f1, f2, f3⟩ := fir h3 h4
        refine no h3 h1 (fun hb => ?_)
        rcases f3 with f3 | f3
        · exact r3 (hb.trans f3)
        · exact r4 (hb.trans f3)
      · simp only [List.mem_cons, List.not_mem_nil, or_false] at ha
        rcases ha with rfl | rfl
        · exact no hi h1 r3
        · exact no hj h1 r4
theorem linF_eq : linF t (ordI t i j) = rbesB t i j := by
  rw [ordI_eq h hi hj hij, linF, rord_lin h hi hj hij, decide_eq_true rfl, Bool.true_and]
  rw [Bool.eq_iff_iff, rord_fits h hi hj hij]
  constructor
  · exact rbes_yes hij
  · intro hb k hk
    cases e : betK t i j k with
    | false => rfl
    | true => rw [rbes_no hk e] at hb; cases hb
end
theorem bes_eq {t : List Evt} {i j : Nat} (hz : plcF t i j = 0) : (!askB t i j && linF t (ordI t i j)) = rbesB t i j ∧ besL t i j = rbesL t i j := by
  obtain ⟨hc, hi, hj⟩ := plc_at hz
  have ha : askB t i j = decide (i ≥ j) := by
    rw [askB, hz]
    show (false || decide ((i : Int) ≥ j)) = _
    rw [Bool.false_or]
    exact decide_eq_decide.2 (by omega)
  by_cases hij : i ≥ j
  · have e1 : askB t i j = true := by rw [ha, decide_eq_true hij]
    have e2 : rbesB t i j = false := by rw [rbesB, decide_eq_true hij]; rfl
    refine ⟨by rw [e1, e2]; rfl, ?_⟩
    rw [besL, rbesL, e1, e2]; rfl
  · have hij' : i < j := by omega
    have hi' : i < t.length := by omega
    have hj' : j < t.length := by omega
    have e1 : askB t i j = false := by rw [ha, decide_eq_false hij]
    have e2 := linF_eq hc hi' hj' hij'
    refine ⟨by rw [e1, e2]; rfl, ?_⟩
    rw [besL, rbesL, e1, e2, ordI_eq hc hi' hj' hij']; rfl
end Go.Ab


/- Law: the canonical order fits. -/
set_option autoImplicit false
set_option linter.unusedSimpArgs false
set_option linter.unusedVariables false
set_option linter.unusedSectionVars false
namespace Go.Ab
open Go.Proofs Go.Sort
theorem nodup_le {α : Type} [DecidableEq α] : ∀ {l m : List α}, l.Nodup → (∀ x ∈ l, x ∈ m) → l.length ≤ m.length
  | [], m, _, _ => Nat.zero_le _
  | x :: l, m, hn, hs => by
    rw [List.nodup_cons] at hn
    have hx := hs x (by simp)
    have ih := nodup_le (l := l) (m := m.erase x) hn.2 (fun y hy => (List.mem_erase_of_ne (fun e => by subst e; exact hn.1 hy)).2 (hs y (by simp [hy])))
    rw [List.length_erase_of_mem hx] at ih
    have := List.length_pos_of_mem hx
    rw [List.length_cons]; omega
/-- An order of a trace's events that keeps what happens before what. -/
structure OrdL (t : List Evt) (l : List Int) : Prop where
  nd : l.Nodup
  len : l.length = t.length
  mem : ∀ x, x ∈ l ↔ 0 ≤ x ∧ x < t.length
  pw : l.Pairwise (RB t)
theorem OrdL.mk' {t : List Evt} {l : List Int} (nd : l.Nodup) (len : l.length = t.length) (hin : ∀ x ∈ l, 0 ≤ x ∧ x < t.length) (pw : l.Pairwise (RB t)) : OrdL t l := by
  refine ⟨nd, len, fun x => ⟨hin x, fun hx => ?_⟩, pw⟩
  apply Decidable.byContradiction
  intro hno
  have := nodup_le (l := x :: l) (m := fmTo (fun _ => true) t.length) (List.nodup_cons.2 ⟨hno, nd⟩) (fun y hy => by
    rw [fmTo_mem]
    rcases List.mem_cons.1 hy with rfl | hy
    · exact ⟨y.toNat, by omega, by omega, rfl⟩
    · have := hin y hy; exact ⟨y.toNat, by omega, by omega, rfl⟩)
  rw [all_len, List.length_cons] at this
  omega
theorem ord_lin {t : List Evt} (h : chkE t = 0) {l : List Int} (ho : OrdL t l) : linF t l = true := by
  have h256 := (chk_right h).1
  have ha : askE t l = 0 := by
    rw [askE, if_neg (fun e => e h), any_no]
    · rfl
    · intro q hq
      rw [← ho.mem]
      simp [List.getD_eq_getElem?_getD, hq]
  have hll := ho.len
  have hl : lstE t l = 0 := by rw [lstE, if_neg (fun e => e h), if_neg (by omega), ha]
  have hc : cntI l = t.length := by
    have e : ddI (sortI l) = fmTo (fun _ => true) t.length := by
      refine sorted_ext (ddS_pw _) (fmTo_pw _ _) (fun x => ?_)
      rw [ddS_mem, ho.mem, fmTo_mem]
      constructor
      · rintro ⟨h1, h2⟩; exact ⟨x.toNat, by omega, by omega, rfl⟩
      · rintro ⟨n, rfl, h1, _⟩; omega
    rw [cntI, e, all_len]
  have hle : linE t l = 0 := by
    rw [linE, if_neg (fun e => e hl), if_neg]
    rw [hc, hll]; simp
  rw [linF, hle, linB_iff.2 ho.pw]; rfl
section
variable {t : List Evt} (h : chkE t = 0)
include h
theorem form_inv : ∀ k, k ≤ t.length → (formTo t k).Nodup ∧ (∀ x ∈ formTo t k, 0 ≤ x ∧ x < t.length) ∧ (∀ a ∈ formTo t k, ∀ x ∈ pI t a, x ∈ formTo t k) ∧ (formTo t k).Pairwise (RB t)
  | 0, _ => ⟨List.nodup_nil, fun x (hx : x ∈ ([] : List Int)) => absurd hx List.not_mem_nil, fun a (ha : a ∈ ([] : List Int)) => absurd ha List.not_mem_nil, List.Pairwise.nil⟩
  | k + 1, hk => by
    obtain ⟨h1, h2, h3, h4⟩ := form_inv k (by omega)
    have hfl := formTo_len t k
    have hb : ∃ e, e < t.length ∧ bstTo t (inL (formTo t k)) t.length = (e : Int) ∧ rdyB t (inL (formTo t k)) e = true := by
      rcases bst_in t (inL (formTo t k)) t.length with g1 | g1
      · exact absurd g1 (bst_some (by omega))
      · exact g1
    obtain ⟨e, he, hb1, hb2⟩ := hb
    rw [rdyB, Bool.and_eq_true, Bool.not_eq_true', Bool.not_eq_true', List.any_eq_false] at hb2
    have hnot : (e : Int) ∉ formTo t k := by simpa [inL] using hb2.1
    have hpast : ∀ x ∈ pI t (e : Int), x ∈ formTo t k := fun x hx => by
      have := hb2.2 x hx
      obtain ⟨q, rfl, _, _⟩ := pI_mem.1 hx
      simpa [inL] using this
    rw [formTo, hb1]
    refine ⟨?_, ?_, ?_, ?_⟩
    · rw [List.nodup_append]
      refine ⟨h1, by simp, fun a ha b hb2 => ?_⟩
      rw [List.mem_singleton] at hb2
      subst hb2
      intro e2; subst e2; exact hnot ha
    · intro x hx
      rw [List.mem_append, List.mem_singleton] at hx
      rcases hx with hx | rfl
      · exact h2 x hx
      · omega
    · intro a ha x hx
      rw [List.mem_append, List.mem_singleton] at ha ⊢
      rcases ha with ha | rfl
      · exact .inl (h3 a ha x hx)
      · exact .inl (hpast x hx)
    · rw [List.pairwise_append]
      refine ⟨h4, List.pairwise_singleton _ _, fun a ha b hb2 => ?_⟩
      rw [List.mem_singleton] at hb2
      subst hb2
      rw [RB, Int.toNat_natCast]
      cases hbf : befB t e a.toNat with
      | false => rfl
      | true =>
        exfalso
        have hr := h2 a ha
        have hhb := (befB_iff h he (show a.toNat < t.length by omega)).1 hbf
        have : (e : Int) ∈ pI t a := by
          obtain ⟨a', rfl⟩ : ∃ a' : Nat, a = a' := ⟨a.toNat, by omega⟩
          rw [Int.toNat_natCast] at hhb hbf
          exact pI_mem.2 ⟨e, rfl, hhb.lt, hbf⟩
        exact hnot (h3 a ha _ this)
theorem form_ord : OrdL t (formTo t t.length) := by
  obtain ⟨h1, h2, _, h4⟩ := form_inv h t.length (Nat.le_refl _)
  exact .mk' h1 (formTo_len t _) h2 h4
end
end Go.Ab


/- Law: a trace in an order that keeps what happens before what: the same happens before the same. -/
set_option autoImplicit false
set_option linter.unusedSimpArgs false
set_option linter.unusedVariables false
set_option linter.unusedSectionVars false
namespace Go.Ab
open Go.Proofs Go.Sort
theorem clB_symm (x y : Tch) : clB x y = clB y x := by
  unfold clB
  rw [Bool.eq_iff_iff]
  simp only [Bool.and_eq_true, Bool.or_eq_true, beq_iff_eq]
  constructor
  · rintro ⟨⟨h1, h2⟩, h3⟩; exact ⟨⟨h1.symm, h2.symm⟩, h3.symm⟩
  · rintro ⟨⟨h1, h2⟩, h3⟩; exact ⟨⟨h1.symm, h2.symm⟩, h3.symm⟩
theorem depB_symm (x y : Evt) : depB x y = depB y x := by
  have key : ∀ x y : Evt, depB x y = true → depB y x = true := by
    intro x y h
    simp only [depB, clashB, List.any_eq_true] at h ⊢
    obtain ⟨a, ha, b, hb, hab⟩ := h
    exact ⟨b, hb, a, ha, by rw [clB_symm]; exact hab⟩
  rw [Bool.eq_iff_iff]
  exact ⟨key x y, key y x⟩
def sg (l : List Int) (i : Nat) : Nat := (l.getD i 0).toNat
section
variable {t : List Evt} {l : List Int} (h : chkE t = 0) (ho : OrdL t l)
include h ho
theorem sg_get {i : Nat} (hi : i < t.length) : ((sg l i : Nat) : Int) = l.getD i 0 ∧ sg l i < t.length := by
  have hi' : i < l.length := by rw [ho.len]; exact hi
  have hm : l.getD i 0 ∈ l := by simp [List.getD_eq_getElem?_getD, hi']
  have := (ho.mem _).1 hm
  unfold sg
  omega
theorem sg_inj {i j : Nat} (hi : i < t.length) (hj : j < t.length) (e : sg l i = sg l j) : i = j := by
  have h1 := (sg_get h ho hi).1
  have h2 := (sg_get h ho hj).1
  have hi' : i < l.length := by rw [ho.len]; exact hi
  have hj' : j < l.length := by rw [ho.len]; exact hj
  have e2 : l[i] = l[j] := by
    have : l.getD i 0 = l.getD j 0 := by rw [← h1, ← h2, e]
    simpa [List.getD_eq_getElem?_getD, hi', hj'] using this
  have hp := ho.nd
  rw [List.Nodup, List.pairwise_iff_getElem] at hp
  rcases Nat.lt_trichotomy i j with hlt | heq | hgt
  · exact absurd e2 (hp i j hi' hj' hlt)
  · exact heq
  · exact absurd e2.symm (hp j i hj' hi' hgt)
theorem sg_sur {x : Nat} (hx : x < t.length) : ∃ i, i < t.length ∧ sg l i = x := by
  have hm : (x : Int) ∈ l := (ho.mem _).2 (by omega)
  obtain ⟨i, hi, e⟩ := List.getElem_of_mem hm
  refine ⟨i, by rw [← ho.len]; exact hi, ?_⟩
  unfold sg
  simp [List.getD_eq_getElem?_getD, hi, e]
theorem sg_ord {i j : Nat} (hij : i < j) (hj : j < t.length) : ¬ HB t (sg l j) (sg l i) := by
  intro hb
  have hi : i < t.length := by omega
  have hp := ho.pw
  rw [List.pairwise_iff_getElem] at hp
  have hi' : i < l.length := by rw [ho.len]; exact hi
  have hj' : j < l.length := by rw [ho.len]; exact hj
  have := hp i j hi' hj' hij
  rw [RB] at this
  have e1 : l[i].toNat = sg l i := by simp [sg, List.getD_eq_getElem?_getD, hi']
  have e2 : l[j].toNat = sg l j := by simp [sg, List.getD_eq_getElem?_getD, hj']
  rw [e1, e2, (befB_iff h (sg_get h ho hj).2 (sg_get h ho hi).2).2 hb] at this
  cases this
omit h in
theorem ld_len : (laidTo t l l.length).length = t.length := by rw [laidTo_len (Nat.le_refl _), ho.len]
omit h in
theorem ld_at {i : Nat} (hi : i < t.length) : eAt (laidTo t l l.length) i = eAt t (sg l i) := by
  have hi' : i < l.length := by rw [ho.len]; exact hi
  rw [laidTo, List.take_length]
  unfold sg
  simp [eAt, List.getD_eq_getElem?_getD, hi']
theorem ld_chk : chkE (laidTo t l l.length) = 0 := by
  have hlen := ld_len ho
  have h256 := (chk_right h).1
  unfold chkE
  rw [if_neg (by omega), if_neg]
  rw [List.any_eq_true]
  rintro ⟨x, hx, hb⟩
  rw [laidTo, List.take_length, List.mem_map] at hx
  obtain ⟨i, hi, rfl⟩ := hx
  have hr := (ho.mem i).1 hi
  have := chk_ev h (show i.toNat < t.length by omega)
  rw [badE, this] at hb
  cases hb
theorem ld_HB {a b : Nat} (ha : a < t.length) (hb : b < t.length) : HB (laidTo t l l.length) a b ↔ HB t (sg l a) (sg l b) := by
  constructor
  · intro hh
    have hup : ∀ {x y : Nat}, x < y → y < t.length → depB (eAt (laidTo t l l.length) x) (eAt (laidTo t l l.length) y) = true → HB t (sg l x) (sg l y) := by
      intro x y hxy hy hd
      have hx : x < t.length := by omega
      rw [ld_at ho hx, ld_at ho hy] at hd
      rcases Nat.lt_trichotomy (sg l x) (sg l y) with hlt | heq | hgt
      · exact .dep hlt hd
      · have := sg_inj h ho hx hy heq; omega
      · exact absurd (.dep hgt (by rw [depB_symm]; exact hd)) (sg_ord h ho hxy hy)
    induction hh with
    | dep h1 h2 => exact hup h1 hb h2
    | @step m j h1 h2 h3 ih => exact (ih (by omega)).trans (hup h2 hb h3)
  · intro hh
    obtain ⟨x, hx⟩ : ∃ x, x = sg l a := ⟨_, rfl⟩
    obtain ⟨y, hy⟩ : ∃ y, y = sg l b := ⟨_, rfl⟩
    rw [← hx, ← hy] at hh
    have hdn : ∀ {a b : Nat}, a < t.length → b < t.length → sg l a < sg l b → depB (eAt t (sg l a)) (eAt t (sg l b)) = true → HB (laidTo t l l.length) a b := by
      intro a b ha hb hlt hd
      have hb1 : HB t (sg l a) (sg l b) := .dep hlt hd
      rcases Nat.lt_trichotomy a b with hab | rfl | hab
      · exact .dep hab (by rw [ld_at ho ha, ld_at ho hb]; exact hd)
      · omega
      · exact absurd hb1 (sg_ord h ho hab ha)
    induction hh generalizing b with
    | dep h1 h2 => subst hx hy; exact hdn ha hb h1 h2
    | @step m j h1 h2 h3 ih =>
      subst hy
      have hm : m < t.length := by have := (sg_get h ho hb).2; omega
      obtain ⟨c, hc, rfl⟩ := sg_sur h ho hm
      exact (ih hc rfl).trans (hdn hc hb h2 h3)
end
end Go.Ab


/- RacePairs: the walk. -/
set_option autoImplicit false
set_option maxRecDepth 20000
set_option maxHeartbeats 4000000
set_option linter.unusedSimpArgs false
set_option linter.unusedVariables false
namespace Go.Ab
open Go.Proofs Go.Sort
theorem racePairsLaw_ac (g : Bool) (t : List Evt) : AC Tryz.prog T tysN 4 [evts g t] [] (.bool true) [] := by
 refine AC_intro hT Tryz.func4 rfl rfl (Nat.le_of_ble_eq_true rfl) ?_
 refine sq (rg [] rfl ?_)
 refine sq (rgs [CG.pure (.tup [prs false (racesL t), .int (chkE t)])] rfl ?_ ?_)
 ·have h1 := racePairs_ac g t
  simp only [holdsC, under, CG.pure]
  repeat' with_reducible refine And.intro ?_ ?_
  all_goals (try with_reducible intros)
  all_goals (first | exact trivial | assumption | omega | exact h1 | (simp; done))
 refine sq (rgs [CG.pure (.int (chkE t))] rfl ?_ ?_)
 ·have h1 := rcheck_ac g t
  simp only [holdsC, under, CG.pure]
  repeat' with_reducible refine And.intro ?_ ?_
  all_goals (try with_reducible intros)
  all_goals (first | exact trivial | assumption | omega | exact h1 | (simp; done))
 refine sq (sq (rgs [CG.pure (.bool true)] rfl ?_ ?_))
 ·have h1 := speaks_ac ()
  simp only [holdsC, under, CG.pure]
  repeat' with_reducible refine And.intro ?_ ?_
  all_goals (try with_reducible intros)
  all_goals (first | exact trivial | assumption | omega | exact h1 | (simp; done))
 refine cd rfl (fun h3 => ?_) (fun h3 => ?_)
 ·exfalso
  have e : (bif (chkE t != chkE t) then true else false) = true := h3
  simp at e
 ·refine sk (sq (sq (rg [] rfl ?_)))
  refine cd rfl (fun h5 => ?_) (fun h5 => ?_)
  ·have hbad : chkE t ≠ 0 := by simpa using h5
   refine sq (rg [] rfl ?_)
   refine WP.ret ?_
   change Fin ..
   refine fin1 hT (by rfl) ?_
   rw [racesL, pairsF, if_neg hbad]; rfl
  ·have hz : chkE t = 0 := by simpa using h5
   have he := races_eq hz
   refine sk (sq (rgs [CG.pure (prs false (refPairs t)), CG.pure (.bool true)] rfl ?_ ?_))
   ·have h1 := rpairs_ac g t (chk_right hz)
    have h2 := same_ac false false (racesL t) (refPairs t)
    rw [show decide (racesL t = refPairs t) = true from decide_eq_true he] at h2
    simp only [holdsC, under, CG.pure]
    repeat' with_reducible refine And.intro ?_ ?_
    all_goals (try with_reducible intros)
    all_goals (first | exact trivial | assumption | omega | exact h1 | exact h2 | (simp; done))
   refine WP.ret ?_
   change Fin ..
   exact fin1 hT (by rfl) rfl
end Go.Ab


/- The reference: how events touch; which plain variables two share. -/
set_option autoImplicit false
set_option maxRecDepth 20000
set_option maxHeartbeats 4000000
set_option linter.unusedSimpArgs false
set_option linter.unusedVariables false
namespace Go.Ab
open Go.Proofs Go.Sort
def hitB (k n : Int) (a : Tch) : Bool := a.kind == k && a.num == n
def touL (k n : Int) : List Tch → Int
  | [] => 0
  | a :: r => if hitB k n a = true then (if a.wr = true then 2 else 1) else touL k n r
def touF (x : Evt) (k n : Int) : Int := touL k n (touchL x)
theorem touL_at {k n : Int} : ∀ {l : List Tch} {i : Nat}, i < l.length → (∀ j, j < i → hitB k n (l.getD j tch0) = false) → hitB k n (l.getD i tch0) = true → touL k n l = if (l.getD i tch0).wr = true then 2 else 1
  | a :: r, 0, _, _, h => by
    have h' : hitB k n a = true := h
    rw [touL, if_pos h']; rfl
  | a :: r, i + 1, hi, hn, h => by
    have h0 : hitB k n a = false := hn 0 (by omega)
    rw [touL, if_neg (by rw [h0]; decide), touL_at (l := r) (i := i) (by simpa using hi) (fun j hj => hn (j + 1) (by omega)) h]
    rfl
theorem touL_none {k n : Int} : ∀ {l : List Tch}, (∀ j, j < l.length → hitB k n (l.getD j tch0) = false) → touL k n l = 0
  | [], _ => rfl
  | a :: r, hn => by
    have h0 : hitB k n a = false := hn 0 (by simp)
    rw [touL, if_neg (by rw [h0]; decide), touL_none (fun j hj => hn (j + 1) (by simpa using hj))]
theorem touches_ac (x : Evt) (k n : Int) : AC Tryz.prog T tysN 70 [encE x, .int k, .int n] [] (.int (touF x k n)) [] := by
 refine AC_intro hT Tryz.func70 rfl rfl (Nat.le_of_ble_eq_true rfl) ?_
 refine sq (rg [] rfl ?_)
 refine sq (rgs [CG.pure (tchs false (touchL x))] rfl ?_ ?_)
 ·have h := of_ac x
  simp only [holdsC, under, CG.pure]
  repeat' with_reducible refine And.intro ?_ ?_
  all_goals (try with_reducible intros)
  all_goals (first | exact trivial | assumption | omega | exact h | (simp; done))
 refine sq (sq (rg [] rfl ?_))
 refine bk ?_
 refine WP.loop (α := Nat) (fun i => mkSt [(1, .int k), (2, .int n), (7, tchs false (touchL x)), (8, .int i)] []) (fun i => i ≤ (touchL x).length ∧ ∀ j, j < i → hitB k n ((touchL x).getD j tch0) = false) (fun i => (touchL x).length - i) ?_ ?_
 ·refine ⟨0, ?_, ?_⟩
  ·exact ⟨Nat.zero_le _, fun j hj => by omega⟩
  ·refine em [] trivial ⟨⟨rfl, _, rfl, cvt⟩, ⟨rfl, _, rfl, cvt⟩, ⟨rfl, _, rfl, cvt⟩, ⟨rfl, _, rfl, cvt⟩, trivial⟩ trivial
 ·rintro i ⟨hi, hn⟩
  refine sq (sq (rg [] rfl ?_))
  refine cd rfl (fun h3 => ?_) (fun h3 => ?_)
  ·have hil : i < (touchL x).length := by simpa using h3
   have h6 : (touchL x).length ≤ 6 := by rw [touchL_len]; exact clampN_le _
   refine sk (sq (bk (sq (rg [] rfl ?_))))
   refine cd rfl (fun h5 => ?_) (fun h5 => ?_)
   ·have hh : hitB k n ((touchL x).getD i tch0) = true := by
      have e := h5
      rw [band] at e
      exact e
    refine sq (sq (rg [] rfl ?_))
    refine cd rfl (fun h6 => ?_) (fun h6 => ?_)
    ·refine sq (rg [] rfl ?_)
     refine WP.ret ?_
     change Fin ..
     have hw : ((touchL x).getD i tch0).wr = true := h6
     exact finI hT (by rfl) (by rw [touF, touL_at hil hn hh, if_pos hw])
    ·refine sk (sq (rg [] rfl ?_))
     refine WP.ret ?_
     change Fin ..
     have hw : ¬ ((touchL x).getD i tch0).wr = true := by simp; exact h6
     exact finI hT (by rfl) (by rw [touF, touL_at hil hn hh, if_neg hw])
   ·have hh : hitB k n ((touchL x).getD i tch0) = false := by
      have e := h5
      rw [band] at e
      exact e
    refine sk (rg [] rfl ?_)
    refine ⟨i + 1, ?_, ?_, ?_⟩
    ·refine ⟨hil, all_succ (Q := fun j => hitB k n ((touchL x).getD j tch0) = false) hn hh⟩
    ·refine em [] trivial ⟨⟨rfl, _, rfl, cvt⟩, ⟨rfl, _, rfl, cvt⟩, ⟨rfl, _, rfl, cvt⟩, ⟨rfl, _, rfl, cvt⟩, trivial⟩ trivial
    ·(try simp only []); first | omega | grind
  ·have hil : i = (touchL x).length := by simp at h3; omega
   subst hil
   refine xt (sq (rg [] rfl ?_))
   refine WP.ret ?_
   change Fin ..
   exact finI hT (by rfl) (by rw [touF, touL_none hn])
def plainB (p : PProg) (v : Int) : Bool := decide (v ≥ 0) && decide (v < p.vars.length) && !(p.vars.getD v.toNat var0).atomic
theorem plain_ac (p : PProg) (v : Int) : AC Tryz.prog T tysN 68 [encProg p, .int v] [] (.bool (plainB p v)) [] := by
 refine AC_intro hT Tryz.func68 rfl rfl (Nat.le_of_ble_eq_true rfl) ?_
 refine sq (rg [] rfl ?_)
 refine sq (rgs [] rfl ?_ ?_)
 ·simp [holdsC, under]
 refine WP.ret ?_
 change Fin ..
 exact fin1 hT (by rfl) (by rw [band, band]; rfl)
def shB (p : PProg) (a b : Evt) (v : Int) : Bool := plainB p v && decide (touF a 1 v > 0) && decide (touF b 1 v > 0) && decide (touF a 1 v + touF b 1 v > 2)
theorem touF_2 (x : Evt) (k n : Int) : 0 ≤ touF x k n ∧ touF x k n ≤ 2 := by
  unfold touF
  generalize touchL x = l
  induction l with
  | nil => simp [touL]
  | cons a r ih =>
    rw [touL]
    split
    · split <;> omega
    · exact ih
theorem shared_ac (p : PProg) (a b : Evt) (v : Int) : AC Tryz.prog T tysN 47 [encProg p, encE a, encE b, .int v] [] (.bool (shB p a b v)) [] := by
 refine AC_intro hT Tryz.func47 rfl rfl (Nat.le_of_ble_eq_true rfl) ?_
 refine sq (rg [] rfl ?_)
 refine sq (drs [CG.pure (.int (touF a 1 v)), CG.pure (.int (touF b 1 v))] rfl ?_ ?_)
 ·have h1 := touches_ac a 1 v
  have h2 := touches_ac b 1 v
  simp only [holdsC, under, CG.pure]
  repeat' with_reducible refine And.intro ?_ ?_
  all_goals (try with_reducible intros)
  all_goals (first | exact trivial | assumption | omega | exact h1 | exact h2 | (simp; done))
 refine sq (rgs [CG.pure (.bool (plainB p v))] rfl ?_ ?_)
 ·have h1 := plain_ac p v
  simp only [holdsC, under, CG.pure]
  repeat' with_reducible refine And.intro ?_ ?_
  all_goals (try with_reducible intros)
  all_goals (first | exact trivial | assumption | omega | exact h1 | (simp; done))
 refine WP.ret ?_
 change Fin ..
 refine fin1 hT (by rfl) ?_
 have h1 := touF_2 a 1 v
 have h2 := touF_2 b 1 v
 rw [band, band, band, wrap_id (by omega) (by omega)]
 rfl
def any1To (p : PProg) (a b : Evt) : Nat → Nat → Int
  | 0, _ => -1
  | n + 1, i => if shB p a b i = true then (i : Int) else any1To p a b n (i + 1)
def any1F (p : PProg) (a b : Evt) : Int := any1To p a b p.vars.length 0
theorem any1To_skip {p : PProg} {a b : Evt} : ∀ {i n : Nat}, i ≤ n → (∀ j : Nat, j < i → shB p a b j = false) → any1To p a b n 0 = any1To p a b (n - i) i
  | 0, n, _, _ => rfl
  | i + 1, n, h, hn => by
    rw [any1To_skip (i := i) (by omega) (fun j hj => hn j (by omega)), show n - i = (n - (i + 1)) + 1 by omega, any1To, if_neg (by rw [hn i (by omega)]; decide)]
theorem any1_ac (p : PProg) (a b : Evt) (hv : p.vars.length ≤ 8) : AC Tryz.prog T tysN 51 [encProg p, encE a, encE b] [] (.int (any1F p a b)) [] := by
 refine AC_intro hT Tryz.func51 rfl rfl (Nat.le_of_ble_eq_true rfl) ?_
 refine sq (rg [] rfl ?_)
 refine sq (sq (rg [] rfl ?_))
 refine bk ?_
 refine WP.loop (α := Nat) (fun i => mkSt [(3, .rp 26 (encProg p)), (4, .rp 73 (encE a)), (5, .rp 73 (encE b)), (7, .int i)] []) (fun i => i ≤ p.vars.length ∧ ∀ j : Nat, j < i → shB p a b j = false) (fun i => p.vars.length - i) ?_ ?_
 ·refine ⟨0, ?_, ?_⟩
  ·exact ⟨Nat.zero_le _, fun j hj => by omega⟩
  ·refine em [(.s 3 0, 1), (.s 4 0, 1), (.s 5 0, 1)] ⟨⟨_, rfl, Nat.le_refl _⟩, ⟨_, rfl, Nat.le_refl _⟩, ⟨_, rfl, Nat.le_refl _⟩, trivial⟩ ⟨⟨rfl, _, rfl, conv_rpe rfl rfl (by decide) rfl rfl rfl⟩, ⟨rfl, _, rfl, conv_rpe rfl rfl (by decide) rfl rfl (noIds_E _)⟩, ⟨rfl, _, rfl, conv_rpe rfl rfl (by decide) rfl rfl (noIds_E _)⟩, ⟨rfl, _, rfl, cvt⟩, trivial⟩ trivial
 ·rintro i ⟨hi, hn⟩
  refine sq (sq (rg [] rfl ?_))
  refine cd rfl (fun h2 => ?_) (fun h2 => ?_)
  ·have hil : i < p.vars.length := by simpa using h2
   refine sk (sq (bk (sq (rgs [CG.pure (.bool (shB p a b i))] rfl ?_ ?_))))
   ·have h1 := shared_ac p a b i
    simp only [holdsC, under, CG.pure]
    repeat' with_reducible refine And.intro ?_ ?_
    all_goals (try with_reducible intros)
    all_goals (first | exact trivial | assumption | omega | exact h1 | (simp; done))
   refine cd rfl (fun h4 => ?_) (fun h4 => ?_)
   ·have hs : shB p a b i = true := h4
    refine sq (rg [] rfl ?_)
    refine WP.ret ?_
    change Fin ..
    refine finI hT (by rfl) ?_
    rw [any1F, any1To_skip (Nat.le_of_lt hil) hn, show p.vars.length - i = (p.vars.length - i - 1) + 1 by omega, any1To, if_pos hs]
   ·have hs : shB p a b i = false := h4
    refine sk (rg [] rfl ?_)
    refine ⟨i + 1, ?_, ?_, ?_⟩
    ·refine ⟨hil, fun j hj => ?_⟩
     rcases Nat.lt_or_ge j i with h | h
     · exact hn j h
     · obtain rfl : j = i := by omega
       exact hs
    ·refine em [] trivial ⟨⟨rfl, _, rfl, cvt⟩, ⟨rfl, _, rfl, cvt⟩, ⟨rfl, _, rfl, cvt⟩, ⟨rfl, _, rfl, cvt⟩, trivial⟩ trivial
    ·(try simp only []); first | omega | grind
  ·have hil : i = p.vars.length := by simp at h2; omega
   subst hil
   refine xt (sq (rg [] rfl ?_))
   refine WP.ret ?_
   change Fin ..
   refine finI hT (by rfl) ?_
   rw [any1F, any1To_skip (Nat.le_refl _) hn, Nat.sub_self]
   rfl
end Go.Ab


/- The reference: data races. -/
set_option autoImplicit false
set_option maxRecDepth 20000
set_option maxHeartbeats 4000000
set_option linter.unusedSimpArgs false
set_option linter.unusedVariables false
namespace Go.Ab
open Go.Proofs Go.Sort
def anyB (p : PProg) (t : List Evt) (x : Pr) : Bool := decide (any1F p (eAt t x.1.toNat) (eAt t x.2.toNat) ≥ 0)
def refData (p : PProg) (t : List Evt) : List Pr := (refPairs t).filter (anyB p t)
theorem refPairs_in {t : List Evt} {x : Pr} (h : x ∈ refPairs t) : ∃ a b : Nat, x = ((a : Int), (b : Int)) ∧ a < b ∧ b < t.length := edgesR_in (Nat.le_refl _) (List.mem_filter.1 h).1
theorem refPairs_len {t : List Evt} (h : t.length ≤ 256) : (refPairs t).length ≤ 65536 := by
  refine Nat.le_trans (List.length_filter_le _ _) ?_
  have := edgesR_len (B := refT t) h t.length
  omega
theorem rdata_ac (g : Bool) (p : PProg) (t : List Evt) (h : GoOK t) (hv : p.vars.length ≤ 8) : AC Tryz.prog T tysN 15 [encProg p, evts g t] [] (prs false (refData p t)) [] := by
 refine AC_intro hT Tryz.func15 rfl rfl (Nat.le_of_ble_eq_true rfl) ?_
 have h256 := h.1
 obtain ⟨L, hL⟩ : ∃ L, L = refPairs t := ⟨_, rfl⟩
 have hlen : L.length ≤ 65536 := by rw [hL]; exact refPairs_len h256
 have hin : ∀ i, i < L.length → ∃ a b : Nat, pAt L i = ((a : Int), (b : Int)) ∧ a < t.length ∧ b < t.length := fun i hi => by
   have hm : pAt L i ∈ L := by simp [pAt, List.getD_eq_getElem?_getD, hi]
   rw [hL] at hm
   obtain ⟨a, b, e, h1, h2⟩ := refPairs_in hm
   rw [← hL] at e
   exact ⟨a, b, e, by omega, h2⟩
 rw [refData, ← hL]
 refine sq (rg [] rfl ?_)
 refine sq (rg [] rfl ?_)
 refine sq (rgs [CG.pure (prs false L)] rfl ?_ ?_)
 ·have hr := rpairs_ac g t h
  rw [← hL] at hr
  simp only [holdsC, under, CG.pure]
  repeat' with_reducible refine And.intro ?_ ?_
  all_goals (try with_reducible intros)
  all_goals (first | exact trivial | assumption | omega | exact hr | (simp; done))
 refine sq (sq (rg [] rfl ?_))
 refine bk ?_
 refine WP.loop (α := Nat) (fun i => mkSt [(1, evts g t), (2, .rp 26 (encProg p)), (5, .own (.s 41 0) ((L.take i).filter (anyB p t)).length 0 ((L.take i).filter (anyB p t)).length none), (6, prs false L), (7, .int i)] [(.s 41 0, cells2 ((L.take i).filter (anyB p t)))]) (fun i => i ≤ L.length) (fun i => L.length - i) ?_ ?_
 ·refine ⟨0, ?_, ?_⟩
  ·exact Nat.zero_le _
  ·refine em [(.s 2 0, 1)] ⟨⟨_, rfl, Nat.le_refl _⟩, trivial⟩ ⟨⟨rfl, _, rfl, cvt⟩, ⟨rfl, _, rfl, conv_rpe rfl rfl (by decide) rfl rfl rfl⟩, ⟨rfl, _, rfl, conv_nil_own⟩, ⟨rfl, _, rfl, cvt⟩, ⟨rfl, _, rfl, cvt⟩, trivial⟩ ⟨⟨fun _ _ => okIds_2 _ _, .inr ⟨rfl, 75, _, rfl, by decide⟩⟩, trivial⟩
 ·rintro i hi
  refine sq (sq (rg [] rfl ?_))
  refine cd rfl (fun h4 => ?_) (fun h4 => ?_)
  ·have hil : i < L.length := by simpa using h4
   obtain ⟨a, b, hab, ha, hb⟩ := hin i hil
   have hfl := fil_len (anyB p t) L i
   refine sk (sq (bk (sq (drs [CG.pure (.int (any1F p (eAt t a) (eAt t b)))] rfl ?_ ?_))))
   ·have h1 := any1_ac p (eAt t a) (eAt t b) hv
    have hab2 := hab
    simp only [pAt, List.getD_eq_getElem?_getD] at hab2
    simp [holdsC, under, CG.pure, hab2]
    exact ⟨⟨⟨⟨hil, ha⟩, hil⟩, hb⟩, h1⟩
   refine cd rfl (fun h6 => ?_) (fun h6 => ?_)
   ·have he : anyB p t (pAt L i) = true := by rw [anyB, hab]; exact h6
    refine rgs [] rfl ?_ ?_
    ·have hbt : (T 75).bytes = 16 := rfl
     simp [holdsC, under, hbt]
     omega
    refine rg [] rfl ?_
    refine ⟨i + 1, ?_, ?_, ?_⟩
    ·exact hil
    ·refine em [] trivial ⟨⟨rfl, _, rfl, cvt⟩, ⟨rfl, _, rfl, cvt⟩, ⟨rfl, _, rfl, conv_eq (by rw [fil_snoc hil, if_pos he, len_snoc])⟩, ⟨rfl, _, rfl, cvt⟩, ⟨rfl, _, rfl, cvt⟩, trivial⟩ ⟨ob_list (fun _ => okIds_2 _ _) rfl rfl (by rw [fil_snoc hil, if_pos he, len_snoc]) rfl rfl (by rw [fil_snoc hil, if_pos he]; exact appL (z := (T 75).zero) rfl rfl (fun q hq => rfl)), trivial⟩
    ·(try simp only []); first | omega | grind
   ·have he : anyB p t (pAt L i) = false := by rw [anyB, hab]; exact h6
    refine sk (rg [] rfl ?_)
    refine ⟨i + 1, ?_, ?_, ?_⟩
    ·exact hil
    ·refine em [] trivial ⟨⟨rfl, _, rfl, cvt⟩, ⟨rfl, _, rfl, cvt⟩, ⟨rfl, _, rfl, conv_eq (by rw [fil_snoc hil, if_neg (by rw [he]; decide), List.append_nil])⟩, ⟨rfl, _, rfl, cvt⟩, ⟨rfl, _, rfl, cvt⟩, trivial⟩ ⟨ob_list (fun _ => okIds_2 _ _) rfl rfl (by rw [fil_snoc hil, if_neg (by rw [he]; decide), List.append_nil]) rfl rfl (fun q hq => by rw [fil_snoc hil, if_neg (by rw [he]; decide), List.append_nil]), trivial⟩
    ·(try simp only []); first | omega | grind
  ·have hil : i = L.length := by simp at h4; omega
   subst hil
   refine xt (sq (rg [] rfl ?_))
   refine WP.ret ?_
   change Fin ..
   rw [List.take_length]
   refine fin_mk hT [(.s 41 0, (L.filter (anyB p t)).length)] (ts := [(4, prs false (L.filter (anyB p t)))]) (l := [prs false (L.filter (anyB p t))]) ⟨⟨_, rfl, Nat.le_refl _⟩, trivial⟩ ⟨⟨rfl, _, rfl, ?_⟩, trivial⟩ trivial rfl rfl rfl
   exact conv_row rfl rfl rfl (fun h => by cases h) (by simp [lookF, idbeq_self]) (fun q hq => by rw [Nat.zero_add]; exact ⟨noIds_2 _, AEq.refl _⟩)
end Go.Ab


/- The reference: what was found, put into a list in order. -/
set_option autoImplicit false
set_option maxRecDepth 20000
set_option maxHeartbeats 4000000
set_option linter.unusedSimpArgs false
set_option linter.unusedVariables false
namespace Go.Ab
open Go.Proofs Go.Sort
def fL (f : Fnd) : List Int := [(f.v.val : Nat), f.fa, f.fb, f.ga, f.gb]
def lessB (f g : Fnd) : Bool := Go.Proofs.ltOf cmpF2 f g
theorem less_at {f g : Fnd} {i : Nat} (hi : i < 5) (hn : ∀ j, j < i → (fL f).getD j 0 = (fL g).getD j 0) (h : (fL f).getD i 0 ≠ (fL g).getD i 0) : decide ((fL f).getD i 0 < (fL g).getD i 0) = lessB f g := by
  rw [lessB, lt_cmpF]
  apply decide_eq_decide.2
  have h0 := hn 0
  have h1 := hn 1
  have h2 := hn 2
  have h3 := hn 3
  simp only [fL, List.getD_cons_zero, List.getD_cons_succ] at *
  match i, hi with
  | 0, _ | 1, _ | 2, _ | 3, _ | 4, _ => simp only [List.getD_cons_zero, List.getD_cons_succ] at *; omega
theorem less_no {f g : Fnd} (hn : ∀ j, j < 5 → (fL f).getD j 0 = (fL g).getD j 0) : lessB f g = false := by
  rw [lessB, lt_cmpF, decide_eq_false_iff_not]
  have h0 := hn 0 (by omega)
  have h1 := hn 1 (by omega)
  have h2 := hn 2 (by omega)
  have h3 := hn 3 (by omega)
  have h4 := hn 4 (by omega)
  simp only [fL, List.getD_cons_zero, List.getD_cons_succ] at *
  omega
theorem less_ac (f g : Fnd) : AC Tryz.prog T tysN 98 [encF f, encF g] [] (.bool (lessB f g)) [] := by
 refine AC_intro hT Tryz.func98 rfl rfl (Nat.le_of_ble_eq_true rfl) ?_
 refine sq (rg [] rfl ?_)
 refine sq (rg [] rfl ?_)
 refine sq (rg [] rfl ?_)
 refine sq (sq (rg [] rfl ?_))
 refine bk ?_
 refine WP.loop (α := Nat) (fun i => mkSt [(5, .rp 212 (arrI 212 5 .i64 (fL f))), (6, .rp 212 (arrI 212 5 .i64 (fL g))), (7, .int i)] []) (fun i => i ≤ 5 ∧ ∀ j, j < i → (fL f).getD j 0 = (fL g).getD j 0) (fun i => 5 - i) ?_ ?_
 ·refine ⟨0, ?_, ?_⟩
  ·exact ⟨Nat.zero_le _, fun j hj => by omega⟩
  ·refine em [(.s 5 0, 1), (.s 6 0, 1)] ⟨⟨_, rfl, Nat.le_refl _⟩, ⟨_, rfl, Nat.le_refl _⟩, trivial⟩ ⟨⟨rfl, _, rfl, conv_rpe rfl rfl (by decide) rfl (agg_ext (fun q => by match q with | 0 | 1 | 2 | 3 | 4 | q + 5 => rfl)) noIds_arrI⟩, ⟨rfl, _, rfl, conv_rpe rfl rfl (by decide) rfl (agg_ext (fun q => by match q with | 0 | 1 | 2 | 3 | 4 | q + 5 => rfl)) noIds_arrI⟩, ⟨rfl, _, rfl, cvt⟩, trivial⟩ trivial
 ·rintro i ⟨hi, hn⟩
  refine sq (sq (rg [] rfl ?_))
  refine cd rfl (fun h4 => ?_) (fun h4 => ?_)
  ·have hil : i < 5 := by have e : decide ((i : Int) < 5) = true := h4; simp at e; omega
   refine sk (sq (bk (sq (dr [] rfl ?_))))
   refine cd rfl (fun h6 => ?_) (fun h6 => ?_)
   ·have hne : (fL f).getD i 0 ≠ (fL g).getD i 0 := by simpa using h6
    refine sq (dr [] rfl ?_)
    refine WP.ret ?_
    change Fin ..
    exact fin1 hT (by rfl) (less_at hil hn hne)
   ·have he : (fL f).getD i 0 = (fL g).getD i 0 := by simpa using h6
    refine sk (rg [] rfl ?_)
    refine ⟨i + 1, ?_, ?_, ?_⟩
    ·exact ⟨hil, all_succ (Q := fun j => (fL f).getD j 0 = (fL g).getD j 0) hn he⟩
    ·refine em [] trivial ⟨⟨rfl, _, rfl, cvt⟩, ⟨rfl, _, rfl, cvt⟩, ⟨rfl, _, rfl, cvt⟩, trivial⟩ trivial
    ·(try simp only []); first | omega | grind
  ·have hil : i = 5 := by have e : decide ((i : Int) < 5) = false := h4; simp at e; omega
   subst hil
   refine xt (sq (rg [] rfl ?_))
   refine WP.ret ?_
   change Fin ..
   exact fin1 hT (by rfl) (less_no hn).symm
/-- Put: what is done behind i of the list's. -/
def putTo (l : List Fnd) (f : Fnd) : Nat → Bool × List Fnd
  | 0 => (false, [])
  | i + 1 => (((putTo l f i).1 || l.getD i fnd0 == f) || lessB f (l.getD i fnd0), (if (!((putTo l f i).1 || l.getD i fnd0 == f) && lessB f (l.getD i fnd0)) = true then (putTo l f i).2 ++ [f] else (putTo l f i).2) ++ [l.getD i fnd0])
def putF (l : List Fnd) (f : Fnd) : List Fnd := if (putTo l f l.length).1 = true then (putTo l f l.length).2 else (putTo l f l.length).2 ++ [f]
theorem putTo_len (l : List Fnd) (f : Fnd) : ∀ i, (putTo l f i).2.length ≤ i + (putTo l f i).1.toNat
  | 0 => Nat.zero_le _
  | i + 1 => by
    have h := putTo_len l f i
    simp only [putTo]
    cases h1 : (putTo l f i).1 <;> cases h2 : (l.getD i fnd0 == f) <;> cases h3 : lessB f (l.getD i fnd0) <;> simp [h1] at h ⊢ <;> omega
theorem putF_len (l : List Fnd) (f : Fnd) : (putF l f).length ≤ l.length + 1 := by
  have h := putTo_len l f l.length
  unfold putF
  split
  · rename_i e; rw [e] at h; exact h
  · rename_i e
    have e : (putTo l f l.length).1 = false := by simpa using e
    rw [e] at h
    rw [List.length_append]
    simp only [Bool.toNat_false, List.length_cons, List.length_nil] at h ⊢
    omega
theorem put_ac (l : List Fnd) (f : Fnd) (hl : l.length ≤ 1000000) : AC Tryz.prog T tysN 48 [fnds false l, encF f] [] (fnds false (putF l f)) [] := by
 refine AC_intro hT Tryz.func48 rfl rfl (Nat.le_of_ble_eq_true rfl) ?_
 refine sq (rg [] rfl ?_)
 refine sq (rg [] rfl ?_)
 refine sq (rg [] rfl ?_)
 refine sq (sq (rg [] rfl ?_))
 refine bk ?_
 refine WP.loop (α := Nat) (fun i => mkSt [(0, fnds false l), (3, .rp 86 (encF f)), (5, .own (.s 40 0) (putTo l f i).2.length 0 (putTo l f i).2.length none), (6, .bool (putTo l f i).1), (7, .int i)] [(.s 40 0, cellsF (putTo l f i).2)]) (fun i => i ≤ l.length) (fun i => l.length - i) ?_ ?_
 ·refine ⟨0, ?_, ?_⟩
  ·exact Nat.zero_le _
  ·refine em [(.s 3 0, 1)] ⟨⟨_, rfl, Nat.le_refl _⟩, trivial⟩ ⟨⟨rfl, _, rfl, cvt⟩, ⟨rfl, _, rfl, conv_rpe rfl rfl (by decide) rfl rfl rfl⟩, ⟨rfl, _, rfl, conv_nil_own⟩, ⟨rfl, _, rfl, cvt⟩, ⟨rfl, _, rfl, cvt⟩, trivial⟩ ⟨⟨fun _ _ => rfl, .inr ⟨rfl, 86, _, rfl, by decide⟩⟩, trivial⟩
 ·rintro i hi
  refine sq (sq (rg [] rfl ?_))
  refine cd rfl (fun h4 => ?_) (fun h4 => ?_)
  ·have hil : i < l.length := by simpa using h4
   have hpl := putTo_len l f i
   have hpb : (putTo l f i).1.toNat ≤ 1 := by cases (putTo l f i).1 <;> decide
   have hbt : (T 86).bytes = 56 := rfl
   refine sk (sq (bk ?_))
   refine WP.seqJ (α := Unit) (fun _ => mkSt [(0, fnds false l), (3, .rp 86 (encF f)), (5, .own (.s 40 0) (putTo l f i).2.length 0 (putTo l f i).2.length none), (6, .bool ((putTo l f i).1 || l.getD i fnd0 == f)), (7, .int i)] [(.s 40 0, cellsF (putTo l f i).2)]) (fun _ => True) ?_ ?_
   ·refine sq (drs [] rfl ?_ ?_)
    ·simp only [holdsC, under, CG.pure]
     repeat' with_reducible refine And.intro ?_ ?_
     all_goals (try with_reducible intros)
     all_goals (first | exact trivial | assumption | omega | (simp; done))
    refine cd rfl (fun h6 => ?_) (fun h6 => ?_)
    ·refine rg [] rfl ?_
     have e6 : (l.getD i fnd0 == f) = true := (eqF_v _ _).trans h6
     refine ⟨(), ?_, ?_⟩
     ·trivial
     ·refine em [] trivial ⟨⟨rfl, _, rfl, cvt⟩, ⟨rfl, _, rfl, cvt⟩, ⟨rfl, _, rfl, cvt⟩, ⟨rfl, _, rfl, conv_eq (by rw [e6, Bool.or_true])⟩, ⟨rfl, _, rfl, cvt⟩, trivial⟩ ⟨obs rfl, trivial⟩
    ·refine sk ?_
     have e6 : (l.getD i fnd0 == f) = false := (eqF_v _ _).trans h6
     refine ⟨(), ?_, ?_⟩
     ·trivial
     ·refine em [] trivial ⟨⟨rfl, _, rfl, cvt⟩, ⟨rfl, _, rfl, cvt⟩, ⟨rfl, _, rfl, cvt⟩, ⟨rfl, _, rfl, conv_eq (by rw [e6, Bool.or_false])⟩, ⟨rfl, _, rfl, cvt⟩, trivial⟩ ⟨obs rfl, trivial⟩
   ·rintro _ h_inv
    refine WP.seqJ (α := Unit) (fun _ => mkSt [(0, fnds false l), (3, .rp 86 (encF f)), (5, .own (.s 40 0) (if (!((putTo l f i).1 || l.getD i fnd0 == f) && lessB f (l.getD i fnd0)) = true then (putTo l f i).2 ++ [f] else (putTo l f i).2).length 0 (if (!((putTo l f i).1 || l.getD i fnd0 == f) && lessB f (l.getD i fnd0)) = true then (putTo l f i).2 ++ [f] else (putTo l f i).2).length none), (6, .bool (putTo l f (i + 1)).1), (7, .int i)] [(.s 40 0, cellsF (if (!((putTo l f i).1 || l.getD i fnd0 == f) && lessB f (l.getD i fnd0)) = true then (putTo l f i).2 ++ [f] else (putTo l f i).2))]) (fun _ => True) ?_ ?_
    ·refine sq (drs [CG.pure (.bool (lessB f (l.getD i fnd0)))] rfl ?_ ?_)
     ·have h1 := less_ac f (l.getD i fnd0)
      simp only [holdsC, under, CG.pure]
      repeat' with_reducible refine And.intro ?_ ?_
      all_goals (try with_reducible intros)
      all_goals (first | exact trivial | assumption | omega | exact h1 | (simp; done))
     refine cd rfl (fun h8 => ?_) (fun h8 => ?_)
     ·have e8 : (!((putTo l f i).1 || l.getD i fnd0 == f) && lessB f (l.getD i fnd0)) = true := by
        have e := h8
        rw [band] at e
        exact e
      refine sq (rgs [] rfl ?_ ?_)
      ·simp [holdsC, under, hbt]
       omega
      refine rg [] rfl ?_
      refine ⟨(), ?_, ?_⟩
      ·trivial
      ·refine em [] trivial ⟨⟨rfl, _, rfl, cvt⟩, ⟨rfl, _, rfl, cvt⟩, ⟨rfl, _, rfl, conv_eq (by rw [if_pos e8, len_snoc])⟩, ⟨rfl, _, rfl, conv_eq (by rw [putTo]; rw [Bool.and_eq_true] at e8; rw [e8.2, Bool.or_true])⟩, ⟨rfl, _, rfl, cvt⟩, trivial⟩ ⟨ob_list (fun _ => okIds_F _ _) rfl rfl (by rw [if_pos e8, len_snoc]) rfl rfl (by rw [if_pos e8]; exact appL (z := (T 86).zero) rfl rfl (fun q hq => rfl)), trivial⟩
     ·have e8 : (!((putTo l f i).1 || l.getD i fnd0 == f) && lessB f (l.getD i fnd0)) = false := by
        have e := h8
        rw [band] at e
        exact e
      refine sk ?_
      have ep : ((putTo l f i).1 || l.getD i fnd0 == f) = (putTo l f (i + 1)).1 := by
        rw [putTo]
        cases h1 : ((putTo l f i).1 || l.getD i fnd0 == f) with
        | true => rw [Bool.true_or]
        | false => rw [h1] at e8; simp at e8; rw [show lessB f (l.getD i fnd0) = false from e8, Bool.or_false]
      refine ⟨(), ?_, ?_⟩
      ·trivial
      ·refine em [] trivial ⟨⟨rfl, _, rfl, cvt⟩, ⟨rfl, _, rfl, cvt⟩, ⟨rfl, _, rfl, conv_eq (by rw [if_neg (by rw [e8]; decide)])⟩, ⟨rfl, _, rfl, conv_eq (by rw [ep])⟩, ⟨rfl, _, rfl, cvt⟩, trivial⟩ ⟨ob_list (fun _ => okIds_F _ _) rfl rfl (by rw [if_neg (by rw [e8]; decide)]) rfl rfl (fun q hq => by rw [if_neg (by rw [e8]; decide)]), trivial⟩
    ·rintro _ h_inv
     refine rgs [] rfl ?_ ?_
     ·have hle : (if (!((putTo l f i).1 || l.getD i fnd0 == f) && lessB f (l.getD i fnd0)) = true then (putTo l f i).2 ++ [f] else (putTo l f i).2).length ≤ (putTo l f i).2.length + 1 := by split <;> simp
      have h2 : (l[i]?.getD fnd0) = l.getD i fnd0 := rfl
      simp [holdsC, under, hbt, -Bool.not_or] at hle ⊢
      omega
     refine rg [] rfl ?_
     refine ⟨i + 1, ?_, ?_, ?_⟩
     ·exact hil
     ·refine em [] trivial ⟨⟨rfl, _, rfl, cvt⟩, ⟨rfl, _, rfl, cvt⟩, ⟨rfl, _, rfl, conv_eq (by rw [putTo]; simp only [List.length_append, List.length_singleton])⟩, ⟨rfl, _, rfl, cvt⟩, ⟨rfl, _, rfl, cvt⟩, trivial⟩ ⟨ob_list (fun _ => okIds_F _ _) rfl rfl (by rw [putTo]; simp only [List.length_append, List.length_singleton]) rfl rfl (by rw [putTo]; exact appL (z := (T 86).zero) rfl rfl (fun q hq => rfl)), trivial⟩
     ·(try simp only []); first | omega | grind
  ·have hil : i = l.length := by simp at h4; omega
   subst hil
   refine xt ?_
   refine WP.seqJ (α := Unit) (fun _ => mkSt [(5, .own (.s 40 0) (putF l f).length 0 (putF l f).length none)] [(.s 40 0, cellsF (putF l f))]) (fun _ => True) ?_ ?_
   ·refine sq (rg [] rfl ?_)
    refine cd rfl (fun h12 => ?_) (fun h12 => ?_)
    ·have hnd : (putTo l f l.length).1 = false := by simpa using h12
     have hpl := putTo_len l f l.length
     refine rgs [] rfl ?_ ?_
     ·have hbt : (T 86).bytes = 56 := rfl
      rw [hnd] at hpl
      simp [holdsC, under, hbt] at hpl ⊢
      omega
     have ep : putF l f = (putTo l f l.length).2 ++ [f] := by rw [putF, if_neg (by rw [hnd]; decide)]
     refine ⟨(), ?_, ?_⟩
     ·trivial
     ·refine em [] trivial ⟨⟨rfl, _, rfl, conv_eq (by rw [ep, len_snoc])⟩, trivial⟩ ⟨ob_list (fun _ => okIds_F _ _) rfl rfl (by rw [ep, len_snoc]) rfl rfl (by rw [ep]; exact appL (z := (T 86).zero) rfl rfl (fun q hq => rfl)), trivial⟩
    ·refine sk ?_
     have ep : putF l f = (putTo l f l.length).2 := by rw [putF, if_pos (by simpa using h12)]
     refine ⟨(), ?_, ?_⟩
     ·trivial
     ·refine em [] trivial ⟨⟨rfl, _, rfl, conv_eq (by rw [ep])⟩, trivial⟩ ⟨ob_list (fun _ => okIds_F _ _) rfl rfl (by rw [ep]) rfl rfl (fun q hq => by rw [ep]), trivial⟩
   ·rintro _ h_inv
    refine sq (rg [] rfl ?_)
    refine WP.ret ?_
    change Fin ..
    refine fin_mk hT [(.s 40 0, (putF l f).length)] (ts := [(4, fnds false (putF l f))]) (l := [fnds false (putF l f)]) ⟨⟨_, rfl, Nat.le_refl _⟩, trivial⟩ ⟨⟨rfl, _, rfl, ?_⟩, trivial⟩ trivial rfl rfl rfl
    exact conv_row rfl rfl rfl (fun h => by cases h) (by simp [lookF, idbeq_self]) (fun q hq => by rw [Nat.zero_add]; exact ⟨rfl, AEq.refl _⟩)
end Go.Ab


/- The reference: Races. -/
set_option autoImplicit false
set_option maxRecDepth 20000
set_option maxHeartbeats 4000000
set_option linter.unusedSimpArgs false
set_option linter.unusedVariables false
namespace Go.Ab
open Go.Proofs Go.Sort
def innR (p : PProg) (x y : Evt) (L : List Fnd) : Nat → List Fnd
  | 0 => L
  | v + 1 => if shB p x y v = true then putF (innR p x y L v) (fndI x y v) else innR p x y L v
theorem innR_len (p : PProg) (x y : Evt) (L : List Fnd) : ∀ v, (innR p x y L v).length ≤ L.length + v
  | 0 => Nat.le_refl _
  | v + 1 => by
    have h := innR_len p x y L v
    rw [innR]
    split
    · have := putF_len (innR p x y L v) (fndI x y v)
      omega
    · omega
def outR (p : PProg) (t : List Evt) (D : List Pr) : Nat → List Fnd
  | 0 => []
  | i + 1 => innR p (eAt t (pAt D i).1.toNat) (eAt t (pAt D i).2.toNat) (outR p t D i) p.vars.length
theorem outR_len (p : PProg) (t : List Evt) (D : List Pr) (hv : p.vars.length ≤ 8) : ∀ i, (outR p t D i).length ≤ 8 * i
  | 0 => Nat.le_refl _
  | i + 1 => by
    have h := outR_len p t D hv i
    have h2 := innR_len p (eAt t (pAt D i).1.toNat) (eAt t (pAt D i).2.toNat) (outR p t D i) p.vars.length
    rw [outR]
    omega
def refRaces (p : PProg) (t : List Evt) : List Fnd := if fitF p t = 0 then outR p t (refData p t) (refData p t).length else []
theorem swap_eq (x y : Evt) : (bif decide (y.a < x.a) then true else bif y.a == x.a then decide (y.b < x.b) else false) = swapB x y := by
  rw [bor, band, swapB, Bool.eq_iff_iff]
  simp only [Bool.or_eq_true, Bool.and_eq_true, decide_eq_true_eq, beq_iff_eq, cmp2, cmpL, cmp1]
  grind
theorem refData_len {p : PProg} {t : List Evt} (h : t.length ≤ 256) : (refData p t).length ≤ 65536 := Nat.le_trans (List.length_filter_le _ _) (refPairs_len h)
theorem rraces_ac (g : Bool) (p : PProg) (t : List Evt) : AC Tryz.prog T tysN 11 [encProg p, evts g t] [] (.tup [fnds false (refRaces p t), .int (fitF p t)]) [] := by
 refine AC_intro hT Tryz.func11 rfl rfl (Nat.le_of_ble_eq_true rfl) ?_
 refine sq (rg [] rfl ?_)
 refine sq (rgs [CG.pure (.int (fitF p t))] rfl ?_ ?_)
 ·have h1 := fit_ac g p t
  simp only [holdsC, under, CG.pure]
  repeat' with_reducible refine And.intro ?_ ?_
  all_goals (try with_reducible intros)
  all_goals (first | exact trivial | assumption | omega | exact h1 | (simp; done))
 refine sq (sq (rg [] rfl ?_))
 refine cd rfl (fun h2 => ?_) (fun h2 => ?_)
 ·have hbad : fitF p t ≠ 0 := by simpa using h2
  refine sq (rg [] rfl ?_)
  refine WP.ret ?_
  change Fin ..
  rw [refRaces, if_neg hbad]
  refine fin_mk hT [] (ts := [(4, fnds false []), (5, .int (fitF p t))]) (l := [fnds false [], .int (fitF p t)]) trivial ⟨⟨rfl, _, rfl, conv_nil_row (by decide)⟩, ⟨rfl, _, rfl, conv_eq rfl⟩, trivial⟩ trivial rfl rfl rfl
 ·have hz : fitF p t = 0 := by simpa using h2
  have hv := fit_vars hz
  have hok := chk_right hv.2
  obtain ⟨D, hD⟩ : ∃ D, D = refData p t := ⟨_, rfl⟩
  have hlen : D.length ≤ 65536 := by rw [hD]; exact refData_len hok.1
  have hin : ∀ i, i < D.length → ∃ a b : Nat, pAt D i = ((a : Int), (b : Int)) ∧ a < t.length ∧ b < t.length := fun i hi => by
    have hm : pAt D i ∈ D := by simp [pAt, List.getD_eq_getElem?_getD, hi]
    rw [hD] at hm
    obtain ⟨a, b, e, h1, h2⟩ := refPairs_in (List.mem_filter.1 hm).1
    rw [← hD] at e
    exact ⟨a, b, e, by omega, h2⟩
  refine sk (sq (rg [] rfl ?_))
  refine sq (rgs [CG.pure (prs false D)] rfl ?_ ?_)
  ·have h1 := rdata_ac g p t hok hv.1
   rw [← hD] at h1
   simp only [holdsC, under, CG.pure]
   repeat' with_reducible refine And.intro ?_ ?_
   all_goals (try with_reducible intros)
   all_goals (first | exact trivial | assumption | omega | exact h1 | (simp; done))
  refine sq (sq (rg [] rfl ?_))
  refine bk ?_
  refine WP.loop (α := Nat) (fun i => mkSt [(1, evts g t), (2, .rp 26 (encProg p)), (7, fnds false (outR p t D i)), (8, prs false D), (9, .int i)] []) (fun i => i ≤ D.length) (fun i => D.length - i) ?_ ?_
  ·refine ⟨0, ?_, ?_⟩
   ·exact Nat.zero_le _
   ·refine em [(.s 2 0, 1)] ⟨⟨_, rfl, Nat.le_refl _⟩, trivial⟩ ⟨⟨rfl, _, rfl, cvt⟩, ⟨rfl, _, rfl, conv_rpe rfl rfl (by decide) rfl rfl rfl⟩, ⟨rfl, _, rfl, conv_nil_row (by decide)⟩, ⟨rfl, _, rfl, cvt⟩, ⟨rfl, _, rfl, cvt⟩, trivial⟩ trivial
  ·rintro i hi
   refine sq (sq (rg [] rfl ?_))
   refine cd rfl (fun h7 => ?_) (fun h7 => ?_)
   ·have hil : i < D.length := by simpa using h7
    obtain ⟨a, b, hab, ha, hb⟩ := hin i hil
    have hol := outR_len p t D hv.1 i
    obtain ⟨x, hx⟩ : ∃ x, x = eAt t a := ⟨_, rfl⟩
    obtain ⟨y, hy⟩ : ∃ y, y = eAt t b := ⟨_, rfl⟩
    have hea : eAt t (pAt D i).1.toNat = x := by rw [hab, hx]; rfl
    have heb : eAt t (pAt D i).2.toNat = y := by rw [hab, hy]; rfl
    refine sk (sq (bk (sq (drs [] rfl ?_ ?_))))
    ·have hab2 := hab
     simp only [pAt, List.getD_eq_getElem?_getD] at hab2
     simp [holdsC, under, hab2]
     exact ⟨⟨⟨hil, ha⟩, hil⟩, hb⟩
    refine sq ?_
    refine WP.ent (st' := mkSt [(1, evts g t), (2, .rp 26 (encProg p)), (7, fnds false (outR p t D i)), (8, prs false D), (9, .int i), (10, .rp 73 (encE x)), (11, .rp 73 (encE y))] []) ?_ ?_
    ·refine em [(.s 10 0, 1), (.s 11 0, 1)] ⟨⟨_, rfl, Nat.le_refl _⟩, ⟨_, rfl, Nat.le_refl _⟩, trivial⟩ ⟨⟨rfl, _, rfl, cvt⟩, ⟨rfl, _, rfl, cvt⟩, ⟨rfl, _, rfl, cvt⟩, ⟨rfl, _, rfl, cvt⟩, ⟨rfl, _, rfl, cvt⟩, ⟨rfl, _, rfl, conv_rpe rfl rfl (by decide) rfl (by rw [← hea]; rfl) (noIds_E _)⟩, ⟨rfl, _, rfl, conv_rpe rfl rfl (by decide) rfl (by rw [← heb]; rfl) (noIds_E _)⟩, trivial⟩ trivial
    refine dr [] rfl ?_
    refine WP.seqJ (α := Unit) (fun _ => mkSt [(1, evts g t), (2, .rp 26 (encProg p)), (7, fnds false (outR p t D i)), (8, prs false D), (9, .int i), (10, .rp 73 (encE x)), (11, .rp 73 (encE y)), (12, .rp 82 (spotA (loF x y).1 (loF x y).2)), (13, .rp 82 (spotA (hiF x y).1 (hiF x y).2))] []) (fun _ => True) ?_ ?_
    ·refine sq (rg [] rfl ?_)
     refine cd rfl (fun h11 => ?_) (fun h11 => ?_)
     ·refine rg [] rfl ?_
      have hsw : swapB x y = true := (swap_eq x y).symm.trans h11
      refine ⟨(), ?_, ?_⟩
      ·trivial
      ·refine em [(.s 12 0, 1), (.s 13 0, 1)] ⟨⟨_, rfl, Nat.le_refl _⟩, ⟨_, rfl, Nat.le_refl _⟩, trivial⟩ ⟨⟨rfl, _, rfl, cvt⟩, ⟨rfl, _, rfl, cvt⟩, ⟨rfl, _, rfl, cvt⟩, ⟨rfl, _, rfl, cvt⟩, ⟨rfl, _, rfl, cvt⟩, ⟨rfl, _, rfl, cvt⟩, ⟨rfl, _, rfl, cvt⟩, ⟨rfl, _, rfl, conv_rpe rfl rfl (by decide) rfl (by rw [loF, if_pos hsw]; exact agg_ext (fun q => by match q with | 0 | 1 | q + 2 => rfl)) rfl⟩, ⟨rfl, _, rfl, conv_rpe rfl rfl (by decide) rfl (by rw [hiF, if_pos hsw]; exact agg_ext (fun q => by match q with | 0 | 1 | q + 2 => rfl)) rfl⟩, trivial⟩ trivial
     ·refine sk ?_
      have hsw : swapB x y = false := (swap_eq x y).symm.trans h11
      refine ⟨(), ?_, ?_⟩
      ·trivial
      ·refine em [(.s 12 0, 1), (.s 13 0, 1)] ⟨⟨_, rfl, Nat.le_refl _⟩, ⟨_, rfl, Nat.le_refl _⟩, trivial⟩ ⟨⟨rfl, _, rfl, cvt⟩, ⟨rfl, _, rfl, cvt⟩, ⟨rfl, _, rfl, cvt⟩, ⟨rfl, _, rfl, cvt⟩, ⟨rfl, _, rfl, cvt⟩, ⟨rfl, _, rfl, cvt⟩, ⟨rfl, _, rfl, cvt⟩, ⟨rfl, _, rfl, conv_rpe rfl rfl (by decide) rfl (by rw [loF, if_neg (by rw [hsw]; decide)]; exact agg_ext (fun q => by match q with | 0 | 1 | q + 2 => rfl)) rfl⟩, ⟨rfl, _, rfl, conv_rpe rfl rfl (by decide) rfl (by rw [hiF, if_neg (by rw [hsw]; decide)]; exact agg_ext (fun q => by match q with | 0 | 1 | q + 2 => rfl)) rfl⟩, trivial⟩ trivial
    ·rintro _ h_inv
     refine sq (rg [] rfl ?_)
     refine bk ?_
     refine WP.loop (α := Nat) (fun v => mkSt [(1, evts g t), (2, .rp 26 (encProg p)), (7, fnds false (innR p x y (outR p t D i) v)), (8, prs false D), (9, .int i), (10, .rp 73 (encE x)), (11, .rp 73 (encE y)), (12, .rp 82 (spotA (loF x y).1 (loF x y).2)), (13, .rp 82 (spotA (hiF x y).1 (hiF x y).2)), (14, .int v)] []) (fun v => v ≤ p.vars.length) (fun v => p.vars.length - v) ?_ ?_
     ·refine ⟨0, ?_, ?_⟩
      ·exact Nat.zero_le _
      ·refine em [] trivial ⟨⟨rfl, _, rfl, cvt⟩, ⟨rfl, _, rfl, cvt⟩, ⟨rfl, _, rfl, cvt⟩, ⟨rfl, _, rfl, cvt⟩, ⟨rfl, _, rfl, cvt⟩, ⟨rfl, _, rfl, cvt⟩, ⟨rfl, _, rfl, cvt⟩, ⟨rfl, _, rfl, cvt⟩, ⟨rfl, _, rfl, cvt⟩, ⟨rfl, _, rfl, cvt⟩, trivial⟩ trivial
     ·rintro v hvl
      refine sq (sq (rg [] rfl ?_))
      refine cd rfl (fun h14 => ?_) (fun h14 => ?_)
      ·have hvl : v < p.vars.length := by simpa using h14
       have hil2 := innR_len p x y (outR p t D i) v
       refine sk (sq (bk (sq (rgs [CG.pure (.bool (shB p x y v))] rfl ?_ ?_))))
       ·have h1 := shared_ac p x y v
        simp only [holdsC, under, CG.pure]
        repeat' with_reducible refine And.intro ?_ ?_
        all_goals (try with_reducible intros)
        all_goals (first | exact trivial | assumption | omega | exact h1 | (simp; done))
       refine cd rfl (fun h16 => ?_) (fun h16 => ?_)
       ·have hs : shB p x y v = true := h16
        refine rgs [CG.pure (fnds false (putF (innR p x y (outR p t D i) v) (fndI x y v)))] rfl ?_ ?_
        ·have h1 := put_ac (innR p x y (outR p t D i) v) (fndI x y v) (by omega)
         have e := enc_fnd x y (v : Int) ⟨by omega, by omega⟩
         rw [← e] at h1
         simp only [holdsC, under, CG.pure]
         repeat' with_reducible refine And.intro ?_ ?_
         all_goals (try with_reducible intros)
         all_goals (first | exact trivial | assumption | omega | exact h1 | (simp; done))
        refine rg [] rfl ?_
        refine ⟨v + 1, ?_, ?_, ?_⟩
        ·exact hvl
        ·refine em [] trivial ⟨⟨rfl, _, rfl, cvt⟩, ⟨rfl, _, rfl, cvt⟩, ⟨rfl, _, rfl, conv_eq (by rw [innR, if_pos hs]; rfl)⟩, ⟨rfl, _, rfl, cvt⟩, ⟨rfl, _, rfl, cvt⟩, ⟨rfl, _, rfl, cvt⟩, ⟨rfl, _, rfl, cvt⟩, ⟨rfl, _, rfl, cvt⟩, ⟨rfl, _, rfl, cvt⟩, ⟨rfl, _, rfl, cvt⟩, trivial⟩ trivial
        ·(try simp only []); first | omega | grind
       ·have hs : shB p x y v = false := h16
        refine sk (rg [] rfl ?_)
        refine ⟨v + 1, ?_, ?_, ?_⟩
        ·exact hvl
        ·refine em [] trivial ⟨⟨rfl, _, rfl, cvt⟩, ⟨rfl, _, rfl, cvt⟩, ⟨rfl, _, rfl, conv_eq (by rw [innR, if_neg (by rw [hs]; decide)])⟩, ⟨rfl, _, rfl, cvt⟩, ⟨rfl, _, rfl, cvt⟩, ⟨rfl, _, rfl, cvt⟩, ⟨rfl, _, rfl, cvt⟩, ⟨rfl, _, rfl, cvt⟩, ⟨rfl, _, rfl, cvt⟩, ⟨rfl, _, rfl, cvt⟩, trivial⟩ trivial
        ·(try simp only []); first | omega | grind
      ·have hvl : v = p.vars.length := by simp at h14; omega
       subst hvl
       refine xt (rg [] rfl ?_)
       refine ⟨i + 1, ?_, ?_, ?_⟩
       ·exact hil
       ·refine em [] trivial ⟨⟨rfl, _, rfl, cvt⟩, ⟨rfl, _, rfl, cvt⟩, ⟨rfl, _, rfl, conv_eq (by rw [outR, hea, heb])⟩, ⟨rfl, _, rfl, cvt⟩, ⟨rfl, _, rfl, cvt⟩, trivial⟩ trivial
       ·(try simp only []); first | omega | grind
   ·have hil : i = D.length := by simp at h7; omega
    subst hil
    refine xt (sq (rg [] rfl ?_))
    refine WP.ret ?_
    change Fin ..
    rw [refRaces, if_pos hz, ← hD, hz]
    refine fin_mk hT [] (ts := [(4, fnds false (outR p t D D.length)), (5, .int 0)]) (l := [fnds false (outR p t D D.length), .int 0]) trivial ⟨⟨rfl, _, rfl, conv_eq rfl⟩, ⟨rfl, _, rfl, conv_eq rfl⟩, trivial⟩ trivial rfl rfl rfl
end Go.Ab


/- Data races: what is found is the reference's. -/
set_option autoImplicit false
set_option maxRecDepth 20000
set_option maxHeartbeats 4000000
set_option linter.unusedSimpArgs false
set_option linter.unusedVariables false
namespace Go.Ab
open Go.Proofs Go.Sort
theorem right_row {x : Evt} (h : rightE x = true) {i : Nat} (hi : (i : Int) + 1 < x.n) : cmpF (tAt x i) (tAt x (i + 1)) < 0 := by
  have hn := right_n h
  simp only [rightE, Bool.and_eq_true] at h
  have h1 := allTo_iff.1 h.2.1 (i + 1) (by omega)
  rw [rowE, if_neg (by omega)] at h1
  simp only [Bool.and_eq_true, Bool.or_eq_true, decide_eq_true_eq, Nat.add_sub_cancel, beq_iff_eq] at h1
  rcases h1.2 with h2 | h2
  · omega
  · exact h2
theorem right_lt {x : Evt} (h : rightE x = true) {i : Nat} : ∀ {d : Nat}, ((i + d + 1 : Nat) : Int) < x.n → (tAt x i).kind < (tAt x (i + d + 1)).kind ∨ (tAt x i).kind = (tAt x (i + d + 1)).kind ∧ (tAt x i).num < (tAt x (i + d + 1)).num
  | 0, hd => by
    have h1 := right_row h (i := i) (by omega)
    rw [Nat.add_zero]
    unfold cmpF at h1
    split at h1
    · rename_i h2; exact h2
    · split at h1 <;> omega
  | d + 1, hd => by
    have h1 := right_lt h (i := i) (d := d) (by omega)
    have h2 := right_row h (i := i + d + 1) (by omega)
    unfold cmpF at h2
    rw [show i + (d + 1) + 1 = i + d + 1 + 1 by omega]
    split at h2
    · rename_i h3; omega
    · split at h2 <;> omega
theorem hit_once {x : Evt} (h : rightE x = true) {k n : Int} {i j : Nat} (hij : i < j) (hj : (j : Int) < x.n) (h1 : hitB k n (tAt x i) = true) (h2 : hitB k n (tAt x j) = true) : False := by
  have h3 := right_lt h (i := i) (d := j - i - 1) (by omega)
  rw [show i + (j - i - 1) + 1 = j by omega] at h3
  simp only [hitB, Bool.and_eq_true, beq_iff_eq] at h1 h2
  omega
theorem touL_snoc {k n : Int} {b : Tch} : ∀ {l : List Tch}, touL k n (l ++ [b]) = if touL k n l ≠ 0 then touL k n l else if hitB k n b = true then (if b.wr = true then 2 else 1) else 0
  | [] => by simp [touL]
  | a :: r => by
    rw [List.cons_append, touL, touL]
    by_cases ha : hitB k n a = true
    · rw [if_pos ha, if_pos ha]
      split <;> split <;> simp_all
    · rw [if_neg ha, if_neg ha, touL_snoc]
theorem touL_no {k n : Int} {l : List Tch} (h : ∀ a ∈ l, hitB k n a = false) : touL k n l = 0 := touL_none fun j hj => h _ (by rw [List.getD_eq_getElem?_getD, List.getElem?_eq_getElem hj]; exact List.getElem_mem hj)
theorem right_clamp {x : Evt} (h : rightE x = true) : (clampN x.n : Int) = x.n := by
  have := right_n h
  unfold clampN; split <;> (try split) <;> omega
theorem plnTo_eq {p : PProg} {x : Evt} (h : rightE x = true) (v : Nat) (hv : v < 8) : ∀ k : Nat, (k : Int) ≤ x.n → (plnTo p x k).getD v 0 = if plainB p v = true then touL 1 v ((touchL x).take k) else 0
  | 0, _ => by
    have : (plnTo p x 0).getD v 0 = 0 := by
      show zero8.getD v 0 = 0
      match v, hv with
      | 0, _ | 1, _ | 2, _ | 3, _ | 4, _ | 5, _ | 6, _ | 7, _ => rfl
    rw [this]
    simp [touL]
  | k + 1, hk => by
    have ih := plnTo_eq (p := p) h v hv k (by omega)
    have hc := right_clamp h
    have hlen : k < (touchL x).length := by rw [touchL_len]; omega
    have hget : (touchL x)[k] = tAt x k := by simp [touchL]
    have hnum := right_num h (k := k) (by omega)
    have htake : (touchL x).take (k + 1) = (touchL x).take k ++ [tAt x k] := by
      rw [List.take_add_one, List.getElem?_eq_getElem hlen, hget]; rfl
    rw [htake, touL_snoc, plnTo]
    by_cases hit : hitB 1 v (tAt x k) = true
    · have h0 : touL 1 v ((touchL x).take k) = 0 := by
        refine touL_no fun a ha => ?_
        rw [List.mem_take_iff_getElem] at ha
        obtain ⟨j, hj, rfl⟩ := ha
        have hj2 : j < k := by omega
        cases hz : hitB 1 v (touchL x)[j] with
        | false => rfl
        | true =>
          have : (touchL x)[j] = tAt x j := by simp [touchL]
          rw [this] at hz
          exact (hit_once h hj2 (by omega) hz hit).elim
      have e1 : (if touL 1 (v : Int) ((touchL x).take k) ≠ 0 then touL 1 (v : Int) ((touchL x).take k) else if hitB 1 v (tAt x k) = true then (if (tAt x k).wr = true then 2 else 1) else 0) = (if (tAt x k).wr = true then 2 else 1) := by rw [if_neg (by simp [h0]), if_pos hit]
      rw [e1]
      simp only [hitB, Bool.and_eq_true, beq_iff_eq] at hit
      have hpl : plnB p (tAt x k) = plainB p v := by
        rw [plnB, plainB, hit.1, hit.2, Bool.eq_iff_iff]
        simp
      rw [hpl]
      by_cases hp : plainB p v = true
      · rw [if_pos hp, if_pos hp, hit.2]
        simp [List.getD_eq_getElem?_getD, plnTo_len, hv]
      · rw [if_neg hp, if_neg hp, ih, if_neg hp]
    · have e2 : (if touL 1 (v : Int) ((touchL x).take k) ≠ 0 then touL 1 (v : Int) ((touchL x).take k) else if hitB 1 v (tAt x k) = true then (if (tAt x k).wr = true then 2 else 1) else 0) = touL 1 v ((touchL x).take k) := by rw [if_neg hit]; split <;> simp_all
      rw [e2]
      by_cases hp : plnB p (tAt x k) = true
      · rw [if_pos hp]
        have hne : (tAt x k).num.toNat ≠ v := by
          intro e
          apply hit
          simp only [plnB, Bool.and_eq_true, beq_iff_eq] at hp
          simp only [hitB, Bool.and_eq_true, beq_iff_eq]
          exact ⟨hp.1, by omega⟩
        rw [← ih]
        simp only [List.getD_eq_getElem?_getD]
        rw [List.getElem?_set_ne hne]
      · rw [if_neg hp, ih]
theorem pln_eq {p : PProg} {x : Evt} (h : rightE x = true) {v : Nat} (hv : v < 8) : (plnF p x).getD v 0 = if plainB p v = true then touF x 1 v else 0 := by
  have hn := right_n h
  rw [plnF, plnTo_eq h v hv _ (by omega), List.take_of_length_le (by rw [touchL_len]; have := right_clamp h; omega)]
  rfl
theorem both_sh {p : PProg} {a b : Evt} (ha : rightE a = true) (hb : rightE b = true) {v : Nat} (hv : v < 8) : bothB (plnF p a) (plnF p b) v = shB p a b v := by
  rw [bothB, pln_eq ha hv, pln_eq hb hv, shB]
  by_cases hp : plainB p v = true
  · rw [if_pos hp, if_pos hp, hp, Bool.true_and, Bool.and_assoc]
  · rw [if_neg hp, if_neg hp]
    have : plainB p v = false := by simpa using hp
    rw [this]; simp
theorem bothTo_iff {x y : List Int} {u : Int} : ∀ {k : Nat}, u ∈ bothTo x y k ↔ ∃ v : Nat, v < k ∧ bothB x y v = true ∧ u = v
  | 0 => by simp [bothTo]
  | k + 1 => by
    rw [bothTo, List.mem_append, bothTo_iff]
    constructor
    · rintro (⟨v, h1, h2, h3⟩ | h)
      · exact ⟨v, by omega, h2, h3⟩
      · split at h
        · rename_i hb
          simp at h
          exact ⟨k, by omega, hb, h⟩
        · cases h
    · rintro ⟨v, h1, h2, h3⟩
      rcases Nat.lt_or_ge v k with h | h
      · exact .inl ⟨v, h, h2, h3⟩
      · obtain rfl : v = k := by omega
        rw [if_pos h2]
        exact .inr (by simp [h3])
theorem sh_lt {p : PProg} {a b : Evt} {v : Int} (h : shB p a b v = true) : v < p.vars.length := by
  simp only [shB, plainB, Bool.and_eq_true, decide_eq_true_eq] at h
  omega
theorem any1To_iff {p : PProg} {a b : Evt} : ∀ {n i : Nat}, 0 ≤ any1To p a b n i ↔ ∃ v : Nat, i ≤ v ∧ v < i + n ∧ shB p a b v = true
  | 0, i => by
    rw [any1To]
    exact ⟨fun h => by omega, fun ⟨v, h1, h2, _⟩ => by omega⟩
  | n + 1, i => by
    rw [any1To]
    split
    · rename_i h
      exact ⟨fun _ => ⟨i, by omega, by omega, h⟩, fun _ => by omega⟩
    · rename_i h
      rw [any1To_iff]
      constructor
      · rintro ⟨v, h1, h2, h3⟩
        exact ⟨v, by omega, by omega, h3⟩
      · rintro ⟨v, h1, h2, h3⟩
        rcases Nat.lt_or_ge i v with h4 | h4
        · exact ⟨v, by omega, by omega, h3⟩
        · obtain rfl : v = i := by omega
          exact absurd h3 h
theorem both_any {p : PProg} {a b : Evt} (hv : p.vars.length ≤ 8) (ha : rightE a = true) (hb : rightE b = true) : decide ((bothF p a b).length > 0) = decide (any1F p a b ≥ 0) := by
  apply decide_eq_decide.2
  have h1 : (bothF p a b).length > 0 ↔ ∃ u, u ∈ bothF p a b := by
    rw [gt_iff_lt, List.length_pos_iff_exists_mem]
  rw [h1, ge_iff_le, any1F, any1To_iff]
  constructor
  · rintro ⟨u, hu⟩
    rw [bothF, bothTo_iff] at hu
    obtain ⟨v, h2, h3, rfl⟩ := hu
    rw [both_sh ha hb h2] at h3
    have := sh_lt h3
    exact ⟨v, Nat.zero_le _, by omega, h3⟩
  · rintro ⟨v, _, h2, h3⟩
    exact ⟨v, by rw [bothF, bothTo_iff]; exact ⟨v, by omega, by rw [both_sh ha hb (by omega)]; exact h3, rfl⟩⟩
theorem data_eq {p : PProg} {t : List Evt} (h : fitF p t = 0) : dataL p t = refData p t := by
  have hv := fit_vars h
  rw [dataL, if_pos h, pairsF, if_pos hv.2, edges_eq hv.2, refData, refPairs, keepL, List.filter_filter]
  refine List.filter_congr (fun x hx => ?_)
  obtain ⟨a, b, rfl, h1, h2⟩ := edgesR_in (Nat.le_refl _) hx
  have e := both_any (p := p) hv.1 (chk_evt hv.2 (i := a) (by omega)) (chk_evt hv.2 h2)
  simp only [delP, goNe, anyB, dataW, Int.toNat_natCast]
  rw [e, Bool.not_or, Bool.not_not, Bool.and_comm]
end Go.Ab


/- What is found is the reference's, in its order. -/
set_option autoImplicit false
set_option maxRecDepth 20000
set_option maxHeartbeats 4000000
set_option linter.unusedSimpArgs false
set_option linter.unusedVariables false
namespace Go.Ab
open Go.Proofs Go.Sort
theorem less_tri (f g : Fnd) : lessB f g = true ∨ f = g ∨ lessB g f = true := by
  simp only [lessB, lt_cmpF, decide_eq_true_eq]
  by_cases e : f = g
  · exact .inr (.inl e)
  · have : f.v.val ≠ g.v.val ∨ f.fa ≠ g.fa ∨ f.fb ≠ g.fb ∨ f.ga ≠ g.ga ∨ f.gb ≠ g.gb := by
      by_cases h : f.v.val ≠ g.v.val ∨ f.fa ≠ g.fa ∨ f.fb ≠ g.fb ∨ f.ga ≠ g.ga ∨ f.gb ≠ g.gb
      · exact h
      · exfalso
        apply e
        obtain ⟨a, b, c, d, v⟩ := f
        obtain ⟨a', b', c', d', v'⟩ := g
        simp only [not_or, Decidable.not_not] at h
        simp only [Fnd.mk.injEq, _root_.Fin.ext_iff]
        exact ⟨h.2.1, h.2.2.1, h.2.2.2.1, h.2.2.2.2, h.1⟩
    omega
theorem less_irr (f : Fnd) : lessB f f = false := swoF.irrefl f
theorem less_trans {f g h : Fnd} (h1 : lessB f g = true) (h2 : lessB g h = true) : lessB f h = true := swoF.trans _ _ _ h1 h2
theorem less_asymm {f g : Fnd} (h1 : lessB f g = true) (h2 : lessB g f = true) : False := by
  have := less_trans h1 h2
  rw [less_irr] at this; cases this
def insF (f : Fnd) : List Fnd → List Fnd
  | [] => [f]
  | a :: r => if a = f then a :: r else if lessB f a = true then f :: a :: r else a :: insF f r
theorem insF_all {f b : Fnd} : ∀ {m : List Fnd}, (∀ a ∈ m, lessB a f = true) → insF f (m ++ [b]) = m ++ insF f [b]
  | [], _ => rfl
  | a :: r, h => by
    have ha := h a (List.mem_cons_self ..)
    rw [List.cons_append, insF, if_neg (fun e => by rw [e, less_irr] at ha; cases ha), if_neg (fun e => less_asymm ha e), insF_all (fun b hb => h b (List.mem_cons_of_mem _ hb))]
    rfl
theorem insF_end {f : Fnd} : ∀ {m : List Fnd}, (∀ a ∈ m, lessB a f = true) → insF f m = m ++ [f]
  | [], _ => rfl
  | a :: r, h => by
    have ha := h a (List.mem_cons_self ..)
    rw [insF, if_neg (fun e => by rw [e, less_irr] at ha; cases ha), if_neg (fun e => less_asymm ha e), insF_end (fun b hb => h b (List.mem_cons_of_mem _ hb))]
    rfl
theorem insF_in {f b : Fnd} : ∀ {m : List Fnd}, (∃ a ∈ m, lessB a f = false) → insF f (m ++ [b]) = insF f m ++ [b]
  | [], h => by obtain ⟨a, ha, _⟩ := h; cases ha
  | a :: r, h => by
    rw [List.cons_append, insF, insF]
    by_cases e1 : a = f
    · rw [if_pos e1, if_pos e1]; rfl
    · rw [if_neg e1, if_neg e1]
      by_cases e2 : lessB f a = true
      · rw [if_pos e2, if_pos e2]; rfl
      · rw [if_neg e2, if_neg e2, insF_in (m := r)]
        · rfl
        · obtain ⟨c, hc, hc2⟩ := h
          rcases List.mem_cons.1 hc with rfl | hc
          · rcases less_tri c f with h3 | h3 | h3
            · rw [h3] at hc2; cases hc2
            · exact absurd h3 e1
            · exact absurd h3 e2
          · exact ⟨c, hc, hc2⟩
theorem putTo_eq {l : List Fnd} {f : Fnd} : ∀ {i : Nat}, i ≤ l.length → ((∀ a ∈ l.take i, lessB a f = true) → putTo l f i = (false, l.take i)) ∧ ((∃ a ∈ l.take i, lessB a f = false) → putTo l f i = (true, insF f (l.take i)))
  | 0, _ => ⟨fun _ => by simp [putTo], fun ⟨a, ha, _⟩ => by simp at ha⟩
  | i + 1, hi => by
    obtain ⟨ih1, ih2⟩ := putTo_eq (l := l) (f := f) (i := i) (by omega)
    have hb : l.take (i + 1) = l.take i ++ [l.getD i fnd0] := by
      rw [List.take_add_one, List.getElem?_eq_getElem hi]
      simp [List.getD_eq_getElem?_getD, List.getElem?_eq_getElem (show i < l.length from hi)]
    generalize l.getD i fnd0 = b at hb
    have hstep : putTo l f (i + 1) = (((putTo l f i).1 || b == f) || lessB f b, (if (!((putTo l f i).1 || b == f) && lessB f b) = true then (putTo l f i).2 ++ [f] else (putTo l f i).2) ++ [b]) := by
      rw [putTo]
      have : l.getD i fnd0 = b := by
        have h1 : l.take (i + 1) = l.take i ++ [l.getD i fnd0] := by
          rw [List.take_add_one, List.getElem?_eq_getElem hi]
          simp [List.getD_eq_getElem?_getD, List.getElem?_eq_getElem (show i < l.length from hi)]
        have h2 := h1.symm.trans hb
        simpa using List.append_cancel_left h2
      rw [this]
    by_cases hall : ∀ a ∈ l.take i, lessB a f = true
    · rw [hstep, ih1 hall, hb]
      simp only [Bool.false_or]
      refine ⟨fun h => ?_, fun h => ?_⟩
      · have hbf := h b (by simp)
        have e1 : (b == f) = false := by
          rw [beq_eq_false_iff_ne]; rintro rfl; rw [less_irr] at hbf; cases hbf
        have e2 : lessB f b = false := by
          cases hz : lessB f b with
          | false => rfl
          | true => exact (less_asymm hbf hz).elim
        simp [e1, e2]
      · have hbf : lessB b f = false := by
          obtain ⟨a, ha, ha2⟩ := h
          rcases List.mem_append.1 ha with ha | ha
          · rw [hall a ha] at ha2; cases ha2
          · simp at ha; rw [← ha]; exact ha2
        rw [insF_all hall]
        by_cases e : b = f
        · subst e
          simp [insF]
        · rcases less_tri b f with h3 | h3 | h3
          · rw [h3] at hbf; cases hbf
          · exact absurd h3 e
          · have e1 : (b == f) = false := by rw [beq_eq_false_iff_ne]; exact e
            simp [insF, e1, h3, e]
    · have hex : ∃ a ∈ l.take i, lessB a f = false := by
        simp only [Classical.not_forall, Bool.not_eq_true] at hall
        obtain ⟨a, ha, h⟩ := hall
        exact ⟨a, ha, h⟩
      rw [hstep, ih2 hex, hb, insF_in hex]
      refine ⟨fun h => ?_, fun _ => by simp⟩
      obtain ⟨a, ha, h2⟩ := hex
      have := h a (List.mem_append_left _ ha)
      rw [h2] at this; cases this
theorem putF_eq (l : List Fnd) (f : Fnd) : putF l f = insF f l := by
  obtain ⟨h1, h2⟩ := putTo_eq (l := l) (f := f) (i := l.length) (Nat.le_refl _)
  rw [List.take_length] at h1 h2
  by_cases hall : ∀ a ∈ l, lessB a f = true
  · rw [putF, h1 hall, insF_end hall]; rfl
  · have hex : ∃ a ∈ l, lessB a f = false := by
      simp only [Classical.not_forall, Bool.not_eq_true] at hall
      obtain ⟨a, ha, h⟩ := hall
      exact ⟨a, ha, h⟩
    rw [putF, h2 hex]; rfl
theorem insF_mem {f g : Fnd} : ∀ {l : List Fnd}, g ∈ insF f l ↔ g = f ∨ g ∈ l
  | [] => by simp [insF]
  | a :: r => by
    rw [insF]
    split
    · rename_i e
      subst e
      simp
    · split
      · simp
      · rw [List.mem_cons, insF_mem, List.mem_cons]
        constructor
        · rintro (h | h | h)
          · exact .inr (.inl h)
          · exact .inl h
          · exact .inr (.inr h)
        · rintro (h | h | h)
          · exact .inr (.inl h)
          · exact .inl h
          · exact .inr (.inr h)
theorem insF_sorted {f : Fnd} : ∀ {l : List Fnd}, l.Pairwise (fun a b => lessB a b = true) → (insF f l).Pairwise (fun a b => lessB a b = true)
  | [], _ => by simp [insF]
  | a :: r, h => by
    rw [List.pairwise_cons] at h
    rw [insF]
    split
    · exact List.pairwise_cons.2 h
    · rename_i e1
      split
      · rename_i e2
        refine List.pairwise_cons.2 ⟨fun b hb => ?_, List.pairwise_cons.2 h⟩
        rcases List.mem_cons.1 hb with rfl | hb
        · exact e2
        · exact less_trans e2 (h.1 b hb)
      · rename_i e2
        refine List.pairwise_cons.2 ⟨fun b hb => ?_, insF_sorted h.2⟩
        rcases insF_mem.1 hb with rfl | hb
        · rcases less_tri a b with h3 | h3 | h3
          · exact h3
          · exact absurd h3 e1
          · exact absurd h3 e2
        · exact h.1 b hb
theorem innR_spec {p : PProg} {x y : Evt} {L : List Fnd} (hL : L.Pairwise (fun a b => lessB a b = true)) : ∀ v, (innR p x y L v).Pairwise (fun a b => lessB a b = true) ∧ ∀ g, g ∈ innR p x y L v ↔ g ∈ L ∨ ∃ u : Nat, u < v ∧ shB p x y u = true ∧ g = fndI x y u
  | 0 => ⟨hL, fun g => by simp [innR]⟩
  | v + 1 => by
    obtain ⟨h1, h2⟩ := innR_spec hL v
    rw [innR]
    split
    · rename_i hs
      rw [putF_eq]
      refine ⟨insF_sorted h1, fun g => ?_⟩
      rw [insF_mem, h2]
      constructor
      · rintro (h | h | ⟨u, h3, h4, h5⟩)
        · exact .inr ⟨v, by omega, hs, h⟩
        · exact .inl h
        · exact .inr ⟨u, by omega, h4, h5⟩
      · rintro (h | ⟨u, h3, h4, h5⟩)
        · exact .inr (.inl h)
        · rcases Nat.lt_or_ge u v with h6 | h6
          · exact .inr (.inr ⟨u, h6, h4, h5⟩)
          · obtain rfl : u = v := by omega
            exact .inl h5
    · rename_i hs
      refine ⟨h1, fun g => ?_⟩
      rw [h2]
      constructor
      · rintro (h | ⟨u, h3, h4, h5⟩)
        · exact .inl h
        · exact .inr ⟨u, by omega, h4, h5⟩
      · rintro (h | ⟨u, h3, h4, h5⟩)
        · exact .inl h
        · rcases Nat.lt_or_ge u v with h6 | h6
          · exact .inr ⟨u, h6, h4, h5⟩
          · obtain rfl : u = v := by omega
            exact absurd h4 hs
theorem outR_spec {p : PProg} {t : List Evt} {D : List Pr} : ∀ i, (outR p t D i).Pairwise (fun a b => lessB a b = true) ∧ ∀ g, g ∈ outR p t D i ↔ ∃ j, j < i ∧ ∃ u : Nat, u < p.vars.length ∧ shB p (eAt t (pAt D j).1.toNat) (eAt t (pAt D j).2.toNat) u = true ∧ g = fndI (eAt t (pAt D j).1.toNat) (eAt t (pAt D j).2.toNat) u
  | 0 => ⟨List.Pairwise.nil, fun g => by simp [outR]⟩
  | i + 1 => by
    obtain ⟨h1, h2⟩ := outR_spec (p := p) (t := t) (D := D) i
    rw [outR]
    obtain ⟨h3, h4⟩ := innR_spec (p := p) (x := eAt t (pAt D i).1.toNat) (y := eAt t (pAt D i).2.toNat) h1 p.vars.length
    refine ⟨h3, fun g => ?_⟩
    rw [h4, h2]
    constructor
    · rintro (⟨j, h5, h6⟩ | h)
      · exact ⟨j, by omega, h6⟩
      · exact ⟨i, by omega, h⟩
    · rintro ⟨j, h5, h6⟩
      rcases Nat.lt_or_ge j i with h7 | h7
      · exact .inl ⟨j, h7, h6⟩
      · obtain rfl : j = i := by omega
        exact .inr h6
theorem ddF_spec {l : List Fnd} (h : l.Pairwise fun x y => lessB y x = false) : ∀ {k : Nat}, k ≤ l.length → (dd fnd0 l k).Pairwise (fun a b => lessB a b = true) ∧ ∀ g, g ∈ dd fnd0 l k ↔ g ∈ l.take k
  | 0, _ => ⟨List.Pairwise.nil, fun g => by simp [dd]⟩
  | k + 1, hk => by
    obtain ⟨h1, h2⟩ := ddF_spec h (k := k) (by omega)
    have hkl : k < l.length := hk
    have ht : l.take (k + 1) = l.take k ++ [l.getD k fnd0] := by
      rw [List.take_add_one, List.getElem?_eq_getElem hkl]
      simp [List.getD_eq_getElem?_getD, List.getElem?_eq_getElem hkl]
    have hge : ∀ j, j < k → lessB (l.getD k fnd0) (l.getD j fnd0) = false := fun j hj => by
      have := (List.pairwise_iff_getElem.1 h) j k (by omega) hkl hj
      simpa [List.getD_eq_getElem?_getD, hkl, show j < l.length by omega] using this
    rw [dd]
    split
    · rename_i e
      refine ⟨h1, fun g => ?_⟩
      rw [h2, ht, List.mem_append]
      refine ⟨.inl, fun hh => ?_⟩
      rcases hh with hh | hh
      · exact hh
      · simp only [List.mem_singleton] at hh
        rw [hh, e.2, List.mem_take_iff_getElem]
        refine ⟨k - 1, by omega, ?_⟩
        simp [List.getD_eq_getElem?_getD, show k - 1 < l.length by omega]
    · rename_i e
      refine ⟨List.pairwise_append.2 ⟨h1, List.pairwise_singleton _ _, fun a ha b hb => ?_⟩, fun g => ?_⟩
      · simp only [List.mem_singleton] at hb
        subst hb
        rw [h2, List.mem_take_iff_getElem] at ha
        obtain ⟨j, hj, rfl⟩ := ha
        have hj2 : j < k := by omega
        have hne : l.getD k fnd0 ≠ l.getD (k - 1) fnd0 := fun e2 => e ⟨by omega, e2⟩
        have g1 := hge (k - 1) (by omega)
        have g2 : lessB (l.getD (k - 1) fnd0) (l.getD k fnd0) = true := by
          rcases less_tri (l.getD (k - 1) fnd0) (l.getD k fnd0) with h3 | h3 | h3
          · exact h3
          · exact absurd h3.symm hne
          · rw [h3] at g1; cases g1
        have e3 : l[j] = l.getD j fnd0 := by simp [List.getD_eq_getElem?_getD, show j < l.length by omega]
        rw [e3]
        rcases Nat.lt_or_ge j (k - 1) with h4 | h4
        · have g3 : lessB (l.getD (k - 1) fnd0) (l.getD j fnd0) = false := by
            have := (List.pairwise_iff_getElem.1 h) j (k - 1) (by omega) (by omega) h4
            simpa [List.getD_eq_getElem?_getD, show k - 1 < l.length by omega, show j < l.length by omega] using this
          rcases less_tri (l.getD j fnd0) (l.getD (k - 1) fnd0) with h5 | h5 | h5
          · exact less_trans h5 g2
          · rw [h5]; exact g2
          · rw [h5] at g3; cases g3
        · obtain rfl : j = k - 1 := by omega
          exact g2
      · rw [List.mem_append, h2, ht, List.mem_append]
theorem sorted_eq {l l' : List Fnd} (h : l.Pairwise (fun a b => lessB a b = true)) (h' : l'.Pairwise (fun a b => lessB a b = true)) (hm : ∀ x, x ∈ l ↔ x ∈ l') : l = l' := by
  have nd : ∀ {l : List Fnd}, l.Pairwise (fun a b => lessB a b = true) → l.Nodup := fun h => h.imp (fun {a b} hab e => by subst e; rw [less_irr] at hab; cases hab)
  exact List.Perm.eq_of_pairwise (le := fun a b => lessB a b = true) (fun a b _ _ h1 h2 => (less_asymm h1 h2).elim) h h' ((List.perm_ext_iff_of_nodup (nd h) (nd h')).2 hm)
theorem outTo_mem {p : PProg} {t : List Evt} {D : List Pr} {g : Fnd} : g ∈ outTo p t D D.length ↔ ∃ j, j < D.length ∧ ∃ u, u ∈ bothF p (eAt t (pAt D j).1.toNat) (eAt t (pAt D j).2.toNat) ∧ g = fndI (eAt t (pAt D j).1.toNat) (eAt t (pAt D j).2.toNat) u := by
  rw [outTo, List.take_length, List.mem_flatMap]
  constructor
  · rintro ⟨x, hx, hg⟩
    obtain ⟨j, hj, rfl⟩ := List.getElem_of_mem hx
    rw [rowFs, List.mem_map] at hg
    obtain ⟨u, h1, h2⟩ := hg
    have e : pAt D j = D[j] := by simp [pAt, hj]
    exact ⟨j, hj, u, by rw [e]; exact h1, by rw [e]; exact h2.symm⟩
  · rintro ⟨j, hj, u, h1, h2⟩
    have e : pAt D j = D[j] := by simp [pAt, hj]
    refine ⟨D[j], List.getElem_mem hj, ?_⟩
    rw [rowFs, List.mem_map]
    rw [e] at h1 h2
    exact ⟨u, h1, h2.symm⟩
theorem races_ref (p : PProg) (t : List Evt) : racesFs p t = refRaces p t := by
  by_cases h : fitF p t = 0
  · have hv := fit_vars h
    rw [racesFs, data_eq h, refRaces, if_pos h]
    have hs := sortBy_sorted swoF (outTo p t (refData p t) (refData p t).length)
    have hp := sortBy_perm swoF (outTo p t (refData p t) (refData p t).length)
    obtain ⟨d1, d2⟩ := ddF_spec (l := sortFs (outTo p t (refData p t) (refData p t).length)) hs (Nat.le_refl _)
    obtain ⟨o1, o2⟩ := outR_spec (p := p) (t := t) (D := refData p t) (refData p t).length
    refine sorted_eq d1 o1 (fun g => ?_)
    rw [d2, List.take_length, show g ∈ sortFs (outTo p t (refData p t) (refData p t).length) ↔ g ∈ outTo p t (refData p t) (refData p t).length from hp.mem_iff, o2, outTo_mem]
    have key : ∀ j, j < (refData p t).length → ∀ u : Int, (u ∈ bothF p (eAt t (pAt (refData p t) j).1.toNat) (eAt t (pAt (refData p t) j).2.toNat) ↔ ∃ v : Nat, v < p.vars.length ∧ shB p (eAt t (pAt (refData p t) j).1.toNat) (eAt t (pAt (refData p t) j).2.toNat) v = true ∧ u = v) := by
      intro j hj u
      have hm : pAt (refData p t) j ∈ refData p t := by simp [pAt, List.getD_eq_getElem?_getD, hj]
      obtain ⟨a, b, e, h1, h2⟩ := refPairs_in (List.mem_filter.1 hm).1
      rw [e]
      simp only [Int.toNat_natCast]
      rw [bothF, bothTo_iff]
      constructor
      · rintro ⟨v, h3, h4, h5⟩
        rw [both_sh (chk_evt hv.2 (by omega)) (chk_evt hv.2 h2) h3] at h4
        have := sh_lt h4
        exact ⟨v, by omega, h4, h5⟩
      · rintro ⟨v, h3, h4, h5⟩
        exact ⟨v, by omega, by rw [both_sh (chk_evt hv.2 (by omega)) (chk_evt hv.2 h2) (by omega)]; exact h4, h5⟩
    constructor
    · rintro ⟨j, hj, u, h1, h2⟩
      obtain ⟨v, h3, h4, rfl⟩ := (key j hj u).1 h1
      exact ⟨j, hj, v, h3, h4, h2⟩
    · rintro ⟨j, hj, v, h3, h4, h5⟩
      exact ⟨j, hj, v, (key j hj v).2 ⟨v, h3, h4, rfl⟩, h5⟩
  · have e : dataL p t = [] := by rw [dataL, if_neg h]
    rw [refRaces, if_neg h, racesFs, e, show outTo p t [] [].length = [] from rfl, show sortFs [] = [] from List.eq_nil_of_length_eq_zero (sortBy_len swoF [])]
    rfl
theorem raceDataLaw_ac (g : Bool) (p : PProg) (t : List Evt) : AC Tryz.prog T tysN 3 [encProg p, evts g t] [] (.bool true) [] := by
 refine AC_intro hT Tryz.func3 rfl rfl (Nat.le_of_ble_eq_true rfl) ?_
 refine sq (rg [] rfl ?_)
 refine sq (rgs [CG.pure (.tup [prs false (dataL p t), .int (fitF p t)])] rfl ?_ ?_)
 ·have h1 := data_ac g p t
  simp only [holdsC, under, CG.pure]
  repeat' with_reducible refine And.intro ?_ ?_
  all_goals (try with_reducible intros)
  all_goals (first | exact trivial | assumption | omega | exact h1 | (simp; done))
 refine sq (rgs [CG.pure (.tup [fnds false (racesFs p t), .int (fitF p t)])] rfl ?_ ?_)
 ·have h1 := racesF_ac g p t
  simp only [holdsC, under, CG.pure]
  repeat' with_reducible refine And.intro ?_ ?_
  all_goals (try with_reducible intros)
  all_goals (first | exact trivial | assumption | omega | exact h1 | (simp; done))
 refine sq (rgs [CG.pure (.tup [fnds false (racesFs p t), .int (fitF p t)])] rfl ?_ ?_)
 ·have h1 := rraces_ac g p t
  rw [← races_ref] at h1
  simp only [holdsC, under, CG.pure]
  repeat' with_reducible refine And.intro ?_ ?_
  all_goals (try with_reducible intros)
  all_goals (first | exact trivial | assumption | omega | exact h1 | (simp; done))
 refine sq (sq (rgs [CG.pure (.bool true), CG.pure (.bool true)] rfl ?_ ?_))
 ·have h1 := sameFs_ac false false (racesFs p t) (racesFs p t)
  rw [decide_eq_true rfl] at h1
  have h2 := speaks_ac ()
  simp only [holdsC, under, CG.pure]
  repeat' with_reducible refine And.intro ?_ ?_
  all_goals (try with_reducible intros)
  all_goals (first | exact trivial | assumption | omega | exact h1 | exact h2 | (simp; done))
 refine cd rfl (fun h4 => ?_) (fun h4 => ?_)
 ·exfalso
  have e := h4
  simp at e
 ·refine sk (sq (sq (rg [] rfl ?_)))
  refine cd rfl (fun h6 => ?_) (fun h6 => ?_)
  ·have hbad : fitF p t ≠ 0 := by simpa using h6
   refine sq (rg [] rfl ?_)
   refine WP.ret ?_
   change Fin ..
   refine fin1 hT (by rfl) ?_
   rw [dataL, if_neg hbad]; rfl
  ·have hz : fitF p t = 0 := by simpa using h6
   have hv := fit_vars hz
   refine sk (sq (rgs [CG.pure (prs false (dataL p t)), CG.pure (.bool true)] rfl ?_ ?_))
   ·have h1 := rdata_ac g p t (chk_right hv.2) hv.1
    rw [← data_eq hz] at h1
    have h2 := same_ac false false (dataL p t) (dataL p t)
    rw [decide_eq_true rfl] at h2
    simp only [holdsC, under, CG.pure]
    repeat' with_reducible refine And.intro ?_ ?_
    all_goals (try with_reducible intros)
    all_goals (first | exact trivial | assumption | omega | exact h1 | exact h2 | (simp; done))
   refine WP.ret ?_
   change Fin ..
   exact fin1 hT (by rfl) rfl
end Go.Ab


/- Law: equivalent traces have the same races. -/
set_option autoImplicit false
set_option linter.unusedSimpArgs false
set_option linter.unusedVariables false
set_option linter.unusedSectionVars false
namespace Go.Ab
open Go.Proofs Go.Sort
/-- A race by what happens before what. -/
def RC (t : List Evt) (a b : Nat) : Prop := HB t a b ∧ (∀ k, ¬ (HB t a k ∧ HB t k b)) ∧ ((eAt t a).go == (eAt t b).go) = false
theorem race_mem {t : List Evt} (h : chkE t = 0) {x : Pr} : x ∈ racesL t ↔ ∃ a b : Nat, b < t.length ∧ RC t a b ∧ x = ((a : Int), (b : Int)) := by
  rw [races_eq h, refPairs, List.mem_filter, edgesR_mem]
  constructor
  · rintro ⟨⟨a, h1, b, h2, h3, h4, rfl⟩, hg⟩
    refine ⟨a, b, h2, ⟨?_, fun k hk => ?_, ?_⟩, rfl⟩
    · rw [edgeB, Bool.and_eq_true] at h4
      exact (refT_iff h2).1 h4.1
    · have k1 := hk.1.lt
      have k2 := hk.2.lt
      rw [edgeB, betB_bad k1 k2 (by rw [(refT_iff (show k < t.length by omega)).2 hk.1, (refT_iff h2).2 hk.2]; rfl), Bool.and_false] at h4
      cases h4
    · have : (!((eAt t a).go == (eAt t b).go)) = true := hg
      simpa using this
  · rintro ⟨a, b, hb, ⟨h1, h2, h3⟩, rfl⟩
    have hab := h1.lt
    refine ⟨⟨a, by omega, b, hb, hab, ?_, rfl⟩, ?_⟩
    · rw [edgeB, (refT_iff hb).2 h1, Bool.true_and, betB, List.all_eq_true]
      intro k hk
      have hk := List.mem_range.1 hk
      cases hx : (decide (a < k) && (refT t a k && refT t k b)) with
      | false => rfl
      | true =>
        exfalso
        simp only [Bool.and_eq_true, decide_eq_true_eq] at hx
        exact h2 k ⟨(refT_iff (show k < t.length by omega)).1 hx.2.1, (refT_iff hb).1 hx.2.2⟩
    · show (!((eAt t a).go == (eAt t b).go)) = true
      rw [h3]; rfl
theorem race_nodup {t : List Evt} (h : chkE t = 0) : (racesL t).Nodup := by
  rw [races_eq h, refPairs]
  exact List.Pairwise.filter _ ((edgesR_sorted (B := refT t) (n := t.length) t.length).imp (fun {a b} hab e => by subst e; rcases hab with h | h <;> omega))
def sgP (l : List Int) (x : Pr) : Pr := ((sg l x.1.toNat : Int), (sg l x.2.toNat : Int))
section
variable {t : List Evt} {l : List Int} (h : chkE t = 0) (ho : OrdL t l)
include h ho
theorem ld_RC {a b : Nat} (hb : b < t.length) : RC (laidTo t l l.length) a b → RC t (sg l a) (sg l b) := by
  rintro ⟨h1, h2, h3⟩
  have ha : a < t.length := by have := h1.lt; omega
  refine ⟨(ld_HB h ho ha hb).1 h1, fun k hk => ?_, by rw [← ld_at ho ha, ← ld_at ho hb]; exact h3⟩
  have hk1 := hk.2.lt
  have hk2 := (sg_get h ho hb).2
  obtain ⟨c, hc, rfl⟩ := sg_sur h ho (show k < t.length by omega)
  exact h2 c ⟨(ld_HB h ho ha hc).2 hk.1, (ld_HB h ho hc hb).2 hk.2⟩
theorem ld_CR {a b : Nat} (ha : a < t.length) (hb : b < t.length) : RC t (sg l a) (sg l b) → RC (laidTo t l l.length) a b := by
  rintro ⟨h1, h2, h3⟩
  refine ⟨(ld_HB h ho ha hb).2 h1, fun k hk => ?_, by rw [ld_at ho ha, ld_at ho hb]; exact h3⟩
  have hk1 := hk.2.lt
  have hk : k < t.length := by omega
  exact h2 (sg l k) ⟨(ld_HB h ho ha hk).1 ‹_ ∧ _›.1, (ld_HB h ho hk hb).1 ‹_ ∧ _›.2⟩
theorem ld_to {x : Pr} (hx : x ∈ racesL (laidTo t l l.length)) : sgP l x ∈ racesL t := by
  rw [race_mem (ld_chk h ho)] at hx
  obtain ⟨a, b, hb, hr, rfl⟩ := hx
  rw [ld_len ho] at hb
  rw [race_mem h]
  exact ⟨sg l a, sg l b, (sg_get h ho hb).2, ld_RC h ho hb hr, rfl⟩
theorem ld_from {x : Pr} (hx : x ∈ racesL t) : ∃ y, y ∈ racesL (laidTo t l l.length) ∧ sgP l y = x := by
  rw [race_mem h] at hx
  obtain ⟨a, b, hb, hr, rfl⟩ := hx
  have ha : a < t.length := by have := hr.1.lt; omega
  obtain ⟨c, hc, rfl⟩ := sg_sur h ho ha
  obtain ⟨d, hd, rfl⟩ := sg_sur h ho hb
  refine ⟨((c : Int), (d : Int)), ?_, rfl⟩
  rw [race_mem (ld_chk h ho)]
  exact ⟨c, d, by rw [ld_len ho]; exact hd, ld_CR h ho hc hd hr, rfl⟩
theorem ld_count : (racesL (laidTo t l l.length)).length = (racesL t).length := by
  have hin : ∀ {x : Pr}, x ∈ racesL (laidTo t l l.length) → ∃ a b : Nat, a < t.length ∧ b < t.length ∧ x = ((a : Int), (b : Int)) := by
    intro x hx
    rw [race_mem (ld_chk h ho)] at hx
    obtain ⟨a, b, hb, hr, rfl⟩ := hx
    rw [ld_len ho] at hb
    have := hr.1.lt
    exact ⟨a, b, by omega, hb, rfl⟩
  have hnd : ((racesL (laidTo t l l.length)).map (sgP l)).Nodup := by
    rw [List.Nodup, List.pairwise_map]
    refine (race_nodup (ld_chk h ho)).imp_of_mem (fun {x y} hx hy hne e => hne ?_)
    obtain ⟨a, b, ha, hb, rfl⟩ := hin hx
    obtain ⟨c, d, hc, hd, rfl⟩ := hin hy
    have e1 := congrArg Prod.fst e
    have e2 := congrArg Prod.snd e
    simp only [sgP, Int.toNat_natCast] at e1 e2
    have f1 := sg_inj h ho ha hc (by omega)
    have f2 := sg_inj h ho hb hd (by omega)
    rw [f1, f2]
  have h1 := nodup_le hnd (fun x hx => by
    obtain ⟨y, hy, rfl⟩ := List.mem_map.1 hx
    exact ld_to h ho hy)
  have h2 := nodup_le (race_nodup h) (m := (racesL (laidTo t l l.length)).map (sgP l)) (fun x hx => by
    obtain ⟨y, hy, rfl⟩ := ld_from h ho hx
    exact List.mem_map.2 ⟨y, hy, rfl⟩)
  rw [List.length_map] at h1 h2
  omega
end
theorem racesF_mem {p : PProg} {t : List Evt} (h : fitF p t = 0) {g : Fnd} : (racesFs p t).Pairwise (fun a b => lessB a b = true) ∧ (g ∈ racesFs p t ↔ ∃ x ∈ racesL t, ∃ u, u ∈ bothF p (eAt t x.1.toNat) (eAt t x.2.toNat) ∧ g = fndI (eAt t x.1.toNat) (eAt t x.2.toNat) u) := by
  have hc := (fit_vars h).2
  have hs := sortBy_sorted swoF (outTo p t (dataL p t) (dataL p t).length)
  have hp := sortBy_perm swoF (outTo p t (dataL p t) (dataL p t).length)
  obtain ⟨d1, d2⟩ := ddF_spec (l := sortFs (outTo p t (dataL p t) (dataL p t).length)) hs (Nat.le_refl _)
  refine ⟨d1, ?_⟩
  rw [racesFs, d2, List.take_length, show g ∈ sortFs (outTo p t (dataL p t) (dataL p t).length) ↔ g ∈ outTo p t (dataL p t) (dataL p t).length from hp.mem_iff, outTo, List.take_length, List.mem_flatMap]
  have hd : ∀ x, x ∈ dataL p t ↔ x ∈ racesL t ∧ dataW p t x.1 x.2 = true := by
    intro x
    rw [dataL, if_pos h, racesL, pairsF, pairsF, if_pos hc, if_pos hc, keepL, keepL, List.mem_filter, List.mem_filter]
    simp only [delP, Bool.not_or, Bool.not_not, Bool.and_true, Bool.not_true, Bool.or_false, Bool.and_eq_true]
    constructor
    · rintro ⟨h1, h2, h3⟩; exact ⟨⟨h1, h2⟩, h3⟩
    · rintro ⟨⟨h1, h2⟩, h3⟩; exact ⟨h1, h2, h3⟩
  constructor
  · rintro ⟨x, hx, hg⟩
    rw [rowFs, List.mem_map] at hg
    obtain ⟨u, h1, h2⟩ := hg
    exact ⟨x, ((hd x).1 hx).1, u, h1, h2.symm⟩
  · rintro ⟨x, hx, u, h1, h2⟩
    refine ⟨x, (hd x).2 ⟨hx, ?_⟩, ?_⟩
    · rw [dataW]
      exact decide_eq_true (List.length_pos_of_mem h1)
    · rw [rowFs, List.mem_map]
      exact ⟨u, h1, h2.symm⟩
theorem ld_fit {p : PProg} {t : List Evt} {l : List Int} (h : fitF p t = 0) (ho : OrdL t l) : fitF p (laidTo t l l.length) = 0 := by
  have hc := (fit_vars h).2
  unfold fitF at h ⊢
  split
  · rename_i e; rw [if_pos e] at h; exact h
  · exact ld_chk hc ho
theorem ld_found {p : PProg} {t : List Evt} {l : List Int} (h : fitF p t = 0) (ho : OrdL t l) : racesFs p (laidTo t l l.length) = racesFs p t := by
  have hc := (fit_vars h).2
  refine sorted_eq (racesF_mem (g := fnd0) (ld_fit h ho)).1 (racesF_mem (g := fnd0) h).1 (fun g => ?_)
  rw [(racesF_mem (ld_fit h ho)).2, (racesF_mem h).2]
  have hev : ∀ {x : Pr}, x ∈ racesL (laidTo t l l.length) → eAt (laidTo t l l.length) x.1.toNat = eAt t (sgP l x).1.toNat ∧ eAt (laidTo t l l.length) x.2.toNat = eAt t (sgP l x).2.toNat := by
    intro x hx
    rw [race_mem (ld_chk hc ho)] at hx
    obtain ⟨a, b, hb, hr, rfl⟩ := hx
    rw [ld_len ho] at hb
    have := hr.1.lt
    exact ⟨ld_at ho (show a < t.length by omega), ld_at ho hb⟩
  constructor
  · rintro ⟨x, hx, u, h1, h2⟩
    obtain ⟨e1, e2⟩ := hev hx
    rw [e1, e2] at h1 h2
    exact ⟨sgP l x, ld_to hc ho hx, u, h1, h2⟩
  · rintro ⟨x, hx, u, h1, h2⟩
    obtain ⟨y, hy, rfl⟩ := ld_from hc ho hx
    obtain ⟨e1, e2⟩ := hev hy
    rw [← e1, ← e2] at h1 h2
    exact ⟨y, hy, u, h1, h2⟩
end Go.Ab


/- RaceClass. -/
set_option autoImplicit false
set_option maxRecDepth 20000
set_option maxHeartbeats 4000000
set_option linter.unusedSimpArgs false
set_option linter.unusedVariables false
namespace Go.Ab
open Go.Proofs Go.Sort
theorem racesF_bad {p : PProg} {t : List Evt} (h : fitF p t ≠ 0) : racesFs p t = [] := by rw [races_ref, refRaces, if_neg h]
theorem raceClassLaw_ac (g : Bool) (p : PProg) (t : List Evt) : AC Tryz.prog T tysN 6 [encProg p, evts g t] [] (.bool true) [] := by
 refine AC_intro hT Tryz.func6 rfl rfl (Nat.le_of_ble_eq_true rfl) ?_
 refine sq (rg [] rfl ?_)
 refine sq (rgs [CG.pure (.tup [fnds false (racesFs p t), .int (fitF p t)])] rfl ?_ ?_)
 ·have h1 := racesF_ac g p t
  simp only [holdsC, under, CG.pure]
  repeat' with_reducible refine And.intro ?_ ?_
  all_goals (try with_reducible intros)
  all_goals (first | exact trivial | assumption | omega | exact h1 | (simp; done) | grind)
 refine sq (sq (rgs [CG.pure (.int (chkE t)), CG.pure (.bool ((checkF p).1 == 0))] rfl ?_ ?_))
 ·have h1 := rcheck_ac g t
  have h2 := right_ac p
  simp only [holdsC, under, CG.pure]
  repeat' with_reducible refine And.intro ?_ ?_
  all_goals (try with_reducible intros)
  all_goals (first | exact trivial | assumption | omega | exact h1 | exact h2 | (simp; done) | grind)
 refine cd rfl (fun h2 => ?_) (fun h2 => ?_)
 ·have hbad : fitF p t ≠ 0 := by
    have e := h2
    rw [bor] at e
    intro e2
    unfold fitF at e2
    split at e2
    · cases e2
    · rename_i e3
      have e3 : (checkF p).1 = 0 := by simpa using e3
      rw [e2, e3] at e
      cases e
  refine sq (rgs [CG.pure (.bool true)] rfl ?_ ?_)
  ·have h1 := speaks_ac ()
   simp only [holdsC, under, CG.pure]
   repeat' with_reducible refine And.intro ?_ ?_
   all_goals (try with_reducible intros)
   all_goals (first | exact trivial | assumption | omega | exact h1 | (simp; done) | grind)
  refine WP.ret ?_
  change Fin ..
  refine fin1 hT (by rfl) ?_
  rw [racesF_bad hbad]
  simp [hbad]
 ·have hfit : fitF p t = 0 := by
    have e := h2
    rw [bor] at e
    simp at e
    unfold fitF
    rw [if_neg (by simpa using e.2)]
    exact e.1
  have hc := (fit_vars hfit).2
  have ho := form_ord hc
  have e1 : cformL t = formTo t t.length := if_pos hc
  have e2 : appE t (formTo t t.length) = 0 := by rw [appE, if_neg (fun e => e hc), if_pos (ord_lin hc ho)]
  have e3 : appL' t (formTo t t.length) = laidTo t (formTo t t.length) (formTo t t.length).length := if_pos e2
  have e4 := ld_fit hfit ho
  have e5 := ld_found hfit ho
  have e6 := ld_chk hc ho
  have e7 := ld_count hc ho
  have e8 := ld_len ho
  obtain ⟨u, hu⟩ : ∃ u, u = laidTo t (formTo t t.length) (formTo t t.length).length := ⟨_, rfl⟩
  rw [← hu] at e3 e4 e5 e6 e7 e8
  refine sk (sq (rgs [CG.pure (.tup [ints false (formTo t t.length), .int 0])] rfl ?_ ?_))
  ·have h1 := Form_ac g t
   rw [e1, hc] at h1
   simp only [holdsC, under, CG.pure]
   repeat' with_reducible refine And.intro ?_ ?_
   all_goals (try with_reducible intros)
   all_goals (first | exact trivial | assumption | omega | exact h1 | (simp; done) | grind)
  refine sq (rgs [CG.pure (.tup [evts false u, .int 0])] rfl ?_ ?_)
  ·have h1 := Apply_ac g false t (formTo t t.length)
   rw [e3, e2] at h1
   simp only [holdsC, under, CG.pure]
   repeat' with_reducible refine And.intro ?_ ?_
   all_goals (try with_reducible intros)
   all_goals (first | exact trivial | assumption | omega | exact h1 | (simp; done) | grind)
  refine sq (rgs [CG.pure (.tup [fnds false (racesFs p t), .int 0])] rfl ?_ ?_)
  ·have h1 := racesF_ac false p u
   rw [e5, e4] at h1
   simp only [holdsC, under, CG.pure]
   repeat' with_reducible refine And.intro ?_ ?_
   all_goals (try with_reducible intros)
   all_goals (first | exact trivial | assumption | omega | exact h1 | (simp; done) | grind)
  refine sq (rgs [CG.pure (.tup [prs false (racesL t), .int 0])] rfl ?_ ?_)
  ·have h1 := racePairs_ac g t
   rw [hc] at h1
   simp only [holdsC, under, CG.pure]
   repeat' with_reducible refine And.intro ?_ ?_
   all_goals (try with_reducible intros)
   all_goals (first | exact trivial | assumption | omega | exact h1 | (simp; done) | grind)
  refine sq (rgs [CG.pure (.tup [prs false (racesL u), .int 0])] rfl ?_ ?_)
  ·have h1 := racePairs_ac false u
   rw [e6] at h1
   simp only [holdsC, under, CG.pure]
   repeat' with_reducible refine And.intro ?_ ?_
   all_goals (try with_reducible intros)
   all_goals (first | exact trivial | assumption | omega | exact h1 | (simp; done) | grind)
  refine sq (rgs [CG.pure (.bool true), CG.pure (.bool true)] rfl ?_ ?_)
  ·have h1 := sameFs_ac false false (racesFs p t) (racesFs p t)
   rw [decide_eq_true rfl] at h1
   have h2 := speaks_ac ()
   simp only [holdsC, under, CG.pure]
   repeat' with_reducible refine And.intro ?_ ?_
   all_goals (try with_reducible intros)
   all_goals (first | exact trivial | assumption | omega | exact h1 | exact h2 | (simp; done) | grind)
  refine WP.ret ?_
  change Fin ..
  refine fin1 hT (by rfl) ?_
  rw [hfit, e8, e7]
  simp
end Go.Ab


/- What arguments read as; the program's facts for rows. -/
set_option autoImplicit false
set_option maxRecDepth 20000
set_option linter.unusedVariables false
namespace Go.Ab
open Go.Proofs Go.ChangeShapes Go.WideShapes Go.ChangeAt Go.RowKit
theorem tryOwn : ownKnob Tryz.prog.godebug = none := by kernel_rfl
theorem tryLaid : laidOutB Tryz.prog = true := by kernel_rfl
theorem uI64 : Tryz.prog.underlying 2 = some (.int .i64) := by kernel_rfl
theorem uInt : Tryz.prog.underlying 3 = some (.int .i64) := by kernel_rfl
theorem uBool : Tryz.prog.underlying 4 = some .bool := by kernel_rfl
theorem uOp : Tryz.prog.underlying 68 = some (.int .i64) := by kernel_rfl
theorem uInts : Tryz.prog.underlying 23 = some (.slice 3) := by kernel_rfl
theorem uEvts : Tryz.prog.underlying 27 = some (.slice 73) := by kernel_rfl
theorem uVars : Tryz.prog.underlying 22 = some (.slice 101) := by kernel_rfl
theorem uFuns : Tryz.prog.underlying 24 = some (.slice 166) := by kernel_rfl
theorem uInss : Tryz.prog.underlying 163 = some (.slice 162) := by kernel_rfl
theorem uSels : Tryz.prog.underlying 164 = some (.slice 221) := by kernel_rfl
theorem uCases : Tryz.prog.underlying 219 = some (.slice 223) := by kernel_rfl
def Rng (n : Int) : Prop := IntKind.i64.min ≤ n ∧ n ≤ IntKind.i64.max
theorem decInt : Dec Tryz.prog T tysN 3 (fun n : Int => .int n) Rng := Dec.int uInt rfl
theorem decI64 : Dec Tryz.prog T tysN 2 (fun n : Int => .int n) Rng := Dec.int uI64 rfl
theorem decOp : Dec Tryz.prog T tysN 68 (fun n : Int => .int n) Rng := Dec.int uOp rfl
theorem decBool : Dec Tryz.prog T tysN 4 (fun b : Bool => .bool b) (fun _ => True) := Dec.bool uBool rfl
theorem decTch : Dec Tryz.prog T tysN 70 encTch (fun _ => True) :=
  (Dec.struct (t := 70) hT (show (T 70).kind = .struct [3, 3, 4] from rfl) (DecL.cons decInt (DecL.cons decInt (DecL.cons decBool DecL.nil)))).map (fun x => ⟨x.1, x.2.1, x.2.2.1⟩) (fun _ => rfl) (fun _ _ => trivial)
theorem decTs : Dec Tryz.prog T tysN 71 encTs (fun _ => True) :=
  (Dec.array hT tch0 (show (T 71).kind = .array 6 70 from rfl) decTch).map (fun l => l) (fun _ => rfl) (fun _ _ => trivial)
theorem decEvt : Dec Tryz.prog T tysN 73 encE (fun e => Rng e.tag) :=
  (Dec.struct (t := 73) hT (show (T 73).kind = .struct [3, 3, 3, 68, 3, 2, 2, 71, 3] from rfl) (DecL.cons decInt (DecL.cons decInt (DecL.cons decInt (DecL.cons decOp (DecL.cons decInt (DecL.cons decI64 (DecL.cons decI64 (DecL.cons decTs (DecL.cons decInt DecL.nil)))))))))).map (fun x => ⟨x.1, x.2.1, x.2.2.1, x.2.2.2.1, x.2.2.2.2.1, x.2.2.2.2.2.1, x.2.2.2.2.2.2.1, x.2.2.2.2.2.2.2.1, x.2.2.2.2.2.2.2.2.1⟩) (fun _ => rfl) (fun x hx => hx.2.2.2.2.2.2.1)
theorem decInts : Dec Tryz.prog T tysN 23 (fun l : List Int => ints false l) (fun l => ∀ n ∈ l, Rng n) := (Dec.slice hT 0 uInts rfl (Nat.le_of_ble_eq_true rfl) decInt).map (fun l => l) (fun _ => rfl) (fun _ h => h)
theorem decVar : Dec Tryz.prog T tysN 101 encVar (fun v => Rng v.init) :=
  (Dec.struct (t := 101) hT (show (T 101).kind = .struct [4, 2] from rfl) (DecL.cons decBool (DecL.cons decI64 DecL.nil))).map (fun x => ⟨x.1, x.2.1⟩) (fun _ => rfl) (fun x hx => hx.2.1)
def rngIns (x : PIns) : Prop := Rng x.op ∧ Rng x.a ∧ Rng x.b ∧ Rng x.c ∧ Rng x.n
theorem decIns : Dec Tryz.prog T tysN 162 encIns rngIns :=
  (Dec.struct (t := 162) hT (show (T 162).kind = .struct [68, 3, 3, 3, 2] from rfl) (DecL.cons decOp (DecL.cons decInt (DecL.cons decInt (DecL.cons decInt (DecL.cons decI64 DecL.nil)))))).map (fun x => ⟨x.1, x.2.1, x.2.2.1, x.2.2.2.1, x.2.2.2.2.1⟩) (fun _ => rfl) (fun x hx => ⟨hx.1, hx.2.1, hx.2.2.1, hx.2.2.2.1, hx.2.2.2.2.1⟩)
def rngCase (x : PCase) : Prop := Rng x.chan ∧ Rng x.reg ∧ Rng x.to
theorem decCase : Dec Tryz.prog T tysN 223 encCase rngCase :=
  (Dec.struct (t := 223) hT (show (T 223).kind = .struct [4, 3, 3, 3] from rfl) (DecL.cons decBool (DecL.cons decInt (DecL.cons decInt (DecL.cons decInt DecL.nil))))).map (fun x => ⟨x.1, x.2.1, x.2.2.1, x.2.2.2.1⟩) (fun _ => rfl) (fun x hx => ⟨hx.2.1, hx.2.2.1, hx.2.2.2.1⟩)
def rngSel (x : PSel) : Prop := (∀ c ∈ x.cases, rngCase c) ∧ Rng x.els
theorem decSel : Dec Tryz.prog T tysN 221 encSel rngSel :=
  (Dec.struct (t := 221) hT (show (T 221).kind = .struct [219, 3] from rfl) (DecL.cons (Dec.slice hT case0 uCases rfl (Nat.le_of_ble_eq_true rfl) decCase) (DecL.cons decInt DecL.nil))).map (fun x => ⟨x.1, x.2.1⟩) (fun _ => rfl) (fun x hx => ⟨hx.1, hx.2.1⟩)
def rngFun (x : PFun) : Prop := Rng x.params ∧ Rng x.regs ∧ (∀ c ∈ x.code, rngIns c) ∧ ∀ s ∈ x.sels, rngSel s
theorem decFun : Dec Tryz.prog T tysN 166 encFun rngFun :=
  (Dec.struct (t := 166) hT (show (T 166).kind = .struct [3, 3, 163, 164] from rfl) (DecL.cons decInt (DecL.cons decInt (DecL.cons (Dec.slice hT ins0 uInss rfl (Nat.le_of_ble_eq_true rfl) decIns) (DecL.cons (Dec.slice hT sel0 uSels rfl (Nat.le_of_ble_eq_true rfl) decSel) DecL.nil))))).map (fun x => ⟨x.1, x.2.1, x.2.2.1, x.2.2.2.1⟩) (fun _ => rfl) (fun x hx => ⟨hx.1, hx.2.1, hx.2.2.1, hx.2.2.2.1⟩)
def rngProg (x : PProg) : Prop := (∀ v ∈ x.vars, Rng v.init) ∧ Rng x.locks ∧ (∀ c ∈ x.chans, Rng c) ∧ ∀ f ∈ x.funcs, rngFun f
theorem decProg : Dec Tryz.prog T tysN 26 encProg rngProg :=
  (Dec.struct (t := 26) hT (show (T 26).kind = .struct [22, 3, 23, 24] from rfl) (DecL.cons (Dec.slice hT var0 uVars rfl (Nat.le_of_ble_eq_true rfl) decVar) (DecL.cons decInt (DecL.cons decInts (DecL.cons (Dec.slice hT fun0 uFuns rfl (Nat.le_of_ble_eq_true rfl) decFun) DecL.nil))))).map (fun x => ⟨x.1, x.2.1, x.2.2.1, x.2.2.2.1⟩) (fun _ => rfl) (fun x hx => ⟨hx.1, hx.2.1, hx.2.2.1, hx.2.2.2.1⟩)
theorem arg_int {H : Type} {eh : TypeId × Value → H} {W : World} {base : Nat} {v : Value} {d : DataW H} {p : List MemPlace} (h : DataW.Trod eh Tryz.prog W 0 (fun _ => true) true 3 v d p) (hok : Value.okWide Tryz.prog W .any base 3 v) : ∃ n : Int, Rng n ∧ RepV T tysN (memI W) noPl (.int n) v := by
  obtain ⟨n, rfl, rfl, rfl, wn⟩ := open_int uInt hok h
  simp only [Lit.wf, Bool.and_eq_true, decide_eq_true_eq] at wn
  exact ⟨n, wn, .one ⟨[_], .v rfl, rfl⟩⟩
theorem arg_evts {H : Type} {eh : TypeId × Value → H} {W : World} {base : Nat} {v : Value} {d : DataW H} {p : List MemPlace} (h : DataW.Trod eh Tryz.prog W 0 (fun _ => true) true 27 v d p) (hok : Value.okWide Tryz.prog W .any base 27 v) : ∃ l : List Evt, (∀ e ∈ l, Rng e.tag) ∧ RepV T tysN (memI W) noPl (evts false l) v := by
  obtain ⟨fuel, h⟩ := h
  obtain ⟨l, hq, hl⟩ := dec_slice hT evt0 uEvts (Nat.le_of_ble_eq_true rfl) decEvt h hok
  exact ⟨l, hq, hl⟩
theorem arg_ints {H : Type} {eh : TypeId × Value → H} {W : World} {base : Nat} {v : Value} {d : DataW H} {p : List MemPlace} (h : DataW.Trod eh Tryz.prog W 0 (fun _ => true) true 23 v d p) (hok : Value.okWide Tryz.prog W .any base 23 v) : ∃ l : List Int, (∀ e ∈ l, Rng e) ∧ RepV T tysN (memI W) noPl (ints false l) v := by
  obtain ⟨fuel, h⟩ := h
  obtain ⟨l, hq, hl⟩ := dec_slice hT 0 uInts (Nat.le_of_ble_eq_true rfl) decInt h hok
  exact ⟨l, hq, hl⟩
theorem arg_prog {H : Type} {eh : TypeId × Value → H} {W : World} {base : Nat} {v : Value} {d : DataW H} {p : List MemPlace} (h : DataW.Trod eh Tryz.prog W 0 (fun _ => true) true 26 v d p) (hok : Value.okWide Tryz.prog W .any base 26 v) : ∃ x : PProg, rngProg x ∧ RepV T tysN (memI W) noPl (encProg x) v := by
  obtain ⟨fuel, h⟩ := h
  obtain ⟨x, hq, hl, _⟩ := decProg H eh W fuel _ d p h
  obtain ⟨cs, rfl⟩ := okWide_agg hT (show (T 26).kind = .struct [22, 3, 23, 24] from rfl) hok
  exact ⟨x, hq, .one ⟨(Value.agg cs).cells.toList, hl, by simp [packV, encProg, stru, Value.cells]⟩⟩
theorem reps1 {W : World} {a : AV} {v0 : Value} (h0 : RepV T tysN (memI W) noPl a v0) :
    ∀ (i : Nat) (x : AV) (v : Value), [a][i]? = some x → (#[v0] : Array Value).toList[i]? = some v → RepV T tysN (memI W) noPl x v := by
  intro i x v hx hv
  match i with
  | 0 => simp at hx hv; subst hx hv; exact h0
  | 1 => first | (simp at hx; done) | (simp at hx hv; subst hx hv; exact h1)
  | 2 => first | (simp at hx; done) | (simp at hx hv; subst hx hv; exact h2)
  | i + 3 => simp at hx
theorem reps2 {W : World} {a b : AV} {v0 v1 : Value} (h0 : RepV T tysN (memI W) noPl a v0) (h1 : RepV T tysN (memI W) noPl b v1) :
    ∀ (i : Nat) (x : AV) (v : Value), [a, b][i]? = some x → (#[v0, v1] : Array Value).toList[i]? = some v → RepV T tysN (memI W) noPl x v := by
  intro i x v hx hv
  match i with
  | 0 => simp at hx hv; subst hx hv; exact h0
  | 1 => first | (simp at hx; done) | (simp at hx hv; subst hx hv; exact h1)
  | 2 => first | (simp at hx; done) | (simp at hx hv; subst hx hv; exact h2)
  | i + 3 => simp at hx
theorem reps3 {W : World} {a b c : AV} {v0 v1 v2 : Value} (h0 : RepV T tysN (memI W) noPl a v0) (h1 : RepV T tysN (memI W) noPl b v1) (h2 : RepV T tysN (memI W) noPl c v2) :
    ∀ (i : Nat) (x : AV) (v : Value), [a, b, c][i]? = some x → (#[v0, v1, v2] : Array Value).toList[i]? = some v → RepV T tysN (memI W) noPl x v := by
  intro i x v hx hv
  match i with
  | 0 => simp at hx hv; subst hx hv; exact h0
  | 1 => first | (simp at hx; done) | (simp at hx hv; subst hx hv; exact h1)
  | 2 => first | (simp at hx; done) | (simp at hx hv; subst hx hv; exact h2)
  | i + 3 => simp at hx
end Go.Ab


/- RaceClass: the row. -/
set_option autoImplicit false
set_option maxRecDepth 20000
set_option linter.unusedVariables false
namespace Go.Proofs.YtkdnjnbocjpmfaaGreat
open Go.Ab Go.ChangeShapes Go.WideShapes Go.ChangeAt Go.RowKit
set_option maxRecDepth 100000 in
theorem raceClass_lifted (os : Os) (started : os.Started) (H : Type) (enc : TypeId × Value → H) :
    ReturnsInHanded {} Tryz.checked os 6 .any (Rows.raceClassSpec.pre6 enc Tryz.prog Tryz.f6 Rows.raceClassRow.domain false) (Rows.raceClassSpec.post enc Tryz.prog Tryz.f6 false true false false) := by
  refine returnsInHanded_of_change_sized (C := Tryz.checked) tryOwn started (by kernel_rfl) Tryz.func6
    (ChangeSpec.witness6 (enc := enc) (C := Tryz.checked) false ⟨#[], #[.agg #[.slice none 0 0, .int .i64 0, .slice none 0 0, .slice none 0 0], .slice none 0 0], []⟩ 8 (by kernel_rfl) (by kernel_rfl) (by kernel_rfl) (by kernel_rfl)) ?_
  intro W base args ds gs before hval0 hW _ hz _
  have hval : ∀ (j : Nat) t v, Tryz.f6.params[j]? = some t → args[j]? = some v → Value.okWide Tryz.prog W .any base t v := hval0
  have hW' : DataW.Whole enc Tryz.prog Tryz.f6.params.toList Rows.raceClassSpec.vars false W args.toList ds gs before := hW
  obtain ⟨p, q, hA0, hV, _, _, _⟩ := hW
  have hA : DataW.TrodAll enc Tryz.prog W 0 (fun _ => true) true Tryz.f6.params.toList args.toList ds p := hA0
  rw [Tryz.params6] at hA hval
  obtain ⟨v0, v1, d0, d1, p0, p1, rfl, rfl, rfl, h0, h1⟩ := trodAll_two hA
  obtain ⟨a0, q0, r0⟩ := arg_prog h0 (hval 0 26 v0 rfl rfl)
  obtain ⟨a1, q1, r1⟩ := arg_evts h1 (hval 1 27 v1 rfl rfl)
  exact law_calls (tb := 4) tryLaid (by kernel_rfl) (by rfl) uBool rfl (fun ds hd => by match ds, hd with | [x0, x1], _ => rfl) hW' (raceClassLaw_ac false a0 a1) rfl (reps2 r0 r1)
theorem raceClass_holds : Rows.RaceClassSaid :=
  OpenClaim.holds_of_wide 6 Tryz.f6 rfl rfl rfl rfl rfl rfl rfl ⟨rfl, rfl, rfl, rfl, rfl⟩ rfl rfl rfl rfl rfl (by kernel_rfl) Tryz.func6 (by kernel_rfl)
    (of_decide_eq_true (by kernel_rfl)) (by unfold Func.isWrapper; first | (rw [if_pos (by decide +kernel)]; kernel_rfl) | (rw [if_neg (by decide +kernel)]; exact ⟨rfl, rfl⟩))
    (fun os started H enc _ => raceClass_lifted os started H enc)
end Go.Proofs.YtkdnjnbocjpmfaaGreat

