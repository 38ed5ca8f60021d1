/- Part 20 of a proof of a statement about the given program: an abstract machine over the model, proved sound, and contracts of the functions that the statement reaches; the last part proves the statement, for every input, with no condition. -/
import Derived.Test.YtkdnjnbocjpmfaaGreatX17
import Derived.Test.YtkdnjnbocjpmfaaGreatX15
import Derived.Test.YtkdnjnbocjpmfaaGreatX18
import Derived.Shelf.Slices.In.SortNone
import Derived.Test.YtkdnjnbocjpmfaaGreatX13
import Derived.Test.YtkdnjnbocjpmfaaGreatRows
set_option linter.unusedSimpArgs false
set_option linter.unusedVariables false
/- slices.Sort at ints: out of the library's contract. -/
set_option autoImplicit false
set_option linter.unusedSimpArgs false
set_option linter.unusedVariables false
namespace Go.Ab
open Go.Proofs Go.Sort
def sortI (l : List Int) : List Int := l.mergeSort fun x y => decide (x ≤ y)
theorem sort_len (l : List Int) : (sortI l).length = l.length := List.length_mergeSort l
theorem sort_calls (blk off cap : Nat) (zs : List Int) (w : World) (hH : Holds (Value.int .i64) w blk off zs.toArray) (hblk : blk < w.heap.size) (hsz : zs.length < 4611686018427387904) :
    Calls Tryz.prog 126 #[.slice (some ⟨blk, off, none⟩) zs.length cap] w fun e w' =>
      e = .returned (.tuple #[]) ∧ ∃ n os, w' = grow (putRow (Value.int .i64) (Sort.ahead w n) blk off (sortI zs).toArray) os :=
  Any.slices_Sort_int Tryz.laysSort blk off cap zs w hH hblk hsz
theorem sort_none (p : Option Addr) (cap : Nat) (w : World) : Calls Tryz.prog 126 #[.slice p 0 cap] w fun e w' => e = .returned (.tuple #[]) ∧ w' = w :=
  Any.slices_Sort_int_none Tryz.laysSort p cap w
theorem heap_put {α : Type} [Inhabited α] (enc : α → Value) (w : World) (n blk off : Nat) (d : Array α) (os : Array Obj) {r : Nat} (hr : r < w.heap.size) :
    (grow (putRow enc (Sort.ahead w n) blk off d) os).heap[r]? = if blk = r then (w.heap[r]?).map (onCells (putCells enc off d)) else w.heap[r]? := by
  have h1 : r < (putRow enc (Sort.ahead w n) blk off d).heap.size := by simpa [putRow, mapBlock, Sort.ahead] using hr
  rw [heap_grow_old _ _ h1]
  simp only [putRow, mapBlock, Sort.ahead, Array.getElem?_modify]
theorem sort_ac (l : List Int) (hl62 : l.length < 4611686018427387904) : AC Tryz.prog T tysN 126 [.own (.b 0) l.length 0 l.length none] [cellsI 3 .i64 l] (.tup []) [cellsI 3 .i64 (sortI l)] := by
  refine ⟨⟨_, Tryz.func126, rfl, rfl⟩, fun I ρ w vs hvl hvs hw => ?_⟩
  obtain ⟨v, rfl⟩ : ∃ v, vs = [v] := by
    match vs, hvl with
    | [v], _ => exact ⟨v, rfl⟩
  have hv := (hvs 0 _ v rfl rfl).rep1 (fun _ => by simp)
  have hm : ofB [cellsI 3 .i64 l] (.b 0) = some (cellsI 3 .i64 l) := rfl
  have hset : ofB [cellsI 3 .i64 (sortI l)] = setM (ofB [cellsI 3 .i64 l]) (.b 0) (cellsI 3 .i64 (sortI l)) := by
    funext a
    by_cases ha : a = .b 0
    · subst ha; rw [setM_self]; rfl
    · rw [setM_ne _ _ ha]
      cases a with
      | s _ _ => rfl
      | b j =>
        cases j with
        | zero => exact absurd rfl ha
        | succ j => rfl
  rcases Rep.own_inv hv with ⟨rfl, h0, _, _⟩ | ⟨q, hq, hqn, hx⟩
  · obtain rfl : l = [] := List.eq_nil_of_length_eq_zero h0
    refine (sort_none none 0 w).mono ?_
    rintro e w' ⟨rfl, rfl⟩
    exact ⟨_, I, ρ, rfl, Ev.refl _ _ _, .tup _ rfl (fun i c hi => by simp at hi), by rw [show sortI [] = [] by simp [sortI]]; exact hw⟩
  · obtain ⟨q', cs, c1, c2, c3, c4, c5, c6, c7, c8, c9, c10⟩ := hw.cellsAt hm hq
    rw [hq] at c1; cases c1
    obtain ⟨c, rfl, g1, g2, g3, g4, g5, g6⟩ := hx c3
    have hsz3 : (T 3).size = 1 := rfl
    simp only [cellsI, hsz3, Nat.mul_one] at c7 c8
    have hqt : (T q.ty).size = 1 := by rw [c2]; rfl
    have hcell : ∀ j, j < l.length → cs[j]? = some (.int .i64 (l.getD j 0)) := by
      intro j hj
      obtain ⟨seg, e1, e2, e3, e4⟩ := c8 j hj
      have := e4 0 (by omega)
      cases e1
      simpa using this
    have hlt := hw.place_lt hq
    have hH : Holds (Value.int .i64) w q.b 0 l.toArray := by
      intro j hj
      have hj' : j < l.length := by simpa using hj
      refine ⟨?_, ?_⟩
      · simp only [World.cell?, c5, Nat.zero_add]
        simp [hcell j hj', hj']
      · simp [World.frozen?, c5]
    have hcall := sort_calls q.b 0 c l w hH hlt (by omega)
    simp only [Nat.zero_mul]
    refine hcall.mono ?_
    rintro e w' ⟨rfl, n, os, rfl⟩
    have hput := fun r hr => heap_put (Value.int .i64) w n q.b 0 (sortI l).toArray os (r := r) hr
    have hcs' : ∀ j, (putCells (Value.int .i64) 0 (sortI l).toArray cs)[j]? = if j < l.length then some (.int .i64 ((sortI l).getD j 0)) else cs[j]? := by
      intro j
      simp only [putCells, Array.getElem?_mapIdx, Nat.zero_add, Nat.zero_le, true_and, List.size_toArray, sort_len, Nat.sub_zero]
      split
      · rename_i hj
        rw [hcell j hj]
        simp [sort_len, hj]
      · cases cs[j]? <;> rfl
    have hsw := seg_world (len := l.length) (i := 0) (h := fun j => .int ((sortI l).getD j 0)) (cs' := putCells (Value.int .i64) 0 (sortI l).toArray cs) (w' := grow (putRow (Value.int .i64) (Sort.ahead w n) q.b 0 (sortI l).toArray) os) hT hw hm hq (by simp) (Nat.zero_le _) c5 (by simp [putCells])
      (by rw [hput _ hlt, if_pos rfl, c5]; rfl) (fun b hb hne => by rw [hput _ hb, if_neg (Ne.symm hne)]) (by simp [putRow, mapBlock, Sort.ahead]) rfl rfl ⟨rfl, by simp [putRow, mapBlock, Sort.ahead, grow]⟩
      (fun j hj => ⟨[.int .i64 ((sortI l).getD j 0)], .v rfl, rfl, rfl, fun o ho => by
        have ho' : o = 0 := by
          have : (T 3).size = 1 := rfl
          change o < (T 3).size at ho
          omega
        subst ho'
        show (putCells (Value.int .i64) 0 (sortI l).toArray cs)[(0 + j) * 1 + 0]? = _
        rw [hcs', if_pos (by omega)]
        simp⟩)
      (fun k hk => by
        have : (T 3).size = 1 := rfl
        change k < 0 * (T 3).size ∨ (0 + l.length) * (T 3).size ≤ k at hk
        rw [this] at hk
        rw [hcs', if_neg (by omega)])
    refine ⟨_, I, ρ, rfl, hsw.1, .tup _ rfl (fun i c hi => by simp at hi), ?_⟩
    rw [hset]
    have e2 : (Ob.cells { ty := 3, n := l.length, get := fun j => bif Nat.ble 0 j && Nat.blt j (0 + l.length) then .int ((sortI l).getD (j - 0) 0) else .int (l.getD j 0), fz := 0 } : Ob) = cellsI 3 .i64 (sortI l) := by
      simp only [cellsI, Ob.cells.injEq, Blk.mk.injEq, sort_len, true_and, and_true]
      funext j
      by_cases hj : j < l.length
      · have e : (Nat.ble 0 j && Nat.blt j (0 + l.length)) = true := by rw [Bool.and_eq_true]; exact ⟨by simp, by rw [Nat.blt_eq]; omega⟩
        rw [e]
        rfl
      · have e : (Nat.ble 0 j && Nat.blt j (0 + l.length)) = false := by
          cases hb : (Nat.ble 0 j && Nat.blt j (0 + l.length)) with
          | false => rfl
          | true => rw [Bool.and_eq_true, Nat.blt_eq] at hb; omega
        rw [e]
        simp [sort_len, show l.length ≤ j by omega]
    have := hsw.2
    rw [show ({ty := 3, n := l.length, get := fun i => AV.v (Value.int .i64 (l.getD i 0)), fz := 0} : Blk).n = l.length from rfl] at this
    refine Eq.mp ?_ this
    exact congrArg (fun o => WRep T tysN I ρ (setM (ofB [cellsI 3 .i64 l]) (.b 0) o) _) e2
end Go.Ab


/- slices.Values, slices.Sorted; slices.Contains; slices.Concat. -/
set_option autoImplicit false
set_option maxRecDepth 20000
set_option maxHeartbeats 4000000
set_option linter.unusedSimpArgs false
set_option linter.unusedVariables false
namespace Go.Ab
open Go.Proofs Go.Sort
def encX (L : List Int) (x : {i : Nat // i < L.length}) : Array Value := #[.int .i64 (L.getD x.1 0)]
def tsV (l : Nat) (f : Bool) (L : List Int) (k : Nat) : List (Nat × AV) := [(0, .v (.func (.yield l) #[] #[])), (5, ints f L), (6, .int L.length), (7, .int k)]
def tsW (l : Nat) (f : Bool) (L : List Int) (k : Nat) (b : Bool) : List (Nat × AV) := [(0, .v (.func (.yield l) #[] #[])), (5, ints f L), (6, .int L.length), (7, .int k), (8, .bool b)]
def tsX (l : Nat) (f : Bool) (L : List Int) (k : Nat) : List (Nat × AV) := [(0, .v (.func (.yield l) #[] #[])), (4, .int (L.getD k 0)), (5, ints f L), (6, .int L.length), (7, .int k)]
theorem valsIt (f : Bool) (L : List Int) (hL : L.length ≤ 1000000) : IterC Tryz.prog T tysN 127 [.rp 23 (ints f L)] (encX L) (fun xs => xs.map (·.1) = List.range L.length) L.length := by
  refine ⟨enters_of Tryz.func127 rfl rfl, fun I lb hlb hcl l J Y0 W himm hY hr hJ0 => ?_⟩
  obtain ⟨v1, rfl⟩ : ∃ v1, lb = #[v1] := by
    obtain ⟨M⟩ := lb
    match M, hlb with
    | [x], _ => exact ⟨x, rfl⟩
  have hc1 := hcl 0 _ rfl
  simp only [List.getD_eq_getElem?_getD, Array.getD_eq_getD_getElem?] at hc1
  have hr' : Rounds Tryz.prog l L.length (encX L) J I := hr
  refine (callsIn_wide (n := 0)).1 (callsIn_of_wp Tryz.func127 rfl trivial ?_)
  have hst := ItS.start (fn := Tryz.f127) (T := T) (N := tysN) (args := [.v (.func (.yield l) #[] #[]), .rp 23 (ints f L)]) (vs := [.func (.yield l) #[] #[], v1]) hJ0 himm rfl (Nat.le_of_ble_eq_true rfl) (fun i x v hx hv => by
    match i with
    | 0 => simp at hx hv; subst hx hv; exact yield_rep
    | 1 => simp at hx hv; subst hx hv; exact .one (by simpa using hc1)
    | i + 2 => simp at hx)
  refine wpIn_seq ?_
  refine ItS.step hY hst (t' := (mkSt (tsV l f L 0) []).t) (WP.reg hT hE [] rfl trivial ⟨rfl, Ent.mk (ts := tsV l f L 0) (ms := []) hT [] trivial ⟨⟨rfl, _, rfl, conv_eq rfl⟩, ⟨rfl, _, rfl, conv_eq rfl⟩, ⟨rfl, _, rfl, conv_eq rfl⟩, ⟨rfl, _, rfl, conv_eq rfl⟩, trivial⟩ trivial rfl⟩) (fun a1 W1 hi1 => ?_)
  refine wpIn_block ?_
  refine wpIn_loop (fun a w => ∃ d pre, d ≤ L.length ∧ pre.map (·.1) = List.range d ∧ ItS T tysN _ J I pre (mkSt (tsV l f L d) []).t a w) (fun a w => match a.tmps.getD 7 undef with | .int _ n => (L.length - n).toNat | _ => 0) ⟨0, [], Nat.zero_le _, rfl, hi1⟩ ?_
  rintro a W ⟨d, pre, hd, hpre, hi⟩
  refine wpIn_seq ?_
  refine ItS.step hY hi (t' := (mkSt (tsW l f L d (decide ((d : Int) < L.length))) []).t) (WP.reg hT hE [] rfl trivial ⟨rfl, Ent.mk (ts := tsW l f L d (decide ((d : Int) < L.length))) (ms := []) hT [] trivial ⟨⟨rfl, _, rfl, conv_eq rfl⟩, ⟨rfl, _, rfl, conv_eq rfl⟩, ⟨rfl, _, rfl, conv_eq rfl⟩, ⟨rfl, _, rfl, conv_eq rfl⟩, ⟨rfl, _, rfl, conv_eq rfl⟩, trivial⟩ trivial rfl⟩) (fun a2 W2 hi2 => ?_)
  refine wpIn_seq ?_
  refine ItS.cond hi2 (by rfl) (fun hb => ?_) (fun hb => ?_)
  · have hdl : d < L.length := by simp at hb; omega
    have hm0 : (match a.tmps.getD 7 undef with | .int _ n => (L.length - n).toNat | _ => 0) = L.length - d := by
      rw [hi.val (k := 7) rfl]
      simp only; omega
    refine wpIn_skip ?_
    refine wpIn_seq (wpIn_block (wpIn_seq ?_))
    refine ItS.step hY hi2 (t' := (mkSt (tsX l f L d) []).t) (WP.reg hT hE [] rfl (by simp [holdsC, under]; omega) ⟨rfl, Ent.mk (ts := tsX l f L d) (ms := []) hT [] trivial ⟨⟨rfl, _, rfl, conv_eq rfl⟩, ⟨rfl, _, rfl, conv_eq rfl⟩, ⟨rfl, _, rfl, conv_eq rfl⟩, ⟨rfl, _, rfl, conv_eq rfl⟩, ⟨rfl, _, rfl, conv_eq rfl⟩, trivial⟩ trivial rfl⟩) (fun a3 W3 hi3 => ?_)
    refine wpIn_seq ?_
    refine wpIn_region_list (wpList_split 2 _ rfl ?_)
    refine ItS.begins hT hE hY [] hi3 rfl ?_ (fun a4 W4 hi4 => ?_)
    · trivial
    refine ItS.yield (d := 13) (l := l) (M := L.length) (x := ⟨d, hdl⟩) (G := .always) (G1 := .always) (G2 := .always) (xv := .int .i64 (L.getD d 0)) hY hr' hi4 rfl rfl rfl rfl (Nat.le_of_ble_eq_true rfl) rfl rfl (fun h => h) rfl (fun h => h) (fun _ => rfl) (fun _ => ?_) (fun hG a5 W5 hi5 => ?_) (fun hG => absurd trivial hG)
    · have : pre.length = d := by rw [← List.length_map (f := (·.1)), hpre, List.length_range]
      omega
    · refine ItS.ends hT hE hY [] hi5 rfl ?_ (fun a6 W6 hi6 => ?_)
      · trivial
      refine ItS.cond hi6 (by rfl) (fun hc => absurd hc (by decide)) (fun _ => ?_)
      refine wpIn_skip ?_
      refine ItS.step hY hi6 (t' := (mkSt (tsV l f L (d + 1)) []).t) (WP.reg hT hE [] rfl trivial ⟨rfl, Ent.mk (ts := tsV l f L (d + 1)) (ms := []) hT [] trivial ⟨⟨rfl, _, rfl, conv_eq rfl⟩, ⟨rfl, _, rfl, conv_eq rfl⟩, ⟨rfl, _, rfl, conv_eq rfl⟩, ⟨rfl, _, rfl, conv_eq (by rw [wrap_id (by omega) (by omega)]; rfl)⟩, trivial⟩ trivial rfl⟩) (fun a7 W7 hi7 => ?_)
      refine ⟨⟨d + 1, _, hdl, ?_, hi7⟩, ?_⟩
      · rw [List.map_append, hpre, List.range_succ]; rfl
      · simp only [hm0]
        rw [hi7.val (k := 7) rfl]
        simp only; omega
  · have hdl : d = L.length := by simp at hb; omega
    subst hdl
    refine wpIn_exit ?_
    exact ItS.fin hi2 hpre rfl
theorem values_ac (f : Bool) (L : List Int) : AC Tryz.prog T tysN 80 [ints f L] [] (.clo 127 [.rp 23 (ints f L)]) [] := by
 refine AC_intro hT Tryz.func80 rfl rfl (Nat.le_of_ble_eq_true rfl) ?_
 refine sq (rg [] rfl ?_)
 refine sq (rg [] rfl ?_)
 refine WP.ret ?_
 change Fin ..
 refine fin_mk hT [(.s 1 0, 1)] (ts := [(2, .clo 127 [.rp 23 (ints f L)])]) (l := [.clo 127 [.rp 23 (ints f L)]]) ⟨⟨_, rfl, Nat.le_refl _⟩, trivial⟩ ⟨⟨rfl, _, rfl, ?_⟩, trivial⟩ trivial rfl rfl rfl
 exact ⟨_, rfl, _, _, rfl, conv_rpe rfl rfl (by decide) rfl rfl rfl, rfl⟩
theorem vals_map (L : List Int) (xs : List {i : Nat // i < L.length}) (h : xs.map (·.1) = List.range L.length) : xs.map (fun x => L.getD x.1 0) = L := by
  have e : xs.map (fun x => L.getD x.1 0) = (xs.map (·.1)).map (fun i => L.getD i 0) := by rw [List.map_map]; rfl
  rw [e, h]
  refine List.ext_getElem (by simp) (fun i h1 h2 => ?_)
  simp [List.getD_eq_getElem?_getD, h2]
theorem sorted_ac (f : Bool) (L : List Int) (hL : L.length ≤ 1000000) : AC Tryz.prog T tysN 79 [.clo 127 [.rp 23 (ints f L)]] [] (ownI (sortI L)) [cellsI 3 .i64 (sortI L)] := by
 refine AC_intro hT Tryz.func79 rfl rfl (Nat.le_of_ble_eq_true rfl) ?_
 refine sq (rg [] rfl ?_)
 refine sq (rgs [⟨true, [], ownI L, [cellsI 3 .i64 L]⟩] rfl ?_ ?_)
 ·have h1 := collect1_ac 127 23 (ints f L) (fun x => L.getD x.1 0) (fun xs => xs.map (·.1) = List.range L.length) L.length L (valsIt f L hL) hL (fun xs h => vals_map L xs h)
  have h2 : okOs (bs 1) [cellsI 3 .i64 L] := ⟨fun _ _ => rfl, trivial⟩
  simp only [holdsC, under, CG.pure]
  repeat' with_reducible refine And.intro ?_ ?_
  all_goals (try with_reducible intros)
  all_goals (first | exact trivial | assumption | omega | exact h1 | exact h2 | (simp; done) | grind)
 refine sq (rgs [⟨true, [.s 5 1], .tup [], [cellsI 3 .i64 (sortI L)]⟩] rfl ?_ ?_)
 ·have h1 := sort_ac L (by omega)
  have h2 : okOs (bs 1) [cellsI 3 .i64 (sortI L)] := ⟨fun _ _ => rfl, trivial⟩
  have h3 : okOs [.s 5 1] [cellsI 3 .i64 L] := ⟨fun _ _ => rfl, trivial⟩
  simp only [holdsC, under, CG.pure]
  repeat' with_reducible refine And.intro ?_ ?_
  all_goals (try with_reducible intros)
  all_goals (first | exact trivial | assumption | omega | exact h1 | exact h2 | exact h3 | (simp; done) | grind)
 refine sq (rg [] rfl ?_)
 refine WP.ret ?_
 change Fin ..
 have hl := sort_len L
 refine fin_toB hT [] [.s 5 1] (ts := [(2, ownI (sortI L))]) (l := [ownI (sortI L)]) trivial rfl ⟨⟨_, .own (.s 5 1) (sortI L).length 0 (sortI L).length none, rfl, conv_eq (by rw [hl]; rfl), rfl, rfl⟩, trivial⟩ ⟨.inl ⟨_, cellsI 3 .i64 (sortI L), rfl, ?_, fun _ _ => rfl, rfl⟩, trivial⟩ rfl rfl
 exact ⟨_, _, rfl, Nat.le_refl _, Nat.zero_le _, Nat.zero_le _, fun i hi => conv_eq rfl⟩
def idxI (L : List Int) (x : Int) : Int := if x ∈ L then (L.findIdx (· == x) : Nat) else -1
theorem idxI_at {L : List Int} {x : Int} {i : Nat} (hi : i < L.length) (h : L.getD i 0 = x) (hn : ∀ j, j < i → L.getD j 0 ≠ x) : (i : Int) = idxI L x := by
  have hm : x ∈ L := by rw [← h]; simp [List.getD_eq_getElem?_getD, hi]
  rw [idxI, if_pos hm]
  congr 1
  symm
  rw [List.findIdx_eq hi]
  refine ⟨by simpa [List.getD_eq_getElem?_getD, hi] using h, fun j hj => ?_⟩
  have hj' : j < L.length := by omega
  have := hn j hj
  simpa [List.getD_eq_getElem?_getD, hj'] using this
theorem idxI_no {L : List Int} {x : Int} (hn : ∀ j, j < L.length → L.getD j 0 ≠ x) : -1 = idxI L x := by
  rw [idxI, if_neg]
  intro hm
  obtain ⟨j, hj, e⟩ := List.getElem_of_mem hm
  exact hn j hj (by simpa [List.getD_eq_getElem?_getD, hj] using e)
theorem index_ac (f : Bool) (L : List Int) (x : Int) : AC Tryz.prog T tysN 130 [ints f L, .int x] [] (.int (idxI L x)) [] := by
 refine AC_intro hT Tryz.func130 rfl rfl (Nat.le_of_ble_eq_true rfl) ?_
 refine WP.rowlen 0 rfl (fun hla => ?_)
 refine sq (rg [] rfl ?_)
 refine sq (sq (rg [] rfl ?_))
 refine bk ?_
 refine WP.loop (α := Nat) (fun i => mkSt [(0, ints f L), (1, .int x), (7, .int L.length), (8, .int i)] []) (fun i => i ≤ L.length ∧ ∀ j, j < i → L.getD j 0 ≠ x) (fun i => L.length - i) ?_ ?_
 ·refine ⟨0, ?_, ?_⟩
  ·exact ⟨Nat.zero_le _, fun j hj => by omega⟩
  ·refine em [] trivial ⟨⟨rfl, _, rfl, cvt⟩, ⟨rfl, _, rfl, cvt⟩, ⟨rfl, _, rfl, cvt⟩, ⟨rfl, _, rfl, cvt⟩, trivial⟩ trivial
 ·rintro i ⟨hi, hn⟩
  refine sq (rg [] rfl ?_)
  refine sq ?_
  refine cd rfl (fun h2 => ?_) (fun h2 => ?_)
  ·have hil : i < L.length := by simpa using h2
   refine sk (sq (bk (sq (rg [] rfl ?_))))
   refine sq (rg [] rfl ?_)
   refine cd rfl (fun h4 => ?_) (fun h4 => ?_)
   ·have he : L.getD i 0 = x := by
      have e : (x == L.getD i 0) = true := h4
      simp at e; exact e.symm
    refine sq (rg [] rfl ?_)
    refine WP.ret ?_
    change Fin ..
    exact finI hT (by rfl) (idxI_at hil he hn)
   ·have he : L.getD i 0 ≠ x := by
      have e : (x == L.getD i 0) = false := h4
      simp at e; exact fun h => e h.symm
    refine sk (rg [] rfl ?_)
    refine ⟨i + 1, ?_, ?_, ?_⟩
    ·exact ⟨hil, all_succ (Q := fun j => L.getD j 0 ≠ x) hn he⟩
    ·refine em [] trivial ⟨⟨rfl, _, rfl, cvt⟩, ⟨rfl, _, rfl, cvt⟩, ⟨rfl, _, rfl, cvt⟩, ⟨rfl, _, rfl, cvt⟩, trivial⟩ trivial
    ·(try simp only []); first | omega | grind
  ·have hil : i = L.length := by simp at h2; omega
   subst hil
   refine xt (sq (rg [] rfl ?_))
   refine WP.ret ?_
   change Fin ..
   exact finI hT (by rfl) (idxI_no hn)
theorem contains_ac (f : Bool) (L : List Int) (x : Int) : AC Tryz.prog T tysN 86 [ints f L, .int x] [] (.bool (decide (x ∈ L))) [] := by
 refine AC_intro hT Tryz.func86 rfl rfl (Nat.le_of_ble_eq_true rfl) ?_
 refine sq (rg [] rfl ?_)
 refine sq (rgs [CG.pure (.int (idxI L x))] rfl ?_ ?_)
 ·have h1 := index_ac f L x
  simp only [holdsC, under, CG.pure]
  repeat' with_reducible refine And.intro ?_ ?_
  all_goals (try with_reducible intros)
  all_goals (first | exact trivial | assumption | omega | exact h1 | (simp; done) | grind)
 refine WP.ret ?_
 change Fin ..
 refine fin1 hT (by rfl) ?_
 apply decide_eq_decide.2
 rw [idxI]
 split
 · rename_i h; exact ⟨fun _ => h, fun _ => by omega⟩
 · rename_i h; exact ⟨fun h2 => by omega, fun h2 => absurd h2 h⟩
theorem grow_ac (n : Nat) (hn : n ≤ 1000000) : AC Tryz.prog T tysN 128 [.nils, .int n] [] (.own (.b 0) 0 0 0 none) [cellsI 3 .i64 []] := by
  refine ⟨⟨_, Tryz.func128, rfl, rfl⟩, fun I ρ w vs hvl hvs hw => ?_⟩
  obtain ⟨v, u, rfl⟩ : ∃ v u, vs = [v, u] := by
    match vs, hvl with
    | [v, u], _ => exact ⟨v, u, rfl⟩
  have hv := (hvs 0 _ v rfl rfl).v
  have hu := (hvs 1 _ u rfl rfl).v
  obtain ⟨rfl, _⟩ := hv
  obtain ⟨rfl, _⟩ := hu
  rcases Nat.eq_zero_or_pos n with h0 | h0
  · subst h0
    refine (Any8.slices_Grow_room Tryz.layGrow none 0 0 0 w (Nat.le_refl _) (by omega) (by omega) (Nat.le_refl _)).mono ?_
    rintro e w' ⟨rfl, rfl⟩
    refine ⟨_, I, ρ, rfl, Ev.refl _ _ _, .one ⟨_, .own0, rfl⟩, ?_⟩
    have hnp : ρ (.b 0) = none := hw.none_place rfl
    refine ⟨fun id B hB => ?_, fun id es h => ?_, fun id p hp => ?_, hw.inj, hw.imm⟩
    · cases id with
      | b j =>
        cases j with
        | zero => cases hB; exact .inl ⟨hnp, rfl, rfl, by decide⟩
        | succ j => cases hB
      | s _ _ => cases hB
    · cases id with
      | b j =>
        cases j with
        | zero => cases h
        | succ j => cases h
      | s _ _ => cases h
    · rw [hw.none_place (by cases id with | b j => rfl | s _ _ => rfl)] at hp
      cases hp
  · obtain ⟨i0, z, hi0, hz0, hfz, hrz⟩ := hT.zero 3 (by decide) rfl
    obtain ⟨i1, hi1, hs1, hb1⟩ := hT.info 3 (by decide)
    rw [hi0] at hi1; cases hi1
    have hs : i0.size = 1 := hs1
    have hb : i0.bytes = 8 := hb1
    refine (Any8.slices_Grow_grow Tryz.layGrow i0 z hi0 hz0 (by omega) none 0 0 n [] w (Nat.le_refl _) (by omega) (by rw [hb]; omega) (by omega) (by simp) (fun _ => rfl) (fun a h => by cases h)).mono ?_
    rintro e w' ⟨rfl, rfl⟩
    generalize hG : grownCap w (0 + n) 0 (Tryz.layGrow_ren.t 25) = G
    generalize hcs : (([] : List Value).toArray ++ Builtin.zeroCells z.cells (0 + n - 0) ++ Builtin.zeroCells z.cells (G - (0 + n))) = cs
    have hG1 : 0 + n ≤ G := by rw [← hG]; exact grownCap_ge w _ _ _
    have hG2 : G ≤ maxLen := by rw [← hG]; exact grownCap_le_maxLen w _ _ _ (by unfold maxLen; omega)
    have hz1 : z.cells.size = 1 := by
      have h1 : ∀ cs, Rep T tysN I ρ (.v (.int .i64 0)) cs → cs.length = 1 := fun cs h => by cases h; rfl
      simpa using h1 _ (hrz I ρ)
    have hsz : cs.size = G := by
      rw [← hcs]
      simp [Builtin.zeroCells, hz1]
      omega
    have hnp : ρ (.b 0) = none := hw.none_place rfl
    have hfr := WRep.fresh (w' := w.drew.alloc (.cells cs 3)) (id := .b 0) (B := ⟨3, 0, fun i => .int (([] : List Int).getD i 0), 0⟩) (b := w.heap.size) (cs := cs) hw hnp (Nat.le_refl _) (fun r hr => heap_alloc_lt w.drew _ hr) (heap_alloc_self w.drew _) (by decide) (by simp) rfl (fun i hi => by simp at hi)
    refine ⟨_, I, setP ρ (.b 0) ⟨w.heap.size, 3, 0, cs.size⟩, rfl, ?_, .one ⟨[_], .own _ (setP_self _ _ _) (Nat.le_refl 0) rfl (fun _ => ⟨G, rfl, Nat.zero_le _, by unfold maxLen at hG2; omega, Nat.le_refl _, ?_, fun _ => ?_, fun k hk => by cases hk⟩), rfl⟩, ?_⟩
    · exact Ev.fresh hnp (Nat.le_refl _) (fun r hr => heap_alloc_lt w.drew _ hr) (by show w.heap.size ≤ (w.heap.push _).size; rw [Array.size_push]; exact Nat.le_succ _) rfl rfl ⟨rfl, Nat.le_succ _⟩
    · show (0 + G) * 1 ≤ cs.size; omega
    · show (0 + G) * 1 = cs.size; omega
    · have e : setM (ofB []) (.b 0) (.cells ⟨3, 0, fun i => .int (([] : List Int).getD i 0), 0⟩) = ofB [cellsI 3 .i64 []] := by
        funext a
        by_cases ha : a = .b 0
        · subst ha; rw [setM_self]; rfl
        · rw [setM_ne _ _ ha]
          cases a with
          | s _ _ => rfl
          | b j =>
            cases j with
            | zero => exact absurd rfl ha
            | succ j => rfl
      rw [← e]
      exact hfr.2
end Go.Ab


/- slices.Concat. -/
set_option autoImplicit false
set_option maxRecDepth 20000
set_option maxHeartbeats 4000000
set_option linter.unusedSimpArgs false
set_option linter.unusedVariables false
namespace Go.Ab
open Go.Proofs Go.Sort
def flTo (LL : List (List Int)) (i : Nat) : List Int := (LL.take i).flatten
theorem flTo_succ {LL : List (List Int)} {i : Nat} (h : i < LL.length) : flTo LL (i + 1) = flTo LL i ++ LL.getD i [] := by
  rw [flTo, List.take_add_one, List.getElem?_eq_getElem h, List.flatten_append]
  simp [flTo, List.getD_eq_getElem?_getD, h]
theorem flTo_le {LL : List (List Int)} : ∀ {i j : Nat}, i ≤ j → j ≤ LL.length → (flTo LL i).length ≤ (flTo LL j).length := by
  intro i j h hj
  induction j with
  | zero => rw [show i = 0 by omega]; exact Nat.le_refl _
  | succ j ih =>
    rcases Nat.lt_or_ge i (j + 1) with h1 | h1
    · have := ih (by omega) (by omega)
      rw [flTo_succ (by omega), List.length_append]
      omega
    · rw [show i = j + 1 by omega]; exact Nat.le_refl _
theorem join_flat {a b : List Int} {g h : Nat → AV} (hg : ∀ q, q < a.length → g q = .int (a.getD q 0)) (hh : ∀ q, q < b.length → h q = .int (b.getD q 0)) : ∀ q, q < (a ++ b).length → joinG a.length b.length g h q = .int ((a ++ b).getD q 0) := by
  intro q hq
  rw [List.length_append] at hq
  rcases Nat.lt_or_ge q a.length with h1 | h1
  · rw [joinG_lt h1, hg q h1]
    simp [List.getD_eq_getElem?_getD, List.getElem?_append_left h1]
  · rw [joinG_ge h1 hq, hh _ (by omega)]
    simp [List.getD_eq_getElem?_getD, List.getElem?_append_right h1]
theorem concat_ac (f : Bool) (LL : List (List Int)) (hl : LL.length ≤ 1000) (hs : (flTo LL LL.length).length ≤ 1000000) : AC Tryz.prog T tysN 81 [intss f LL] [] (ownI (flTo LL LL.length)) [cellsI 3 .i64 (flTo LL LL.length)] := by
 refine AC_intro hT Tryz.func81 rfl rfl (Nat.le_of_ble_eq_true rfl) ?_
 refine sq (rg [] rfl ?_)
 refine sq (rg [] rfl ?_)
 refine sq (sq (rg [] rfl ?_))
 refine bk ?_
 refine WP.loop (α := Nat) (fun i => mkSt [(0, intss f LL), (3, .int (flTo LL i).length), (9, intss f LL), (10, .int LL.length), (11, .int i)] []) (fun i => i ≤ LL.length) (fun i => LL.length - i) ?_ ?_
 ·refine ⟨0, ?_, ?_⟩
  ·exact Nat.zero_le _
  ·refine em [] trivial ⟨⟨rfl, _, rfl, cvt⟩, ⟨rfl, _, rfl, cvt⟩, ⟨rfl, _, rfl, cvt⟩, ⟨rfl, _, rfl, cvt⟩, ⟨rfl, _, rfl, cvt⟩, trivial⟩ trivial
 ·rintro i hi
  refine sq (rg [] rfl ?_)
  refine sq ?_
  refine cd rfl (fun h3 => ?_) (fun h3 => ?_)
  ·have hil : i < LL.length := by simpa using h3
   have h1 := flTo_le (LL := LL) (i := i + 1) (j := LL.length) (by omega) (Nat.le_refl _)
   have h2 := flTo_succ hil
   have h4 : (flTo LL (i + 1)).length = (flTo LL i).length + (LL.getD i []).length := by rw [h2, List.length_append]
   refine sk (sq (bk (sq (rg [] rfl ?_))))
   refine sq (rg [] rfl ?_)
   refine sq (rg [] rfl ?_)
   refine cd rfl (fun h6 => ?_) (fun h6 => ?_)
   ·exfalso
    have e : decide (IntKind.i64.wrap (((flTo LL i).length : Int) + ((LL.getD i []).length : Int)) < 0) = true := h6
    rw [wrap_id (by omega) (by omega)] at e
    simp at e
    omega
   ·refine sk (rg [] rfl ?_)
    refine ⟨i + 1, ?_, ?_, ?_⟩
    ·exact hil
    ·refine em [] trivial ⟨⟨rfl, _, rfl, cvt⟩, ⟨rfl, _, rfl, conv_eq (by rw [h4]; show AV.int (IntKind.i64.wrap (((flTo LL i).length : Int) + ((LL.getD i []).length : Int))) = _; rw [wrap_id (by omega) (by omega)]; rfl)⟩, ⟨rfl, _, rfl, cvt⟩, ⟨rfl, _, rfl, cvt⟩, ⟨rfl, _, rfl, cvt⟩, trivial⟩ trivial
    ·(try simp only []); first | omega | grind
  ·have hil : i = LL.length := by simp at h3; omega
   subst hil
   refine xt (sq (rgs [⟨true, [], .own (.b 0) 0 0 0 none, [cellsI 3 .i64 []]⟩] rfl ?_ ?_))
   ·have h1 := grow_ac (flTo LL LL.length).length hs
    have h2 : okOs (bs 1) [cellsI 3 .i64 []] := ⟨fun _ _ => rfl, trivial⟩
    simp only [holdsC, under, CG.pure]
    repeat' with_reducible refine And.intro ?_ ?_
    all_goals (try with_reducible intros)
    all_goals (first | exact trivial | assumption | omega | exact h1 | exact h2 | (simp; done) | grind)
   refine sq (sq (rg [] rfl ?_))
   refine bk ?_
   refine WP.loop (α := Nat) (fun i => mkSt [(6, .own (.s 24 1) (flTo LL i).length 0 (flTo LL i).length none), (25, intss f LL), (26, .int LL.length), (27, .int i)] [(.s 24 1, cellsI 3 .i64 (flTo LL i))]) (fun i => i ≤ LL.length) (fun i => LL.length - i) ?_ ?_
   ·refine ⟨0, ?_, ?_⟩
    ·exact Nat.zero_le _
    ·refine em [] trivial ⟨⟨rfl, _, rfl, cvt⟩, ⟨rfl, _, rfl, cvt⟩, ⟨rfl, _, rfl, cvt⟩, ⟨rfl, _, rfl, cvt⟩, trivial⟩ ⟨obs rfl, trivial⟩
   ·rintro i hi
    refine sq (rg [] rfl ?_)
    refine sq ?_
    refine cd rfl (fun h11 => ?_) (fun h11 => ?_)
    ·have hil : i < LL.length := by simpa using h11
     have h1 := flTo_le (LL := LL) (i := i + 1) (j := LL.length) (by omega) (Nat.le_refl _)
     have h2 := flTo_succ hil
     have h4 : (flTo LL (i + 1)).length = (flTo LL i).length + (LL.getD i []).length := by rw [h2, List.length_append]
     refine sk (sq (bk (sq (rg [] rfl ?_))))
     rcases Nat.eq_zero_or_pos (LL.getD i []).length with h0 | h0
     ·refine rgs [CG.nop] rfl ?_ ?_
      ·have e : (LL.getD i []).length = 0 := h0
       simp only [holdsC, under, CG.pure]
       repeat' with_reducible refine And.intro ?_ ?_
       all_goals (try with_reducible intros)
       all_goals (first | exact trivial | assumption | omega | exact e | (simp; done) | grind)
      refine rg [] rfl ?_
      have e3 : flTo LL (i + 1) = flTo LL i := by rw [h2, List.eq_nil_of_length_eq_zero h0, List.append_nil]
      refine ⟨i + 1, ?_, ?_, ?_⟩
      ·exact hil
      ·refine em [] trivial ⟨⟨rfl, _, rfl, conv_eq (by rw [e3])⟩, ⟨rfl, _, rfl, cvt⟩, ⟨rfl, _, rfl, cvt⟩, ⟨rfl, _, rfl, cvt⟩, trivial⟩ ⟨ob_ints rfl rfl (by rw [e3]) rfl rfl (fun q hq => by rw [e3]), trivial⟩
      ·(try simp only []); first | omega | grind
     ·refine rgs [] rfl ?_ ?_
      ·have hbt : (T 3).bytes = 8 := rfl
       have e1 : (((flTo LL i).length + (LL.getD i []).length) * (T 3).bytes ≤ 140737488355328) := by rw [hbt]; omega
       have e2 : 0 < (flTo LL i).length + (LL.getD i []).length := by omega
       simp only [holdsC, under, CG.pure]
       repeat' with_reducible refine And.intro ?_ ?_
       all_goals (try with_reducible intros)
       all_goals (first | exact trivial | assumption | omega | exact e1 | exact e2 | (simp; done) | grind)
      refine rg [] rfl ?_
      refine ⟨i + 1, ?_, ?_, ?_⟩
      ·exact hil
      ·refine em [] trivial ⟨⟨rfl, _, rfl, conv_eq (by rw [h4]; rfl)⟩, ⟨rfl, _, rfl, cvt⟩, ⟨rfl, _, rfl, cvt⟩, ⟨rfl, _, rfl, cvt⟩, trivial⟩ ⟨ob_ints rfl rfl (by rw [h4]; rfl) rfl rfl (by rw [h2]; exact join_flat (fun q hq => rfl) (fun q hq => rfl)), trivial⟩
      ·(try simp only []); first | omega | grind
    ·have hil : i = LL.length := by simp at h11; omega
     subst hil
     refine xt (sq (rg [] rfl ?_))
     refine WP.ret ?_
     change Fin ..
     refine fin_toB hT [] [.s 24 1] (ts := [(2, ownI (flTo LL LL.length))]) (l := [ownI (flTo LL LL.length)]) trivial rfl ⟨⟨_, .own (.s 24 1) (flTo LL LL.length).length 0 (flTo LL LL.length).length none, rfl, conv_eq rfl, rfl, rfl⟩, trivial⟩ ⟨.inl ⟨_, cellsI 3 .i64 (flTo LL LL.length), rfl, ?_, fun _ _ => rfl, rfl⟩, trivial⟩ rfl rfl
     exact ⟨_, _, rfl, Nat.le_refl _, Nat.zero_le _, Nat.zero_le _, fun i hi => conv_eq rfl⟩
end Go.Ab


/- Ab, part 49: whether a row is nil is not known: both answers. -/
set_option autoImplicit false
set_option linter.unusedVariables false
namespace Go.Ab
section
variable {R : Option Nat → Bool → Prop} {P : Program} {T : Nat → TI} {N nt nb : Nat} {post : Post}
theorem conv_nils {m : Id → Option Ob} {F : Id → Nat} {id : Id} {cap : Option Nat} : Conv m F T .nils (.own id 0 0 0 cap) := Or.inr ⟨rfl, .inl ⟨_, _, rfl⟩⟩
/-- A region whose last step asks whether a row is nil. -/
theorem WP.nilreg (hT : TOK P T N) (hE : EqOK P T N) {id : Nat} {ops : Array Oper} {o : Oper} {l : List Oper} {t t1 : Nat → Option (D × AV)} {m m1 : Id → Option Ob} {gs gs' : List CG} {c : Option Prop} {ty k3 k4 yt : Nat} {e len el : Nat} {f : Bool} {g : Nat → AV}
    (hl : ops.toList = l ++ [o]) (h : evF T (AC P T N) nt ops.toList l t m gs none = some ⟨⟨t1, m1⟩, gs', c⟩) (hc : holdsC c)
    (ho : o.op = .binOp .eql ty (.tmp k3) (.const (.slice none 0 0)) yt) (hd : o.dst = some k4) (hg : o.guard = none) (hnt : dstOk nt (some k4) = true) (ht : t1 k3 = some (.always, .row e f len g)) (hk : (T ty).kind = .slice el)
    (hp : ∀ b, post .normal ⟨setT t1 k4 (some (.always, .v (.bool b))), m1⟩) : WP R P T N nt nb (.region id ops false) post ⟨t, m⟩ := fun en h1 h2 I ρ a w hs rd hr n => by
  subst h1
  rw [evF_eq] at h
  have hgd : ∀ st, guardD ops.toList st o = some .always := fun st => by unfold guardD; rw [hg]
  refine wpIn_region_list ?_
  have hh : wpListIn (wideR rd) n P ops (fun ex a' w' => ∃ st' I' ρ', post ex st' ∧ StRep T N en I' ρ' st' a' w') (l ++ [o]) a w := by
    refine (evL_k (l2 := [o]) hT hE rd n l ⟨⟨t, m⟩, gs, none⟩ ⟨⟨t1, m1⟩, gs', c⟩ hs h hc (fun I' ρ' a' w' hs' => ?_)).2
    have hwant := guardD_wanted hs' (hgd ⟨t1, m1⟩)
    unfold wpListIn
    rw [if_pos (hwant.1 trivial)]
    refine ⟨fun _ _ => trivial, ?_⟩
    rw [Oper.semAt_eq _ _ _ (by simp [ho])]
    have hrow := ((hs'.tm k3 _ _ ht).1 trivial).rep1 (fun _ => by simp)
    have hu := (hT.sli hk).2
    have key : ∀ (v : Value) (sp : Option Addr) (ln cp : Nat), v = .slice sp ln cp → a'.eval (.tmp k3) = v → ∃ b, (do eqGuard .eql ty (.tmp k3) (.const (.slice none 0 0)) (a'.eval (.tmp k3)) (a'.eval (.const (.slice none 0 0))); binOp .eql ty (a'.eval (.tmp k3)) (a'.eval (.const (.slice none 0 0))) : Sem Value).run P w' = .ok (.bool b) w' := by
      rintro v sp ln cp rfl ev
      refine ⟨sp.isNone && true, ?_⟩
      have e2 : a'.eval (.const (.slice none 0 0)) = .slice none 0 0 := rfl
      rw [ev, e2]
      have hgg := run_eqGuard_scalar (P := P) (a := .slice sp ln cp) (b := .slice none 0 0) .eql ty (.tmp k3) (.const (.slice none 0 0)) (by simp) (by simp) w'
      simp only [Sem.run_bind, hgg, Result.andThen_ok, binOp]
      rw [run_equal_slices hu w' sp none ln cp 0 0 (.inr rfl)]
      rfl
    have hev : ∃ b, (do eqGuard .eql ty (.tmp k3) (.const (.slice none 0 0)) (a'.eval (.tmp k3)) (a'.eval (.const (.slice none 0 0))); binOp .eql ty (a'.eval (.tmp k3)) (a'.eval (.const (.slice none 0 0))) : Sem Value).run P w' = .ok (.bool b) w' := by
      rcases Rep.row_inv hrow with ⟨⟨ad, ex⟩, _, _⟩ | ⟨b, off, cap, segs, _, _, _, _, _, _, _, _, ex⟩
      · exact key _ _ _ _ ex rfl
      · exact key _ _ _ _ ex rfl
    obtain ⟨b, hb⟩ := hev
    have hrun : (execOp a'.eval o).run P w' = .ok (.value (.bool b)) w' := by
      unfold execOp
      rw [ho]
      exact runNext_value hb
    rw [hrun]
    refine ⟨_, I', ρ', hp b, ?_⟩
    have := strep_after (o := o) (G := .always) (r := ⟨.v (.bool b), [], [], none⟩) (v := .bool b) hs' (by rw [hd]; exact hnt) (.inr ⟨fun _ => repV_v rfl, fun h => absurd trivial h⟩) (Ev.refl _ _ _) hs'.wr
    have e3 : (St.after ⟨t1, m1⟩ o .always ⟨.v (.bool b), [], [], none⟩) = ⟨setT t1 k4 (some (.always, .v (.bool b))), m1⟩ := by
      simp only [St.after, St.put, hd, appM]
    rw [e3] at this
    exact this
  rw [← hl] at hh
  exact hh
/-- What a call leaves, seen otherwise. -/
theorem AC.ent {f : FuncId} {args : List AV} {B : List Ob} {r r2 : AV} {B' B2 : List Ob} (h : AC P T N f args B r B') (hent : Ent T N 1 B.length (mkSt [(0, r)] (mkB 0 B')) (mkSt [(0, r2)] (mkB 0 B2))) : AC P T N f args B r2 B2 := by
  refine ⟨h.1, fun I ρ w vs hl hvs hw => (h.2 I ρ w vs hl hvs hw).mono ?_⟩
  rintro e w' ⟨v, I', ρ', he, h1, h2, h3⟩
  have hm : ∀ B : List Ob, (mkSt [(0, r)] (mkB 0 B)).m = ofB B := fun B => mkB_ofB B
  have hm2 : ∀ B : List Ob, (mkSt [(0, r2)] (mkB 0 B)).m = ofB B := fun B => mkB_ofB B
  have hst : StRep T N ⟨I, ρ, w, 1, B.length, false⟩ I' ρ' (mkSt [(0, r)] (mkB 0 B')) { tmps := #[v], defers := [] } w' := by
    refine ⟨by rw [hm]; exact h3, fun t d x ht => ?_, rfl, ⟨Marks.nil, fun _ => rfl⟩, h1, fun id p hp => ?_⟩
    · simp only [mkSt, Option.map_eq_some_iff, Prod.mk.injEq] at ht
      obtain ⟨x0, k1, rfl, rfl⟩ := ht
      simp only [lookN] at k1
      cases hb : Nat.beq t 0 with
      | false => rw [hb] at k1; cases k1
      | true =>
        rw [hb] at k1
        cases k1
        obtain rfl := Nat.eq_of_beq_eq_true hb
        exact ⟨fun _ => h2, fun h => absurd trivial h⟩
    · have := hw.dom id p hp
      cases id with
      | s a b => exact absurd rfl this
      | b j =>
        refine ⟨j, ?_, rfl⟩
        cases hj : B[j]? with
        | none => simp [ofB, hj] at this
        | some o => exact (List.getElem?_eq_some_iff.1 hj).1
  obtain ⟨I2, ρ2, hs2⟩ := hent _ rfl rfl I' ρ' _ w' hst
  refine ⟨v, I2, ρ2, he, hs2.ev, ?_, ?_⟩
  · exact (hs2.tm 0 .always r2 rfl).1 trivial
  · have := hs2.wr
    rwa [hm2] at this
/-- A slice that was made is a row. -/
theorem AC.rowI (hT : TOK P T N) {f : FuncId} {args : List AV} {ty : Nat} {k : IntKind} {L : List Int} (h : AC P T N f args [] (.own (.b 0) L.length 0 L.length none) [cellsI ty k L]) : AC P T N f args [] (.row ty false L.length (fun i => .v (.int k (L.getD i 0)))) [] :=
  AC.ent h (Ent.mk (ms := []) (ts := [(0, .row ty false L.length (fun i => .v (.int k (L.getD i 0))))]) hT [(.b 0, L.length)] ⟨⟨_, rfl, Nat.le_refl _⟩, trivial⟩ ⟨⟨rfl, _, rfl, conv_row rfl rfl rfl (fun h => by cases h) (by simp [lookF, idbeq_self]) (fun j hj => by rw [Nat.zero_add]; exact ⟨rfl, AEq.refl _⟩)⟩, trivial⟩ trivial rfl)
end
end Go.Ab

/- slices.Clone of any row of ints. -/
set_option autoImplicit false
set_option maxRecDepth 20000
set_option maxHeartbeats 4000000
set_option linter.unusedSimpArgs false
set_option linter.unusedVariables false
namespace Go.Ab
open Go.Proofs Go.Sort
theorem clone0_ac (f : Bool) : AC Tryz.prog T tysN 85 [ints f []] [] (ownI []) [cellsI 3 .i64 []] := by
  refine AC_intro hT Tryz.func85 rfl rfl (Nat.le_of_ble_eq_true rfl) ?_
  refine sq (rg [] rfl ?_)
  refine sq (sq ?_)
  refine WP.nilreg (l := [_]) (gs := []) hT hE rfl rfl trivial rfl rfl rfl rfl rfl rfl (fun b => ?_)
  refine cd rfl (fun h1 => ?_) (fun h1 => ?_)
  · refine sq (rg [] rfl ?_)
    refine WP.ret ?_
    change Fin ..
    exact fin_toB hT [] [.s 7 0] (ts := [(2, ownI [])]) (l := [ownI []]) trivial rfl ⟨⟨_, .own (.s 7 0) 0 0 0 none, rfl, conv_nils, rfl, rfl⟩, trivial⟩ ⟨.inr ⟨rfl, 3, _, rfl, Nat.lt_of_lt_of_eq Nat.zero_lt_one rfl⟩, trivial⟩ rfl rfl
  · refine sk (sq (rgs [CG.mine, CG.nop] rfl ?_ ?_))
    · simp [holdsC, under]
    refine WP.ret ?_
    change Fin ..
    exact fin_toB hT [] [.s 5 0] (ts := [(2, ownI [])]) (l := [ownI []]) trivial rfl ⟨⟨_, .own (.s 5 0) 0 0 0 none, rfl, conv_eq rfl, rfl, rfl⟩, trivial⟩ ⟨.inl ⟨_, cellsI 3 .i64 [], rfl, ⟨_, _, rfl, Nat.le_refl _, Nat.zero_le _, Nat.zero_le _, fun i hi => absurd hi (Nat.not_lt_zero _)⟩, fun _ _ => rfl, rfl⟩, trivial⟩ rfl rfl
theorem clone_ac (f : Bool) (L : List Int) (h1 : L.length < 4294967296) : AC Tryz.prog T tysN 85 [ints f L] [] (ownI L) [cellsI 3 .i64 L] := by
  cases L with
  | nil => exact clone0_ac f
  | cons a r => exact cloneI_ac f (a :: r) (Nat.succ_pos _) h1
/-- What Compact leaves. -/
def ddI (s : List Int) : List Int := dd 0 s s.length
def dupsO (s : List Int) : Ob := .cells ⟨3, s.length, fun q => .int ((ddI s).getD q 0), 0⟩
theorem okOs_dups {ids : List Id} (s : List Int) : okOs ids [dupsO s] := ⟨fun j hj => rfl, trivial⟩
theorem compZ_ac (s : List Int) : AC Tryz.prog T tysN 83 [.own (.b 0) s.length 0 s.length none] [cellsI 3 .i64 s] (.own (.b 0) s.length 0 (ddI s).length none) [dupsO s] := by
  have h := compactI_ac s
  have e : (Ob.cells ⟨3, s.length, fun j => bif Nat.blt j (dd 0 s s.length).length then (fun x => AV.int x) ((dd 0 s s.length).getD j 0) else (AV.int 0), 0⟩) = dupsO s := by
    unfold dupsO ddI
    congr 2
    funext j
    cases hb : Nat.blt j (dd 0 s s.length).length with
    | true => rfl
    | false =>
      have hj : ¬ j < (dd 0 s s.length).length := fun h => by have := Nat.blt_eq.mpr h; rw [this] at hb; cases hb
      rw [List.getD_eq_getElem?_getD, List.getElem?_eq_none (by omega)]; rfl
  rw [e] at h
  exact h
end Go.Ab


/- order.listed, order.Linear. -/
set_option autoImplicit false
set_option maxRecDepth 20000
set_option maxHeartbeats 4000000
set_option linter.unusedSimpArgs false
set_option linter.unusedVariables false
namespace Go.Ab
open Go.Proofs Go.Sort
def lstE (t : List Evt) (l : List Int) : Int := if chkE t ≠ 0 then chkE t else if 256 < l.length then 2 else askE t l
theorem tab_nil {m : Id → Option Ob} {F : Id → Nat} {t : List Evt} {e : Int} (h : e ≠ 0) {x : AV} (hx : x = stru 147 [.nils, .nils]) : Conv m F T x (tabF t e) := by rw [hx]; exact conv_tz h
theorem listed_ac (g f : Bool) (t : List Evt) (l : List Int) : AC Tryz.prog T tysN 89 [evts g t, ints f l] [] (.tup [tabF t (lstE t l), .int (lstE t l)]) [] := by
 refine AC_intro hT Tryz.func89 rfl rfl (Nat.le_of_ble_eq_true rfl) ?_
 refine sq (rg [] rfl ?_)
 refine sq (sq (rgs [CG.pure (.int (chkE t))] rfl ?_ ?_))
 ·have h1 := dcheck_ac g t
  simp only [holdsC, under, CG.pure]
  repeat' with_reducible refine And.intro ?_ ?_
  all_goals (try with_reducible intros)
  all_goals (first | exact trivial | assumption | omega | exact h1 | (simp; done) | grind)
 refine sq (rg [] rfl ?_)
 refine cd rfl (fun h2 => ?_) (fun h2 => ?_)
 ·have hb : chkE t ≠ 0 := by simpa using h2
  refine sq (rg [] rfl ?_)
  refine WP.ret ?_
  change Fin ..
  have e : lstE t l = chkE t := if_pos hb
  rw [e]
  exact fin_tab rfl rfl rfl rfl rfl rfl (tab_nil hb rfl)
 ·have hb : chkE t = 0 := by simpa using h2
  refine sk (sq (sq (rg [] rfl ?_)))
  refine cd rfl (fun h4 => ?_) (fun h4 => ?_)
  ·have hl : 256 < l.length := by simp at h4; omega
   refine sq (rg [] rfl ?_)
   refine WP.ret ?_
   change Fin ..
   have e : lstE t l = 2 := by rw [lstE, if_neg (fun h => h hb), if_pos hl]
   rw [e]
   exact fin_tab rfl rfl rfl rfl rfl rfl (tab_nil (by decide) rfl)
  ·have hl : l.length ≤ 256 := by simp at h4; omega
   have e : lstE t l = askE t l := by rw [lstE, if_neg (fun h => h hb), if_neg (by omega)]
   refine sk (sq (rgs [CG.pure (.tup [tabF t (askE t l), .int (askE t l)])] rfl ?_ ?_))
   ·have h1 := asked_ac g f t l
    simp only [holdsC, under, CG.pure]
    repeat' with_reducible refine And.intro ?_ ?_
    all_goals (try with_reducible intros)
    all_goals (first | exact trivial | assumption | omega | exact h1 | (simp; done) | grind)
   refine WP.ret ?_
   change Fin ..
   rw [e]
   exact fin_tab rfl rfl rfl rfl rfl rfl (conv_eq rfl)
def cntI (l : List Int) : Nat := (ddI (sortI l)).length
def linE (t : List Evt) (l : List Int) : Int := if lstE t l ≠ 0 then lstE t l else if (cntI l != t.length || l.length != t.length) = true then 1 else 0
/-- What stands ahead of what happens before it. -/
def backB (t : List Evt) (l : List Int) (i j : Nat) : Bool := befB t (l.getD j 0).toNat (l.getD i 0).toNat
def linB (t : List Evt) (l : List Int) : Bool := (List.range l.length).all fun i => (List.range l.length).all fun j => !(decide (i < j) && backB t l i j)
def linF (t : List Evt) (l : List Int) : Bool := decide (linE t l = 0) && linB t l
theorem linB_yes {t : List Evt} {l : List Int} (h : ∀ i, i < l.length → ∀ j, j < l.length → i < j → backB t l i j = false) : linB t l = true := by
  simp only [linB, List.all_eq_true, List.mem_range]
  intro i hi j hj
  cases hij : decide (i < j) with
  | false => rfl
  | true => rw [h i hi j hj (by simpa using hij)]; rfl
theorem linB_no {t : List Evt} {l : List Int} {i j : Nat} (hi : i < l.length) (hj : j < l.length) (hij : i < j) (h : backB t l i j = true) : linB t l = false := by
  cases e : linB t l with
  | false => rfl
  | true =>
    simp only [linB, List.all_eq_true, List.mem_range] at e
    have := e i hi j hj
    rw [h] at this
    simp [hij] at this
theorem ask_all {t : List Evt} {l : List Int} (h : askE t l = 0) : GoOK t ∧ ∀ q, q < l.length → 0 ≤ l.getD q 0 ∧ l.getD q 0 < t.length := by
  unfold askE at h
  by_cases h1 : chkE t ≠ 0
  · rw [if_pos h1] at h; exact absurd h h1
  · rw [if_neg h1] at h
    refine ⟨chk_right (by simpa using h1), fun q hq => ?_⟩
    split at h
    · cases h
    · rename_i h2
      simp only [List.any_eq_true, not_exists, not_and] at h2
      have := h2 (l.getD q 0) (by simp [List.getD_eq_getElem?_getD, hq])
      simp at this
      simp only [List.getD_eq_getElem?_getD]
      omega
theorem lst_all {t : List Evt} {l : List Int} (h : lstE t l = 0) : l.length ≤ 256 ∧ askE t l = 0 := by
  unfold lstE at h
  split at h
  · rename_i e; exact absurd h e
  · split at h
    · cases h
    · exact ⟨by omega, h⟩
theorem linear_ac (g f : Bool) (t : List Evt) (l : List Int) : AC Tryz.prog T tysN 37 [evts g t, ints f l] [] (.tup [.bool (linF t l), .int (linE t l)]) [] := by
 refine AC_intro hT Tryz.func37 rfl rfl (Nat.le_of_ble_eq_true rfl) ?_
 refine sq (rg [] rfl ?_)
 refine sq (rgs [CG.pure (.tup [tabF t (lstE t l), .int (lstE t l)])] rfl ?_ ?_)
 ·have h1 := listed_ac g f t l
  simp only [holdsC, under, CG.pure]
  repeat' with_reducible refine And.intro ?_ ?_
  all_goals (try with_reducible intros)
  all_goals (first | exact trivial | assumption | omega | exact h1 | (simp; done) | grind)
 refine sq (sq (rg [] rfl ?_))
 refine cd rfl (fun h2 => ?_) (fun h2 => ?_)
 ·have hb : lstE t l ≠ 0 := by simpa using h2
  refine sq (rg [] rfl ?_)
  refine WP.ret ?_
  change Fin ..
  have e : linE t l = lstE t l := if_pos hb
  have e2 : linF t l = false := by rw [linF, e, decide_eq_false hb]; rfl
  rw [e, e2]
  exact fin_mk hT [] (ts := [(4, .bool false), (5, .int (lstE t l))]) (l := [.bool false, .int (lstE t l)]) trivial ⟨⟨rfl, _, rfl, cvt⟩, ⟨rfl, _, rfl, cvt⟩, trivial⟩ trivial rfl rfl rfl
 ·have hb : lstE t l = 0 := by simpa using h2
  obtain ⟨hl, hask⟩ := lst_all hb
  obtain ⟨hok, hin⟩ := ask_all hask
  have h256 := hok.1
  refine sk (sq ?_)
  refine WP.ent (st' := mkSt [(0, evts g t), (1, ints f l), (6, .ptr (.s 6 0) 1 0 []), (7, .int 0)] [(.s 6 0, .cells ⟨147, 1, fun _ => encTab t, 0⟩)]) ?_ ?_
  ·refine em [] trivial ⟨⟨rfl, _, rfl, cvt⟩, ⟨rfl, _, rfl, cvt⟩, ⟨rfl, _, rfl, cvt⟩, ⟨rfl, _, rfl, conv_eq (by rw [hb])⟩, trivial⟩ ⟨obs rfl (hok := fun _ _ => okIds_agg (fun i hi => by match i, hi with | 0, _ | 1, _ => rfl)) (hg := fun q hq => by (obtain rfl : q = 0 := (by simp at hq; exact hq)); exact conv_eq (by show tabF t (lstE t l) = _; rw [hb]; rfl)), trivial⟩
  refine rgs [CG.pure (.clo 127 [.rp 23 (ints f l)]), ⟨true, [], ownI (sortI l), [cellsI 3 .i64 (sortI l)]⟩] rfl ?_ ?_
  ·have h1 := values_ac f l
   have h2 := sorted_ac f l (by omega)
   have h3 : okOs (bs 1) [cellsI 3 .i64 (sortI l)] := ⟨fun _ _ => rfl, trivial⟩
   simp only [holdsC, under, CG.pure]
   repeat' with_reducible refine And.intro ?_ ?_
   all_goals (try with_reducible intros)
   all_goals (first | exact trivial | assumption | omega | exact h1 | exact h2 | exact h3 | (simp; done) | grind)
  refine sq (sq (rgs [⟨true, [.s 24 1], .own (.b 0) (sortI l).length 0 (cntI l) none, [dupsO (sortI l)]⟩] rfl ?_ ?_))
  ·have h1 := compZ_ac (sortI l)
   have h2 : okOs (bs 1) [dupsO (sortI l)] := okOs_dups (sortI l)
   have h3 : okOs [.s 24 1] [cellsI 3 .i64 (sortI l)] := ⟨fun _ _ => rfl, trivial⟩
   simp only [holdsC, under, CG.pure]
   repeat' with_reducible refine And.intro ?_ ?_
   all_goals (try with_reducible intros)
   all_goals (first | exact trivial | assumption | omega | exact h1 | exact h2 | exact h3 | (simp; done) | grind)
  refine cd rfl (fun h5 => ?_) (fun h5 => ?_)
  ·have hx : (cntI l != t.length || l.length != t.length) = true := by
     have e := h5
     rw [bor] at e
     rw [← e, Bool.eq_iff_iff]
     simp; omega
   have e : linE t l = 1 := by rw [linE, if_neg (fun h => h hb), if_pos hx]
   have e2 : linF t l = false := by rw [linF, e]; rfl
   refine sq (rg [] rfl ?_)
   refine WP.ret ?_
   change Fin ..
   rw [e, e2]
   exact fin_mk hT [] (ts := [(4, .bool false), (5, .int 1)]) (l := [.bool false, .int 1]) trivial ⟨⟨rfl, _, rfl, cvt⟩, ⟨rfl, _, rfl, cvt⟩, trivial⟩ trivial rfl rfl rfl
  ·have hx : (cntI l != t.length || l.length != t.length) = false := by
     have e := h5
     rw [bor] at e
     rw [← e, Bool.eq_iff_iff]
     simp; omega
   have e : linE t l = 0 := by rw [linE, if_neg (fun h => h hb), hx]; rfl
   refine sk (sq (sq (rg [] rfl ?_)))
   refine bk ?_
   refine WP.loop (α := Nat) (fun i => mkSt [(1, ints f l), (6, .ptr (.s 6 0) 1 0 []), (38, ints f l), (39, .int l.length), (40, .int i)] [(.s 6 0, .cells ⟨147, 1, fun _ => encTab t, 0⟩)]) (fun i => i ≤ l.length ∧ ∀ a, a < i → ∀ b, b < l.length → a < b → backB t l a b = false) (fun i => l.length - i) ?_ ?_
   ·refine ⟨0, ?_, ?_⟩
    ·exact ⟨Nat.zero_le _, fun a ha => absurd ha (Nat.not_lt_zero _)⟩
    ·refine em [] trivial ⟨⟨rfl, _, rfl, cvt⟩, ⟨rfl, _, rfl, cvt⟩, ⟨rfl, _, rfl, cvt⟩, ⟨rfl, _, rfl, cvt⟩, ⟨rfl, _, rfl, cvt⟩, trivial⟩ ⟨obs rfl (hok := fun _ _ => okIds_agg (fun i hi => by match i, hi with | 0, _ | 1, _ => rfl)), trivial⟩
   ·rintro i ⟨hi, hn⟩
    refine sq (rg [] rfl ?_)
    refine sq ?_
    refine cd rfl (fun h8 => ?_) (fun h8 => ?_)
    ·have hil : i < l.length := by simpa using h8
     have hri := hin i hil
     have hw : IntKind.i64.wrap ((i : Int) + 1) = ((i + 1 : Nat) : Int) := by rw [wrap_id (by omega) (by omega)]; omega
     refine sk (sq (bk (sq (rg [] rfl ?_))))
     refine sq (rgs [] rfl ?_ ?_)
     ·simp only [hw]
      simp [holdsC, under, slOk, slB]
      exact ⟨by omega, by simp [capEq]⟩
     refine bk ?_
     refine WP.loop (α := Nat) (fun k => mkSt [(1, ints f l), (6, .ptr (.s 6 0) 1 0 []), (10, .int (l.getD i 0)), (38, ints f l), (39, .int l.length), (40, .int i), (48, ints false (l.drop (i + 1))), (49, .int (l.drop (i + 1)).length), (50, .int k)] [(.s 6 0, .cells ⟨147, 1, fun _ => encTab t, 0⟩)]) (fun k => k ≤ (l.drop (i + 1)).length ∧ ∀ b, b < i + 1 + k → i < b → backB t l i b = false) (fun k => (l.drop (i + 1)).length - k) ?_ ?_
     ·refine ⟨0, ?_, ?_⟩
      ·exact ⟨Nat.zero_le _, fun b hb hb2 => by omega⟩
      ·refine em [] trivial ⟨⟨rfl, _, rfl, cvt⟩, ⟨rfl, _, rfl, cvt⟩, ⟨rfl, _, rfl, cvt⟩, ⟨rfl, _, rfl, cvt⟩, ⟨rfl, _, rfl, cvt⟩, ⟨rfl, _, rfl, cvt⟩, ⟨rfl, _, rfl, conv_rowN (by simp only [slB, hw, Option.getD_some, Option.getD_none, List.length_drop]; omega) (fun h => by cases h) (fun j hj => by simp only [slB, hw, Option.getD_some, Int.toNat_natCast, List.getD_eq_getElem?_getD, List.getElem?_drop])⟩, ⟨rfl, _, rfl, conv_eq (by simp only [slB, hw, Option.getD_some, Option.getD_none, List.length_drop]; congr 2; omega)⟩, ⟨rfl, _, rfl, cvt⟩, trivial⟩ ⟨obs rfl (hok := fun _ _ => okIds_agg (fun i hi => by match i, hi with | 0, _ | 1, _ => rfl)), trivial⟩
     ·rintro k ⟨hk, hm⟩
      refine sq (rg [] rfl ?_)
      refine sq ?_
      refine cd rfl (fun h11 => ?_) (fun h11 => ?_)
      ·have hkl : k < (l.drop (i + 1)).length := by simpa using h11
       have hkl2 : i + 1 + k < l.length := by rw [List.length_drop] at hkl; omega
       have hrk := hin (i + 1 + k) hkl2
       refine sk (sq (bk (sq (rg [] rfl ?_))))
       refine sq (rgs [CG.pure (.bool (backB t l i (i + 1 + k)))] rfl ?_ ?_)
       ·have h0 := before_ac t hok (l.getD (i + 1 + k) 0).toNat (l.getD i 0).toNat (by omega) (by omega)
        rw [Int.toNat_of_nonneg hrk.1, Int.toNat_of_nonneg hri.1] at h0
        have h1 : AC Tryz.prog T tysN 90 [encTab t, .int ((l.drop (i + 1)).getD k 0), .int (l.getD i 0)] [] (.bool (backB t l i (i + 1 + k))) [] := by
          rw [show (l.drop (i + 1)).getD k 0 = l.getD (i + 1 + k) 0 by simp only [List.getD_eq_getElem?_getD, List.getElem?_drop]]
          exact h0
        simp only [holdsC, under, CG.pure]
        repeat' with_reducible refine And.intro ?_ ?_
        all_goals (try with_reducible intros)
        all_goals (first | exact trivial | assumption | omega | exact h1 | (simp; done) | grind)
       refine cd rfl (fun h13 => ?_) (fun h13 => ?_)
       ·have hx : backB t l i (i + 1 + k) = true := h13
        have e2 : linF t l = false := by rw [linF, linB_no hil hkl2 (by omega) hx]; simp
        refine sq (rg [] rfl ?_)
        refine WP.ret ?_
        change Fin ..
        rw [e, e2]
        exact fin_mk hT [] (ts := [(4, .bool false), (5, .int 0)]) (l := [.bool false, .int 0]) trivial ⟨⟨rfl, _, rfl, cvt⟩, ⟨rfl, _, rfl, cvt⟩, trivial⟩ trivial rfl rfl rfl
       ·have hx : backB t l i (i + 1 + k) = false := h13
        refine sk (rg [] rfl ?_)
        refine ⟨k + 1, ?_, ?_, ?_⟩
        ·exact ⟨hkl, fun b hb1 hb2 => (Nat.lt_or_ge b (i + 1 + k)).elim (fun h => hm b h hb2) (fun h => (show b = i + 1 + k by omega) ▸ hx)⟩
        ·refine em [] trivial ⟨⟨rfl, _, rfl, cvt⟩, ⟨rfl, _, rfl, cvt⟩, ⟨rfl, _, rfl, cvt⟩, ⟨rfl, _, rfl, cvt⟩, ⟨rfl, _, rfl, cvt⟩, ⟨rfl, _, rfl, cvt⟩, ⟨rfl, _, rfl, cvt⟩, ⟨rfl, _, rfl, cvt⟩, ⟨rfl, _, rfl, cvt⟩, trivial⟩ ⟨obs rfl (hok := fun _ _ => okIds_agg (fun i hi => by match i, hi with | 0, _ | 1, _ => rfl)), trivial⟩
        ·(try simp only []); first | omega | grind
      ·have hkl : k = (l.drop (i + 1)).length := by simp at h11; rw [List.length_drop] at hk ⊢; omega
       refine xt (rg [] rfl ?_)
       refine ⟨i + 1, ?_, ?_, ?_⟩
       ·exact ⟨hil, fun a ha b hb hab => by
        rcases Nat.lt_or_ge a i with h | h
        · exact hn a h b hb hab
        · obtain rfl : a = i := by omega
          exact hm b (by rw [hkl, List.length_drop]; omega) hab⟩
       ·refine em [] trivial ⟨⟨rfl, _, rfl, cvt⟩, ⟨rfl, _, rfl, cvt⟩, ⟨rfl, _, rfl, cvt⟩, ⟨rfl, _, rfl, cvt⟩, ⟨rfl, _, rfl, cvt⟩, trivial⟩ ⟨obs rfl (hok := fun _ _ => okIds_agg (fun i hi => by match i, hi with | 0, _ | 1, _ => rfl)), trivial⟩
       ·(try simp only []); first | omega | grind
    ·have hil : i = l.length := by simp at h8; omega
     subst hil
     have e2 : linF t l = true := by rw [linF, e, linB_yes (fun a ha b hb hab => hn a ha b hb hab)]; rfl
     refine xt (sq (rg [] rfl ?_))
     refine WP.ret ?_
     change Fin ..
     rw [e, e2]
     exact fin_mk hT [] (ts := [(4, .bool true), (5, .int 0)]) (l := [.bool true, .int 0]) trivial ⟨⟨rfl, _, rfl, cvt⟩, ⟨rfl, _, rfl, cvt⟩, trivial⟩ trivial rfl rfl rfl
end Go.Ab


/- slices.DeleteFunc at ints in a block that is longer; slices.Compact, Concat as rows; race.Beside. -/
set_option autoImplicit false
set_option maxRecDepth 20000
set_option maxHeartbeats 4000000
set_option linter.unusedSimpArgs false
set_option linter.unusedVariables false
namespace Go.Ab
open Go.Proofs Go.Sort
theorem dlG_clearZ {p : Int → Bool} {l : List Int} (k : Nat) (hk : k = (keepG p l).length) (q : Nat) : (bif Nat.ble (k + 0) q && Nat.blt q (k + 0 + (l.length - k)) then AV.int 0 else AV.int (dlG 0 p l l.length q)) = AV.int ((keepG p l).getD q 0) := by
  by_cases hq : q < l.length
  · exact dlG_clear (enc := fun x => AV.int x) (d := 0) rfl k hk q hq
  · have hle : (keepG p l).length ≤ l.length := List.length_filter_le _ _
    have h1 : Nat.blt q (k + 0 + (l.length - k)) = false := by
      cases h : Nat.blt q (k + 0 + (l.length - k)) with
      | false => rfl
      | true => rw [Nat.blt_eq] at h; omega
    rw [h1, Bool.and_false, cond_false, dlG, List.take_length, if_neg (by omega)]
    have e1 : l.getD q 0 = 0 := by rw [List.getD_eq_getElem?_getD, List.getElem?_eq_none (by omega)]; rfl
    have e2 : (keepG p l).getD q 0 = 0 := by rw [List.getD_eq_getElem?_getD, List.getElem?_eq_none (by omega)]; rfl
    rw [e1, e2]
theorem delZ_ac (n : Nat) (l : List Int) (hn0 : l.length ≤ n) (f : FuncId) (ta : Nat) (xa : AV) (p : Int → Bool) (hp : ∀ x ∈ l, AC Tryz.prog T tysN f ((fun x => AV.int x) x :: [.rp ta xa]) [] (.bool (p x)) []) : AC Tryz.prog T tysN 82 [.own (.b 0) n 0 l.length none, .clo f [.rp ta xa]] [.cells ⟨3, n, fun q => .int (l.getD q 0), 0⟩] (.own (.b 0) n 0 (keepG p l).length none) [.cells ⟨3, n, fun q => (fun x => AV.int x) (((keepG p l).getD q 0)), 0⟩] := by
 refine AC_intro hT Tryz.func82 rfl rfl (Nat.le_of_ble_eq_true rfl) ?_
 refine WP.ownlen 0 rfl rfl rfl (fun hl => ?_)
 refine sq (rg [] rfl ?_)
 refine sq (rgs [CG.pure (.int (firstG p l))] rfl ?_ ?_)
 ·have ha := idxI_ac false l f ta xa p hp
  simp [holdsC, under, CG.pure, slOk, slB, capEq]
  exact ⟨fun _ _ => rfl, ha⟩
 refine sq (sq (rg [] rfl ?_))
 refine cd rfl (fun h2 => ?_) (fun h2 => ?_)
 ·have hn : l.any p = false := by
    have e : firstG p l = -1 := by simpa using h2
    unfold firstG at e
    split at e
    · rename_i h; exfalso; omega
    · rename_i h; simpa using h
  refine sq (rg [] rfl ?_)
  refine WP.ret ?_
  change Fin ..
  rw [firstG_none hn]
  refine fin_mk hT [] (ts := [(4, .own (.b 0) n 0 l.length none)]) (l := [.own (.b 0) n 0 l.length none]) trivial ⟨⟨rfl, _, rfl, conv_eq rfl⟩, trivial⟩ ⟨⟨fun _ _ => rfl, .inl ⟨_, rfl, _, _, rfl, Nat.le_refl _, Nat.zero_le _, Nat.zero_le _, fun q hq => conv_eq rfl⟩⟩, trivial⟩ rfl rfl rfl
 ·have hy : l.any p = true := by
    cases h : l.any p with
    | true => rfl
    | false => exfalso; simp [firstG, h] at h2
  have hf : firstG p l = (l.findIdx p : Int) := by simp [firstG, hy]
  obtain ⟨hf1, hf2⟩ := firstG_keep hy
  refine sk (sq (sq (rg [] rfl ?_)))
  refine bk ?_
  refine WP.loop (α := Nat) (fun j => mkSt [(0, .own (.b 0) n 0 l.length none), (1, .clo f [.rp ta xa]), (5, .int (keepG p (l.take j)).length), (6, .int j)] [(.b 0, .cells ⟨3, n, fun q => (fun x => AV.int x) (dlG 0 p l j q), 0⟩)]) (fun j => j ≤ l.length ∧ (keepG p (l.take j)).length < j) (fun j => l.length - j) ?_ ?_
  ·refine ⟨l.findIdx p + 1, ?_, ?_⟩
   ·refine ⟨hf1, ?_⟩
    rw [hf2, List.length_take]; omega
   ·refine em [] trivial ⟨⟨rfl, _, rfl, cvt⟩, ⟨rfl, _, rfl, cvt⟩, ⟨rfl, _, rfl, conv_eq (by rw [hf, hf2, List.length_take]; congr 2; omega)⟩, ⟨rfl, _, rfl, conv_eq (by rw [hf, wrap_id (by omega) (by omega)]; rfl)⟩, trivial⟩ ⟨⟨fun _ _ => rfl, .inl ⟨_, rfl, _, _, rfl, Nat.le_refl _, Nat.zero_le _, Nat.zero_le _, fun q hq => conv_eq (by rw [dlG_first hy])⟩⟩, trivial⟩
  ·rintro j ⟨hj, hkj⟩
   refine sq (sq (rg [] rfl ?_))
   refine cd rfl (fun h5 => ?_) (fun h5 => ?_)
   ·have hjl : j < l.length := by simpa using h5
    refine sk (sq (bk (sq (rgs [] rfl ?_ ?_))))
    ·simp [holdsC, under]; omega
    refine sq (rgs [CG.pure (.bool (p ((l.getD j 0))))] rfl ?_ ?_)
    ·have hd := hp ((l.getD j 0)) (by simp [List.getD_eq_getElem?_getD, hjl])
     skip
     show AC Tryz.prog T tysN f ((fun x => AV.int x) (dlG 0 p l j j) :: [.rp ta xa]) [] (.bool (p ((l.getD j 0)))) []
     rw [dlG_at]; exact hd
    refine cd rfl (fun h8 => ?_) (fun h8 => ?_)
    ·have hpx : p ((l.getD j 0)) = false := by simpa using h8
     refine sq (rgs [] rfl ?_ ?_)
     ·simp [holdsC, under]; omega
     refine rg [] rfl ?_
     refine rg [] rfl ?_
     refine ⟨j + 1, ?_, ?_, ?_⟩
     ·rw [keepG_snoc_yes hjl hpx, List.length_append, List.length_singleton]; exact ⟨hjl, by omega⟩
     ·refine em [] trivial ⟨⟨rfl, _, rfl, cvt⟩, ⟨rfl, _, rfl, cvt⟩, ⟨rfl, _, rfl, conv_eq (by rw [wrap_id (by omega) (by omega), keepG_snoc_yes hjl hpx, List.length_append, List.length_singleton]; rfl)⟩, ⟨rfl, _, rfl, cvt⟩, trivial⟩ ⟨⟨fun _ _ => rfl, .inl ⟨_, rfl, _, _, rfl, Nat.le_refl _, Nat.zero_le _, Nat.zero_le _, fun q hq => conv_eq (by rw [dlG_yes hjl hpx]; exact dlG_put (enc := (fun x => AV.int x)) (d := 0) _)⟩⟩, trivial⟩
     ·(try simp only []); first | omega | grind
    ·have hpx : p ((l.getD j 0)) = true := by simpa using h8
     refine sk (rg [] rfl ?_)
     refine ⟨j + 1, ?_, ?_, ?_⟩
     ·rw [keepG_snoc_no hjl hpx]; exact ⟨hjl, by omega⟩
     ·refine em [] trivial ⟨⟨rfl, _, rfl, cvt⟩, ⟨rfl, _, rfl, cvt⟩, ⟨rfl, _, rfl, conv_eq (by rw [keepG_snoc_no hjl hpx])⟩, ⟨rfl, _, rfl, cvt⟩, trivial⟩ ⟨⟨fun _ _ => rfl, .inl ⟨_, rfl, _, _, rfl, Nat.le_refl _, Nat.zero_le _, Nat.zero_le _, fun q hq => conv_eq (by rw [dlG_no hjl hpx])⟩⟩, trivial⟩
     ·(try simp only []); first | omega | grind
   ·have hjl : j = l.length := by simp at h5; omega
    subst hjl
    refine xt (sq (rgs [] rfl ?_ ?_))
    ·have hk2 : (keepG p l).length < l.length := by rw [List.take_length] at hkj; exact hkj
     simp [holdsC, under, slOk, slB]; omega
    refine sq (rgs [] rfl ?_ ?_)
    ·have hk2 : (keepG p l).length < l.length := by rw [List.take_length] at hkj; exact hkj
     simp [holdsC, under, slOk, slB]; omega
    refine WP.ret ?_
    change Fin ..
    refine fin_mk hT [] (ts := [(4, .own (.b 0) n 0 (keepG p l).length none)]) (l := [.own (.b 0) n 0 (keepG p l).length none]) trivial ⟨⟨rfl, _, rfl, conv_eq (by rw [List.take_length]; simp; done)⟩, trivial⟩ ⟨⟨fun _ _ => rfl, .inl ⟨_, rfl, _, _, rfl, Nat.le_refl _, Nat.zero_le _, Nat.zero_le _, fun q hq => conv_eq (Eq.trans rfl (dlG_clearZ (keepG p (l.take l.length)).length (by rw [List.take_length]) q))⟩⟩, trivial⟩ rfl rfl rfl
theorem concatR_ac (f : Bool) (LL : List (List Int)) (hl : LL.length ≤ 1000) (hs : (flTo LL LL.length).length ≤ 1000000) : AC Tryz.prog T tysN 81 [intss f LL] [] (ints false (flTo LL LL.length)) [] := AC.rowI hT (concat_ac f LL hl hs)
def pI (t : List Evt) (i : Int) : List Int := (pastI t i.toNat).reverse
def bothI (t : List Evt) (i j : Int) : List Int := flTo [pI t i, pI t j] 2
/-- The past of both, without i, then i, then j, then all others. -/
def ord0 (t : List Evt) (i j : Int) : List Int := keepG (fun x => x == i) (ddI (sortI (bothI t i j))) ++ [i, j]
def ordTo (t : List Evt) (i j : Int) : Nat → List Int
  | 0 => ord0 t i j
  | k + 1 => if (k : Int) ∈ ordTo t i j k then ordTo t i j k else ordTo t i j k ++ [(k : Int)]
def ordI (t : List Evt) (i j : Int) : List Int := ordTo t i j t.length
def askB (t : List Evt) (i j : Int) : Bool := plcF t i j != 0 || decide (i ≥ j)
def besL (t : List Evt) (i j : Int) : List Int := if (!askB t i j && linF t (ordI t i j)) = true then ordI t i j else []
theorem ddI_len (s : List Int) : (ddI s).length ≤ s.length := dd_len 0 s s.length
theorem pI_len (t : List Evt) (i : Int) : (pI t i).length ≤ i.toNat := by
  rw [pI, List.length_reverse, pastI, List.length_map]
  exact pastTo_len t _ _
theorem bothI_len (t : List Evt) (i j : Int) : (bothI t i j).length = (pI t i).length + (pI t j).length := by
  simp [bothI, flTo]
theorem ord0_len (t : List Evt) (i j : Int) : (ord0 t i j).length ≤ (pI t i).length + (pI t j).length + 2 := by
  have h1 := dd_len (0 : Int) (sortI (bothI t i j)) (sortI (bothI t i j)).length
  rw [sort_len, bothI_len] at h1
  have h2 : (keepG (fun x => x == i) (ddI (sortI (bothI t i j)))).length ≤ (ddI (sortI (bothI t i j))).length := List.length_filter_le _ _
  rw [ord0, List.length_append]
  have h3 : (ddI (sortI (bothI t i j))).length ≤ (pI t i).length + (pI t j).length := by rw [ddI, sort_len, bothI_len]; exact h1
  simp only [List.length_cons, List.length_nil]
  omega
theorem ordTo_len (t : List Evt) (i j : Int) : ∀ k, (ordTo t i j k).length ≤ (ord0 t i j).length + k
  | 0 => Nat.le_refl _
  | k + 1 => by
    have := ordTo_len t i j k
    rw [ordTo]
    split
    · omega
    · rw [List.length_append, List.length_singleton]; omega
theorem plc_ask {t : List Evt} {i j : Int} (h : plcF t i j = 0) : askE t [i] = 0 ∧ askE t [j] = 0 := by
  obtain ⟨h1, h2, h3⟩ := plc_at h
  constructor
  · rw [askE, if_neg (fun e => e h1), if_neg]
    simp; omega
  · rw [askE, if_neg (fun e => e h1), if_neg]
    simp; omega
theorem opastZ_ac (g : Bool) (t : List Evt) (i : Int) (h : askE t [i] = 0) : AC Tryz.prog T tysN 78 [evts g t, .int i] [] (.tup [ints false (pI t i), .int 0]) [] := by
  have h1 := opast_ac g t i
  rw [if_pos h, h] at h1
  exact h1
theorem concat2_ac (a b : List Int) (h : a.length + b.length ≤ 1000000) (g : Nat → AV) (h0 : g 0 = ints false a) (h1 : g 1 = ints false b) : AC Tryz.prog T tysN 81 [.row 23 true 2 g] [] (ints false (flTo [a, b] 2)) [] :=
  AC.conv hT (concatR_ac false [a, b] (Nat.le_of_ble_eq_true rfl) (by simpa [flTo] using h)) ⟨_, _, rfl, conv_rowL (fun h => by cases h) (fun q hq => by match q, hq with | 0, _ => exact h0 | 1, _ => exact h1), rfl⟩
theorem fun_ac (x i : Int) : AC Tryz.prog T tysN 84 [.int x, .rp 3 (.int i)] [] (.bool (x == i)) [] := by
 refine AC_intro hT Tryz.func84 rfl rfl (Nat.le_of_ble_eq_true rfl) ?_
 refine sq (rg [] rfl ?_)
 refine sq (rg [] rfl ?_)
 refine WP.ret ?_
 change Fin ..
 exact fin1 hT (by rfl) rfl
theorem beside_ac (g : Bool) (t : List Evt) (i j : Int) : AC Tryz.prog T tysN 32 [evts g t, .int i, .int j] [] (.tup [ints false (besL t i j), .bool (!askB t i j && linF t (ordI t i j)), .int (plcF t i j)]) [] := by
 refine AC_intro hT Tryz.func32 rfl rfl (Nat.le_of_ble_eq_true rfl) ?_
 refine sq (rg [] rfl ?_)
 refine sq (sq (rgs [CG.pure (.int (plcF t i j))] rfl ?_ ?_))
 ·have h1 := placed_ac g t i j
  simp only [holdsC, under, CG.pure]
  repeat' with_reducible refine And.intro ?_ ?_
  all_goals (try with_reducible intros)
  all_goals (first | exact trivial | assumption | omega | exact h1 | (simp; done) | grind)
 refine sq (rg [] rfl ?_)
 refine cd rfl (fun h2 => ?_) (fun h2 => ?_)
 ·have hb : askB t i j = true := by
    have e := h2
    rw [bor] at e
    exact e
  refine sq (rg [] rfl ?_)
  refine WP.ret ?_
  change Fin ..
  have e2 : besL t i j = [] := by rw [besL, hb]; rfl
  rw [e2, hb]
  refine fin_mk hT [] (ts := [(6, ints false []), (7, .bool false), (8, .int (plcF t i j))]) (l := [ints false [], .bool false, .int (plcF t i j)]) trivial ⟨⟨rfl, _, rfl, conv_nil_row (by decide)⟩, ⟨rfl, _, rfl, conv_eq rfl⟩, ⟨rfl, _, rfl, conv_eq rfl⟩, trivial⟩ trivial rfl rfl rfl
 ·have hb : askB t i j = false := by
    have e := h2
    rw [bor] at e
    exact e
  have hz : plcF t i j = 0 := by
    have e := hb
    simp [askB] at e
    exact e.1
  have hij : i < j := by
    have e := hb
    simp [askB] at e
    exact e.2
  obtain ⟨hc, hir, hjr⟩ := plc_at hz
  obtain ⟨ha1, ha2⟩ := plc_ask hz
  have hok := chk_right hc
  have h256 := hok.1
  have hl1 := pI_len t i
  have hl2 := pI_len t j
  have hl3 := bothI_len t i j
  have hsl := sort_len (bothI t i j)
  have hdl := ddI_len (sortI (bothI t i j))
  have hkl : (keepG (fun x => x == i) (ddI (sortI (bothI t i j)))).length ≤ (ddI (sortI (bothI t i j))).length := List.length_filter_le _ _
  have hol := ord0_len t i j
  refine sk (sq (rgs [CG.pure (.tup [ints false (pI t i), .int 0])] rfl ?_ ?_))
  ·have h1 := opastZ_ac g t i ha1
   simp only [holdsC, under, CG.pure]
   repeat' with_reducible refine And.intro ?_ ?_
   all_goals (try with_reducible intros)
   all_goals (first | exact trivial | assumption | omega | exact h1 | (simp; done) | grind)
  refine sq (rgs [CG.pure (.tup [ints false (pI t j), .int 0])] rfl ?_ ?_)
  ·have h1 := opastZ_ac g t j ha2
   simp only [holdsC, under, CG.pure]
   repeat' with_reducible refine And.intro ?_ ?_
   all_goals (try with_reducible intros)
   all_goals (first | exact trivial | assumption | omega | exact h1 | (simp; done) | grind)
  refine sq ?_
  refine WP.ent (st' := mkSt [(0, evts g t), (2, .int j), (4, .rp 3 (.int i)), (10, ints false (pI t i)), (12, ints false (pI t j))] []) ?_ ?_
  ·refine em [(.s 4 0, 1)] ⟨⟨_, rfl, Nat.le_refl _⟩, trivial⟩ ⟨⟨rfl, _, rfl, cvt⟩, ⟨rfl, _, rfl, cvt⟩, ⟨rfl, _, rfl, conv_rpe rfl rfl (by decide) rfl rfl rfl⟩, ⟨rfl, _, rfl, cvt⟩, ⟨rfl, _, rfl, cvt⟩, trivial⟩ trivial
  refine rgs [CG.pure (ints false (bothI t i j)), CG.pure (.clo 127 [.rp 23 (ints false (bothI t i j))]), ⟨true, [], ownI (sortI (bothI t i j)), [cellsI 3 .i64 (sortI (bothI t i j))]⟩] rfl ?_ ?_
  ·have h1 := concat2_ac (pI t i) (pI t j) (by omega)
   have h2 := values_ac false (bothI t i j)
   have h3 := sorted_ac false (bothI t i j) (by omega)
   have h4 : okOs (bs 1) [cellsI 3 .i64 (sortI (bothI t i j))] := ⟨fun _ _ => rfl, trivial⟩
   simp only [holdsC, under, CG.pure]
   repeat' with_reducible refine And.intro ?_ ?_
   all_goals (try with_reducible intros)
   all_goals (first | exact trivial | assumption | omega | exact h1 _ rfl rfl | exact h2 | exact h3 | exact h4 | (simp; done))
  refine sq (rgs [⟨true, [.s 48 1], .own (.b 0) (sortI (bothI t i j)).length 0 (ddI (sortI (bothI t i j))).length none, [dupsO (sortI (bothI t i j))]⟩, ⟨true, [.s 48 1], .own (.b 0) (sortI (bothI t i j)).length 0 (keepG (fun x => x == i) (ddI (sortI (bothI t i j)))).length none, [.cells ⟨3, (sortI (bothI t i j)).length, fun q => .int ((keepG (fun x => x == i) (ddI (sortI (bothI t i j)))).getD q 0), 0⟩]⟩] rfl ?_ ?_)
  ·have h1 := compZ_ac (sortI (bothI t i j))
   have h2 := delZ_ac (sortI (bothI t i j)).length (ddI (sortI (bothI t i j))) (ddI_len _) 84 3 (.int i) (fun x => x == i) (fun x _ => fun_ac x i)
   have h4 : okOs [.s 48 1] [cellsI 3 .i64 (sortI (bothI t i j))] := ⟨fun _ _ => rfl, trivial⟩
   have h5 : okOs (bs 1) [dupsO (sortI (bothI t i j))] := ⟨fun _ _ => rfl, trivial⟩
   have h6 : okOs [.s 48 1] [dupsO (sortI (bothI t i j))] := ⟨fun _ _ => rfl, trivial⟩
   have h7 : okOs (bs 1) [.cells ⟨3, (sortI (bothI t i j)).length, fun q => .int ((keepG (fun x => x == i) (ddI (sortI (bothI t i j)))).getD q 0), 0⟩] := ⟨fun _ _ => rfl, trivial⟩
   simp only [holdsC, under, CG.pure]
   repeat' with_reducible refine And.intro ?_ ?_
   all_goals (try with_reducible intros)
   all_goals (first | exact trivial | assumption | omega | exact h1 | exact h2 | exact h4 | exact h5 | exact h6 | exact h7 | (simp; done))
  refine sq (drs [⟨true, [], ownI (keepG (fun x => x == i) (ddI (sortI (bothI t i j)))), [cellsI 3 .i64 (keepG (fun x => x == i) (ddI (sortI (bothI t i j))))]⟩] rfl ?_ ?_)
  ·have h1 := fun f => clone_ac f (keepG (fun x => x == i) (ddI (sortI (bothI t i j)))) (by omega)
   have h4 : okOs (bs 1) [cellsI 3 .i64 (keepG (fun x => x == i) (ddI (sortI (bothI t i j))))] := ⟨fun _ _ => rfl, trivial⟩
   have hbt : (T 3).bytes = 8 := rfl
   simp [holdsC, under, CG.pure, hbt]
   exact ⟨⟨fun _ _ => rfl, trivial, h4, h1 _⟩, by omega⟩
  refine sq (sq (rg [] rfl ?_))
  refine bk ?_
  refine WP.loop (α := Nat) (fun k => mkSt [(0, evts g t), (15, .own (.s 54 1) (ordTo t i j k).length 0 (ordTo t i j k).length none), (60, .int t.length), (61, .int k)] [(.s 54 1, cellsI 3 .i64 (ordTo t i j k))]) (fun k => k ≤ t.length) (fun k => t.length - k) ?_ ?_
  ·refine ⟨0, ?_, ?_⟩
   ·exact Nat.zero_le _
   ·refine em [] trivial ⟨⟨rfl, _, rfl, cvt⟩, ⟨rfl, _, rfl, conv_eq (by show _ = AV.own _ (ord0 t i j).length 0 (ord0 t i j).length none; rw [ord0, List.length_append]; rfl)⟩, ⟨rfl, _, rfl, cvt⟩, ⟨rfl, _, rfl, cvt⟩, trivial⟩ ⟨ob_ints rfl rfl (by show _ = (ord0 t i j).length; rw [ord0, List.length_append]; rfl) rfl rfl (join_flat (b := [i, j]) (fun q hq => rfl) (fun q hq => by match q, hq with | 0, _ | 1, _ => rfl)), trivial⟩
  ·rintro k hk
   refine sq (rg [] rfl ?_)
   refine sq ?_
   refine cd rfl (fun h10 => ?_) (fun h10 => ?_)
   ·have hkt : k < t.length := by simpa using h10
    have hn1 := ordTo_len t i j k
    refine sk (sq (bk (sq (rg [] rfl ?_))))
    refine sq (rgs [CG.pure (.bool (decide ((k : Int) ∈ ordTo t i j k)))] rfl ?_ ?_)
    ·have h1 := contains_ac false (ordTo t i j k) k
     simp [holdsC, under, CG.pure]
     exact ⟨fun _ _ => rfl, h1⟩
    refine cd rfl (fun h12 => ?_) (fun h12 => ?_)
    ·have hx : ¬ ((k : Int) ∈ ordTo t i j k) := by
       have e : (!decide ((k : Int) ∈ ordTo t i j k)) = true := h12
       simpa using e
     have e3 : ordTo t i j (k + 1) = ordTo t i j k ++ [(k : Int)] := by rw [ordTo, if_neg hx]
     refine rgs [] rfl ?_ ?_
     ·have hbt : (T 3).bytes = 8 := rfl
      have e1 : ((ordTo t i j k).length + 1) * (T 3).bytes ≤ 140737488355328 := by rw [hbt]; omega
      simp only [holdsC, under, CG.pure]
      repeat' with_reducible refine And.intro ?_ ?_
      all_goals (try with_reducible intros)
      all_goals (first | exact trivial | assumption | omega | exact hbt | exact e1 | (simp; done) | grind)
     refine rg [] rfl ?_
     refine ⟨k + 1, ?_, ?_, ?_⟩
     ·exact hkt
     ·refine em [] trivial ⟨⟨rfl, _, rfl, cvt⟩, ⟨rfl, _, rfl, conv_eq (by rw [e3, List.length_append]; rfl)⟩, ⟨rfl, _, rfl, cvt⟩, ⟨rfl, _, rfl, cvt⟩, trivial⟩ ⟨ob_ints rfl rfl (by rw [e3, List.length_append]; rfl) rfl rfl (by rw [e3]; exact join_flat (fun q hq => rfl) (fun q hq => by (obtain rfl : q = 0 := (by simp at hq; exact hq)); rfl)), trivial⟩
     ·(try simp only []); first | omega | grind
    ·have hx : (k : Int) ∈ ordTo t i j k := by
       have e : (!decide ((k : Int) ∈ ordTo t i j k)) = false := h12
       simpa using e
     have e3 : ordTo t i j (k + 1) = ordTo t i j k := by rw [ordTo, if_pos hx]
     refine sk (rg [] rfl ?_)
     refine ⟨k + 1, ?_, ?_, ?_⟩
     ·exact hkt
     ·refine em [] trivial ⟨⟨rfl, _, rfl, cvt⟩, ⟨rfl, _, rfl, conv_eq (by rw [e3])⟩, ⟨rfl, _, rfl, cvt⟩, ⟨rfl, _, rfl, cvt⟩, trivial⟩ ⟨ob_ints rfl rfl (by rw [e3]) rfl rfl (fun q hq => by rw [e3]), trivial⟩
     ·(try simp only []); first | omega | grind
   ·have hkt : k = t.length := by simp at h10; omega
    subst hkt
    refine xt (sq (sq (rgs [CG.pure (.tup [.bool (linF t (ordI t i j)), .int (linE t (ordI t i j))])] rfl ?_ ?_)))
    ·have h1 := linear_ac g false t (ordI t i j)
     simp [holdsC, under, CG.pure]
     exact ⟨fun _ _ => rfl, h1⟩
    refine sq (rg [] rfl ?_)
    refine cd rfl (fun h16 => ?_) (fun h16 => ?_)
    ·have hx : linF t (ordI t i j) = false := by
       have e : (!linF t (ordI t i j)) = true := h16
       simpa using e
     refine sq (rg [] rfl ?_)
     refine WP.ret ?_
     change Fin ..
     have e2 : besL t i j = [] := by rw [besL, hx, Bool.and_false]; rfl
     rw [e2, hx, Bool.and_false, hz]
     refine fin_mk hT [] (ts := [(6, ints false []), (7, .bool false), (8, .int 0)]) (l := [ints false [], .bool false, .int 0]) trivial ⟨⟨rfl, _, rfl, conv_nil_row (by decide)⟩, ⟨rfl, _, rfl, conv_eq rfl⟩, ⟨rfl, _, rfl, conv_eq rfl⟩, trivial⟩ trivial rfl rfl rfl
    ·have hx : linF t (ordI t i j) = true := by
       have e : (!linF t (ordI t i j)) = false := h16
       simpa using e
     refine sk (sq (rg [] rfl ?_))
     refine WP.ret ?_
     change Fin ..
     have e2 : besL t i j = ordI t i j := by rw [besL, hx, hb]; rfl
     rw [e2, hx, hb, hz]
     refine fin_mk hT [(.s 54 1, (ordI t i j).length)] (ts := [(6, ints false (ordI t i j)), (7, .bool true), (8, .int 0)]) (l := [ints false (ordI t i j), .bool true, .int 0]) ⟨⟨_, rfl, Nat.le_refl _⟩, trivial⟩ ⟨⟨rfl, _, rfl, ?_⟩, ⟨rfl, _, rfl, conv_eq rfl⟩, ⟨rfl, _, rfl, conv_eq rfl⟩, trivial⟩ trivial rfl rfl rfl
     exact conv_row rfl rfl rfl (fun h => by cases h) (by simp [lookF, idbeq_self]; exact Nat.le_refl _) (fun q hq => by rw [Nat.zero_add]; exact ⟨rfl, AEq.refl _⟩)
end Go.Ab


/- The reference's Clocked and Beside. -/
set_option autoImplicit false
set_option maxRecDepth 20000
set_option maxHeartbeats 4000000
set_option linter.unusedSimpArgs false
set_option linter.unusedVariables false
namespace Go.Ab
open Go.Proofs Go.Sort
/-- The numbers below k of which p holds. -/
def fmTo (p : Nat → Bool) (k : Nat) : List Int := ((List.range k).filter p).map fun n : Nat => (n : Int)
theorem fmTo_yes {p : Nat → Bool} {k : Nat} (h : p k = true) : fmTo p (k + 1) = fmTo p k ++ [(k : Int)] := by
  rw [fmTo, List.range_succ, List.filter_append, List.filter_cons_of_pos h, List.map_append]; rfl
theorem fmTo_no {p : Nat → Bool} {k : Nat} (h : p k = false) : fmTo p (k + 1) = fmTo p k := by
  rw [fmTo, List.range_succ, List.filter_append, List.filter_cons_of_neg (by rw [h]; decide), List.filter_nil, List.append_nil]; rfl
theorem fmTo_len (p : Nat → Bool) (k : Nat) : (fmTo p k).length ≤ k := by
  have := List.length_filter_le p (List.range k)
  rw [List.length_range] at this
  rw [fmTo, List.length_map]; exact this
theorem fmTo_mem {p : Nat → Bool} {k : Nat} {x : Int} : x ∈ fmTo p k ↔ ∃ n : Nat, x = n ∧ n < k ∧ p n = true := by
  simp only [fmTo, List.mem_map, List.mem_filter, List.mem_range]
  constructor
  · rintro ⟨n, ⟨h1, h2⟩, rfl⟩; exact ⟨n, rfl, h1, h2⟩
  · rintro ⟨n, rfl, h1, h2⟩; exact ⟨n, ⟨h1, h2⟩, rfl⟩
def rclB (t : List Evt) (i j k : Nat) : Bool := (k != i && refT t i k) && depB (eAt t k) (eAt t j)
def rclkdF (t : List Evt) (i j : Nat) : Bool := !noQ t i j && (List.range j).all fun k => !rclB t i j k
theorem rclk_no {t : List Evt} {i j k : Nat} (hk : k < j) (h : rclB t i j k = true) : rclkdF t i j = false := by
  cases e : rclkdF t i j with
  | false => rfl
  | true =>
    simp only [rclkdF, Bool.and_eq_true, List.all_eq_true, List.mem_range] at e
    have := e.2 k hk
    rw [h] at this; cases this
theorem rclk_yes {t : List Evt} {i j : Nat} (hq : noQ t i j = false) (h : ∀ k, k < j → rclB t i j k = false) : rclkdF t i j = true := by
  simp only [rclkdF, Bool.and_eq_true, List.all_eq_true, List.mem_range]
  exact ⟨by rw [hq]; rfl, fun k hk => by rw [h k hk]; rfl⟩
theorem rclocked_ac (g : Bool) (t : List Evt) (i j : Nat) (h : GoOK t) (hi : i < t.length) (hj : j < t.length) : AC Tryz.prog T tysN 35 [evts g t, .int i, .int j] [] (.bool (rclkdF t i j)) [] := by
 refine AC_intro hT Tryz.func35 rfl rfl (Nat.le_of_ble_eq_true rfl) ?_
 have h256 := h.1
 refine sq (rg [] rfl ?_)
 refine sq (sq (drs [CG.pure (.bool (depB (eAt t i) (eAt t j)))] rfl ?_ ?_))
 ·have h1 := rdep_ac (eAt t i) (eAt t j)
  simp only [holdsC, under, CG.pure]
  repeat' with_reducible refine And.intro ?_ ?_
  all_goals (try with_reducible intros)
  all_goals (first | exact trivial | assumption | omega | exact h1 | (simp; done) | grind)
 refine cd rfl (fun h1 => ?_) (fun h1 => ?_)
 ·have hq : noQ t i j = true := by
    have e := h1
    rw [bor, bor] at e
    have e2 : (decide ((i : Int) ≥ j) || (eAt t i).go == (eAt t j).go || !depB (eAt t i) (eAt t j)) = true := e
    rw [noQ, ← e2, show decide (i ≥ j) = decide ((i : Int) ≥ j) from decide_eq_decide.2 (by omega)]
  refine sq (rg [] rfl ?_)
  refine WP.ret ?_
  change Fin ..
  exact fin1 hT (by rfl) (by rw [rclkdF, hq]; rfl)
 ·have hq : noQ t i j = false := by
    have e := h1
    rw [bor, bor] at e
    have e2 : (decide ((i : Int) ≥ j) || (eAt t i).go == (eAt t j).go || !depB (eAt t i) (eAt t j)) = false := e
    rw [noQ, ← e2, show decide (i ≥ j) = decide ((i : Int) ≥ j) from decide_eq_decide.2 (by omega)]
  refine sk (sq (rgs [CG.pure (tabB t.length (refT t))] rfl ?_ ?_))
  ·have h1 := rbef_ac g t h
   simp only [holdsC, under, CG.pure]
   repeat' with_reducible refine And.intro ?_ ?_
   all_goals (try with_reducible intros)
   all_goals (first | exact trivial | assumption | omega | exact h1 | (simp; done) | grind)
  refine sq (sq (rg [] rfl ?_))
  refine bk ?_
  refine WP.loop (α := Nat) (fun k => mkSt [(0, evts g t), (1, .int i), (2, .int j), (7, tabB t.length (refT t)), (8, .int k)] []) (fun k => k ≤ j ∧ ∀ a, a < k → rclB t i j a = false) (fun k => j - k) ?_ ?_
  ·refine ⟨0, ?_, ?_⟩
   ·exact ⟨Nat.zero_le _, fun a ha => absurd ha (Nat.not_lt_zero _)⟩
   ·refine em [] trivial ⟨⟨rfl, _, rfl, cvt⟩, ⟨rfl, _, rfl, cvt⟩, ⟨rfl, _, rfl, cvt⟩, ⟨rfl, _, rfl, cvt⟩, ⟨rfl, _, rfl, cvt⟩, trivial⟩ trivial
  ·rintro k ⟨hk, hn⟩
   refine sq (sq (rg [] rfl ?_))
   refine cd rfl (fun h5 => ?_) (fun h5 => ?_)
   ·have hkj : k < j := by simpa using h5
    refine sk (sq (bk (sq (drs [CG.pure (.bool (depB (eAt t k) (eAt t j)))] rfl ?_ ?_))))
    ·have h1 := rdep_ac (eAt t k) (eAt t j)
     simp only [holdsC, under, CG.pure]
     repeat' with_reducible refine And.intro ?_ ?_
     all_goals (try with_reducible intros)
     all_goals (first | exact trivial | assumption | omega | exact h1 | (simp; done) | grind)
    refine cd rfl (fun h7 => ?_) (fun h7 => ?_)
    ·have hx : rclB t i j k = true := by
       have e := h7
       rw [band, band] at e
       rw [rclB, ← e]
       congr 2
       rw [Bool.eq_iff_iff]
       simp; omega
     refine sq (rg [] rfl ?_)
     refine WP.ret ?_
     change Fin ..
     exact fin1 hT (by rfl) (rclk_no hkj hx).symm
    ·have hx : rclB t i j k = false := by
       have e := h7
       rw [band, band] at e
       rw [rclB, ← e]
       congr 2
       rw [Bool.eq_iff_iff]
       simp; omega
     refine sk (rg [] rfl ?_)
     refine ⟨k + 1, ?_, ?_, ?_⟩
     ·exact ⟨hkj, all_succ (Q := fun a => rclB t i j a = false) hn hx⟩
     ·refine em [] trivial ⟨⟨rfl, _, rfl, cvt⟩, ⟨rfl, _, rfl, cvt⟩, ⟨rfl, _, rfl, cvt⟩, ⟨rfl, _, rfl, cvt⟩, ⟨rfl, _, rfl, cvt⟩, trivial⟩ trivial
     ·(try simp only []); first | omega | grind
   ·have hkj : k = j := by simp at h5; omega
    subst hkj
    refine xt (sq (rg [] rfl ?_))
    refine WP.ret ?_
    change Fin ..
    exact fin1 hT (by rfl) (rclk_yes hq hn).symm
end Go.Ab


/- The reference's Beside. -/
set_option autoImplicit false
set_option maxRecDepth 20000
set_option maxHeartbeats 4000000
set_option linter.unusedSimpArgs false
set_option linter.unusedVariables false
namespace Go.Ab
open Go.Proofs Go.Sort
def offB (i j k : Nat) : Bool := k != i && k != j
def betK (t : List Evt) (i j k : Nat) : Bool := offB i j k && (refT t i k && refT t k j)
def firB (t : List Evt) (i j k : Nat) : Bool := offB i j k && (refT t k i || refT t k j)
def resB (t : List Evt) (i j k : Nat) : Bool := offB i j k && !(refT t k i || refT t k j)
def rordI (t : List Evt) (i j : Nat) : List Int := fmTo (firB t i j) t.length ++ [(i : Int), (j : Int)] ++ fmTo (resB t i j) t.length
def rbesB (t : List Evt) (i j : Nat) : Bool := !decide (i ≥ j) && !(List.range t.length).any (betK t i j)
def rbesL (t : List Evt) (i j : Nat) : List Int := if rbesB t i j = true then rordI t i j else []
theorem rbes_no {t : List Evt} {i j k : Nat} (hk : k < t.length) (h : betK t i j k = true) : rbesB t i j = false := by
  have : (List.range t.length).any (betK t i j) = true := List.any_eq_true.2 ⟨k, List.mem_range.2 hk, h⟩
  rw [rbesB, this, Bool.not_true, Bool.and_false]
theorem rbes_yes {t : List Evt} {i j : Nat} (hij : i < j) (h : ∀ k, k < t.length → betK t i j k = false) : rbesB t i j = true := by
  have : (List.range t.length).any (betK t i j) = false := by
    rw [List.any_eq_false]
    intro k hk
    rw [h k (List.mem_range.1 hk)]; decide
  rw [rbesB, this, decide_eq_false (by omega)]; rfl
theorem take_snocI {l : List Int} {k : Nat} (h : k < l.length) : l.take (k + 1) = l.take k ++ [l.getD k 0] := by
  rw [List.take_add_one, List.getElem?_eq_getElem h]
  simp [List.getD_eq_getElem?_getD, h]
theorem rbeside_ac (g : Bool) (t : List Evt) (i j : Nat) (h : GoOK t) (hi : i < t.length) (hj : j < t.length) : AC Tryz.prog T tysN 34 [evts g t, .int i, .int j] [] (.tup [ints false (rbesL t i j), .bool (rbesB t i j)]) [] := by
 refine AC_intro hT Tryz.func34 rfl rfl (Nat.le_of_ble_eq_true rfl) ?_
 have h256 := h.1
 refine sq (rg [] rfl ?_)
 refine sq (sq (rg [] rfl ?_))
 refine cd rfl (fun h1 => ?_) (fun h1 => ?_)
 ·have hb : rbesB t i j = false := by rw [rbesB, decide_eq_true (by simp at h1; omega)]; rfl
  refine sq (rg [] rfl ?_)
  refine WP.ret ?_
  change Fin ..
  rw [rbesL, hb]
  refine fin_mk hT [] (ts := [(6, ints false []), (7, .bool false)]) (l := [ints false [], .bool false]) trivial ⟨⟨rfl, _, rfl, conv_nil_row (by decide)⟩, ⟨rfl, _, rfl, conv_eq rfl⟩, trivial⟩ trivial rfl rfl rfl
 ·have hij : i < j := by simp at h1; omega
  refine sk (sq (rgs [CG.pure (tabB t.length (refT t))] rfl ?_ ?_))
  ·have h1 := rbef_ac g t h
   simp only [holdsC, under, CG.pure]
   repeat' with_reducible refine And.intro ?_ ?_
   all_goals (try with_reducible intros)
   all_goals (first | exact trivial | assumption | omega | exact h1 | (simp; done) | grind)
  refine sq (rg [] rfl ?_)
  refine sq (sq (rg [] rfl ?_))
  refine bk ?_
  refine WP.loop (α := Nat) (fun k => mkSt [(0, evts g t), (1, .int i), (2, .int j), (8, tabB t.length (refT t)), (9, .own (.s 67 0) (fmTo (firB t i j) k).length 0 (fmTo (firB t i j) k).length none), (10, .own (.s 71 0) (fmTo (resB t i j) k).length 0 (fmTo (resB t i j) k).length none), (11, .int k)] [(.s 67 0, cellsI 3 .i64 (fmTo (firB t i j) k)), (.s 71 0, cellsI 3 .i64 (fmTo (resB t i j) k))]) (fun k => k ≤ t.length ∧ ∀ a, a < k → betK t i j a = false) (fun k => t.length - k) ?_ ?_
  ·refine ⟨0, ?_, ?_⟩
   ·exact ⟨Nat.zero_le _, fun a ha => absurd ha (Nat.not_lt_zero _)⟩
   ·refine em [] trivial ⟨⟨rfl, _, rfl, cvt⟩, ⟨rfl, _, rfl, cvt⟩, ⟨rfl, _, rfl, cvt⟩, ⟨rfl, _, rfl, cvt⟩, ⟨rfl, _, rfl, conv_nil_own⟩, ⟨rfl, _, rfl, conv_nil_own⟩, ⟨rfl, _, rfl, cvt⟩, trivial⟩ ⟨⟨fun _ _ => rfl, .inr ⟨rfl, 3, _, rfl, by decide⟩⟩, ⟨fun _ _ => rfl, .inr ⟨rfl, 3, _, rfl, by decide⟩⟩, trivial⟩
  ·rintro k ⟨hk, hn⟩
   refine sq (sq (rg [] rfl ?_))
   refine cd rfl (fun h6 => ?_) (fun h6 => ?_)
   ·have hkt : k < t.length := by simpa using h6
    have hf1 := fmTo_len (firB t i j) k
    have hf2 := fmTo_len (resB t i j) k
    refine sk (sq (bk (sq (sq (rg [] rfl ?_)))))
    refine cd rfl (fun h8 => ?_) (fun h8 => ?_)
    ·have ho : offB i j k = false := by
       have e := h8
       rw [bor] at e
       rw [offB]
       simp at e ⊢
       omega
     have hx : betK t i j k = false := by rw [betK, ho]; rfl
     have hx1 : firB t i j k = false := by rw [firB, ho]; rfl
     have hx2 : resB t i j k = false := by rw [resB, ho]; rfl
     refine xt (rg [] rfl ?_)
     refine ⟨k + 1, ?_, ?_, ?_⟩
     ·exact ⟨hkt, all_succ (Q := fun a => betK t i j a = false) hn hx⟩
     ·refine em [] trivial ⟨⟨rfl, _, rfl, cvt⟩, ⟨rfl, _, rfl, cvt⟩, ⟨rfl, _, rfl, cvt⟩, ⟨rfl, _, rfl, cvt⟩, ⟨rfl, _, rfl, conv_eq (by rw [fmTo_no hx1])⟩, ⟨rfl, _, rfl, conv_eq (by rw [fmTo_no hx2])⟩, ⟨rfl, _, rfl, cvt⟩, trivial⟩ ⟨ob_ints rfl rfl (by rw [fmTo_no hx1]) rfl rfl (fun q hq => by rw [fmTo_no hx1]), ob_ints rfl rfl (by rw [fmTo_no hx2]) rfl rfl (fun q hq => by rw [fmTo_no hx2]), trivial⟩
     ·(try simp only []); first | omega | grind
    ·have ho : offB i j k = true := by
       have e := h8
       rw [bor] at e
       rw [offB]
       simp at e ⊢
       omega
     refine sk (sq (sq (rg [] rfl ?_)))
     refine cd rfl (fun h9 => ?_) (fun h9 => ?_)
     ·have hx : betK t i j k = true := by
        have e := h9
        rw [band] at e
        rw [betK, ho]
        exact e
      have hb := rbes_no hkt hx
      refine sq (rg [] rfl ?_)
      refine WP.ret ?_
      change Fin ..
      rw [rbesL, hb]
      refine fin_mk hT [] (ts := [(6, ints false []), (7, .bool false)]) (l := [ints false [], .bool false]) trivial ⟨⟨rfl, _, rfl, conv_nil_row (by decide)⟩, ⟨rfl, _, rfl, conv_eq rfl⟩, trivial⟩ trivial rfl rfl rfl
     ·have hx : betK t i j k = false := by
        have e := h9
        rw [band] at e
        rw [betK, ho]
        exact e
      refine sk (sq (rg [] rfl ?_))
      refine cd rfl (fun h11 => ?_) (fun h11 => ?_)
      ·have hx1 : firB t i j k = true := by
         have e := h11
         rw [bor] at e
         rw [firB, ho]
         exact e
       have hx2 : resB t i j k = false := by
         have e := h11
         rw [bor] at e
         have e2 : (refT t k i || refT t k j) = true := e
         rw [resB, ho, e2]; rfl
       refine rgs [] rfl ?_ ?_
       ·have hbt : (T 3).bytes = 8 := rfl
        have e1 : ((fmTo (firB t i j) k).length + 1) * (T 3).bytes ≤ 140737488355328 := by rw [hbt]; omega
        simp only [holdsC, under, CG.pure]
        repeat' with_reducible refine And.intro ?_ ?_
        all_goals (try with_reducible intros)
        all_goals (first | exact trivial | assumption | omega | exact hbt | exact e1 | (simp; done) | grind)
       refine rg [] rfl ?_
       refine ⟨k + 1, ?_, ?_, ?_⟩
       ·exact ⟨hkt, all_succ (Q := fun a => betK t i j a = false) hn hx⟩
       ·refine em [] trivial ⟨⟨rfl, _, rfl, cvt⟩, ⟨rfl, _, rfl, cvt⟩, ⟨rfl, _, rfl, cvt⟩, ⟨rfl, _, rfl, cvt⟩, ⟨rfl, _, rfl, conv_eq (by rw [fmTo_yes hx1, List.length_append]; rfl)⟩, ⟨rfl, _, rfl, conv_eq (by rw [fmTo_no hx2])⟩, ⟨rfl, _, rfl, cvt⟩, trivial⟩ ⟨ob_ints rfl rfl (by rw [fmTo_yes hx1, List.length_append]; rfl) rfl rfl (by rw [fmTo_yes hx1]; exact app1 (z := (T 3).zero) rfl (fun q hq => rfl)), ob_ints rfl rfl (by rw [fmTo_no hx2]) rfl rfl (fun q hq => by rw [fmTo_no hx2]), trivial⟩
       ·(try simp only []); first | omega | grind
      ·have hx1 : firB t i j k = false := by
         have e := h11
         rw [bor] at e
         rw [firB, ho]
         exact e
       have hx2 : resB t i j k = true := by
         have e := h11
         rw [bor] at e
         have e2 : (refT t k i || refT t k j) = false := e
         rw [resB, ho, e2]; rfl
       refine rgs [] rfl ?_ ?_
       ·have hbt : (T 3).bytes = 8 := rfl
        have e1 : ((fmTo (resB t i j) k).length + 1) * (T 3).bytes ≤ 140737488355328 := by rw [hbt]; omega
        simp only [holdsC, under, CG.pure]
        repeat' with_reducible refine And.intro ?_ ?_
        all_goals (try with_reducible intros)
        all_goals (first | exact trivial | assumption | omega | exact hbt | exact e1 | (simp; done) | grind)
       refine rg [] rfl ?_
       refine ⟨k + 1, ?_, ?_, ?_⟩
       ·exact ⟨hkt, all_succ (Q := fun a => betK t i j a = false) hn hx⟩
       ·refine em [] trivial ⟨⟨rfl, _, rfl, cvt⟩, ⟨rfl, _, rfl, cvt⟩, ⟨rfl, _, rfl, cvt⟩, ⟨rfl, _, rfl, cvt⟩, ⟨rfl, _, rfl, conv_eq (by rw [fmTo_no hx1])⟩, ⟨rfl, _, rfl, conv_eq (by rw [fmTo_yes hx2, List.length_append]; rfl)⟩, ⟨rfl, _, rfl, cvt⟩, trivial⟩ ⟨ob_ints rfl rfl (by rw [fmTo_no hx1]) rfl rfl (fun q hq => by rw [fmTo_no hx1]), ob_ints rfl rfl (by rw [fmTo_yes hx2, List.length_append]; rfl) rfl rfl (by rw [fmTo_yes hx2]; exact app1 (z := (T 3).zero) rfl (fun q hq => rfl)), trivial⟩
       ·(try simp only []); first | omega | grind
   ·have hkt : k = t.length := by simp at h6; omega
    subst hkt
    have hf1 := fmTo_len (firB t i j) t.length
    have hf2 := fmTo_len (resB t i j) t.length
    obtain ⟨A, hA⟩ : ∃ A, A = fmTo (firB t i j) t.length := ⟨_, rfl⟩
    obtain ⟨R, hR⟩ : ∃ R, R = fmTo (resB t i j) t.length := ⟨_, rfl⟩
    have hb := rbes_yes hij hn
    have hord : rordI t i j = A ++ [(i : Int), (j : Int)] ++ R := by rw [hA, hR]; rfl
    rw [← hA] at hf1 ⊢
    rw [← hR] at hf2 ⊢
    refine xt (sq (rgs [] rfl ?_ ?_))
    ·have hbt : (T 3).bytes = 8 := rfl
     have e1 : (A.length + 2) * (T 3).bytes ≤ 140737488355328 := by rw [hbt]; omega
     simp only [holdsC, under, CG.pure]
     repeat' with_reducible refine And.intro ?_ ?_
     all_goals (try with_reducible intros)
     all_goals (first | exact trivial | assumption | omega | exact hbt | exact e1 | (simp; done) | grind)
    refine sq (sq (rg [] rfl ?_))
    refine bk ?_
    refine WP.loop (α := Nat) (fun m => mkSt [(9, .own (.s 67 0) (A ++ [(i : Int), (j : Int)] ++ R.take m).length 0 (A ++ [(i : Int), (j : Int)] ++ R.take m).length none), (10, .own (.s 71 0) R.length 0 R.length none), (12, .int m)] [(.s 67 0, cellsI 3 .i64 (A ++ [(i : Int), (j : Int)] ++ R.take m)), (.s 71 0, cellsI 3 .i64 R)]) (fun m => m ≤ R.length) (fun m => R.length - m) ?_ ?_
    ·refine ⟨0, ?_, ?_⟩
     ·exact Nat.zero_le _
     ·refine em [] trivial ⟨⟨rfl, _, rfl, conv_eq (by rw [List.take_zero, List.append_nil, List.length_append]; rfl)⟩, ⟨rfl, _, rfl, cvt⟩, ⟨rfl, _, rfl, cvt⟩, trivial⟩ ⟨ob_ints rfl rfl (by rw [List.take_zero, List.append_nil, List.length_append]; rfl) rfl rfl (by rw [List.take_zero, List.append_nil]; exact join_flat (b := [(i : Int), (j : Int)]) (fun q hq => rfl) (fun q hq => by match q, hq with | 0, _ | 1, _ => rfl)), obs rfl, trivial⟩
    ·rintro m hm
     refine sq (sq (rg [] rfl ?_))
     refine cd rfl (fun h16 => ?_) (fun h16 => ?_)
     ·have hmr : m < R.length := by simpa using h16
      have hl : (A ++ [(i : Int), (j : Int)] ++ R.take m).length ≤ 514 := by
        rw [List.length_append, List.length_append, List.length_take]
        simp only [List.length_cons, List.length_nil]
        omega
      have e3 : A ++ [(i : Int), (j : Int)] ++ R.take (m + 1) = A ++ [(i : Int), (j : Int)] ++ R.take m ++ [R.getD m 0] := by rw [take_snocI hmr, ← List.append_assoc]
      refine sk (sq (bk (rgs [] rfl ?_ ?_)))
      ·have hbt : (T 3).bytes = 8 := rfl
       have e1 : ((A ++ [(i : Int), (j : Int)] ++ R.take m).length + 1) * (T 3).bytes ≤ 140737488355328 := by rw [hbt]; omega
       simp only [holdsC, under, CG.pure]
       repeat' with_reducible refine And.intro ?_ ?_
       all_goals (try with_reducible intros)
       all_goals (first | exact trivial | assumption | omega | exact hbt | exact e1 | (simp; done) | grind)
      refine rg [] rfl ?_
      refine ⟨m + 1, ?_, ?_, ?_⟩
      ·exact hmr
      ·refine em [] trivial ⟨⟨rfl, _, rfl, conv_eq (by rw [e3, len_snoc])⟩, ⟨rfl, _, rfl, cvt⟩, ⟨rfl, _, rfl, cvt⟩, trivial⟩ ⟨ob_ints rfl rfl (by rw [e3, len_snoc]) rfl rfl (by rw [e3]; exact app1 (z := (T 3).zero) rfl (fun q hq => rfl)), obs rfl, trivial⟩
      ·(try simp only []); first | omega | grind
     ·have hmr : m = R.length := by simp at h16; omega
      subst hmr
      rw [List.take_length, ← hord]
      refine xt (sq (rg [] rfl ?_))
      refine WP.ret ?_
      change Fin ..
      rw [rbesL, hb, if_pos rfl]
      refine fin_mk hT [(.s 67 0, (rordI t i j).length)] (ts := [(6, ints false (rordI t i j)), (7, .bool true)]) (l := [ints false (rordI t i j), .bool true]) ⟨⟨_, rfl, Nat.le_refl _⟩, trivial⟩ ⟨⟨rfl, _, rfl, ?_⟩, ⟨rfl, _, rfl, conv_eq rfl⟩, trivial⟩ trivial rfl rfl rfl
      exact conv_row rfl rfl rfl (fun h => by cases h) (by simp [lookF, idbeq_self]) (fun q hq => by rw [Nat.zero_add]; exact ⟨rfl, AEq.refl _⟩)
end Go.Ab


/- Law: Clocked by clocks or by what depends on what. -/
set_option autoImplicit false
set_option linter.unusedSimpArgs false
set_option linter.unusedVariables false
set_option linter.unusedSectionVars false
namespace Go.Ab
open Go.Proofs
section
variable {t : List Evt} (h : chkE t = 0)
include h
theorem clk_iff {i k : Nat} (hi : i < t.length) (hk : k < t.length) : (clkOf t i).getD (goN t i) 0 ≤ (clkOf t k).getD (goN t i) 0 ↔ (i = k ∨ HB t i k) := by
  have hok := chk_right h
  have hg := goN_lt hok hi
  constructor
  · intro h2
    have e1 := clk_get h hi (q := goN t i)
    rw [if_pos rfl] at e1
    have e2 := ((clk_le hok i hi).2 i (Nat.le_refl _)).2 _ hg
    rcases clk_wit h (goN t i) hg k hk with h3 | ⟨m, h3, h4, h5⟩
    · omega
    · have hm : m ≤ k := by
        rcases h3 with rfl | h3
        · exact Nat.le_refl _
        · exact Nat.le_of_lt h3.lt
      rcases Nat.lt_trichotomy m i with hki | rfl | hki
      · exfalso
        have hb : HB t m i := .dep hki (same_dep h (by omega) hi h4)
        have := clk_mono h hb hi (goN t i) hg
        omega
      · exact h3
      · have hb : HB t i m := .dep hki (same_dep h hi (by omega) h4.symm)
        rcases h3 with rfl | h3
        · exact .inr hb
        · exact .inr (hb.trans h3)
  · rintro (rfl | hb)
    · exact Int.le_refl _
    · have e1 := clk_mono h hb hk _ hg
      have e2 := clk_get h hk (q := goN t i)
      split at e2 <;> omega
omit h
theorem accX_iff {i j q : Nat} (hq : q < 6) {x : Int} (hx : 0 < x) : ∀ m, m ≤ j → (x ≤ (accX t i j m).getD q 0 ↔ ∃ k, k < m ∧ k ≠ i ∧ depB (eAt t k) (eAt t j) = true ∧ x ≤ (clkOf t k).getD q 0)
  | 0, _ => by
    rw [accX, zeroC_get]
    constructor
    · intro h; omega
    · rintro ⟨k, h1, _⟩; omega
  | m + 1, hm => by
    have ih := accX_iff hq hx (i := i) (j := j) m (by omega)
    rw [accX]
    have up : (∃ k, k < m ∧ k ≠ i ∧ depB (eAt t k) (eAt t j) = true ∧ x ≤ (clkOf t k).getD q 0) → ∃ k, k < m + 1 ∧ k ≠ i ∧ depB (eAt t k) (eAt t j) = true ∧ x ≤ (clkOf t k).getD q 0 := by
      rintro ⟨k, h1, h2⟩; exact ⟨k, by omega, h2⟩
    split
    · rename_i hc
      rw [Bool.and_eq_true] at hc
      have hmi : m ≠ i := by simpa using hc.1
      rw [joinC_get hq]
      have h3 := mx_ge ((accX t i j m).getD q 0) ((clkOf t m).getD q 0)
      constructor
      · intro hle
        rcases h3.2.2 with e | e
        · rw [e] at hle; exact up (ih.1 hle)
        · rw [e] at hle; exact ⟨m, by omega, hmi, hc.2, hle⟩
      · rintro ⟨k, k1, k2, k3, k4⟩
        by_cases e : k = m
        · subst e; exact Int.le_trans k4 h3.2.1
        · exact Int.le_trans (ih.2 ⟨k, by omega, k2, k3, k4⟩) h3.1
    · rename_i hc
      rw [ih]
      refine ⟨up, ?_⟩
      rintro ⟨k, k1, k2, k3, k4⟩
      by_cases e : k = m
      · subst e
        refine absurd ?_ hc
        rw [k3, Bool.and_true]
        simpa using k2
      · exact ⟨k, by omega, k2, k3, k4⟩
include h
theorem clkd_eq {i j : Nat} (hi : i < t.length) (hj : j < t.length) : clkdF t i j = rclkdF t i j := by
  have hok := chk_right h
  have hg := goN_lt hok hi
  have e0 := clk_get h hi (q := goN t i)
  rw [if_pos rfl] at e0
  have e2 := ((clk_le hok i hi).2 i (Nat.le_refl _)).2 _ hg
  have hx : 0 < (clkOf t i).getD (goN t i) 0 := by omega
  rw [clkdF, rclkdF]
  congr 1
  rw [Bool.eq_iff_iff, decide_eq_true_eq, List.all_eq_true]
  have hiff := accX_iff (t := t) (i := i) (j := j) hg hx j (Nat.le_refl _)
  have key : (∃ k, k < j ∧ k ≠ i ∧ depB (eAt t k) (eAt t j) = true ∧ (clkOf t i).getD (goN t i) 0 ≤ (clkOf t k).getD (goN t i) 0) ↔ ∃ k, k < j ∧ rclB t i j k = true := by
    constructor
    · rintro ⟨k, h1, h2, h3, h4⟩
      refine ⟨k, h1, ?_⟩
      have hb : HB t i k := by
        rcases (clk_iff h hi (by omega)).1 h4 with e | e
        · exact absurd e.symm h2
        · exact e
      rw [rclB, h3, (refT_iff (by omega)).2 hb]
      simpa using h2
    · rintro ⟨k, h1, h2⟩
      rw [rclB, Bool.and_eq_true, Bool.and_eq_true] at h2
      exact ⟨k, h1, by simpa using h2.1.1, h2.2, (clk_iff h hi (by omega)).2 (.inr ((refT_iff (by omega)).1 h2.1.2))⟩
  rw [key] at hiff
  constructor
  · intro hlt k hk
    have hk' := List.mem_range.1 hk
    cases e : rclB t i j k with
    | false => rfl
    | true =>
      have := hiff.2 ⟨k, hk', e⟩
      unfold goN at this
      omega
  · intro hall
    rcases Int.lt_or_le ((accX t i j j).getD (goN t i) 0) ((clkOf t i).getD (goN t i) 0) with hl | hl
    · exact hl
    · obtain ⟨k, h1, h2⟩ := hiff.1 hl
      have := hall k (List.mem_range.2 h1)
      rw [h2] at this
      cases this
end
end Go.Ab


/- Law: Beside by the code and by the reference. -/
set_option autoImplicit false
set_option linter.unusedSimpArgs false
set_option linter.unusedVariables false
set_option linter.unusedSectionVars false
namespace Go.Ab
open Go.Proofs Go.Sort
theorem sorted_ext : ∀ {a b : List Int}, a.Pairwise (· < ·) → b.Pairwise (· < ·) → (∀ x, x ∈ a ↔ x ∈ b) → a = b
  | [], [], _, _, _ => rfl
  | [], y :: b, _, _, h => by have := (h y).2 (by simp); cases this
  | x :: a, [], _, _, h => by have := (h x).1 (by simp); cases this
  | x :: a, y :: b, ha, hb, h => by
    rw [List.pairwise_cons] at ha hb
    have e : x = y := by
      have h1 := (h x).1 (by simp)
      have h2 := (h y).2 (by simp)
      rw [List.mem_cons] at h1 h2
      rcases h1 with h1 | h1
      · exact h1
      · rcases h2 with h2 | h2
        · exact h2.symm
        · have := ha.1 y h2
          have := hb.1 x h1
          omega
    subst e
    rw [sorted_ext ha.2 hb.2 (fun z => ?_)]
    have hz := h z
    rw [List.mem_cons, List.mem_cons] at hz
    constructor
    · intro hm
      rcases hz.1 (.inr hm) with e | e
      · subst e; exact absurd (ha.1 z hm) (Int.lt_irrefl _)
      · exact e
    · intro hm
      rcases hz.2 (.inr hm) with e | e
      · subst e; exact absurd (hb.1 z hm) (Int.lt_irrefl _)
      · exact e
theorem dd_props {l : List Int} (hs : l.Pairwise (· ≤ ·)) : ∀ k, k ≤ l.length → (dd 0 l k).Pairwise (· < ·) ∧ ∀ x, x ∈ dd 0 l k ↔ x ∈ l.take k
  | 0, _ => ⟨List.Pairwise.nil, fun x => by simp [dd]⟩
  | k + 1, hk => by
    obtain ⟨h1, h2⟩ := dd_props hs k (by omega)
    have hkl : k < l.length := hk
    have hget : l.getD k 0 = l[k] := by simp [List.getD_eq_getElem?_getD, hkl]
    have ht : l.take (k + 1) = l.take k ++ [l.getD k 0] := take_snocI hkl
    rw [dd]
    split
    · rename_i e
      refine ⟨h1, fun x => ?_⟩
      rw [h2, ht, List.mem_append, List.mem_singleton]
      refine ⟨.inl, fun h => h.elim id fun e2 => ?_⟩
      rw [e2, e.2]
      have hk1 : k - 1 < l.length := by omega
      rw [List.mem_take_iff_getElem]
      exact ⟨k - 1, by omega, by simp [List.getD_eq_getElem?_getD, hk1]⟩
    · rename_i e
      constructor
      · rw [List.pairwise_append]
        refine ⟨h1, List.pairwise_singleton _ _, fun x hx y hy => ?_⟩
        rw [List.mem_singleton] at hy
        subst hy
        rw [h2, List.mem_take_iff_getElem] at hx
        obtain ⟨m, hm, rfl⟩ := hx
        rw [List.pairwise_iff_getElem] at hs
        have hk0 : 0 < k := by omega
        have e1 : l[k - 1] ≠ l[k] := by
          intro e2
          refine e ⟨hk0, ?_⟩
          rw [hget, ← e2]
          simp [List.getD_eq_getElem?_getD, show k - 1 < l.length by omega]
        have e3 : l[k - 1] ≤ l[k] := hs (k - 1) k (by omega) hkl (by omega)
        have e4 : l[m] ≤ l[k - 1] := by
          by_cases e5 : m = k - 1
          · subst e5; exact Int.le_refl _
          · exact hs m (k - 1) (by omega) (by omega) (by omega)
        rw [hget]
        omega
      · intro x
        rw [List.mem_append, h2, ht, List.mem_append]
theorem sort_pw (l : List Int) : (sortI l).Pairwise (· ≤ ·) := by
  have h := List.pairwise_mergeSort (le := fun x y : Int => decide (x ≤ y)) (fun a b c h1 h2 => by simp at *; omega) (fun a b => by simp; omega) l
  exact h.imp (fun hab => by simpa using hab)
theorem ddS_pw (l : List Int) : (ddI (sortI l)).Pairwise (· < ·) := (dd_props (sort_pw l) _ (Nat.le_refl _)).1
theorem ddS_mem (l : List Int) (x : Int) : x ∈ ddI (sortI l) ↔ x ∈ l := by
  rw [ddI, (dd_props (sort_pw l) _ (Nat.le_refl _)).2 x, List.take_length, sortI, List.mem_mergeSort]
theorem fmTo_pw (p : Nat → Bool) (k : Nat) : (fmTo p k).Pairwise (· < ·) := by
  rw [fmTo, List.pairwise_map]
  exact (List.pairwise_lt_range.filter p).imp (fun h => by omega)
theorem pastTo_mem {t : List Evt} {j x : Nat} : ∀ d, d ≤ j → (x ∈ pastTo t j d ↔ j - d ≤ x ∧ x < j ∧ befB t x j = true)
  | 0, _ => by
    constructor
    · intro h; cases h
    · rintro ⟨h1, h2, _⟩; omega
  | d + 1, hd => by
    rw [pastTo, List.mem_append, pastTo_mem d (by omega)]
    constructor
    · rintro (⟨h1, h2, h3⟩ | h)
      · exact ⟨by omega, h2, h3⟩
      · split at h
        · rename_i hb
          rw [List.mem_singleton] at h
          subst h
          exact ⟨by omega, by omega, hb⟩
        · cases h
    · rintro ⟨h1, h2, h3⟩
      by_cases e : j - d ≤ x
      · exact .inl ⟨e, h2, h3⟩
      · have e2 : x = j - 1 - d := by omega
        subst e2
        rw [h3]; exact .inr (by simp)
theorem pI_mem {t : List Evt} {j : Nat} {x : Int} : x ∈ pI t j ↔ ∃ k : Nat, x = k ∧ k < j ∧ befB t k j = true := by
  rw [pI, List.mem_reverse, pastI, List.mem_map, Int.toNat_natCast]
  constructor
  · rintro ⟨k, hk, rfl⟩
    rw [pastL, pastTo_mem j (Nat.le_refl _)] at hk
    exact ⟨k, rfl, hk.2.1, hk.2.2⟩
  · rintro ⟨k, rfl, h1, h2⟩
    exact ⟨k, by rw [pastL, pastTo_mem j (Nat.le_refl _)]; exact ⟨by omega, h1, h2⟩, rfl⟩
section
variable {t : List Evt} (h : chkE t = 0) {i j : Nat} (hi : i < t.length) (hj : j < t.length) (hij : i < j)
include h hi hj hij
theorem ord0_eq : ord0 t i j = fmTo (firB t i j) t.length ++ [(i : Int), (j : Int)] := by
  rw [ord0]
  congr 1
  refine sorted_ext ((ddS_pw _).filter _) (fmTo_pw _ _) (fun x => ?_)
  have e : bothI t (i : Int) (j : Int) = pI t i ++ pI t j := by simp [bothI, flTo]
  rw [keepG, List.mem_filter, ddS_mem, e, List.mem_append, pI_mem, pI_mem, fmTo_mem]
  constructor
  · rintro ⟨hx, hne⟩
    have hne : x ≠ (i : Int) := by simpa using hne
    rcases hx with ⟨k, rfl, h1, h2⟩ | ⟨k, rfl, h1, h2⟩
    · have hb := (befB_iff h (show k < t.length by omega) hi).1 h2
      exact ⟨k, rfl, by omega, by rw [firB, offB, (refT_iff hi).2 hb]; simp; omega⟩
    · have hb := (befB_iff h (show k < t.length by omega) hj).1 h2
      exact ⟨k, rfl, by omega, by rw [firB, offB, (refT_iff hj).2 hb]; simp; omega⟩
  · rintro ⟨k, rfl, h1, h2⟩
    simp only [firB, offB, Bool.and_eq_true, Bool.or_eq_true, bne_iff_ne, ne_eq] at h2
    obtain ⟨⟨h3, h4⟩, h5⟩ := h2
    refine ⟨?_, by simp; omega⟩
    rcases h5 with h5 | h5
    · have hb := (refT_iff hi).1 h5
      exact .inl ⟨k, rfl, hb.lt, (befB_iff h h1 hi).2 hb⟩
    · have hb := (refT_iff hj).1 h5
      exact .inr ⟨k, rfl, hb.lt, (befB_iff h h1 hj).2 hb⟩
theorem ord0_mem {k : Nat} (hk : k < t.length) : (k : Int) ∈ ord0 t i j ↔ resB t i j k = false := by
  rw [ord0_eq h hi hj hij, List.mem_append, fmTo_mem]
  have e : (∃ n : Nat, (k : Int) = n ∧ n < t.length ∧ firB t i j n = true) ↔ firB t i j k = true := by
    constructor
    · rintro ⟨n, h1, _, h3⟩
      have : k = n := by omega
      subst this; exact h3
    · intro h1; exact ⟨k, rfl, hk, h1⟩
  rw [e, firB, resB]
  simp only [List.mem_cons, List.not_mem_nil, or_false]
  cases ho : offB i j k with
  | true =>
    have : ¬ ((k : Int) = i ∨ (k : Int) = j) := by
      simp [offB] at ho; omega
    cases hx : (refT t k i || refT t k j) <;> simp [this]
  | false =>
    have : (k : Int) = i ∨ (k : Int) = j := by
      simp [offB] at ho; omega
    simp [this]
theorem ordTo_eq : ∀ k, k ≤ t.length → ordTo t i j k = ord0 t i j ++ fmTo (resB t i j) k
  | 0, _ => by simp [ordTo, fmTo]
  | k + 1, hk => by
    have ih := ordTo_eq k (by omega)
    have hm := ord0_mem h hi hj hij (show k < t.length by omega)
    rw [ordTo, ih]
    have e : (k : Int) ∈ ord0 t i j ++ fmTo (resB t i j) k ↔ resB t i j k = false := by
      rw [List.mem_append, hm]
      refine ⟨fun hh => hh.elim id fun h2 => ?_, .inl⟩
      obtain ⟨n, h3, h4, _⟩ := fmTo_mem.1 h2
      omega
    cases hr : resB t i j k with
    | false => rw [if_pos (e.2 hr), fmTo_no hr]
    | true => rw [if_neg (fun h2 => by rw [e.1 h2] at hr; cases hr), fmTo_yes hr, List.append_assoc]
theorem ordI_eq : ordI t i j = rordI t i j := by
  rw [ordI, ordTo_eq h hi hj hij _ (Nat.le_refl _), ord0_eq h hi hj hij]; rfl
theorem rord_mem {x : Int} : x ∈ rordI t i j ↔ 0 ≤ x ∧ x < t.length := by
  rw [← ordI_eq h hi hj hij, ordI, ordTo_eq h hi hj hij _ (Nat.le_refl _), List.mem_append, fmTo_mem]
  constructor
  · rintro (hx | ⟨n, rfl, h1, _⟩)
    · rw [ord0_eq h hi hj hij, List.mem_append, fmTo_mem] at hx
      rcases hx with ⟨n, rfl, h1, _⟩ | hx
      · omega
      · simp only [List.mem_cons, List.not_mem_nil, or_false] at hx
        omega
    · omega
  · rintro ⟨h1, h2⟩
    obtain ⟨k, rfl⟩ : ∃ k : Nat, x = k := ⟨x.toNat, by omega⟩
    have hk : k < t.length := by omega
    cases hr : resB t i j k with
    | false => exact .inl ((ord0_mem h hi hj hij hk).2 hr)
    | true => exact .inr ⟨k, rfl, hk, hr⟩
end
end Go.Ab


/- Law: Beside by the code and by the reference: whether the order fits. -/
set_option autoImplicit false
set_option linter.unusedSimpArgs false
set_option linter.unusedVariables false
set_option linter.unusedSectionVars false
namespace Go.Ab
open Go.Proofs Go.Sort
def RB (t : List Evt) (a b : Int) : Prop := befB t b.toNat a.toNat = false
theorem linB_iff {t : List Evt} {l : List Int} : linB t l = true ↔ l.Pairwise (RB t) := by
  rw [List.pairwise_iff_getElem]
  constructor
  · intro h i j hi hj hij
    simp only [linB, List.all_eq_true, List.mem_range] at h
    have := h i hi j hj
    rw [decide_eq_true hij, Bool.true_and, Bool.not_eq_true'] at this
    simpa [RB, backB, List.getD_eq_getElem?_getD, hi, hj] using this
  · intro h
    refine linB_yes (fun i hi j hj hij => ?_)
    have := h i j hi hj hij
    simpa [RB, backB, List.getD_eq_getElem?_getD, hi, hj] using this
section
variable {t : List Evt} (h : chkE t = 0) {i j : Nat} (hi : i < t.length) (hj : j < t.length) (hij : i < j)
include h hi hj hij
theorem rord_nodup : (rordI t i j).Nodup := by
  have ne : ∀ {a b : Int}, a < b → a ≠ b := fun h e => by omega
  rw [rordI, List.Nodup, List.pairwise_append, List.pairwise_append]
  refine ⟨⟨(fmTo_pw _ _).imp ne, ?_, ?_⟩, (fmTo_pw _ _).imp ne, ?_⟩
  · simp; omega
  · intro a ha b hb
    obtain ⟨n, rfl, h1, h2⟩ := fmTo_mem.1 ha
    simp only [firB, offB, Bool.and_eq_true, bne_iff_ne, ne_eq] at h2
    simp only [List.mem_cons, List.not_mem_nil, or_false] at hb
    omega
  · intro a ha b hb
    obtain ⟨n, rfl, h1, h2⟩ := fmTo_mem.1 hb
    rw [List.mem_append] at ha
    rcases ha with ha | ha
    · obtain ⟨m, rfl, h3, h4⟩ := fmTo_mem.1 ha
      intro e
      have e : m = n := by omega
      subst e
      simp only [firB, resB, Bool.and_eq_true, Bool.not_eq_true'] at h2 h4
      rw [h4.2] at h2
      cases h2.2
    · simp only [resB, offB, Bool.and_eq_true, bne_iff_ne, ne_eq] at h2
      simp only [List.mem_cons, List.not_mem_nil, or_false] at ha
      omega
omit h hi hj hij in
theorem all_len (n : Nat) : (fmTo (fun _ => true) n).length = n := by
  rw [fmTo, List.length_map, List.filter_eq_self.2 (fun _ _ => rfl), List.length_range]
theorem rord_len : (rordI t i j).length = t.length := by
  have hp : (rordI t i j).Perm (fmTo (fun _ => true) t.length) := by
    rw [List.perm_ext_iff_of_nodup (rord_nodup h hi hj hij) ((fmTo_pw _ _).imp (fun h e => by omega))]
    intro x
    rw [rord_mem h hi hj hij, fmTo_mem]
    constructor
    · rintro ⟨h1, h2⟩; exact ⟨x.toNat, by omega, by omega, rfl⟩
    · rintro ⟨n, rfl, h1, _⟩; omega
  rw [hp.length_eq, all_len]
theorem rord_cnt : cntI (rordI t i j) = t.length := by
  have e : ddI (sortI (rordI t i j)) = fmTo (fun _ => true) t.length := by
    refine sorted_ext (ddS_pw _) (fmTo_pw _ _) (fun x => ?_)
    rw [ddS_mem, rord_mem h hi hj hij, fmTo_mem]
    constructor
    · rintro ⟨h1, h2⟩; exact ⟨x.toNat, by omega, by omega, rfl⟩
    · rintro ⟨n, rfl, h1, _⟩; omega
  rw [cntI, e, all_len]
theorem rord_lin : linE t (rordI t i j) = 0 := by
  have h256 := (chk_right h).1
  have hlen := rord_len h hi hj hij
  have ha : askE t (rordI t i j) = 0 := by
    rw [askE, if_neg (fun e => e h), any_no]
    · rfl
    · intro q hq
      rw [← rord_mem h hi hj hij]
      simp [List.getD_eq_getElem?_getD, hq]
  have hl : lstE t (rordI t i j) = 0 := by rw [lstE, if_neg (fun e => e h), if_neg (by omega), ha]
  rw [linE, if_neg (fun e => e hl), if_neg]
  rw [rord_cnt h hi hj hij, hlen]
  simp
theorem rord_fits : linB t (rordI t i j) = true ↔ ∀ k, k < t.length → betK t i j k = false := by
  rw [linB_iff, rordI]
  have hin : ∀ {p : Nat → Bool} {a : Int}, a ∈ fmTo p t.length → ∃ n : Nat, a = n ∧ n < t.length ∧ p n = true := fmTo_mem.1
  constructor
  · intro hp k hk
    cases hb : betK t i j k with
    | false => rfl
    | true =>
      exfalso
      simp only [betK, Bool.and_eq_true] at hb
      rw [List.pairwise_append, List.pairwise_append] at hp
      have hm : (k : Int) ∈ fmTo (firB t i j) t.length := fmTo_mem.2 ⟨k, rfl, hk, by rw [firB, hb.1, hb.2.2, Bool.or_true]; rfl⟩
      have hr := hp.1.2.2 k hm i (by simp)
      rw [RB, Int.toNat_natCast, Int.toNat_natCast, (befB_iff h hi hk).2 ((refT_iff hk).1 hb.2.1)] at hr
      cases hr
  · intro hn
    have no : ∀ {a b : Nat}, a < t.length → b < t.length → ¬ HB t b a → RB t (a : Int) (b : Int) := by
      intro a b ha hb hne
      rw [RB, Int.toNat_natCast, Int.toNat_natCast]
      cases e : befB t b a with
      | false => rfl
      | true => exact absurd ((befB_iff h hb ha).1 e) hne
    have asc : ∀ p : Nat → Bool, (fmTo p t.length).Pairwise (RB t) := fun p => (fmTo_pw p _).imp_of_mem (fun {a b} ha hb hab => by
      obtain ⟨m, rfl, h1, _⟩ := hin ha
      obtain ⟨n, rfl, h2, _⟩ := hin hb
      exact no h1 h2 (fun hb => by have := hb.lt; omega))
    have bet : ∀ {k : Nat}, k < t.length → k ≠ i → k ≠ j → HB t i k → HB t k j → False := by
      intro k hk h1 h2 h3 h4
      have := hn k hk
      rw [betK, offB, (refT_iff hk).2 h3, (refT_iff hj).2 h4] at this
      simp at this
      omega
    have fir : ∀ {k : Nat}, k < t.length → firB t i j k = true → k ≠ i ∧ k ≠ j ∧ (HB t k i ∨ HB t k j) := by
      intro k hk h1
      simp only [firB, offB, Bool.and_eq_true, Bool.or_eq_true, bne_iff_ne, ne_eq] at h1
      refine ⟨h1.1.1, h1.1.2, ?_⟩
      rw [← refT_iff hi, ← refT_iff hj]
      exact h1.2
    have res : ∀ {k : Nat}, k < t.length → resB t i j k = true → k ≠ i ∧ k ≠ j ∧ ¬ HB t k i ∧ ¬ HB t k j := by
      intro k hk h1
      simp only [resB, offB, Bool.and_eq_true, Bool.not_eq_true', Bool.or_eq_false_iff, bne_iff_ne, ne_eq] at h1
      refine ⟨h1.1.1, h1.1.2, fun hb => ?_, fun hb => ?_⟩
      · rw [(refT_iff hi).2 hb] at h1; cases h1.2.1
      · rw [(refT_iff hj).2 hb] at h1; cases h1.2.2
    rw [List.pairwise_append, List.pairwise_append]
    refine ⟨⟨asc _, ?_, ?_⟩, asc _, ?_⟩
    · rw [List.pairwise_cons]
      refine ⟨fun b hb => ?_, List.pairwise_singleton _ _⟩
      rw [List.mem_singleton] at hb
      subst hb
      exact no hi hj (fun hb => by have := hb.lt; omega)
    · intro a ha b hb
      obtain ⟨m, rfl, h1, h2⟩ := hin ha
      obtain ⟨f1, f2, f3⟩ := fir h1 h2
      simp only [List.mem_cons, List.not_mem_nil, or_false] at hb
      rcases hb with rfl | rfl
      · refine no h1 hi (fun hb => ?_)
        rcases f3 with f3 | f3
        · have := hb.lt; have := f3.lt; omega
        · exact bet h1 f1 f2 hb f3
      · refine no h1 hj (fun hb => ?_)
        rcases f3 with f3 | f3
        · have := hb.lt; have := f3.lt; omega
        · have := hb.lt; have := f3.lt; omega
    · intro a ha b hb
      obtain ⟨n, rfl, h1, h2⟩ := hin hb
      obtain ⟨r1, r2, r3, r4⟩ := res h1 h2
      rw [List.mem_append] at ha
      rcases ha with ha | ha
      · obtain ⟨m, rfl, h3, h4⟩ := hin ha
        obtain ⟨f1, f2, f3⟩ := fir h3 h4
        refine no h3 h1 (fun hb => ?_)
        rcases f3 with f3 | f3
        · exact r3 (hb.trans f3)
        · exact r4 (hb.trans f3)
      · simp only [List.mem_cons, List.not_mem_nil, or_false] at ha
        rcases ha with rfl | rfl
        · exact no hi h1 r3
        · exact no hj h1 r4
theorem linF_eq : linF t (ordI t i j) = rbesB t i j := by
  rw [ordI_eq h hi hj hij, linF, rord_lin h hi hj hij, decide_eq_true rfl, Bool.true_and]
  rw [Bool.eq_iff_iff, rord_fits h hi hj hij]
  constructor
  · exact rbes_yes hij
  · intro hb k hk
    cases e : betK t i j k with
    | false => rfl
    | true => rw [rbes_no hk e] at hb; cases hb
end
theorem bes_eq {t : List Evt} {i j : Nat} (hz : plcF t i j = 0) : (!askB t i j && linF t (ordI t i j)) = rbesB t i j ∧ besL t i j = rbesL t i j := by
  obtain ⟨hc, hi, hj⟩ := plc_at hz
  have ha : askB t i j = decide (i ≥ j) := by
    rw [askB, hz]
    show (false || decide ((i : Int) ≥ j)) = _
    rw [Bool.false_or]
    exact decide_eq_decide.2 (by omega)
  by_cases hij : i ≥ j
  · have e1 : askB t i j = true := by rw [ha, decide_eq_true hij]
    have e2 : rbesB t i j = false := by rw [rbesB, decide_eq_true hij]; rfl
    refine ⟨by rw [e1, e2]; rfl, ?_⟩
    rw [besL, rbesL, e1, e2]; rfl
  · have hij' : i < j := by omega
    have hi' : i < t.length := by omega
    have hj' : j < t.length := by omega
    have e1 : askB t i j = false := by rw [ha, decide_eq_false hij]
    have e2 := linF_eq hc hi' hj' hij'
    refine ⟨by rw [e1, e2]; rfl, ?_⟩
    rw [besL, rbesL, e1, e2, ordI_eq hc hi' hj' hij']; rfl
end Go.Ab


/- RaceAsks. -/
set_option autoImplicit false
set_option maxRecDepth 20000
set_option maxHeartbeats 4000000
set_option linter.unusedSimpArgs false
set_option linter.unusedVariables false
namespace Go.Ab
open Go.Proofs Go.Sort
theorem clockedB_ac (g : Bool) (t : List Evt) (i j : Int) (hz : plcF t i j ≠ 0) : AC Tryz.prog T tysN 31 [evts g t, .int i, .int j] [] (.tup [.bool false, .int (plcF t i j)]) [] := by
 refine AC_intro hT Tryz.func31 rfl rfl (Nat.le_of_ble_eq_true rfl) ?_
 refine sq (rg [] rfl ?_)
 refine sq (sq (rgs [CG.pure (.int (plcF t i j))] rfl ?_ ?_))
 ·have h1 := placed_ac g t i j
  simp only [holdsC, under, CG.pure]
  repeat' with_reducible refine And.intro ?_ ?_
  all_goals (try with_reducible intros)
  all_goals (first | exact trivial | assumption | omega | exact h1 | (simp; done) | grind)
 refine sq (rg [] rfl ?_)
 refine cd rfl (fun h2 => ?_) (fun h2 => ?_)
 ·refine sq (rg [] rfl ?_)
  refine WP.ret ?_
  change Fin ..
  exact fin_mk hT [] (ts := [(6, .bool false), (7, .int (plcF t i j))]) (l := [.bool false, .int (plcF t i j)]) trivial ⟨⟨rfl, _, rfl, cvt⟩, ⟨rfl, _, rfl, cvt⟩, trivial⟩ trivial rfl rfl rfl
 ·exact absurd (show plcF t i j = 0 by simpa using h2) hz
def clkG (t : List Evt) (i j : Int) : Bool := if plcF t i j = 0 then clkdF t i.toNat j.toNat else false
theorem clockedG_ac (g : Bool) (t : List Evt) (i j : Int) : AC Tryz.prog T tysN 31 [evts g t, .int i, .int j] [] (.tup [.bool (clkG t i j), .int (plcF t i j)]) [] := by
  by_cases hz : plcF t i j = 0
  · obtain ⟨hc, hi, hj⟩ := plc_at hz
    obtain ⟨i', rfl⟩ : ∃ i' : Nat, i = i' := ⟨i.toNat, by omega⟩
    obtain ⟨j', rfl⟩ : ∃ j' : Nat, j = j' := ⟨j.toNat, by omega⟩
    rw [clkG, if_pos hz, hz]
    exact clocked_ac g t i' j' hz
  · rw [clkG, if_neg hz]
    exact clockedB_ac g t i j hz
def besO (t : List Evt) (i j : Int) : Bool := !askB t i j && linF t (ordI t i j)
theorem raceAsksLaw_ac (g : Bool) (t : List Evt) (i j : Int) : AC Tryz.prog T tysN 7 [evts g t, .int i, .int j] [] (.bool true) [] := by
 refine AC_intro hT Tryz.func7 rfl rfl (Nat.le_of_ble_eq_true rfl) ?_
 refine sq (rg [] rfl ?_)
 refine sq (rgs [CG.pure (.tup [.bool (clkG t i j), .int (plcF t i j)])] rfl ?_ ?_)
 ·have h1 := clockedG_ac g t i j
  simp only [holdsC, under, CG.pure]
  repeat' with_reducible refine And.intro ?_ ?_
  all_goals (try with_reducible intros)
  all_goals (first | exact trivial | assumption | omega | exact h1 | (simp; done) | grind)
 refine sq (rgs [CG.pure (.tup [ints false (besL t i j), .bool (besO t i j), .int (plcF t i j)])] rfl ?_ ?_)
 ·have h1 := beside_ac g t i j
  simp only [holdsC, under, CG.pure]
  repeat' with_reducible refine And.intro ?_ ?_
  all_goals (try with_reducible intros)
  all_goals (first | exact trivial | assumption | omega | exact h1 | (simp; done) | grind)
 refine sq (rgs [CG.pure (.int (chkE t))] rfl ?_ ?_)
 ·have h1 := rcheck_ac g t
  simp only [holdsC, under, CG.pure]
  repeat' with_reducible refine And.intro ?_ ?_
  all_goals (try with_reducible intros)
  all_goals (first | exact trivial | assumption | omega | exact h1 | (simp; done) | grind)
 refine WP.seqJ (α := Unit) (fun _ => mkSt [(0, evts g t), (1, .int i), (2, .int j), (7, .bool (clkG t i j)), (8, .int (plcF t i j)), (9, ints false (besL t i j)), (10, .bool (besO t i j)), (11, .int (plcF t i j)), (12, .int (plcF t i j))] []) (fun _ => True) ?_ ?_
 ·refine sq (rgs [CG.pure (.bool (!badI t i)), CG.pure (.bool (!badI t j))] rfl ?_ ?_)
  ·have h1 := place_ac g t i
   have h2 := place_ac g t j
   simp only [holdsC, under, CG.pure]
   repeat' with_reducible refine And.intro ?_ ?_
   all_goals (try with_reducible intros)
   all_goals (first | exact trivial | assumption | omega | exact h1 | exact h2 | (simp; done) | grind)
  refine cd rfl (fun h4 => ?_) (fun h4 => ?_)
  ·refine rg [] rfl ?_
   have e4 : plcF t i j = 1 := by
     have e := h4
     rw [band, bor, Bool.not_not, Bool.not_not, Bool.and_eq_true] at e
     rw [plcF, if_neg (by simpa using e.1), if_pos e.2]
   refine ⟨(), ?_, ?_⟩
   ·trivial
   ·refine em [] trivial ⟨⟨rfl, _, rfl, cvt⟩, ⟨rfl, _, rfl, cvt⟩, ⟨rfl, _, rfl, cvt⟩, ⟨rfl, _, rfl, cvt⟩, ⟨rfl, _, rfl, cvt⟩, ⟨rfl, _, rfl, cvt⟩, ⟨rfl, _, rfl, cvt⟩, ⟨rfl, _, rfl, cvt⟩, ⟨rfl, _, rfl, conv_eq (by rw [e4])⟩, trivial⟩ trivial
  ·refine sk ?_
   have e4 : plcF t i j = chkE t := by
     have e := h4
     rw [band, bor, Bool.not_not, Bool.not_not] at e
     rw [plcF]
     split
     · rfl
     · rename_i hc
       have hc : chkE t = 0 := by simpa using hc
       rw [hc] at e
       rw [if_neg (by rw [show (badI t i || badI t j) = false from e]; decide), hc]
   refine ⟨(), ?_, ?_⟩
   ·trivial
   ·refine em [] trivial ⟨⟨rfl, _, rfl, cvt⟩, ⟨rfl, _, rfl, cvt⟩, ⟨rfl, _, rfl, cvt⟩, ⟨rfl, _, rfl, cvt⟩, ⟨rfl, _, rfl, cvt⟩, ⟨rfl, _, rfl, cvt⟩, ⟨rfl, _, rfl, cvt⟩, ⟨rfl, _, rfl, cvt⟩, ⟨rfl, _, rfl, conv_eq (by rw [e4])⟩, trivial⟩ trivial
 ·rintro _ h_inv
  refine sq (sq (rgs [CG.pure (.bool true)] rfl ?_ ?_))
  ·have h1 := speaks_ac ()
   simp only [holdsC, under, CG.pure]
   repeat' with_reducible refine And.intro ?_ ?_
   all_goals (try with_reducible intros)
   all_goals (first | exact trivial | assumption | omega | exact h1 | (simp; done) | grind)
  refine cd rfl (fun h6 => ?_) (fun h6 => ?_)
  ·exfalso
   have e := h6
   simp at e
  ·refine sk (sq (sq (rg [] rfl ?_)))
   refine cd rfl (fun h8 => ?_) (fun h8 => ?_)
   ·have hbad : plcF t i j ≠ 0 := by simpa using h8
    refine sq (rg [] rfl ?_)
    refine WP.ret ?_
    change Fin ..
    have ha : askB t i j = true := by rw [askB]; simp [hbad]
    refine fin1 hT (by rfl) ?_
    rw [clkG, if_neg hbad, besO, besL, ha]; rfl
   ·have hz : plcF t i j = 0 := by simpa using h8
    obtain ⟨hc, hi, hj⟩ := plc_at hz
    obtain ⟨i', rfl⟩ : ∃ i' : Nat, i = i' := ⟨i.toNat, by omega⟩
    obtain ⟨j', rfl⟩ : ∃ j' : Nat, j = j' := ⟨j.toNat, by omega⟩
    have hok := chk_right hc
    have hi' : i' < t.length := by omega
    have hj' : j' < t.length := by omega
    obtain ⟨b1, b2⟩ := bes_eq hz
    have b3 : clkG t i' j' = rclkdF t i' j' := by rw [clkG, if_pos hz]; exact clkd_eq hc hi' hj'
    refine sk (sq (rgs [CG.pure (.tup [ints false (rbesL t i' j'), .bool (rbesB t i' j')])] rfl ?_ ?_))
    ·have h1 := rbeside_ac g t i' j' hok hi' hj'
     simp only [holdsC, under, CG.pure]
     repeat' with_reducible refine And.intro ?_ ?_
     all_goals (try with_reducible intros)
     all_goals (first | exact trivial | assumption | omega | exact h1 | (simp; done) | grind)
    refine sq (rgs [CG.pure (.bool (rclkdF t i' j')), CG.pure (.bool (decide (besL t i' j' = rbesL t i' j')))] rfl ?_ ?_)
    ·have h1 := rclocked_ac g t i' j' hok hi' hj'
     have h2 := sameInts_ac false false (besL t i' j') (rbesL t i' j')
     simp only [holdsC, under, CG.pure]
     repeat' with_reducible refine And.intro ?_ ?_
     all_goals (try with_reducible intros)
     all_goals (first | exact trivial | assumption | omega | exact h1 | exact h2 | (simp; done) | grind)
    refine WP.ret ?_
    change Fin ..
    refine fin1 hT (by rfl) ?_
    rw [b3, show besO t i' j' = rbesB t i' j' from b1, b2]
    simp
end Go.Ab


/- RaceMeets. -/
set_option autoImplicit false
set_option maxRecDepth 20000
set_option maxHeartbeats 4000000
set_option linter.unusedSimpArgs false
set_option linter.unusedVariables false
set_option linter.unusedSectionVars false
namespace Go.Ab
open Go.Proofs Go.Sort
def hasP (l : List Pr) (x : Pr) : Nat → Bool
  | 0 => false
  | k + 1 => hasP l x k || pAt l k == x
theorem hasP_step (b : Bool) (p : Pr) (i j : Int) : (bif b then true else (true && [p.1, p.2].getD 0 0 == i && [p.1, p.2].getD 1 0 == j)) = (b || p == (i, j)) := by
  obtain ⟨x, y⟩ := p
  cases b
  · show (true && x == i && y == j) = (false || (x == i && y == j))
    rw [Bool.true_and, Bool.false_or]
  · rfl
theorem hasP_iff {l : List Pr} {x : Pr} : ∀ {k : Nat}, k ≤ l.length → (hasP l x k = true ↔ x ∈ l.take k)
  | 0, _ => by simp [hasP]
  | k + 1, hk => by
    have e : pAt l k = l[k] := by simp [pAt, List.getD_eq_getElem?_getD, show k < l.length by omega]
    rw [hasP, Bool.or_eq_true, hasP_iff (by omega), List.take_add_one, List.getElem?_eq_getElem (show k < l.length by omega), List.mem_append, e, beq_iff_eq, Option.toList_some, List.mem_singleton]
    exact or_congr Iff.rfl eq_comm
section
variable {t : List Evt} (h : chkE t = 0) {i j : Nat} (hi : i < t.length) (hj : j < t.length) (hij : i < j) (hgo : ((eAt t i).go == (eAt t j).go) = false) (hdep : depB (eAt t i) (eAt t j) = true)
include h hi hj hij hgo hdep
theorem clk_bes : rclkdF t i j = rbesB t i j := by
  have hq : noQ t i j = false := by rw [noQ, decide_eq_false (by omega), hgo, hdep]; rfl
  rw [Bool.eq_iff_iff]
  constructor
  · intro hc
    refine rbes_yes hij (fun k hk => ?_)
    cases hb : betK t i j k with
    | false => rfl
    | true =>
      exfalso
      simp only [betK, offB, Bool.and_eq_true, bne_iff_ne, ne_eq] at hb
      have h1 := (refT_iff hk).1 hb.2.1
      have h2 := (refT_iff hj).1 hb.2.2
      obtain ⟨m, m1, m2, m3⟩ := h2.last
      have h3 : HB t i m := by
        rcases m3 with rfl | m3
        · exact h1
        · exact h1.trans m3
      have h4 := h3.lt
      have : rclB t i j m = true := by
        rw [rclB, (refT_iff (show m < t.length by omega)).2 h3, m2]
        simp; omega
      rw [rclk_no m1 this] at hc
      cases hc
  · intro hb
    refine rclk_yes hq (fun k hk => ?_)
    cases hr : rclB t i j k with
    | false => rfl
    | true =>
      exfalso
      simp only [rclB, Bool.and_eq_true, bne_iff_ne, ne_eq] at hr
      have : betK t i j k = true := by
        rw [betK, offB, hr.1.2, (refT_iff hj).2 (.dep hk hr.2)]
        simp; omega
      rw [rbes_no (show k < t.length by omega) this] at hb
      cases hb
theorem has_bes : hasP (racesL t) ((i : Int), (j : Int)) (racesL t).length = rbesB t i j := by
  rw [Bool.eq_iff_iff, hasP_iff (Nat.le_refl _), List.take_length, races_eq h, refPairs, List.mem_filter, edgesR_mem]
  have hg : goNe t ((i : Int), (j : Int)) = true := by
    show (!((eAt t i).go == (eAt t j).go)) = true
    rw [hgo]; rfl
  constructor
  · rintro ⟨⟨a, h1, b, h2, h3, h4, h5⟩, _⟩
    have e1 : i = a := by have := congrArg Prod.fst h5; simp at this; omega
    have e2 : j = b := by have := congrArg Prod.snd h5; simp at this; omega
    subst e1 e2
    refine rbes_yes hij (fun k hk => ?_)
    cases hb : betK t i j k with
    | false => rfl
    | true =>
      exfalso
      simp only [betK, Bool.and_eq_true] at hb
      have k1 := ((refT_iff hk).1 hb.2.1).lt
      have k2 := ((refT_iff hj).1 hb.2.2).lt
      rw [edgeB, betB_bad k1 k2 (by rw [hb.2.1, hb.2.2]; rfl), Bool.and_false] at h4
      cases h4
  · intro hb
    refine ⟨⟨i, hi, j, hj, hij, ?_, rfl⟩, hg⟩
    rw [edgeB, (refT_iff hj).2 (.dep hij hdep), Bool.true_and, betB, List.all_eq_true]
    intro k hk
    have hk := List.mem_range.1 hk
    cases hx : (decide (i < k) && (refT t i k && refT t k j)) with
    | false => rfl
    | true =>
      exfalso
      simp only [Bool.and_eq_true, decide_eq_true_eq] at hx
      have : betK t i j k = true := by
        rw [betK, offB, hx.2.1, hx.2.2]
        simp; omega
      rw [rbes_no (show k < t.length by omega) this] at hb
      cases hb
end
def nextB (l : List Int) (i j : Int) : Nat → Bool
  | 0 => false
  | k + 1 => nextB l i j k || (l.getD k 0 == i && l.getD (k + 1) 0 == j)
theorem nextB_yes {l : List Int} {i j : Int} {m : Nat} (h1 : l.getD m 0 = i) (h2 : l.getD (m + 1) 0 = j) : ∀ k, m < k → nextB l i j k = true
  | 0, h => absurd h (Nat.not_lt_zero _)
  | k + 1, h => by
    rw [nextB]
    by_cases e : m = k
    · subst e; rw [h1, h2]; simp
    · rw [nextB_yes h1 h2 k (by omega)]; rfl
theorem next_bes (A R : List Int) (i j : Int) (k : Nat) (hk : A.length < k) : nextB (A ++ [i, j] ++ R) i j k = true := by
  refine nextB_yes (m := A.length) ?_ ?_ k hk
  · simp [List.getD_eq_getElem?_getD]
  · simp [List.getD_eq_getElem?_getD]
theorem bad_or (t : List Evt) (i : Int) : badI t i = true ∨ (0 ≤ i ∧ i < t.length) := by
  cases h : badI t i with
  | true => exact .inl rfl
  | false => simp [badI] at h; exact .inr (by omega)
def offM (t : List Evt) (i j : Int) : Bool := chkE t != 0 || badI t i || badI t j || decide (i ≥ j) || (eAt t i.toNat).go == (eAt t j.toNat).go || !depB (eAt t i.toNat) (eAt t j.toNat)
theorem raceMeetsLaw_ac (g : Bool) (t : List Evt) (i j : Int) : AC Tryz.prog T tysN 8 [evts g t, .int i, .int j] [] (.bool true) [] := by
 refine AC_intro hT Tryz.func8 rfl rfl (Nat.le_of_ble_eq_true rfl) ?_
 refine sq (rg [] rfl ?_)
 refine sq (sq (drs [CG.pure (.int (chkE t)), CG.pure (.bool (!badI t i)), CG.pure (.bool (!badI t j)), CG.pure (.bool (depB (eAt t i.toNat) (eAt t j.toNat)))] rfl ?_ ?_))
 ·have h1 := rcheck_ac g t
  have h2 := place_ac g t i
  have h3 := place_ac g t j
  have h4 := rdep_ac (eAt t i.toNat) (eAt t j.toNat)
  have hbi : badI t i = true ∨ (0 ≤ i ∧ i < t.length) := bad_or t i
  have hbj : badI t j = true ∨ (0 ≤ j ∧ j < t.length) := bad_or t j
  simp only [holdsC, under, CG.pure]
  repeat' with_reducible refine And.intro ?_ ?_
  all_goals (try with_reducible intros)
  all_goals (first | exact trivial | assumption | omega | exact h1 | exact h2 | exact h3 | exact h4 | (simp; done) | grind)
 refine cd rfl (fun h1 => ?_) (fun h1 => ?_)
 ·refine sq (rgs [CG.pure (.bool true)] rfl ?_ ?_)
  ·have h1 := speaks_ac ()
   simp only [holdsC, under, CG.pure]
   repeat' with_reducible refine And.intro ?_ ?_
   all_goals (try with_reducible intros)
   all_goals (first | exact trivial | assumption | omega | exact h1 | (simp; done) | grind)
  refine WP.ret ?_
  change Fin ..
  exact fin1 hT (by rfl) rfl
 ·have ho : offM t i j = false := by
    have e := h1
    rw [bor, bor, bor, bor, bor, Bool.not_not, Bool.not_not] at e
    exact e
  rw [offM] at ho
  simp only [Bool.or_eq_false_iff, decide_eq_false_iff_not, bne_eq_false_iff_eq, Bool.not_eq_false'] at ho
  obtain ⟨⟨⟨⟨⟨hc, hbi⟩, hbj⟩, hij⟩, hgo⟩, hdep⟩ := ho
  have hi : 0 ≤ i ∧ i < t.length := by simp [badI] at hbi; omega
  have hj : 0 ≤ j ∧ j < t.length := by simp [badI] at hbj; omega
  have hz : plcF t i j = 0 := by rw [plcF, if_neg (fun e => e hc), if_neg (by rw [hbi, hbj]; decide)]
  obtain ⟨i', rfl⟩ : ∃ i' : Nat, i = i' := ⟨i.toNat, by omega⟩
  obtain ⟨j', rfl⟩ : ∃ j' : Nat, j = j' := ⟨j.toNat, by omega⟩
  have hok := chk_right hc
  have hi' : i' < t.length := by omega
  have hj' : j' < t.length := by omega
  have hij' : i' < j' := by omega
  refine sk (sq (rgs [CG.pure (.tup [prs false (racesL t), .int 0])] rfl ?_ ?_))
  ·have h1 := racePairs_ac g t
   rw [hc] at h1
   simp only [holdsC, under, CG.pure]
   repeat' with_reducible refine And.intro ?_ ?_
   all_goals (try with_reducible intros)
   all_goals (first | exact trivial | assumption | omega | exact h1 | (simp; done) | grind)
  refine sq (rg [] rfl ?_)
  refine sq (sq (rg [] rfl ?_))
  refine bk ?_
  refine WP.loop (α := Nat) (fun k => mkSt [(0, evts g t), (1, .int i'), (2, .int j'), (7, prs false (racesL t)), (8, .int 0), (9, .bool (hasP (racesL t) ((i' : Int), (j' : Int)) k)), (10, .int k)] []) (fun k => k ≤ (racesL t).length) (fun k => (racesL t).length - k) ?_ ?_
  ·refine ⟨0, ?_, ?_⟩
   ·exact Nat.zero_le _
   ·refine em [] trivial ⟨⟨rfl, _, rfl, cvt⟩, ⟨rfl, _, rfl, cvt⟩, ⟨rfl, _, rfl, cvt⟩, ⟨rfl, _, rfl, cvt⟩, ⟨rfl, _, rfl, cvt⟩, ⟨rfl, _, rfl, cvt⟩, ⟨rfl, _, rfl, cvt⟩, trivial⟩ trivial
  ·rintro k hk
   refine sq (sq (rg [] rfl ?_))
   refine cd rfl (fun h6 => ?_) (fun h6 => ?_)
   ·have hkl : k < (racesL t).length := by simpa using h6
    refine WP.rowlen 7 rfl (fun hll => ?_)
    refine sk (sq (bk (rg [] rfl ?_)))
    refine rg [] rfl ?_
    refine ⟨k + 1, ?_, ?_, ?_⟩
    ·exact hkl
    ·refine em [] trivial ⟨⟨rfl, _, rfl, cvt⟩, ⟨rfl, _, rfl, cvt⟩, ⟨rfl, _, rfl, cvt⟩, ⟨rfl, _, rfl, cvt⟩, ⟨rfl, _, rfl, cvt⟩, ⟨rfl, _, rfl, conv_eq (congrArg AV.bool (hasP_step _ ((racesL t).getD k (0, 0)) i' j'))⟩, ⟨rfl, _, rfl, cvt⟩, trivial⟩ trivial
    ·(try simp only []); first | omega | grind
   ·have hkl : k = (racesL t).length := by simp at h6; omega
    subst hkl
    have hb1 := has_bes hc hi' hj' hij' hgo hdep
    have hb2 := clk_bes hc hi' hj' hij' hgo hdep
    obtain ⟨b1, b2⟩ := bes_eq hz
    rw [hb1]
    refine xt (sq (rgs [CG.pure (.tup [.bool (rbesB t i' j'), .int 0])] rfl ?_ ?_))
    ·have h1 := clocked_ac g t i' j' hz
     rw [clkd_eq hc hi' hj', hb2] at h1
     simp only [holdsC, under, CG.pure]
     repeat' with_reducible refine And.intro ?_ ?_
     all_goals (try with_reducible intros)
     all_goals (first | exact trivial | assumption | omega | exact h1 | (simp; done) | grind)
    refine sq (rgs [CG.pure (.tup [ints false (rbesL t i' j'), .bool (rbesB t i' j'), .int 0])] rfl ?_ ?_)
    ·have h1 := beside_ac g t i' j'
     rw [b1, b2, hz] at h1
     simp only [holdsC, under, CG.pure]
     repeat' with_reducible refine And.intro ?_ ?_
     all_goals (try with_reducible intros)
     all_goals (first | exact trivial | assumption | omega | exact h1 | (simp; done) | grind)
    refine sq (sq (rg [] rfl ?_))
    refine cd rfl (fun h11 => ?_) (fun h11 => ?_)
    ·exfalso
     have e := h11
     simp at e
    ·refine sk (sq (sq (rg [] rfl ?_)))
     refine cd rfl (fun h13 => ?_) (fun h13 => ?_)
     ·have hr : rbesB t i' j' = false := by simpa using h13
      have hr2 : rbesL t i' j' = [] := by rw [rbesL, hr]; rfl
      refine sq (rgs [CG.pure (.bool true)] rfl ?_ ?_)
      ·have h1 := speaks_ac ()
       simp only [holdsC, under, CG.pure]
       repeat' with_reducible refine And.intro ?_ ?_
       all_goals (try with_reducible intros)
       all_goals (first | exact trivial | assumption | omega | exact h1 | (simp; done) | grind)
      refine WP.ret ?_
      change Fin ..
      exact fin1 hT (by rfl) (by rw [hr2]; rfl)
     ·have hr : rbesB t i' j' = true := by simpa using h13
      have hr2 : rbesL t i' j' = rordI t i' j' := by rw [rbesL, hr]; rfl
      have hlin : linE t (rordI t i' j') = 0 := rord_lin hc hi' hj' hij'
      have hlf : linF t (rordI t i' j') = true := by rw [← ordI_eq hc hi' hj' hij', linF_eq hc hi' hj' hij']; exact hr
      have hlen : (rordI t i' j').length = t.length := rord_len hc hi' hj' hij'
      have h256 := hok.1
      rw [hr2]
      refine sk (sq (rgs [CG.pure (.tup [.bool true, .int 0])] rfl ?_ ?_))
      ·have h1 := linear_ac g false t (rordI t i' j')
       rw [hlin, hlf] at h1
       simp only [holdsC, under, CG.pure]
       repeat' with_reducible refine And.intro ?_ ?_
       all_goals (try with_reducible intros)
       all_goals (first | exact trivial | assumption | omega | exact h1 | (simp; done) | grind)
      refine sq (rg [] rfl ?_)
      refine sq (sq (rg [] rfl ?_))
      refine bk ?_
      refine WP.loop (α := Nat) (fun k => mkSt [(0, evts g t), (1, .int i'), (2, .int j'), (13, ints false (rordI t i' j')), (16, .bool true), (17, .int 0), (18, .bool (nextB (rordI t i' j') i' j' k)), (19, .int k)] []) (fun k => k + 1 ≤ (rordI t i' j').length) (fun k => (rordI t i' j').length - k) ?_ ?_
      ·refine ⟨0, ?_, ?_⟩
       ·omega
       ·refine em [] trivial ⟨⟨rfl, _, rfl, cvt⟩, ⟨rfl, _, rfl, cvt⟩, ⟨rfl, _, rfl, cvt⟩, ⟨rfl, _, rfl, cvt⟩, ⟨rfl, _, rfl, cvt⟩, ⟨rfl, _, rfl, cvt⟩, ⟨rfl, _, rfl, cvt⟩, ⟨rfl, _, rfl, cvt⟩, trivial⟩ trivial
      ·rintro k hk
       refine sq (sq (rg [] rfl ?_))
       refine cd rfl (fun h18 => ?_) (fun h18 => ?_)
       ·have hk2 : k + 1 < (rordI t i' j').length := by
          have e := h18
          rw [wrap_id (by omega) (by omega)] at e
          simp at e; omega
        have hw : IntKind.i64.wrap ((k : Int) + 1) = ((k + 1 : Nat) : Int) := by rw [wrap_id (by omega) (by omega)]; omega
        refine sk (sq (bk (rgs [] rfl ?_ ?_)))
        ·rw [hw]
         have e1 : ((k + 1 : Nat) : Int) < ((rordI t i' j').length : Int) := by omega
         simp only [holdsC, under, CG.pure]
         repeat' with_reducible refine And.intro ?_ ?_
         all_goals (try with_reducible intros)
         all_goals (first | exact trivial | assumption | omega | exact e1 | exact hk2 | (simp; done) | grind)
        refine rg [] rfl ?_
        refine ⟨k + 1, ?_, ?_, ?_⟩
        ·omega
        ·refine em [] trivial ⟨⟨rfl, _, rfl, cvt⟩, ⟨rfl, _, rfl, cvt⟩, ⟨rfl, _, rfl, cvt⟩, ⟨rfl, _, rfl, cvt⟩, ⟨rfl, _, rfl, cvt⟩, ⟨rfl, _, rfl, cvt⟩, ⟨rfl, _, rfl, conv_eq (by rw [hw, band, bor]; rfl)⟩, ⟨rfl, _, rfl, conv_eq (by rw [hw])⟩, trivial⟩ trivial
        ·(try simp only []); first | omega | grind
       ·have hk2 : k + 1 = (rordI t i' j').length := by
          have e := h18
          rw [wrap_id (by omega) (by omega)] at e
          simp at e; omega
        have hnx : nextB (rordI t i' j') i' j' k = true := next_bes (fmTo (firB t i' j') t.length) (fmTo (resB t i' j') t.length) i' j' k (by
          have : (rordI t i' j').length = (fmTo (firB t i' j') t.length).length + 2 + (fmTo (resB t i' j') t.length).length := by rw [rordI, List.length_append, List.length_append]; rfl
          omega)
        refine xt (sq (rgs [CG.pure (.bool true)] rfl ?_ ?_))
        ·have h1 := speaks_ac ()
         simp only [holdsC, under, CG.pure]
         repeat' with_reducible refine And.intro ?_ ?_
         all_goals (try with_reducible intros)
         all_goals (first | exact trivial | assumption | omega | exact h1 | (simp; done) | grind)
        refine WP.ret ?_
        change Fin ..
        exact fin1 hT (by rfl) (by rw [hnx]; rfl)
end Go.Ab


/- RacePairs: the walk. -/
set_option autoImplicit false
set_option maxRecDepth 20000
set_option maxHeartbeats 4000000
set_option linter.unusedSimpArgs false
set_option linter.unusedVariables false
namespace Go.Ab
open Go.Proofs Go.Sort
theorem racePairsLaw_ac (g : Bool) (t : List Evt) : AC Tryz.prog T tysN 4 [evts g t] [] (.bool true) [] := by
 refine AC_intro hT Tryz.func4 rfl rfl (Nat.le_of_ble_eq_true rfl) ?_
 refine sq (rg [] rfl ?_)
 refine sq (rgs [CG.pure (.tup [prs false (racesL t), .int (chkE t)])] rfl ?_ ?_)
 ·have h1 := racePairs_ac g t
  simp only [holdsC, under, CG.pure]
  repeat' with_reducible refine And.intro ?_ ?_
  all_goals (try with_reducible intros)
  all_goals (first | exact trivial | assumption | omega | exact h1 | (simp; done))
 refine sq (rgs [CG.pure (.int (chkE t))] rfl ?_ ?_)
 ·have h1 := rcheck_ac g t
  simp only [holdsC, under, CG.pure]
  repeat' with_reducible refine And.intro ?_ ?_
  all_goals (try with_reducible intros)
  all_goals (first | exact trivial | assumption | omega | exact h1 | (simp; done))
 refine sq (sq (rgs [CG.pure (.bool true)] rfl ?_ ?_))
 ·have h1 := speaks_ac ()
  simp only [holdsC, under, CG.pure]
  repeat' with_reducible refine And.intro ?_ ?_
  all_goals (try with_reducible intros)
  all_goals (first | exact trivial | assumption | omega | exact h1 | (simp; done))
 refine cd rfl (fun h3 => ?_) (fun h3 => ?_)
 ·exfalso
  have e : (bif (chkE t != chkE t) then true else false) = true := h3
  simp at e
 ·refine sk (sq (sq (rg [] rfl ?_)))
  refine cd rfl (fun h5 => ?_) (fun h5 => ?_)
  ·have hbad : chkE t ≠ 0 := by simpa using h5
   refine sq (rg [] rfl ?_)
   refine WP.ret ?_
   change Fin ..
   refine fin1 hT (by rfl) ?_
   rw [racesL, pairsF, if_neg hbad]; rfl
  ·have hz : chkE t = 0 := by simpa using h5
   have he := races_eq hz
   refine sk (sq (rgs [CG.pure (prs false (refPairs t)), CG.pure (.bool true)] rfl ?_ ?_))
   ·have h1 := rpairs_ac g t (chk_right hz)
    have h2 := same_ac false false (racesL t) (refPairs t)
    rw [show decide (racesL t = refPairs t) = true from decide_eq_true he] at h2
    simp only [holdsC, under, CG.pure]
    repeat' with_reducible refine And.intro ?_ ?_
    all_goals (try with_reducible intros)
    all_goals (first | exact trivial | assumption | omega | exact h1 | exact h2 | (simp; done))
   refine WP.ret ?_
   change Fin ..
   exact fin1 hT (by rfl) rfl
end Go.Ab


/- What arguments read as; the program's facts for rows. -/
set_option autoImplicit false
set_option maxRecDepth 20000
set_option linter.unusedVariables false
namespace Go.Ab
open Go.Proofs Go.ChangeShapes Go.WideShapes Go.ChangeAt Go.RowKit
theorem tryOwn : ownKnob Tryz.prog.godebug = none := by kernel_rfl
theorem tryLaid : laidOutB Tryz.prog = true := by kernel_rfl
theorem uI64 : Tryz.prog.underlying 2 = some (.int .i64) := by kernel_rfl
theorem uInt : Tryz.prog.underlying 3 = some (.int .i64) := by kernel_rfl
theorem uBool : Tryz.prog.underlying 4 = some .bool := by kernel_rfl
theorem uOp : Tryz.prog.underlying 68 = some (.int .i64) := by kernel_rfl
theorem uInts : Tryz.prog.underlying 23 = some (.slice 3) := by kernel_rfl
theorem uEvts : Tryz.prog.underlying 27 = some (.slice 73) := by kernel_rfl
theorem uVars : Tryz.prog.underlying 22 = some (.slice 101) := by kernel_rfl
theorem uFuns : Tryz.prog.underlying 24 = some (.slice 166) := by kernel_rfl
theorem uInss : Tryz.prog.underlying 163 = some (.slice 162) := by kernel_rfl
theorem uSels : Tryz.prog.underlying 164 = some (.slice 221) := by kernel_rfl
theorem uCases : Tryz.prog.underlying 219 = some (.slice 223) := by kernel_rfl
def Rng (n : Int) : Prop := IntKind.i64.min ≤ n ∧ n ≤ IntKind.i64.max
theorem decInt : Dec Tryz.prog T tysN 3 (fun n : Int => .int n) Rng := Dec.int uInt rfl
theorem decI64 : Dec Tryz.prog T tysN 2 (fun n : Int => .int n) Rng := Dec.int uI64 rfl
theorem decOp : Dec Tryz.prog T tysN 68 (fun n : Int => .int n) Rng := Dec.int uOp rfl
theorem decBool : Dec Tryz.prog T tysN 4 (fun b : Bool => .bool b) (fun _ => True) := Dec.bool uBool rfl
theorem decTch : Dec Tryz.prog T tysN 70 encTch (fun _ => True) :=
  (Dec.struct (t := 70) hT (show (T 70).kind = .struct [3, 3, 4] from rfl) (DecL.cons decInt (DecL.cons decInt (DecL.cons decBool DecL.nil)))).map (fun x => ⟨x.1, x.2.1, x.2.2.1⟩) (fun _ => rfl) (fun _ _ => trivial)
theorem decTs : Dec Tryz.prog T tysN 71 encTs (fun _ => True) :=
  (Dec.array hT tch0 (show (T 71).kind = .array 6 70 from rfl) decTch).map (fun l => l) (fun _ => rfl) (fun _ _ => trivial)
theorem decEvt : Dec Tryz.prog T tysN 73 encE (fun e => Rng e.tag) :=
  (Dec.struct (t := 73) hT (show (T 73).kind = .struct [3, 3, 3, 68, 3, 2, 2, 71, 3] from rfl) (DecL.cons decInt (DecL.cons decInt (DecL.cons decInt (DecL.cons decOp (DecL.cons decInt (DecL.cons decI64 (DecL.cons decI64 (DecL.cons decTs (DecL.cons decInt DecL.nil)))))))))).map (fun x => ⟨x.1, x.2.1, x.2.2.1, x.2.2.2.1, x.2.2.2.2.1, x.2.2.2.2.2.1, x.2.2.2.2.2.2.1, x.2.2.2.2.2.2.2.1, x.2.2.2.2.2.2.2.2.1⟩) (fun _ => rfl) (fun x hx => hx.2.2.2.2.2.2.1)
theorem decInts : Dec Tryz.prog T tysN 23 (fun l : List Int => ints false l) (fun l => ∀ n ∈ l, Rng n) := (Dec.slice hT 0 uInts rfl (Nat.le_of_ble_eq_true rfl) decInt).map (fun l => l) (fun _ => rfl) (fun _ h => h)
theorem decVar : Dec Tryz.prog T tysN 101 encVar (fun v => Rng v.init) :=
  (Dec.struct (t := 101) hT (show (T 101).kind = .struct [4, 2] from rfl) (DecL.cons decBool (DecL.cons decI64 DecL.nil))).map (fun x => ⟨x.1, x.2.1⟩) (fun _ => rfl) (fun x hx => hx.2.1)
def rngIns (x : PIns) : Prop := Rng x.op ∧ Rng x.a ∧ Rng x.b ∧ Rng x.c ∧ Rng x.n
theorem decIns : Dec Tryz.prog T tysN 162 encIns rngIns :=
  (Dec.struct (t := 162) hT (show (T 162).kind = .struct [68, 3, 3, 3, 2] from rfl) (DecL.cons decOp (DecL.cons decInt (DecL.cons decInt (DecL.cons decInt (DecL.cons decI64 DecL.nil)))))).map (fun x => ⟨x.1, x.2.1, x.2.2.1, x.2.2.2.1, x.2.2.2.2.1⟩) (fun _ => rfl) (fun x hx => ⟨hx.1, hx.2.1, hx.2.2.1, hx.2.2.2.1, hx.2.2.2.2.1⟩)
def rngCase (x : PCase) : Prop := Rng x.chan ∧ Rng x.reg ∧ Rng x.to
theorem decCase : Dec Tryz.prog T tysN 223 encCase rngCase :=
  (Dec.struct (t := 223) hT (show (T 223).kind = .struct [4, 3, 3, 3] from rfl) (DecL.cons decBool (DecL.cons decInt (DecL.cons decInt (DecL.cons decInt DecL.nil))))).map (fun x => ⟨x.1, x.2.1, x.2.2.1, x.2.2.2.1⟩) (fun _ => rfl) (fun x hx => ⟨hx.2.1, hx.2.2.1, hx.2.2.2.1⟩)
def rngSel (x : PSel) : Prop := (∀ c ∈ x.cases, rngCase c) ∧ Rng x.els
theorem decSel : Dec Tryz.prog T tysN 221 encSel rngSel :=
  (Dec.struct (t := 221) hT (show (T 221).kind = .struct [219, 3] from rfl) (DecL.cons (Dec.slice hT case0 uCases rfl (Nat.le_of_ble_eq_true rfl) decCase) (DecL.cons decInt DecL.nil))).map (fun x => ⟨x.1, x.2.1⟩) (fun _ => rfl) (fun x hx => ⟨hx.1, hx.2.1⟩)
def rngFun (x : PFun) : Prop := Rng x.params ∧ Rng x.regs ∧ (∀ c ∈ x.code, rngIns c) ∧ ∀ s ∈ x.sels, rngSel s
theorem decFun : Dec Tryz.prog T tysN 166 encFun rngFun :=
  (Dec.struct (t := 166) hT (show (T 166).kind = .struct [3, 3, 163, 164] from rfl) (DecL.cons decInt (DecL.cons decInt (DecL.cons (Dec.slice hT ins0 uInss rfl (Nat.le_of_ble_eq_true rfl) decIns) (DecL.cons (Dec.slice hT sel0 uSels rfl (Nat.le_of_ble_eq_true rfl) decSel) DecL.nil))))).map (fun x => ⟨x.1, x.2.1, x.2.2.1, x.2.2.2.1⟩) (fun _ => rfl) (fun x hx => ⟨hx.1, hx.2.1, hx.2.2.1, hx.2.2.2.1⟩)
def rngProg (x : PProg) : Prop := (∀ v ∈ x.vars, Rng v.init) ∧ Rng x.locks ∧ (∀ c ∈ x.chans, Rng c) ∧ ∀ f ∈ x.funcs, rngFun f
theorem decProg : Dec Tryz.prog T tysN 26 encProg rngProg :=
  (Dec.struct (t := 26) hT (show (T 26).kind = .struct [22, 3, 23, 24] from rfl) (DecL.cons (Dec.slice hT var0 uVars rfl (Nat.le_of_ble_eq_true rfl) decVar) (DecL.cons decInt (DecL.cons decInts (DecL.cons (Dec.slice hT fun0 uFuns rfl (Nat.le_of_ble_eq_true rfl) decFun) DecL.nil))))).map (fun x => ⟨x.1, x.2.1, x.2.2.1, x.2.2.2.1⟩) (fun _ => rfl) (fun x hx => ⟨hx.1, hx.2.1, hx.2.2.1, hx.2.2.2.1⟩)
theorem arg_int {H : Type} {eh : TypeId × Value → H} {W : World} {base : Nat} {v : Value} {d : DataW H} {p : List MemPlace} (h : DataW.Trod eh Tryz.prog W 0 (fun _ => true) true 3 v d p) (hok : Value.okWide Tryz.prog W .any base 3 v) : ∃ n : Int, Rng n ∧ RepV T tysN (memI W) noPl (.int n) v := by
  obtain ⟨n, rfl, rfl, rfl, wn⟩ := open_int uInt hok h
  simp only [Lit.wf, Bool.and_eq_true, decide_eq_true_eq] at wn
  exact ⟨n, wn, .one ⟨[_], .v rfl, rfl⟩⟩
theorem arg_evts {H : Type} {eh : TypeId × Value → H} {W : World} {base : Nat} {v : Value} {d : DataW H} {p : List MemPlace} (h : DataW.Trod eh Tryz.prog W 0 (fun _ => true) true 27 v d p) (hok : Value.okWide Tryz.prog W .any base 27 v) : ∃ l : List Evt, (∀ e ∈ l, Rng e.tag) ∧ RepV T tysN (memI W) noPl (evts false l) v := by
  obtain ⟨fuel, h⟩ := h
  obtain ⟨l, hq, hl⟩ := dec_slice hT evt0 uEvts (Nat.le_of_ble_eq_true rfl) decEvt h hok
  exact ⟨l, hq, hl⟩
theorem arg_ints {H : Type} {eh : TypeId × Value → H} {W : World} {base : Nat} {v : Value} {d : DataW H} {p : List MemPlace} (h : DataW.Trod eh Tryz.prog W 0 (fun _ => true) true 23 v d p) (hok : Value.okWide Tryz.prog W .any base 23 v) : ∃ l : List Int, (∀ e ∈ l, Rng e) ∧ RepV T tysN (memI W) noPl (ints false l) v := by
  obtain ⟨fuel, h⟩ := h
  obtain ⟨l, hq, hl⟩ := dec_slice hT 0 uInts (Nat.le_of_ble_eq_true rfl) decInt h hok
  exact ⟨l, hq, hl⟩
theorem arg_prog {H : Type} {eh : TypeId × Value → H} {W : World} {base : Nat} {v : Value} {d : DataW H} {p : List MemPlace} (h : DataW.Trod eh Tryz.prog W 0 (fun _ => true) true 26 v d p) (hok : Value.okWide Tryz.prog W .any base 26 v) : ∃ x : PProg, rngProg x ∧ RepV T tysN (memI W) noPl (encProg x) v := by
  obtain ⟨fuel, h⟩ := h
  obtain ⟨x, hq, hl, _⟩ := decProg H eh W fuel _ d p h
  obtain ⟨cs, rfl⟩ := okWide_agg hT (show (T 26).kind = .struct [22, 3, 23, 24] from rfl) hok
  exact ⟨x, hq, .one ⟨(Value.agg cs).cells.toList, hl, by simp [packV, encProg, stru, Value.cells]⟩⟩
theorem reps1 {W : World} {a : AV} {v0 : Value} (h0 : RepV T tysN (memI W) noPl a v0) :
    ∀ (i : Nat) (x : AV) (v : Value), [a][i]? = some x → (#[v0] : Array Value).toList[i]? = some v → RepV T tysN (memI W) noPl x v := by
  intro i x v hx hv
  match i with
  | 0 => simp at hx hv; subst hx hv; exact h0
  | 1 => first | (simp at hx; done) | (simp at hx hv; subst hx hv; exact h1)
  | 2 => first | (simp at hx; done) | (simp at hx hv; subst hx hv; exact h2)
  | i + 3 => simp at hx
theorem reps2 {W : World} {a b : AV} {v0 v1 : Value} (h0 : RepV T tysN (memI W) noPl a v0) (h1 : RepV T tysN (memI W) noPl b v1) :
    ∀ (i : Nat) (x : AV) (v : Value), [a, b][i]? = some x → (#[v0, v1] : Array Value).toList[i]? = some v → RepV T tysN (memI W) noPl x v := by
  intro i x v hx hv
  match i with
  | 0 => simp at hx hv; subst hx hv; exact h0
  | 1 => first | (simp at hx; done) | (simp at hx hv; subst hx hv; exact h1)
  | 2 => first | (simp at hx; done) | (simp at hx hv; subst hx hv; exact h2)
  | i + 3 => simp at hx
theorem reps3 {W : World} {a b c : AV} {v0 v1 v2 : Value} (h0 : RepV T tysN (memI W) noPl a v0) (h1 : RepV T tysN (memI W) noPl b v1) (h2 : RepV T tysN (memI W) noPl c v2) :
    ∀ (i : Nat) (x : AV) (v : Value), [a, b, c][i]? = some x → (#[v0, v1, v2] : Array Value).toList[i]? = some v → RepV T tysN (memI W) noPl x v := by
  intro i x v hx hv
  match i with
  | 0 => simp at hx hv; subst hx hv; exact h0
  | 1 => first | (simp at hx; done) | (simp at hx hv; subst hx hv; exact h1)
  | 2 => first | (simp at hx; done) | (simp at hx hv; subst hx hv; exact h2)
  | i + 3 => simp at hx
end Go.Ab


/- RaceMeets: the row. -/
set_option autoImplicit false
set_option maxRecDepth 20000
set_option linter.unusedVariables false
namespace Go.Proofs.YtkdnjnbocjpmfaaGreat
open Go.Ab Go.ChangeShapes Go.WideShapes Go.ChangeAt Go.RowKit
set_option maxRecDepth 100000 in
theorem raceMeets_lifted (os : Os) (started : os.Started) (H : Type) (enc : TypeId × Value → H) :
    ReturnsInHanded {} Tryz.checked os 8 .any (Rows.raceMeetsSpec.pre6 enc Tryz.prog Tryz.f8 Rows.raceMeetsRow.domain false) (Rows.raceMeetsSpec.post enc Tryz.prog Tryz.f8 false true false false) := by
  refine returnsInHanded_of_change_sized (C := Tryz.checked) tryOwn started (by kernel_rfl) Tryz.func8
    (ChangeSpec.witness6 (enc := enc) (C := Tryz.checked) false ⟨#[], #[.slice none 0 0, .int .i64 0, .int .i64 0], []⟩ 8 (by kernel_rfl) (by kernel_rfl) (by kernel_rfl) (by kernel_rfl)) ?_
  intro W base args ds gs before hval0 hW _ hz _
  have hval : ∀ (j : Nat) t v, Tryz.f8.params[j]? = some t → args[j]? = some v → Value.okWide Tryz.prog W .any base t v := hval0
  have hW' : DataW.Whole enc Tryz.prog Tryz.f8.params.toList Rows.raceMeetsSpec.vars false W args.toList ds gs before := hW
  obtain ⟨p, q, hA0, hV, _, _, _⟩ := hW
  have hA : DataW.TrodAll enc Tryz.prog W 0 (fun _ => true) true Tryz.f8.params.toList args.toList ds p := hA0
  rw [Tryz.params8] at hA hval
  obtain ⟨v0, v1, v2, d0, d1, d2, p0, p1, p2, rfl, rfl, rfl, h0, h1, h2⟩ := trodAll_three hA
  obtain ⟨a0, q0, r0⟩ := arg_evts h0 (hval 0 27 v0 rfl rfl)
  obtain ⟨a1, q1, r1⟩ := arg_int h1 (hval 1 3 v1 rfl rfl)
  obtain ⟨a2, q2, r2⟩ := arg_int h2 (hval 2 3 v2 rfl rfl)
  exact law_calls (tb := 4) tryLaid (by kernel_rfl) (by rfl) uBool rfl (fun ds hd => by match ds, hd with | [x0, x1, x2], _ => rfl) hW' (raceMeetsLaw_ac false a0 a1 a2) rfl (reps3 r0 r1 r2)
theorem raceMeets_holds : Rows.RaceMeetsSaid :=
  OpenClaim.holds_of_wide 8 Tryz.f8 rfl rfl rfl rfl rfl rfl rfl ⟨rfl, rfl, rfl, rfl, rfl⟩ rfl rfl rfl rfl rfl (by kernel_rfl) Tryz.func8 (by kernel_rfl)
    (of_decide_eq_true (by kernel_rfl)) (by unfold Func.isWrapper; first | (rw [if_pos (by decide +kernel)]; kernel_rfl) | (rw [if_neg (by decide +kernel)]; exact ⟨rfl, rfl⟩))
    (fun os started H enc _ => raceMeets_lifted os started H enc)
end Go.Proofs.YtkdnjnbocjpmfaaGreat

