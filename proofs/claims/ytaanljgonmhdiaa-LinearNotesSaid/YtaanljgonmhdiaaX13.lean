/- Part 14 of a proof of a statement about the given program: an abstract machine over the model, proved sound, and contracts of the functions that the statement reaches; the last part proves the statement, for every input, with no condition. -/
import Derived.Test.YtaanljgonmhdiaaX12
import Derived.ChangeKeysEq
set_option linter.unusedSimpArgs false
set_option linter.unusedVariables false
/- Ab, part 26: structs and arrays held against each other. -/
set_option autoImplicit false
set_option linter.unusedVariables false
namespace Go.Ab

def allFrom (az : Nat → Bool) : Nat → Nat → Bool
  | _, 0 => true
  | k, n + 1 => az k && allFrom az (k + 1) n
theorem allFrom_snoc (az : Nat → Bool) : ∀ (n k : Nat), allFrom az k (n + 1) = (allFrom az k n && az (k + n))
  | 0, k => by simp [allFrom]
  | n + 1, k => by
    rw [allFrom, allFrom_snoc az n (k + 1), allFrom, Bool.and_assoc]
    congr 3; omega
theorem allFrom_true (az : Nat → Bool) : ∀ (n k : Nat), allFrom az k n = true → ∀ i, i < n → az (k + i) = true
  | 0, _, _, i, hi => by omega
  | n + 1, k, h, i, hi => by
    simp only [allFrom, Bool.and_eq_true] at h
    cases i with
    | zero => exact h.1
    | succ i =>
      have := allFrom_true az n (k + 1) h.2 i (by omega)
      rwa [show k + (i + 1) = k + 1 + i by omega]

def SB (cs ds : List Value) : Prop := cs.length = ds.length ∧ ∀ (n k : Nat) (a b : Value), cs[k]? = some a → ds[k]? = some b → Instr.sameBits n b a = true
theorem SB.append {a b c d : List Value} (h : SB a b) (k : SB c d) : SB (a ++ c) (b ++ d) := by
  refine ⟨by simp [h.1, k.1], fun n i x y hx hy => ?_⟩
  rcases Nat.lt_or_ge i a.length with hi | hi
  · rw [List.getElem?_append_left hi] at hx
    rw [List.getElem?_append_left (by rw [← h.1]; exact hi)] at hy
    exact h.2 n i x y hx hy
  · rw [List.getElem?_append_right hi] at hx
    rw [List.getElem?_append_right (by rw [← h.1]; exact hi), ← h.1] at hy
    exact k.2 n _ x y hx hy
theorem SB.flat {f g : Nat → List Value} : ∀ (n : Nat), (∀ i, i < n → SB (f i) (g i)) → SB ((List.range n).flatMap f) ((List.range n).flatMap g)
  | 0, _ => ⟨rfl, fun _ _ _ _ h => by simp at h⟩
  | n + 1, h => by
    simp only [List.range_succ, List.flatMap_append, List.flatMap_cons, List.flatMap_nil, List.append_nil]
    exact (SB.flat n (fun i hi => h i (by omega))).append (h n (by omega))
theorem SB.bits {cs ds : List Value} (h : SB cs ds) (n : Nat) : Instr.sameBits (n + 1) (.agg ds.toArray) (.agg cs.toArray) = true := by
  simp only [Instr.sameBits, List.size_toArray, Bool.and_eq_true, beq_iff_eq, List.all_eq_true]
  refine ⟨h.1.symm, ?_⟩
  rintro ⟨x, y⟩ hm
  obtain ⟨i, hi⟩ := List.getElem?_of_mem hm
  rw [List.getElem?_zip_eq_some] at hi
  exact h.2 n i y x hi.2 hi.1

section
variable {P : Program} {T : Nat → TI} {N : Nat}
theorem flatEqS_spec {g h : Nat → AV} (f : Nat) : ∀ (fs : List Nat) (i : Nat) (b : Bool), flatEqS (flatEq T f) fs i g h = some b → ∃ az : Nat → Bool, (∀ (k u : Nat), fs[k]? = some u → ∃ f', f' < f + 1 ∧ flatEq T f' u (g (i + k)) (h (i + k)) = some (az (i + k))) ∧ b = allFrom az i fs.length
  | [], i, b, e => by
    simp [flatEqS] at e
    exact ⟨fun _ => true, fun k u hk => by simp at hk, by simp [allFrom, e]⟩
  | t :: r, i, b, e => by
    simp only [flatEqS, Option.bind_eq_some_iff, Option.some.injEq] at e
    obtain ⟨a, h1, b', h2, rfl⟩ := e
    obtain ⟨az, g1, g2⟩ := flatEqS_spec f r (i + 1) b' h2
    refine ⟨fun k => if k = i then a else az k, fun k u hk => ?_, ?_⟩
    · cases k with
      | zero => simp at hk; subst hk; exact ⟨f, by omega, by simpa using h1⟩
      | succ k =>
        obtain ⟨f', k1, k2⟩ := g1 k u (by simpa using hk)
        refine ⟨f', by omega, ?_⟩
        rw [show i + (k + 1) = i + 1 + k by omega]
        simp only [show ¬ (i + 1 + k = i) by omega, if_false]
        exact k2
    · simp only [List.length_cons, allFrom, if_true]
      congr 1
      rw [g2]
      have : ∀ (n k : Nat), i < k → allFrom az k n = allFrom (fun k => if k = i then a else az k) k n := by
        intro n
        induction n with
        | zero => intro k _; rfl
        | succ n ih =>
          intro k hk
          simp only [allFrom]
          rw [if_neg (by omega), ih (k + 1) (by omega)]
      exact this _ _ (by omega)
theorem flatEqA_spec {g h : Nat → AV} {e : Nat} (f : Nat) : ∀ (n : Nat) (b : Bool), flatEqA (flatEq T f e) n g h = some b → ∃ az : Nat → Bool, (∀ k, k < n → ∃ f', f' < f + 1 ∧ flatEq T f' e (g k) (h k) = some (az k)) ∧ b = allFrom az 0 n
  | 0, b, e => by
    simp [flatEqA] at e
    exact ⟨fun _ => true, fun k hk => by omega, by simp [allFrom, e]⟩
  | n + 1, b, e => by
    simp only [flatEqA, Option.bind_eq_some_iff, Option.some.injEq] at e
    obtain ⟨b', h1, a, h2, rfl⟩ := e
    obtain ⟨az, g1, g2⟩ := flatEqA_spec f n b' h1
    refine ⟨fun k => if k = n then a else az k, fun k hk => ?_, ?_⟩
    · by_cases hkn : k = n
      · subst hkn; exact ⟨f, by omega, by simpa using h2⟩
      · obtain ⟨f', k1, k2⟩ := g1 k (by omega)
        exact ⟨f', by omega, by simp only [hkn, if_false]; exact k2⟩
    · rw [allFrom_snoc, Nat.zero_add, if_pos rfl]
      congr 1
      rw [g2]
      have : ∀ (m k : Nat), k + m ≤ n → allFrom az k m = allFrom (fun k => if k = n then a else az k) k m := by
        intro m
        induction m with
        | zero => intro k _; rfl
        | succ m ih =>
          intro k hk
          simp only [allFrom]
          rw [if_neg (by omega), ih (k + 1) (by omega)]
      exact this _ _ (by omega)

/-- Where values of an aggregate type are held against each other, no package that is stood in for is asked. -/
def StoodOK (P : Program) (T : Nat → TI) : Prop := ∀ t, (T t).eqs = true → P.stoodInHeld t = false

theorem run_fields {d : Nat} {xs ys : Array Value} {w : World} {az : Nat → Bool} : ∀ (L : List Field) (k : Nat), (∀ (j : Nat) (fl : Field), L[j]? = some fl → fl.name ≠ "_" ∧ ∃ a b, (part fl.type xs fl.offset).run P w = .ok a w ∧ (part fl.type ys fl.offset).run P w = .ok b w ∧
      (Op.equalIn d fl.type a b).run P w = .ok (az (k + j)) w) → (Op.eqFields d xs ys L).run P w = .ok (allFrom az k L.length) w
  | [], k, _ => by simp [Op.eqFields, allFrom]
  | fl :: L, k, h => by
    obtain ⟨h1, a, b, h2, h3, h4⟩ := h 0 fl rfl
    simp only [Op.eqFields, h1, ne_eq, not_false_eq_true, if_true, Sem.run_bind, h2, h3, h4, Result.andThen_ok, Nat.add_zero, List.length_cons, allFrom]
    cases has : az k with
    | false => simp
    | true =>
      simp only [Bool.not_true, Bool.false_eq_true, if_false, Bool.true_and]
      exact run_fields L (k + 1) (fun j fl' hj => by
        have := h (j + 1) fl' (by simpa using hj)
        rwa [show k + (j + 1) = k + 1 + j by omega] at this)
theorem run_items {d e sz : Nat} {xs ys : Array Value} {w : World} {az : Nat → Bool} : ∀ (n k : Nat), (∀ j, k ≤ j → j < k + n → ∃ a b, (part e xs (j * sz)).run P w = .ok a w ∧ (part e ys (j * sz)).run P w = .ok b w ∧ (Op.equalIn d e a b).run P w = .ok (az j) w) →
    (Op.eqItems d e sz xs ys (List.range' k n)).run P w = .ok (allFrom az k n) w
  | 0, k, _ => by simp [Op.eqItems, allFrom]
  | n + 1, k, h => by
    obtain ⟨a, b, h2, h3, h4⟩ := h k (Nat.le_refl _) (by omega)
    simp only [List.range'_succ, Op.eqItems, Sem.run_bind, h2, h3, h4, Result.andThen_ok, allFrom]
    cases has : az k with
    | false => simp
    | true =>
      simp only [Bool.not_true, Bool.false_eq_true, if_false, Bool.true_and]
      exact run_items n (k + 1) (fun j h1 h2 => h j (by omega) (by omega))

theorem run_items0 {d e sz : Nat} {xs ys : Array Value} {w : World} {az : Nat → Bool} (n : Nat) (h : ∀ j, j < n → ∃ a b, (part e xs (j * sz)).run P w = .ok a w ∧ (part e ys (j * sz)).run P w = .ok b w ∧ (Op.equalIn d e a b).run P w = .ok (az j) w) :
    (Op.eqItems d e sz xs ys (List.range n)).run P w = .ok (allFrom az 0 n) w := by
  rw [List.range_eq_range']
  exact run_items n 0 (fun j _ hj => h j (by omega))
theorem struct_part {fs : List Nat} {segs : Nat → List Value} {n : Nat} (hn : fs.length = n) (hl : ∀ i u, fs[i]? = some u → (segs i).length = (T u).size) {k u : Nat} (hk : fs[k]? = some u) {o : Nat} (ho : o < (T u).size) : ((List.range n).flatMap segs)[foff T fs k + o]? = (segs k)[o]? := by
  have hkn : k < n := by rw [← hn]; exact (List.getElem?_eq_some_iff.1 hk).1
  have e1 : foff T fs k = offs (fun i => (segs i).length) k := offs_congr fun i hi => by
    have hi' : i < fs.length := by omega
    simp only [List.getElem?_eq_getElem hi', Option.map_some, Option.getD_some]
    exact (hl i _ (List.getElem?_eq_getElem hi')).symm
  rw [e1]
  exact segs_get segs hkn (by rw [hl k u hk]; exact ho)
theorem eq_main (hT : TOK P T N) (hS : StoodOK P T) : ∀ (f t : Nat) (x y : AV) (cs ds : List Value) (b : Bool) (d : Nat) (w : World) (I : Imm) (ρ : Pl), f ≤ d → Rep T N I ρ x cs → Rep T N I ρ y ds → flatEq T f t x y = some b →
    (Op.equalIn d t (packV x cs) (packV y ds)).run P w = .ok b w ∧ (Op.eqGuardIn d t (packV x cs) (packV y ds)).run P w = .ok false w ∧ (b = true → SB cs ds) := by
  intro f
  induction f using Nat.strongRecOn with
  | _ f ih =>
    intro t x y cs ds b d w I ρ hd hx hy h
    cases f with
    | zero => simp [flatEq] at h
    | succ f =>
      obtain ⟨d, rfl⟩ : ∃ d', d = d' + 1 := ⟨d - 1, by omega⟩
      unfold flatEq at h
      split at h
      · rename_i k j a k' c hk
        obtain ⟨hb, h⟩ := cond_some h
        cases h
        have hjk : j = k' := of_decide_eq_true hb
        subst hjk
        cases hx; cases hy
        have hu := kind_int hT hk w
        refine ⟨by simp [packV, Op.equalIn, hu], by simp [packV, Op.eqGuardIn, hu], fun e => ⟨rfl, fun n i u v hu hv => ?_⟩⟩
        cases i with
        | zero => simp at hu hv; subst hu hv; have : a = c := by simpa using e
                  subst this; cases n <;> simp [Instr.sameBits]
        | succ i => simp at hu
      · rename_i a c hk
        cases h
        cases hx; cases hy
        obtain ⟨dd, hd1, _, hd3⟩ := hT.runUnd (hT.lt (t := t) (by rw [hk]; simp))
        rw [hk] at hd3
        cases dd <;> simp only [kindOf, reduceCtorEq] at hd3
        have hu := hd1 w
        refine ⟨by simp [packV, Op.equalIn, hu], by simp [packV, Op.eqGuardIn, hu], fun e => ⟨rfl, fun n i u v hu hv => ?_⟩⟩
        cases i with
        | zero => simp at hu hv; subst hu hv; have : a = c := by simpa using e
                  subst this; cases n <;> simp [Instr.sameBits]
        | succ i => simp at hu
      · rename_i a c hk
        cases h
        cases hx; cases hy
        have hu := kind_str hT hk w
        refine ⟨by simp [packV, Op.equalIn, hu], by simp [packV, Op.eqGuardIn, hu], fun e => ⟨rfl, fun n i u v hu hv => ?_⟩⟩
        cases i with
        | zero => simp at hu hv; subst hu hv
                  have e1 : (c == a) = true := by
                    rw [beq_toListBytes] at e ⊢
                    simp at e ⊢
                    exact e.symm
                  cases n <;> simp [Instr.sameBits, e1]
        | succ i => simp at hu
      · rename_i fs t1 n1 g t2 n2 g' hk
        have hb := (cond_some h).1
        replace h := (cond_some h).2
        simp only [Bool.and_eq_true] at hb
        obtain ⟨⟨b1, b2⟩, b3⟩ := hb
        have e1 := Nat.eq_of_beq_eq_true b1
        have e2 := Nat.eq_of_beq_eq_true b2
        subst e1 e2
        obtain ⟨az, s1, s2⟩ := flatEqS_spec f fs 0 b h
        cases hx with
        | array e segs hk' => rw [hk] at hk'; cases hk'
        | struct fs1 segs hk1 hn1 ht1 hr1 hf1 hl1 =>
        cases hy with
        | array e segs hk' => rw [hk] at hk'; cases hk'
        | struct fs2 segs2 hk2 hn2 ht2 hr2 hf2 hl2 =>
        rw [hk] at hk1; cases hk1
        rw [hk] at hk2; cases hk2
        obtain ⟨dd, hd1, hd2, hd3⟩ := hT.und _ ht1
        rw [hk] at hd2
        cases dd <;> simp only [kindOf, reduceCtorEq, TK.struct.injEq] at hd2
        rename_i flds
        have hfo : P.fieldsOf t2 = flds := by simp [Program.fieldsOf, hd1]
        have each : ∀ (j : Nat) (fl : Field), flds.toList[j]? = some fl → fl.name ≠ "_" ∧ ∃ a c, (part fl.type ((List.range n1).flatMap segs).toArray fl.offset).run P w = .ok a w ∧ (part fl.type ((List.range n2).flatMap segs2).toArray fl.offset).run P w = .ok c w ∧
            (Op.equalIn d fl.type a c).run P w = .ok (az (0 + j)) w ∧ (Op.eqGuardIn d fl.type a c).run P w = .ok false w ∧ (az (0 + j) = true → SB (segs j) (segs2 j)) := by
          intro j fl hj
          have hj' : flds[j]? = some fl := by rw [← hj, Array.getElem?_toList]
          have hu : fs[j]? = some fl.type := by rw [← hd2]; simp [hj']
          obtain ⟨o1, o2⟩ := hd3 flds rfl j fl hj'
          rw [hd2] at o1
          have hltN := (hT.struct t2 fs hk).1 _ (List.mem_of_getElem? hu)
          obtain ⟨f', k1, k2⟩ := s1 j fl.type hu
          have r1 := run_part_rep hT hltN (hr1 j _ hu) (hf1 j _ hu) (hl1 j _ hu) (cs := ((List.range n1).flatMap segs).toArray) (off := fl.offset) (w := w) (fun o ho => by
            have := struct_part hn1 hl1 hu ho
            rw [o1]; simpa using this)
          have r2 := run_part_rep hT hltN (hr2 j _ hu) (hf2 j _ hu) (hl2 j _ hu) (cs := ((List.range n2).flatMap segs2).toArray) (off := fl.offset) (w := w) (fun o ho => by
            have := struct_part hn2 hl2 hu ho
            rw [o1]; simpa using this)
          rw [Nat.zero_add] at k2 ⊢
          obtain ⟨m1, m2, m3⟩ := ih f' (by omega) fl.type _ _ _ _ _ d w I ρ (by omega) (hr1 j _ hu) (hr2 j _ hu) k2
          exact ⟨o2, _, _, r1, r2, m1, m2, m3⟩
        refine ⟨?_, ?_, fun e => ?_⟩
        · simp only [packV]
          rw [run_equalIn_struct w d t2 _ _ (by rw [hfo]; exact hd1) (hS t2 b3), hfo]
          have := run_fields (az := az) flds.toList 0 (fun j fl hj => by
            obtain ⟨z1, a, c, z2, z3, z4, _⟩ := each j fl hj
            exact ⟨z1, a, c, z2, z3, z4⟩)
          rw [this, s2]
          have : flds.toList.length = fs.length := by rw [← hd2]; simp
          rw [this]
        · simp only [packV, Op.eqGuardIn, Sem.run_bind, run_underlying hd1, Result.andThen_ok]
          rw [← Array.forIn_toList]
          have each' : ∀ fl ∈ flds.toList, fl.name ≠ "_" ∧ ∃ a c, (part fl.type ((List.range n1).flatMap segs).toArray fl.offset).run P w = .ok a w ∧ (part fl.type ((List.range n2).flatMap segs2).toArray fl.offset).run P w = .ok c w ∧ (Op.eqGuardIn d fl.type a c).run P w = .ok false w := fun fl hm => by
            obtain ⟨j, hj⟩ := List.getElem?_of_mem hm
            obtain ⟨z1, a, c, z2, z3, _, z5, _⟩ := each j fl hj
            exact ⟨z1, a, c, z2, z3, z5⟩
          generalize flds.toList = L at each'
          induction L with
          | nil => simp
          | cons j L ihL =>
            obtain ⟨z1, a, c, z2, z3, z5⟩ := each' j (by simp)
            simp only [List.forIn_cons, Sem.run_bind, z1, ne_eq, not_false_eq_true, if_true, z2, z3, z5, Result.andThen_ok, Bool.false_eq_true, if_false, Sem.run_pure]
            exact ihL (fun y hy => each' y (by simp [hy]))
        · rw [← hn1, ← hn2]
          refine SB.flat _ (fun i hi => ?_)
          have hi' : i < flds.toList.length := by
            have : flds.toList.length = fs.length := by rw [← hd2]; simp
            omega
          obtain ⟨_, _, _, _, _, _, _, z6⟩ := each i _ (List.getElem?_eq_getElem hi')
          refine z6 ?_
          rw [s2] at e
          exact allFrom_true az _ 0 e i hi
      · rename_i k e t1 n1 g t2 n2 g' hk
        have hb := (cond_some h).1
        replace h := (cond_some h).2
        simp only [Bool.and_eq_true] at hb
        obtain ⟨b1, b2⟩ := hb
        have e1 := Nat.eq_of_beq_eq_true b1
        have e2 := Nat.eq_of_beq_eq_true b2
        subst e1 e2
        obtain ⟨az, s1, s2⟩ := flatEqA_spec f k b h
        cases hx with
        | struct fs1 segs hk' => rw [hk] at hk'; cases hk'
        | array e1 segs hk1 ht1 hr1 hf1 hl1 =>
        cases hy with
        | struct fs1 segs hk' => rw [hk] at hk'; cases hk'
        | array e2 segs2 hk2 ht2 hr2 hf2 hl2 =>
        rw [hk] at hk1; cases hk1
        rw [hk] at hk2; cases hk2
        have he := (hT.array t2 _ e hk).1
        obtain ⟨i, hi, his, _⟩ := hT.info e he
        have each : ∀ j, j < k → ∃ a c, (part e ((List.range k).flatMap segs).toArray (j * (T e).size)).run P w = .ok a w ∧ (part e ((List.range k).flatMap segs2).toArray (j * (T e).size)).run P w = .ok c w ∧
            (Op.equalIn d e a c).run P w = .ok (az j) w ∧ (Op.eqGuardIn d e a c).run P w = .ok false w ∧ (az j = true → SB (segs j) (segs2 j)) := by
          intro j hj
          obtain ⟨f', k1, k2⟩ := s1 j hj
          have r1 := run_part_rep hT he (hr1 j hj) (hf1 j hj) (hl1 j hj) (cs := ((List.range k).flatMap segs).toArray) (off := j * (T e).size) (w := w) (fun o ho => by
            have := segs_const_get segs hl1 hj ho
            simpa using this)
          have r2 := run_part_rep hT he (hr2 j hj) (hf2 j hj) (hl2 j hj) (cs := ((List.range k).flatMap segs2).toArray) (off := j * (T e).size) (w := w) (fun o ho => by
            have := segs_const_get segs2 hl2 hj ho
            simpa using this)
          obtain ⟨m1, m2, m3⟩ := ih f' (by omega) e _ _ _ _ _ d w I ρ (by omega) (hr1 j hj) (hr2 j hj) k2
          exact ⟨_, _, r1, r2, m1, m2, m3⟩
        refine ⟨?_, ?_, fun e' => ?_⟩
        · simp only [packV]
          rw [run_equalIn_array w d _ _ (show P.underlying t2 = some (.array k e) from by
            obtain ⟨dd, _, q2, q3⟩ := hT.runUnd ht1
            rw [hk] at q3
            cases dd <;> simp only [kindOf, reduceCtorEq, TK.array.injEq] at q3
            obtain ⟨rfl, rfl⟩ := q3
            exact q2) hi, show P.cellsOf e = (T e).size from by simp [Program.cellsOf, hi, his]]
          rw [run_items0 (az := az) k (fun j hj => by
            obtain ⟨a, c, z2, z3, z4, _⟩ := each j hj
            exact ⟨a, c, z2, z3, z4⟩), s2]
        · simp only [packV, Op.eqGuardIn, Sem.run_bind, hT.arr hk, Result.andThen_ok, hT.runSize he]
          simp only [Std.Legacy.Range.forIn_eq_forIn_range', Std.Legacy.Range.size, Nat.sub_zero, Nat.add_one_sub_one, Nat.div_one]
          have each' : ∀ j ∈ List.range' 0 k, ∃ a c, (part e ((List.range k).flatMap segs).toArray (j * (T e).size)).run P w = .ok a w ∧ (part e ((List.range k).flatMap segs2).toArray (j * (T e).size)).run P w = .ok c w ∧ (Op.eqGuardIn d e a c).run P w = .ok false w := fun j hj => by
            obtain ⟨a, c, z2, z3, _, z5, _⟩ := each j (by simpa using hj)
            exact ⟨a, c, z2, z3, z5⟩
          generalize List.range' 0 k = L at each'
          induction L with
          | nil => simp
          | cons j L ihL =>
            obtain ⟨a, c, z2, z3, z5⟩ := each' j (by simp)
            simp only [List.forIn_cons, Sem.run_bind, z2, z3, z5, Result.andThen_ok, Bool.false_eq_true, if_false, Sem.run_pure]
            exact ihL (fun y hy => each' y (by simp [hy]))
        · refine SB.flat _ (fun i hi => ?_)
          obtain ⟨_, _, _, _, _, _, z6⟩ := each i hi
          refine z6 ?_
          rw [s2] at e'
          have := allFrom_true az _ 0 e' i hi
          rwa [Nat.zero_add] at this
      · cases h

theorem eqOK (hT : TOK P T N) (hS : StoodOK P T) : EqOK P T N := by
  rintro I ρ f t x y u v b w ⟨cs, hx, rfl⟩ ⟨ds, hy, rfl⟩ ha h hf
  obtain ⟨h1, h2, h3⟩ := eq_main hT hS f t x y cs ds b 10000 w I ρ (by omega) hx hy h
  have hagg : (∃ t1 n1 g1, x = .agg t1 n1 g1) ∧ ∃ t2 n2 g2, y = .agg t2 n2 g2 := by
    cases f with
    | zero => simp [flatEq] at h
    | succ f =>
      unfold flatEq at h
      split at h
      · rename_i hk; rw [hk] at ha; cases ha
      · rename_i hk; rw [hk] at ha; cases ha
      · rename_i hk; rw [hk] at ha; cases ha
      · exact ⟨⟨_, _, _, rfl⟩, _, _, _, rfl⟩
      · exact ⟨⟨_, _, _, rfl⟩, _, _, _, rfl⟩
      · cases h
  obtain ⟨⟨t1, n1, g1, rfl⟩, t2, n2, g2, rfl⟩ := hagg
  refine ⟨h1, fun op p q => ?_, fun e => ?_⟩
  · simp only [packV] at h2 ⊢
    unfold eqGuard
    have h2' : (Op.eqGuardIn Op.maxDepth t (.agg cs.toArray) (.agg ds.toArray)).run P w = .ok false w := h2
    cases op <;> simp [h2'] <;> split <;> simp
  · simp only [packV]
    exact SB.bits (h3 e) 9999
end
end Go.Ab

/- Ab, part 27: a table of types, checked. -/
set_option autoImplicit false
set_option linter.unusedVariables false
namespace Go.Ab
inductive Tr where
  | e
  | n (k : Nat) (x : TI) (l r : Tr)
def dfl : TI := ⟨.other, 0, 0, true, false, .bad⟩
def Tr.get : Tr → Nat → TI
  | .e, _ => dfl
  | .n k x l r, t => bif Nat.beq t k then x else bif Nat.blt t k then l.get t else r.get t
def Tr.under : Tr → Nat → Bool
  | .e, _ => true
  | .n k _ l r, N => Nat.blt k N && l.under N && r.under N
theorem Tr.out : ∀ (x : Tr) {N t : Nat}, x.under N = true → N ≤ t → x.get t = dfl
  | .e, _, _, _, _ => rfl
  | .n k y l r, N, t, h, ht => by
    simp only [Tr.under, Bool.and_eq_true] at h
    have hk := blt_lt h.1.1
    have h1 : t ≠ k := by omega
    have h2 : Nat.blt t k = false := by
      cases hb : Nat.blt t k with
      | false => rfl
      | true => have := blt_lt hb; omega
    simp only [Tr.get, nbeq_ne h1, h2, cond_false]
    exact r.out h.2 ht

def natsEq : List Nat → List Nat → Bool
  | [], [] => true
  | a :: r, b :: s => Nat.beq a b && natsEq r s
  | _, _ => false
theorem natsEq_eq : ∀ {a b : List Nat}, natsEq a b = true → a = b
  | [], [], _ => rfl
  | a :: r, b :: s, h => by
    simp only [natsEq, Bool.and_eq_true] at h
    rw [Nat.eq_of_beq_eq_true h.1, natsEq_eq h.2]
  | [], _ :: _, h => by cases h
  | _ :: _, [], h => by cases h
def tkEq : TK → TK → Bool
  | .int j, .int k => decide (j = k)
  | .bool, .bool => true
  | .str, .str => true
  | .other, .other => true
  | .slice a, .slice b => Nat.beq a b
  | .struct a, .struct b => natsEq a b
  | .array n a, .array m b => Nat.beq n m && Nat.beq a b
  | .ptr a, .ptr b => Nat.beq a b
  | .map a c, .map b d => Nat.beq a b && Nat.beq c d
  | _, _ => false
theorem tkEq_eq {a b : TK} (h : tkEq a b = true) : a = b := by
  cases a <;> cases b <;> simp only [tkEq, Bool.and_eq_true, decide_eq_true_eq, reduceCtorEq, Bool.false_eq_true] at h <;>
    first | rfl | (rw [h]) | (rw [Nat.eq_of_beq_eq_true h]) | (rw [natsEq_eq h]) | (rw [Nat.eq_of_beq_eq_true h.1, Nat.eq_of_beq_eq_true h.2])
def zeq : Value → Value → Bool
  | .bool a, .bool b => a == b
  | .int j a, .int k b => decide (j = k) && decide (a = b)
  | .string a, .string b => decide (a.data = b.data)
  | .slice none 0 0, .slice none 0 0 => true
  | .pointer none, .pointer none => true
  | .map none, .map none => true
  | .nilFunc, .nilFunc => true
  | .nilIface, .nilIface => true
  | _, _ => false
theorem zeq_eq {a b : Value} (h : zeq a b = true) : a = b := by
  unfold zeq at h
  split at h
  · rw [eq_of_beq h]
  · simp only [Bool.and_eq_true, decide_eq_true_eq] at h; rw [h.1, h.2]
  · rename_i x y
    have := of_decide_eq_true h
    obtain ⟨x⟩ := x; obtain ⟨y⟩ := y
    simp only at this; rw [this]
  all_goals first | rfl | cases h
def zeqs : List Value → List Value → Bool
  | [], [] => true
  | a :: r, b :: s => zeq a b && zeqs r s
  | _, _ => false
theorem zeqs_eq : ∀ {a b : List Value}, zeqs a b = true → a = b
  | [], [], _ => rfl
  | a :: r, b :: s, h => by
    simp only [zeqs, Bool.and_eq_true] at h
    rw [zeq_eq h.1, zeqs_eq h.2]
  | [], _ :: _, h => by cases h
  | _ :: _, [], h => by cases h

section
variable (T : Nat → TI) (N : Nat)
/-- The cells of a zero value. -/
def repZ : Nat → AV → List Value → Bool
  | _, .v x, [y] => plainV x && zeq x y
  | f + 1, .agg t n get, cs => Nat.blt t N && (match (T t).kind with
    | .struct fs => Nat.beq fs.length n && Nat.beq cs.length (foff T fs n) && (List.range n).all fun i => match fs[i]? with
      | some u => fit T u (get i) && Nat.beq ((cs.drop (foff T fs i)).take (T u).size).length (T u).size && repZ f (get i) ((cs.drop (foff T fs i)).take (T u).size)
      | none => false
    | .array m e => Nat.beq m n && Nat.beq cs.length (n * (T e).size) && (List.range n).all fun i => fit T e (get i) && Nat.beq ((cs.drop (i * (T e).size)).take (T e).size).length (T e).size && repZ f (get i) ((cs.drop (i * (T e).size)).take (T e).size)
    | _ => false)
  | _, _, _ => false
variable {T N}
theorem cut_flat (cs : List Value) (off : Nat → Nat) (n : Nat) (segs : Nat → List Value) (h : ∀ i, i < n → segs i = (cs.drop (off i)).take (segs i).length) (ho : ∀ i, i < n → off i = offs (fun i => (segs i).length) i) (hl : cs.length = offs (fun i => (segs i).length) n) : (List.range n).flatMap segs = cs := by
  have key : ∀ k, k ≤ n → (List.range k).flatMap segs = cs.take (offs (fun i => (segs i).length) k) := by
    intro k
    induction k with
    | zero => intro _; simp [offs]
    | succ k ih =>
      intro hk
      rw [List.range_succ, List.flatMap_append, ih (by omega)]
      simp only [List.flatMap_cons, List.flatMap_nil, List.append_nil, offs]
      rw [List.take_add, ← ho k (by omega), ← h k (by omega)]
  rw [key n (Nat.le_refl _), ← hl, List.take_length]
theorem repZ_rep : ∀ (f : Nat) (x : AV) (cs : List Value), repZ T N f x cs = true → ∀ (I : Imm) (ρ : Pl), Rep T N I ρ x cs := by
  intro f
  induction f with
  | zero =>
    intro x cs h I ρ
    unfold repZ at h
    split at h
    · simp only [Bool.and_eq_true] at h
      rw [← zeq_eq h.2]; exact .v h.1
    · rename_i e; cases e
    · cases h
  | succ f ih =>
    intro x cs h I ρ
    unfold repZ at h
    split at h
    · simp only [Bool.and_eq_true] at h
      rw [← zeq_eq h.2]; exact .v h.1
    · rename_i cs _ _ csx f' t n get he
      cases he
      simp only [Bool.and_eq_true] at h
      obtain ⟨ht, h⟩ := h
      have ht := blt_lt ht
      split at h
      · rename_i fs hk
        simp only [Bool.and_eq_true, List.all_eq_true, List.mem_range] at h
        obtain ⟨⟨h1, h2⟩, h3⟩ := h
        have hn := Nat.eq_of_beq_eq_true h1
        have hl := Nat.eq_of_beq_eq_true h2
        have each : ∀ i u, fs[i]? = some u → fit T u (get i) = true ∧ ((cs.drop (foff T fs i)).take (T u).size).length = (T u).size ∧ Rep T N I ρ (get i) ((cs.drop (foff T fs i)).take (T u).size) := by
          intro i u hu
          have := h3 i (by rw [← hn]; exact (List.getElem?_eq_some_iff.1 hu).1)
          rw [hu] at this
          simp only [Bool.and_eq_true] at this
          exact ⟨this.1.1, Nat.eq_of_beq_eq_true this.1.2, ih _ _ this.2 I ρ⟩
        let segs : Nat → List Value := fun i => (cs.drop (foff T fs i)).take (((fs[i]?).map fun u => (T u).size).getD 0)
        have hsegs : ∀ i u, fs[i]? = some u → segs i = (cs.drop (foff T fs i)).take (T u).size := fun i u hu => by simp [segs, hu]
        have hlen : ∀ i, i < n → (segs i).length = ((fs[i]?).map fun u => (T u).size).getD 0 := fun i hi => by
          have hi' : i < fs.length := by omega
          rw [hsegs i _ (List.getElem?_eq_getElem hi'), (each i _ (List.getElem?_eq_getElem hi')).2.1]
          simp [hi']
        have hoff : ∀ i, i ≤ n → foff T fs i = offs (fun i => (segs i).length) i := fun i hi => offs_congr fun j hj => (hlen j (by omega)).symm
        have hcut := cut_flat cs (foff T fs) n segs (fun i hi => by
          have hi' : i < fs.length := by omega
          conv => lhs; rw [hsegs i _ (List.getElem?_eq_getElem hi')]
          rw [hlen i hi]; simp [hi']) (fun i hi => hoff i (by omega)) (by rw [hl]; exact hoff n (Nat.le_refl _))
        rw [← hcut]
        exact .struct fs segs hk hn ht (fun i u hu => by rw [hsegs i u hu]; exact (each i u hu).2.2) (fun i u hu => (each i u hu).1) (fun i u hu => by rw [hsegs i u hu]; exact (each i u hu).2.1)
      · rename_i m e hk
        simp only [Bool.and_eq_true, List.all_eq_true, List.mem_range] at h
        obtain ⟨⟨h1, h2⟩, h3⟩ := h
        have hn := Nat.eq_of_beq_eq_true h1
        have hl := Nat.eq_of_beq_eq_true h2
        subst hn
        have each : ∀ i, i < m → fit T e (get i) = true ∧ ((cs.drop (i * (T e).size)).take (T e).size).length = (T e).size ∧ Rep T N I ρ (get i) ((cs.drop (i * (T e).size)).take (T e).size) := by
          intro i hi
          have := h3 i hi
          exact ⟨this.1.1, Nat.eq_of_beq_eq_true this.1.2, ih _ _ this.2 I ρ⟩
        have hoff : ∀ i, i ≤ m → i * (T e).size = offs (fun i => ((cs.drop (i * (T e).size)).take (T e).size).length) i := fun i hi => by
          rw [← offs_const]; exact offs_congr fun j hj => (each j (by omega)).2.1.symm
        have hcut := cut_flat cs (fun i => i * (T e).size) m (fun i => (cs.drop (i * (T e).size)).take (T e).size) (fun i hi => by rw [(each i hi).2.1]) (fun i hi => hoff i (by omega)) (by rw [hl]; exact hoff m (Nat.le_refl _))
        have := Rep.array (I := I) (ρ := ρ) (t := t) (get := get) e (fun i => (cs.drop (i * (T e).size)).take (T e).size) hk ht (fun i hi => (each i hi).2.2) (fun i hi => (each i hi).1) (fun i hi => (each i hi).2.1)
        rw [hcut] at this
        exact this
      · cases h
    · cases h
end
end Go.Ab

/- Ab, part 28: a table of types is the program's, by check. -/
set_option autoImplicit false
set_option linter.unusedVariables false
namespace Go.Ab
section
variable (P : Program) (T : Nat → TI) (N : Nat)
def isAggV : Value → Bool
  | .agg _ => true
  | _ => false
def packOk : AV → Value → Bool
  | .agg _ _ _, z => isAggV z
  | _, z => !isAggV z
def fldOk (fs : List Nat) : List Field → Nat → Bool
  | [], _ => true
  | f :: r, k => Nat.beq f.offset (foff T fs k) && !(f.name == "_") && fldOk fs r (k + 1)
def chkT (t : Nat) : Bool :=
  (match P.info? t with
    | some i => Nat.beq i.size (T t).size && Nat.beq i.bytes (T t).bytes && (bif zgood (T t).zero then (match i.zero with
      | some z => fit T t (T t).zero && repZ T N 20 (T t).zero z.cells.toList && packOk (T t).zero z
      | none => false) else true)
    | none => false) &&
  (match P.underlying t with
    | some d => tkEq (kindOf d) (T t).kind && (match d with
      | .struct flds => fldOk T (flds.toList.map (·.type)) flds.toList 0
      | _ => true)
    | none => false) &&
  (bif (T t).kind.isAgg then Nat.blt 0 (T t).size else Nat.beq (T t).size 1) &&
  (match (T t).kind with
    | .struct fs => fs.all (fun u => Nat.blt u N) && Nat.beq (T t).size (foff T fs fs.length)
    | .array n e => Nat.blt e N && Nat.beq (T t).size (n * (T e).size)
    | .slice e => Nat.blt e N
    | .map k e => Nat.blt k N && Nat.blt e N
    | _ => true) &&
  (bif (T t).eqs then !P.stoodInHeld t else true)
variable {P T N}
theorem packOk_eq {x : AV} {z : Value} (h : packOk x z = true) : packV x z.cells.toList = z := by
  have one : isAggV z = false → (∀ t n g, x ≠ .agg t n g) → packV x z.cells.toList = z := by
    intro hz hx
    have : z.cells.toList = [z] := by cases z <;> first | rfl | cases hz
    rw [this]
    unfold packV
    split
    · exact absurd rfl (hx _ _ _)
    · rfl
  cases x with
  | agg t n g => cases z <;> first | (simp [packV, Value.cells]; done) | cases h
  | _ => exact one (by simpa [packOk] using h) (fun _ _ _ e => by cases e)
theorem fldOk_at {fs : List Nat} : ∀ {l : List Field} {k0 k : Nat} {f : Field}, fldOk T fs l k0 = true → l[k]? = some f → f.offset = foff T fs (k0 + k) ∧ f.name ≠ "_"
  | [], _, _, _, _, h => by simp at h
  | g :: r, k0, k, f, h, hk => by
    simp only [fldOk, Bool.and_eq_true, Bool.not_eq_true', beq_eq_false_iff_ne] at h
    cases k with
    | zero => simp at hk; subst hk; exact ⟨Nat.eq_of_beq_eq_true h.1.1, h.1.2⟩
    | succ k =>
      have := fldOk_at h.2 (k := k) (by simpa using hk)
      rwa [show k0 + (k + 1) = k0 + 1 + k by omega]
theorem tok_of_check (hout : ∀ t, N ≤ t → T t = dfl) (h : (List.range N).all (chkT P T N) = true) : TOK P T N ∧ StoodOK P T := by
  have each : ∀ t, t < N → chkT P T N t = true := fun t ht => List.all_eq_true.1 h t (List.mem_range.2 ht)
  have parts : ∀ t, t < N → (∃ i, P.info? t = some i ∧ i.size = (T t).size ∧ i.bytes = (T t).bytes ∧ (zgood (T t).zero = true → ∃ z, i.zero = some z ∧ fit T t (T t).zero = true ∧ (∀ I ρ, Rep T N I ρ (T t).zero z.cells.toList) ∧ packV (T t).zero z.cells.toList = z)) ∧
      (∃ d, P.underlying t = some d ∧ kindOf d = (T t).kind ∧ ∀ flds, d = .struct flds → ∀ k f, flds[k]? = some f → f.offset = foff T (flds.toList.map (·.type)) k ∧ f.name ≠ "_") ∧
      ((T t).kind.isAgg = false → (T t).size = 1) ∧ ((T t).kind.isAgg = true → 0 < (T t).size) ∧
      (match (T t).kind with
        | .struct fs => fs.all (fun u => Nat.blt u N) && Nat.beq (T t).size (foff T fs fs.length)
        | .array n e => Nat.blt e N && Nat.beq (T t).size (n * (T e).size)
        | .slice e => Nat.blt e N
        | .map k e => Nat.blt k N && Nat.blt e N
        | _ => true) = true ∧ ((T t).eqs = true → P.stoodInHeld t = false) := by
    intro t ht
    have hc := each t ht
    simp only [chkT, Bool.and_eq_true] at hc
    obtain ⟨⟨⟨⟨h1, h2⟩, h3⟩, h4⟩, h5⟩ := hc
    refine ⟨?_, ?_, ?_, ?_, h4, ?_⟩
    · split at h1
      · rename_i i hi
        simp only [Bool.and_eq_true] at h1
        refine ⟨i, hi, Nat.eq_of_beq_eq_true h1.1.1, Nat.eq_of_beq_eq_true h1.1.2, fun hz => ?_⟩
        have h6 := h1.2
        rw [hz] at h6
        simp only [cond_true] at h6
        split at h6
        · rename_i z hzz
          simp only [Bool.and_eq_true] at h6
          exact ⟨z, hzz, h6.1.1, repZ_rep 20 _ _ h6.1.2, packOk_eq h6.2⟩
        · cases h6
      · cases h1
    · split at h2
      · rename_i d hd
        simp only [Bool.and_eq_true] at h2
        refine ⟨d, hd, tkEq_eq h2.1, ?_⟩
        rintro flds rfl k f hk
        have := fldOk_at (T := T) h2.2 (k := k) (f := f) (by rw [Array.getElem?_toList]; exact hk)
        rwa [Nat.zero_add] at this
      · cases h2
    · intro ha; rw [ha] at h3; simp only [cond_false] at h3; exact Nat.eq_of_beq_eq_true h3
    · intro ha; rw [ha] at h3; simp only [cond_true] at h3; exact blt_lt h3
    · intro he; rw [he] at h5; simpa using h5
  have kk : ∀ t, (T t).kind ≠ .other → t < N := fun t hk => by
    rcases Nat.lt_or_ge t N with h' | h'
    · exact h'
    · rw [hout t h'] at hk; exact absurd rfl hk
  refine ⟨⟨fun t ht => ?_, fun t ht => (parts t ht).2.1, fun t ht => ?_, fun t ht => (parts t ht).2.2.1, fun t fs hk => ?_, fun t n e hk => ?_, fun t e hk => ?_, fun t k e hk => ?_, fun t ht => (parts t ht).2.2.2.1, fun t ht hz => ?_, fun t ht hz i z hi hiz => ?_⟩, fun t he => ?_⟩
  · obtain ⟨i, h1, h2, h3, _⟩ := (parts t ht).1; exact ⟨i, h1, h2, h3⟩
  · rw [hout t (by omega)]; exact ⟨rfl, rfl⟩
  · have := (parts t (kk t (by rw [hk]; simp))).2.2.2.2.1
    rw [hk] at this
    simp only [Bool.and_eq_true, List.all_eq_true] at this
    exact ⟨fun u hu => blt_lt (this.1 u hu), Nat.eq_of_beq_eq_true this.2⟩
  · have := (parts t (kk t (by rw [hk]; simp))).2.2.2.2.1
    rw [hk] at this
    simp only [Bool.and_eq_true] at this
    exact ⟨blt_lt this.1, Nat.eq_of_beq_eq_true this.2⟩
  · have := (parts t (kk t (by rw [hk]; simp))).2.2.2.2.1
    rw [hk] at this
    exact blt_lt this
  · have := (parts t (kk t (by rw [hk]; simp))).2.2.2.2.1
    rw [hk] at this
    simp only [Bool.and_eq_true] at this
    exact ⟨blt_lt this.1, blt_lt this.2⟩
  · obtain ⟨i, h1, _, _, h4⟩ := (parts t ht).1
    obtain ⟨z, h5, h6, h7, _⟩ := h4 hz
    exact ⟨i, z, h1, h5, h6, h7⟩
  · obtain ⟨i', h1, _, _, h4⟩ := (parts t ht).1
    obtain ⟨z', h5, _, _, h8⟩ := h4 hz
    rw [hi] at h1; cases h1
    rw [hiz] at h5; cases h5
    exact h8
  · rcases Nat.lt_or_ge t N with h' | h'
    · exact (parts t h').2.2.2.2.2 he
    · rw [hout t h'] at he; cases he
end
end Go.Ab

/- Ab, part 29: what is known of lengths; small laws for walks. -/
set_option autoImplicit false
set_option linter.unusedVariables false
namespace Go.Ab
section
variable {P : Program} {T : Nat → TI} {N nt nb : Nat} {post : Post} {st : St}
/-- A row that is there is no longer than memory bears. -/
theorem WP.rowlen {c : Code} (k : Nat) {e len : Nat} {f : Bool} {g : Nat → AV} (h : st.t k = some (.always, .row e f len g)) (hc : len < 2 ^ 63 → WP P T N nt nb c post st) : WP P T N nt nb c post st := fun en h1 h2 I ρ a w hs => by
  have hr := ((hs.tm k _ _ h).1 trivial).rep1 (fun _ => by simp)
  have hl : len < 2 ^ 63 := by
    rcases Rep.row_inv hr with ⟨_, h0, _⟩ | ⟨_, _, cap, _, _, h3, h4, _⟩
    · omega
    · omega
  exact hc hl en h1 h2 I ρ a w hs
theorem conv_eq {m : Id → Option Ob} {F : Id → Nat} {x y : AV} (h : x = y) : Conv m F T x y := h ▸ CV.refl (fun _ => .inl rfl) x
theorem wrap_id {n : Int} (h1 : -9223372036854775808 ≤ n) (h2 : n < 9223372036854775808) : IntKind.i64.wrap n = n := by
  rw [IntKind.wrap_i64]; omega
/-- A statement behind which its ways meet: a family of states. -/
theorem WP.seqJ {x y : Code} {α : Type} (S : α → St) (Inv : α → Prop) (h : WP P T N nt nb x (thenP (fun st' => ∃ a, Inv a ∧ Ent T N nt nb st' (S a)) post) st) (k : ∀ a, Inv a → WP P T N nt nb y post (S a)) : WP P T N nt nb (.seq x y) post st := by
  refine WP.seq (WP.mono h (fun ex st' q => ?_))
  cases ex with
  | normal =>
    obtain ⟨a, ha, he⟩ := q
    exact WP.ent he (k a ha)
  | _ => exact q
theorem fin1 (hT : TOK P T N) {t : Nat → Option (D × AV)} {m : Id → Option Ob} {k : Nat} {b r : Bool} (h : t k = some (.always, .v (.bool b))) (e : b = r) : Fin T N nt 0 [.tmp k] (.bool r) [] ⟨t, m⟩ := by
  subst e
  refine ⟨[(k, .bool b)], Ent.mk hT [] trivial ⟨⟨rfl, _, h, conv_eq rfl⟩, trivial⟩ trivial rfl, ([.bool b], none), ?_, trivial, rfl⟩
  simp [resL, mkSt, lookN, notTup]
end
end Go.Ab
