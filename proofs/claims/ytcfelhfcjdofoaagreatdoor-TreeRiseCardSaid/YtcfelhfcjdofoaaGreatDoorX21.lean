/- Part 22 of a proof of a statement about the given program: an abstract machine over the model, proved sound, and contracts of the functions that the statement reaches; the last part proves the statement, for every input, with no condition. -/
import Derived.Test.YtcfelhfcjdofoaaGreatDoorX19
import Derived.Test.YtcfelhfcjdofoaaGreatDoorX13
import Derived.LaidMore
import Derived.Lay
import Derived.OpenShut
import Derived.ProofKit
import Derived.SevenTiedAt
import Derived.Stop.Joined
import Derived.Test.YtcfelhfcjdofoaaGreatDoorCards
import Derived.Test.YtcfelhfcjdofoaaGreatDoorTie
import Derived.Test.YtcfelhfcjdofoaaGreatDoorRows
set_option linter.unusedSimpArgs false
set_option linter.unusedVariables false
/- What arguments read as; the program's facts for rows (seats whose rows lay math/bits' table). -/
set_option autoImplicit false
set_option maxRecDepth 20000
set_option linter.unusedVariables false
namespace Go.Ab
open Go.Proofs Go.ChangeShapes Go.WideShapes Go.ChangeAt Go.RowKit
theorem tryOwn : ownKnob Tryz.prog.godebug = none := by kernel_rfl
theorem tryLaid : laidOutB Tryz.prog = true := by kernel_rfl
theorem uI64 : Tryz.prog.underlying 2 = some (.int .i64) := by kernel_rfl
theorem uInt : Tryz.prog.underlying 3 = some (.int .i64) := by kernel_rfl
theorem uBool : Tryz.prog.underlying 4 = some .bool := by kernel_rfl
theorem uOp : Tryz.prog.underlying 118 = some (.int .i64) := by kernel_rfl
theorem uInts : Tryz.prog.underlying 23 = some (.slice 3) := by kernel_rfl
theorem uVars : Tryz.prog.underlying 22 = some (.slice 116) := by kernel_rfl
theorem uFuns : Tryz.prog.underlying 24 = some (.slice 100) := by kernel_rfl
theorem uInss : Tryz.prog.underlying 97 = some (.slice 120) := by kernel_rfl
theorem uSels : Tryz.prog.underlying 98 = some (.slice 103) := by kernel_rfl
theorem uCases : Tryz.prog.underlying 101 = some (.slice 215) := by kernel_rfl
def Rng (n : Int) : Prop := IntKind.i64.min ≤ n ∧ n ≤ IntKind.i64.max
theorem decInt : Dec Tryz.prog T tysN 3 (fun n : Int => .int n) Rng := Dec.int uInt rfl
theorem decI64 : Dec Tryz.prog T tysN 2 (fun n : Int => .int n) Rng := Dec.int uI64 rfl
theorem decOp : Dec Tryz.prog T tysN 118 (fun n : Int => .int n) Rng := Dec.int uOp rfl
theorem decBool : Dec Tryz.prog T tysN 4 (fun b : Bool => .bool b) (fun _ => True) := Dec.bool uBool rfl
theorem decInts : Dec Tryz.prog T tysN 23 (fun l : List Int => ints false l) (fun l => ∀ n ∈ l, Rng n) := (Dec.slice hT 0 uInts rfl (Nat.le_of_ble_eq_true rfl) decInt).map (fun l => l) (fun _ => rfl) (fun _ h => h)
theorem decVar : Dec Tryz.prog T tysN 116 encVar (fun v => Rng v.init) :=
  (Dec.struct (t := 116) hT (show (T 116).kind = .struct [4, 2] from rfl) (DecL.cons decBool (DecL.cons decI64 DecL.nil))).map (fun x => ⟨x.1, x.2.1⟩) (fun _ => rfl) (fun x hx => hx.2.1)
def rngIns (x : PIns) : Prop := Rng x.op ∧ Rng x.a ∧ Rng x.b ∧ Rng x.c ∧ Rng x.n
theorem decIns : Dec Tryz.prog T tysN 120 encIns rngIns :=
  (Dec.struct (t := 120) hT (show (T 120).kind = .struct [118, 3, 3, 3, 2] from rfl) (DecL.cons decOp (DecL.cons decInt (DecL.cons decInt (DecL.cons decInt (DecL.cons decI64 DecL.nil)))))).map (fun x => ⟨x.1, x.2.1, x.2.2.1, x.2.2.2.1, x.2.2.2.2.1⟩) (fun _ => rfl) (fun x hx => ⟨hx.1, hx.2.1, hx.2.2.1, hx.2.2.2.1, hx.2.2.2.2.1⟩)
def rngCase (x : PCase) : Prop := Rng x.chan ∧ Rng x.reg ∧ Rng x.to
theorem decCase : Dec Tryz.prog T tysN 215 encCase rngCase :=
  (Dec.struct (t := 215) hT (show (T 215).kind = .struct [4, 3, 3, 3] from rfl) (DecL.cons decBool (DecL.cons decInt (DecL.cons decInt (DecL.cons decInt DecL.nil))))).map (fun x => ⟨x.1, x.2.1, x.2.2.1, x.2.2.2.1⟩) (fun _ => rfl) (fun x hx => ⟨hx.2.1, hx.2.2.1, hx.2.2.2.1⟩)
def rngSel (x : PSel) : Prop := (∀ c ∈ x.cases, rngCase c) ∧ Rng x.els
theorem decSel : Dec Tryz.prog T tysN 103 encSel rngSel :=
  (Dec.struct (t := 103) hT (show (T 103).kind = .struct [101, 3] from rfl) (DecL.cons (Dec.slice hT case0 uCases rfl (Nat.le_of_ble_eq_true rfl) decCase) (DecL.cons decInt DecL.nil))).map (fun x => ⟨x.1, x.2.1⟩) (fun _ => rfl) (fun x hx => ⟨hx.1, hx.2.1⟩)
def rngFun (x : PFun) : Prop := Rng x.params ∧ Rng x.regs ∧ (∀ c ∈ x.code, rngIns c) ∧ ∀ s ∈ x.sels, rngSel s
theorem decFun : Dec Tryz.prog T tysN 100 encFun rngFun :=
  (Dec.struct (t := 100) hT (show (T 100).kind = .struct [3, 3, 97, 98] from rfl) (DecL.cons decInt (DecL.cons decInt (DecL.cons (Dec.slice hT ins0 uInss rfl (Nat.le_of_ble_eq_true rfl) decIns) (DecL.cons (Dec.slice hT sel0 uSels rfl (Nat.le_of_ble_eq_true rfl) decSel) DecL.nil))))).map (fun x => ⟨x.1, x.2.1, x.2.2.1, x.2.2.2.1⟩) (fun _ => rfl) (fun x hx => ⟨hx.1, hx.2.1, hx.2.2.1, hx.2.2.2.1⟩)
def rngProg (x : PProg) : Prop := (∀ v ∈ x.vars, Rng v.init) ∧ Rng x.locks ∧ (∀ c ∈ x.chans, Rng c) ∧ ∀ f ∈ x.funcs, rngFun f
theorem decProg : Dec Tryz.prog T tysN 26 encProg rngProg :=
  (Dec.struct (t := 26) hT (show (T 26).kind = .struct [22, 3, 23, 24] from rfl) (DecL.cons (Dec.slice hT var0 uVars rfl (Nat.le_of_ble_eq_true rfl) decVar) (DecL.cons decInt (DecL.cons decInts (DecL.cons (Dec.slice hT fun0 uFuns rfl (Nat.le_of_ble_eq_true rfl) decFun) DecL.nil))))).map (fun x => ⟨x.1, x.2.1, x.2.2.1, x.2.2.2.1⟩) (fun _ => rfl) (fun x hx => ⟨hx.1, hx.2.1, hx.2.2.1, hx.2.2.2.1⟩)
theorem arg_prog {H : Type} {eh : TypeId × Value → H} {W : World} {base : Nat} {v : Value} {d : DataW H} {p : List MemPlace} (h : DataW.Trod eh Tryz.prog W 0 (fun _ => true) true 26 v d p) (hok : Value.okWide Tryz.prog W .any base 26 v) : ∃ x : PProg, rngProg x ∧ RepV T tysN (memI W) noPl (encProg x) v := by
  obtain ⟨fuel, h⟩ := h
  obtain ⟨x, hq, hl, _⟩ := decProg H eh W fuel _ d p h
  obtain ⟨cs, rfl⟩ := okWide_agg hT (show (T 26).kind = .struct [22, 3, 23, 24] from rfl) hok
  exact ⟨x, hq, .one ⟨(Value.agg cs).cells.toList, hl, by simp [packV, encProg, stru, Value.cells]⟩⟩
theorem reps2 {W : World} {a b : AV} {v0 v1 : Value} (h0 : RepV T tysN (memI W) noPl a v0) (h1 : RepV T tysN (memI W) noPl b v1) :
    ∀ (i : Nat) (x : AV) (v : Value), [a, b][i]? = some x → (#[v0, v1] : Array Value).toList[i]? = some v → RepV T tysN (memI W) noPl x v := by
  intro i x v hx hv
  match i with
  | 0 => simp at hx hv; subst hx hv; exact h0
  | 1 => first | (simp at hx; done) | (simp at hx hv; subst hx hv; exact h1)
  | 2 => first | (simp at hx; done) | (simp at hx hv; subst hx hv; exact h2)
  | i + 3 => simp at hx
def rngBud (b : PBud) : Prop := Rng b.steps ∧ Rng b.fuel ∧ Rng b.runs
theorem decBud : Dec Tryz.prog T tysN 28 encBud rngBud :=
  (Dec.struct (t := 28) hT (show (T 28).kind = .struct [3, 3, 3] from rfl) (DecL.cons decInt (DecL.cons decInt (DecL.cons decInt DecL.nil)))).map (fun x => ⟨x.1, x.2.1, x.2.2.1⟩) (fun _ => rfl) (fun x hx => ⟨hx.1, hx.2.1, hx.2.2.1⟩)
theorem arg_budget {H : Type} {eh : TypeId × Value → H} {W : World} {base : Nat} {v : Value} {d : DataW H} {p : List MemPlace} (h : DataW.Trod eh Tryz.prog W 0 (fun _ => true) true 28 v d p) (hok : Value.okWide Tryz.prog W .any base 28 v) : ∃ x : PBud, rngBud x ∧ RepV T tysN (memI W) noPl (encBud x) v := by
  obtain ⟨fuel, h⟩ := h
  obtain ⟨x, hq, hl, _⟩ := decBud H eh W fuel _ d p h
  obtain ⟨cs, rfl⟩ := okWide_agg hT (show (T 28).kind = .struct [3, 3, 3] from rfl) hok
  exact ⟨x, hq, .one ⟨(Value.agg cs).cells.toList, hl, by simp [packV, encBud, stru, Value.cells]⟩⟩
abbrev lds : List (String × DataW Unit) := [("math/bits.deBruijn64tab", Go.Proofs.YtcfelhfcjdofoaaGreatDoor.Rows.laid_math_bits_deBruijn64tab)]
theorem lds_eq : (Go.Proofs.YtcfelhfcjdofoaaGreatDoor.Rows.laid_math_bits_deBruijn64tab : DataW Unit) = .agg (deB.map fun n : Nat => .lit (.int .u8 (n : Int))) := rfl
theorem uTab : Tryz.prog.underlying 381 = some (.array 64 5) := by kernel_rfl
theorem uU8 : Tryz.prog.underlying 5 = some (.int .u8) := by kernel_rfl
theorem glb_cell {W : World} (h : laidMetH Tryz.prog lds W) (r : Nat) (hr : r < 64) : W.cell? ⟨0, r, none⟩ = some (.int .u8 (deB.getD r 0 : Nat)) := by
  rw [MakeChecks.laidMetH_plain _ _ _ (by kernel_rfl)] at h
  obtain ⟨ps, ⟨g, t, cs, fuel, p, q, hg, ht, hv, hd, _, _⟩, _, _⟩ := h
  obtain rfl := Option.some.inj ((show Tryz.prog.globalNamed "math/bits.deBruijn64tab" = some 0 by kernel_rfl).symm.trans hg)
  obtain rfl := Option.some.inj ((show (Tryz.prog.globals[0]?).map (·.type) = some 381 by kernel_rfl).symm.trans ht)
  obtain ⟨xs, m, _, ex, _, hl, hel⟩ := DataW.trod_array uTab hd
  have c5 : Tryz.prog.cellsOf 5 = 1 := by kernel_rfl
  have hE := hel r hr
  rw [c5, Nat.mul_one, List.getElem?_eq_getElem (by omega)] at hE
  obtain ⟨z, e1, e2, _⟩ := DataW.trod_int uU8 hE
  have hlen : deB.length = 64 := rfl
  have e3 : (xs.map (·.1)) = deB.map fun n : Nat => (.lit (.int .u8 (n : Int)) : DataW Unit) := (DataW.agg.inj (lds_eq.symm.trans (Prod.mk.inj ex).1)).symm
  have e4 : (xs.map (·.1))[r]? = (deB.map fun n : Nat => (DataW.lit (.int .u8 (n : Int)) : DataW Unit))[r]? := by rw [e3]
  rw [List.getElem?_map, List.getElem?_map, List.getElem?_eq_getElem (by omega : r < xs.length), List.getElem?_eq_getElem (by omega : r < deB.length), e2] at e4
  have hz : z = (deB.getD r 0 : Nat) := by
    simp only [Option.map_some, Option.some.injEq, DataW.lit.injEq, Lit.int.injEq, true_and] at e4
    rw [e4, List.getD, List.getElem?_eq_getElem (by omega : r < deB.length)]; rfl
  rw [World.var?_cell hg hv r, ← hz]
  have : cs.toList[r]? = some (.int .u8 z) := by
    have h0 : ((cs.toList.drop r).take 1)[0]? = some (.int .u8 z) := by rw [e1]; rfl
    simpa using h0
  simpa using this
def Tr.glbs : Tr → Bool
  | .e => true
  | .n k x l r => (Nat.beq k 0 || x.glb.isEmpty) && l.glbs && r.glbs
theorem Tr.glb_get : ∀ (x : Tr) (t : Nat), x.glbs = true → (x.get t).glb ≠ [] → t = 0
  | .e, t, _, h => absurd rfl h
  | .n k y l r, t, h, h2 => by
    simp only [Tr.glbs, Bool.and_eq_true, Bool.or_eq_true] at h
    cases h3 : Nat.beq t k with
    | true =>
      have e := Nat.eq_of_beq_eq_true h3
      subst e
      rcases h.1.1 with h4 | h4
      · exact Nat.eq_of_beq_eq_true h4
      · exfalso; apply h2; simp only [Tr.get, h3, cond_true]; simpa using h4
    | false =>
      cases h4 : Nat.blt t k with
      | true => exact l.glb_get t h.1.2 (fun e => h2 (by simp only [Tr.get, h3, h4, cond_true, cond_false]; exact e))
      | false => exact r.glb_get t h.2 (fun e => h2 (by simp only [Tr.get, h3, h4, cond_false]; exact e))
theorem glb_all {W : World} (h : laidMetH Tryz.prog lds W) : ∀ (b o n : Nat), (T b).glb[o]? = some n → W.cell? ⟨b, o, none⟩ = some (.int .u8 n) := by
  intro b o n hn
  have hb : b = 0 := Tr.glb_get tys b (by decide +kernel) (fun e => by
    have e' : (T b).glb = [] := e
    rw [e'] at hn; cases hn)
  subst hb
  have hn' : deB[o]? = some n := hn
  obtain ⟨ho, e⟩ := List.getElem?_eq_some_iff.1 hn'
  have h1 := glb_cell h o ho
  rw [h1, ← e, List.getD, List.getElem?_eq_getElem ho]; rfl
end Go.Ab

