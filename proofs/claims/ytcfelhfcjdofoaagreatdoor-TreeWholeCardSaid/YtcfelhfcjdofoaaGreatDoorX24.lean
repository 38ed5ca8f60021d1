/- Part 25 of a proof of a statement about the given program: an abstract machine over the model, proved sound, and contracts of the functions that the statement reaches; the last part proves the statement, for every input, with no condition. -/
import Derived.Test.YtcfelhfcjdofoaaGreatDoorX20
import Derived.Test.YtcfelhfcjdofoaaGreatDoorX21
import Derived.Test.YtcfelhfcjdofoaaGreatDoorX22
import Derived.Test.YtcfelhfcjdofoaaGreatDoorX23
set_option linter.unusedSimpArgs false
set_option linter.unusedVariables false
/- TreeWhole: the row, the card. -/
set_option autoImplicit false
set_option maxRecDepth 20000
set_option linter.unusedVariables false
namespace Go.Proofs.YtcfelhfcjdofoaaGreatDoor
open Go.Ab Go.ChangeShapes Go.WideShapes Go.ChangeAt Go.RowKit
set_option maxRecDepth 100000 in
theorem treeWhole_lifted (os : Os) (started : os.Started) (H : Type) (enc : TypeId × Value → H) :
    ReturnsInHanded {} Tryz.checked os 7 .any (fun w args => (Rows.treeWholeSpec.pre enc Tryz.prog Tryz.f7 Rows.treeWholeRow.domain false w args ∧ laidMetH Tryz.prog lds w) ∧ sizedMet enc Tryz.prog Tryz.f7 (OpenSpec.ofChange Rows.treeWholeSpec) false w args)
      (Rows.treeWholeSpec.post enc Tryz.prog Tryz.f7 false true false false) := by
  refine returnsInHanded_of_change_and (C := Tryz.checked) (X := fun w _ => laidMetH Tryz.prog lds w) (fun _ _ _ hh h => h.of_heap hh) tryOwn started (by kernel_rfl) Tryz.func7
    (ChangeSpec.witness_shaped (enc := enc) (C := Tryz.checked) (os := os) (X := fun w _ => laidMetH Tryz.prog lds w) false (World.laidAll Tryz.prog os lds) #[.agg #[.slice none 0 0, .int .i64 0, .slice none 0 0, .slice none 0 0], .slice none 0 0, .agg #[.int .i64 0, .int .i64 0, .int .i64 0]] 8 (World.laidAll_os _ _ _)
      (World.shaped_of_ZipB (by kernel_rfl) (by kernel_rfl)) (by kernel_rfl) (by kernel_rfl) (by kernel_rfl)
      (by rw [MakeChecks.laidMetH_plain _ _ _ (by kernel_rfl)]; exact laidMet_laidAll _ (by kernel_rfl) (by kernel_rfl))) ?_
  intro W base args ds gs before hval0 hW hc _ hL _
  have hval : ∀ (j : Nat) t v, Tryz.f7.params[j]? = some t → args[j]? = some v → Value.okWide Tryz.prog W .any base t v := hval0
  have hW' : DataW.Whole enc Tryz.prog Tryz.f7.params.toList Rows.treeWholeSpec.vars false W args.toList ds gs before := hW
  obtain ⟨p, q, hA0, hV, _, _, _⟩ := hW
  have hA : DataW.TrodAll enc Tryz.prog W 0 (fun _ => true) true Tryz.f7.params.toList args.toList ds p := hA0
  rw [Tryz.params7] at hA hval
  obtain ⟨v0, v1, v2, d0, d1, d2, p0, p1, p2, rfl, rfl, rfl, h0, h1, h2⟩ := trodAll_three hA
  obtain ⟨a0, q0, r0⟩ := arg_prog h0 (hval 0 26 v0 rfl rfl)
  obtain ⟨a1, q1, r1⟩ := arg_ints h1 (hval 1 23 v1 rfl rfl)
  obtain ⟨a2, q2, r2⟩ := arg_budget h2 (hval 2 28 v2 rfl rfl)
  exact law_calls (tb := 4) tryLaid (by kernel_rfl) (by rfl) uBool rfl (fun ds hd => by match ds, hd with | [x0, x1, x2], _ => rfl) (glb_all hL) hW' (wholeL_ac a0 a1 a2) rfl (reps3 r0 r1 r2)
theorem treeWhole_row : Rows.TreeWholeSaid :=
  OpenClaim.holds_of_wide 7 Tryz.f7 rfl rfl rfl rfl rfl rfl rfl ⟨rfl, rfl, rfl, rfl, rfl⟩ rfl rfl rfl rfl rfl treeWhole_kf Tryz.func7 treeWhole_k5
    (of_decide_eq_true (by kernel_rfl)) (by unfold Func.isWrapper; first | (rw [if_pos (by decide +kernel)]; kernel_rfl) | (rw [if_neg (by decide +kernel)]; exact ⟨rfl, rfl⟩))
    (fun os started H enc _ => treeWhole_lifted os started H enc)
theorem treeWhole_holds : Rows.TreeWholeCardSaid :=
  Claim7.holds_tied_plain_at .later [] [.data] true (true, "c261f34d06e32309437328cb2908438c743783b67a56382ed35cf48bd8b105ae") false treeWhole_row (fun _ h => by cases h) treeWhole_kw (fun _ h => by cases h) treeWhole_row_tie rfl ⟨rfl, rfl⟩ treeWhole_km rfl
    (fun f fn hf hfn => by
      obtain rfl : f = 7 := Option.some.inj (treeWhole_kf.symm.trans hf) |>.symm
      obtain rfl : fn = Tryz.f7 := (Option.some.inj (Tryz.func7.symm.trans hfn)).symm
      exact ⟨treeWhole_kl, fun j t ht => by
        rw [Tryz.params7] at ht
        have hm : t ∈ [26, 23, 28] := by simpa using Array.mem_of_getElem? ht
        have hall : ([26, 23, 28].all fun u => !Tryz.prog.wantsStandIn u) = true := by kernel_rfl
        exact (show Tryz.prog.wantsStandIn t = false by simpa using List.all_eq_true.1 hall t hm)⟩)
    treeWhole_kg
end Go.Proofs.YtcfelhfcjdofoaaGreatDoor

