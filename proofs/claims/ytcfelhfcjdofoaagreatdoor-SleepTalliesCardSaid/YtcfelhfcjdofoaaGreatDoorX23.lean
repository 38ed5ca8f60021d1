/- Part 24 of a proof of a statement about the given program: an abstract machine over the model, proved sound, and contracts of the functions that the statement reaches; the last part proves the statement, for every input, with no condition. -/
import Derived.Test.YtcfelhfcjdofoaaGreatDoorX19
import Derived.Test.YtcfelhfcjdofoaaGreatDoorX20
import Derived.Test.YtcfelhfcjdofoaaGreatDoorX21
import Derived.Test.YtcfelhfcjdofoaaGreatDoorX22
set_option autoImplicit false
set_option linter.unusedSimpArgs false
set_option linter.unusedVariables false
set_option maxRecDepth 20000
namespace Go.Proofs.YtcfelhfcjdofoaaGreatDoor
open Go.Ab Go.ChangeShapes Go.WideShapes Go.ChangeAt Go.RowKit
set_option maxRecDepth 100000 in
theorem oZ (os:Os) (started:os.Started) (H:Type) (enc:TypeId×Value→H) :
 ReturnsInHanded {} Tryz.checked os 10 .any (fun w args=>(Rows.sleepTalliesSpec.pre enc Tryz.prog Tryz.f10 Rows.sleepTalliesRow.domain false w args∧laidMetH Tryz.prog lds w)∧sizedMet enc Tryz.prog Tryz.f10 (OpenSpec.ofChange Rows.sleepTalliesSpec) false w args)
  (Rows.sleepTalliesSpec.post enc Tryz.prog Tryz.f10 false true false false):=by
 refine returnsInHanded_of_change_and (C:=Tryz.checked) (X:=fun w _=>laidMetH Tryz.prog lds w) (fun _ _ _ hh h=>h.of_heap hh) PZ started (by kernel_rfl) Tryz.func10
  (
   ChangeSpec.witness_shaped (enc:=enc) (C:=Tryz.checked) (os:=os) (X:=fun w _=>laidMetH Tryz.prog lds w) false (World.laidAll Tryz.prog os lds) #[.agg #[.slice none 0 0,.int .i64 0,.slice none 0 0,.slice none 0 0],.agg #[.int .i64 0,.int .i64 0,.int .i64 0]] 8 (World.laidAll_os _ _ _)
   (World.shaped_of_ZipB (by kernel_rfl) (by kernel_rfl)) (by kernel_rfl) (by kernel_rfl) (by kernel_rfl)
   (by rw [MakeChecks.laidMetH_plain _ _ _ (by kernel_rfl)];exact laidMet_laidAll _ (by kernel_rfl) (by kernel_rfl))) ?_
 intro W base args ds gs before hval0 hW hc hweigh hL _;have hval:∀ (j:Nat) t v,Tryz.f10.params[j]? = some t→args[j]? = some v→Value.okWide Tryz.prog W .any base t v:=hval0
 have hW':DataW.Whole enc Tryz.prog Tryz.f10.params.toList Rows.sleepTalliesSpec.vars false W args.toList ds gs before:=hW;obtain ⟨p,q,hA0,hV,_,_,_⟩:=hW;have hA:DataW.TrodAll enc Tryz.prog W 0 (fun _=>true) true Tryz.f10.params.toList args.toList ds p:=hA0
 rw [Tryz.params10]at hA hval;obtain ⟨v0,v1,d0,d1,p0,p1,rfl,rfl,rfl,h0,h1⟩:=trodAll_two hA;obtain ⟨a0,q0,r0⟩:=ML h0 (hval 0 26 v0 rfl rfl);obtain ⟨a1,q1,r1⟩:=Gu h1 (hval 1 28 v1 rfl rfl);exact IL (tb:=4) NM (by kernel_rfl) (by rfl) PX rfl (fun ds hd=>by match ds,hd with | [x0,x1],_=>rfl) (OM hL) hW' (Fh a0 a1) rfl (Rh r0 r1)
theorem sH:Rows.SleepTalliesSaid :=
 OpenClaim.holds_of_wide 10 Tryz.f10 rfl rfl rfl rfl rfl rfl rfl ⟨rfl,rfl,rfl,rfl,rfl⟩ rfl rfl rfl rfl rfl mY Tryz.func10 ug
  (of_decide_eq_true (by kernel_rfl)) (by unfold Func.isWrapper;first | (rw [if_pos (by decide+kernel)];kernel_rfl) | (rw [if_neg (by decide+kernel)];exact ⟨rfl,rfl⟩))
  (fun os started H enc _=>oZ os started H enc)
theorem sleepTallies_holds:Rows.SleepTalliesCardSaid :=
 Claim7.holds_tied_plain_at .later [] [.data] true (true,"c261f34d06e32309437328cb2908438c743783b67a56382ed35cf48bd8b105ae") false sH (fun _ h=>by cases h) tX (fun _ h=>by cases h) sleepTallies_row_tie rfl ⟨rfl,rfl⟩ tY rfl
  (
   fun f fn hf hfn=>by
   obtain rfl:f=10:=Option.some.inj (mY.symm.trans hf) |>.symm;obtain rfl:fn=Tryz.f10:=(Option.some.inj (Tryz.func10.symm.trans hfn)).symm;exact ⟨tZ,fun j t ht=>by
    rw [Tryz.params10]at ht;have hm:t∈[26,28]:=by simpa using Array.mem_of_getElem? ht
    have hall:([26,28].all fun u => !Tryz.prog.wantsStandIn u)=true:=by kernel_rfl
    exact (show Tryz.prog.wantsStandIn t=false by simpa using List.all_eq_true.1 hall t hm)⟩)
  uf
end Go.Proofs.YtcfelhfcjdofoaaGreatDoor
