/- Part 27 of a proof of a statement about the given program: an abstract machine over the model, proved sound, and contracts of the functions that the statement reaches; the last part proves the statement, for every input, with no condition. -/
import Derived.Test.YtcfelhfcjdofoaaGreatDoorX21
import Derived.Test.YtcfelhfcjdofoaaGreatDoorX23
import Derived.Test.YtcfelhfcjdofoaaGreatDoorX22
import Derived.Test.YtcfelhfcjdofoaaGreatDoorX24
import Derived.Test.YtcfelhfcjdofoaaGreatDoorX25
set_option autoImplicit false
set_option linter.unusedSimpArgs false
set_option linter.unusedVariables false
set_option maxRecDepth 20000
namespace Go.Proofs.YtcfelhfcjdofoaaGreatDoor
open Go.Ab Go.ChangeShapes Go.WideShapes Go.ChangeAt Go.RowKit
set_option maxRecDepth 100000 in
theorem zB (os:Os) (started:os.Started) (H:Type) (enc:TypeId×Value→H) :
 ReturnsInHanded {} Tryz.checked os 3 .any (fun w args=>(Rows.treeRunsSpec.pre enc Tryz.prog Tryz.f3 Rows.treeRunsRow.domain false w args∧laidMetH Tryz.prog lds w)∧sizedMet enc Tryz.prog Tryz.f3 (OpenSpec.ofChange Rows.treeRunsSpec) false w args)
  (Rows.treeRunsSpec.post enc Tryz.prog Tryz.f3 false true false false):=by
 refine returnsInHanded_of_change_and (C:=Tryz.checked) (X:=fun w _=>laidMetH Tryz.prog lds w) (fun _ _ _ hh h=>h.of_heap hh) Yz started (by kernel_rfl) Tryz.func3
  (
   ChangeSpec.witness_shaped (enc:=enc) (C:=Tryz.checked) (os:=os) (X:=fun w _=>laidMetH Tryz.prog lds w) false (World.laidAll Tryz.prog os lds) #[.agg #[.slice none 0 0,.int .i64 0,.slice none 0 0,.slice none 0 0],.agg #[.int .i64 0,.int .i64 0,.int .i64 0]] 8 (World.laidAll_os _ _ _)
   (World.shaped_of_ZipB (by kernel_rfl) (by kernel_rfl)) (by kernel_rfl) (by kernel_rfl) (by kernel_rfl)
   (by rw [MakeChecks.laidMetH_plain _ _ _ (by kernel_rfl)];exact laidMet_laidAll _ (by kernel_rfl) (by kernel_rfl))) ?_
 intro W base args ds gs before hval0 hW hc hweigh hL _;have hval:∀ (j:Nat) t v,Tryz.f3.params[j]? = some t→args[j]? = some v→Value.okWide Tryz.prog W .any base t v:=hval0
 have hW':DataW.Whole enc Tryz.prog Tryz.f3.params.toList Rows.treeRunsSpec.vars false W args.toList ds gs before:=hW;obtain ⟨p,q,hA0,hV,_,_,_⟩:=hW;have hA:DataW.TrodAll enc Tryz.prog W 0 (fun _=>true) true Tryz.f3.params.toList args.toList ds p:=hA0
 have hweigh':(DataW.weightsEach Tryz.prog (Tryz.f3.params.toList++Rows.treeRunsSpec.plain.varTypes Tryz.prog) (ds++gs)).all (· ≤ reachBytes)=true:=hweigh;rw [Tryz.params3]at hA hval hweigh';obtain ⟨v0,v1,d0,d1,p0,p1,rfl,rfl,rfl,h0,h1⟩:=trodAll_two hA;obtain ⟨a0,q0,z0,r0⟩:=Rt h0 (oJ hweigh' 0 26 d0 rfl rfl) (hval 0 26 v0 rfl rfl);obtain ⟨a1,q1,r1⟩:=NW h1 (hval 1 28 v1 rfl rfl);exact Qh (tb:=4) Wy (by kernel_rfl) (by rfl) Yw rfl (fun ds hd=>by match ds,hd with | [x0,x1],_=>rfl) (XQ hL) hW' (Sj a0 a1 z0 (WU q0)) rfl (ZP r0 r1)
theorem Fj:Rows.TreeRunsSaid :=
 OpenClaim.holds_of_wide 3 Tryz.f3 rfl rfl rfl rfl rfl rfl rfl ⟨rfl,rfl,rfl,rfl,rfl⟩ rfl rfl rfl rfl rfl zC Tryz.func3 Iw
  (of_decide_eq_true (by kernel_rfl)) (by unfold Func.isWrapper;first | (rw [if_pos (by decide+kernel)];kernel_rfl) | (rw [if_neg (by decide+kernel)];exact ⟨rfl,rfl⟩))
  (fun os started H enc _=>zB os started H enc)
theorem treeRuns_holds:Rows.TreeRunsCardSaid :=
 Claim7.holds_tied_plain_at .later [] [.data] true (true,"c261f34d06e32309437328cb2908438c743783b67a56382ed35cf48bd8b105ae") false Fj (fun _ h=>by cases h) Ip (fun _ h=>by cases h) treeRuns_row_tie rfl ⟨rfl,rfl⟩ Iq rfl
  (
   fun f fn hf hfn=>by
   obtain rfl:f=3:=Option.some.inj (zC.symm.trans hf) |>.symm;obtain rfl:fn=Tryz.f3:=(Option.some.inj (Tryz.func3.symm.trans hfn)).symm;exact ⟨Ir,fun j t ht=>by
    rw [Tryz.params3]at ht;have hm:t∈[26,28]:=by simpa using Array.mem_of_getElem? ht
    have hall:([26,28].all fun u => !Tryz.prog.wantsStandIn u)=true:=by kernel_rfl
    exact (show Tryz.prog.wantsStandIn t=false by simpa using List.all_eq_true.1 hall t hm)⟩)
  Iu
end Go.Proofs.YtcfelhfcjdofoaaGreatDoor
