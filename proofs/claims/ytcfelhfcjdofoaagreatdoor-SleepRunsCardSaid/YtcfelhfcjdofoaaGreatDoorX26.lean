/- Part 27 of a proof of a statement about the given program: an abstract machine over the model, proved sound, and contracts of the functions that the statement reaches; the last part proves the statement, for every input, with no condition. -/
import Derived.Test.YtcfelhfcjdofoaaGreatDoorX21
import Derived.Test.YtcfelhfcjdofoaaGreatDoorX23
import Derived.Test.YtcfelhfcjdofoaaGreatDoorX22
import Derived.Test.YtcfelhfcjdofoaaGreatDoorX24
import Derived.Test.YtcfelhfcjdofoaaGreatDoorX25
set_option autoImplicit false
set_option linter.unusedSimpArgs false
set_option linter.unusedVariables false
set_option maxRecDepth 20000
namespace Go.Proofs.YtcfelhfcjdofoaaGreatDoor
open Go.Ab Go.ChangeShapes Go.WideShapes Go.ChangeAt Go.RowKit
set_option maxRecDepth 100000 in
theorem DY (os:Os) (started:os.Started) (H:Type) (enc:TypeId×Value->H) :
 ReturnsInHanded {} Tryz.checked os 9 .any (λw args=>(Rows.sleepRunsSpec.pre enc Tryz.prog Tryz.f9 Rows.sleepRunsRow.domain false w args/\laidMetH Tryz.prog lds w)/\sizedMet enc Tryz.prog Tryz.f9 (OpenSpec.ofChange Rows.sleepRunsSpec) false w args)
  (Rows.sleepRunsSpec.post enc Tryz.prog Tryz.f9 false true false false):=by
 refine returnsInHanded_of_change_and (C:=Tryz.checked) (X:=λw _=>laidMetH Tryz.prog lds w) (λ_ _ _ o h=>h.of_heap o) abv started (by kernel_rfl) Tryz.func9
  (
   ChangeSpec.witness_shaped (enc:=enc) (C:=Tryz.checked) (os:=os) (X:=λw _=>laidMetH Tryz.prog lds w) false (World.laidAll Tryz.prog os lds) #[.agg #[.slice none 0 0,.int .i64 0,.slice none 0 0,.slice none 0 0],.agg #[.int .i64 0,.int .i64 0,.int .i64 0]] 8 (World.laidAll_os _ _ _)
   (World.shaped_of_ZipB (by kernel_rfl) (by kernel_rfl)) (by kernel_rfl) (by kernel_rfl) (by kernel_rfl)
   (by rw [MakeChecks.laidMetH_plain _ _ _ (by kernel_rfl)];exact laidMet_laidAll _ (by kernel_rfl) (by kernel_rfl))) ?_
 intro W base args e gs before d i hc c n _;have b:∀ (j:Nat) t v,Tryz.f9.params[j]? = some t->args[j]? = some v->Value.okWide Tryz.prog W .any base t v:=d
 have g:DataW.Whole enc Tryz.prog Tryz.f9.params.toList Rows.sleepRunsSpec.vars false W args.toList e gs before:=i;obtain ⟨p,q,f,y,_,_,_⟩:=i;have hA:DataW.TrodAll enc Tryz.prog W 0 (λ_=>true) true Tryz.f9.params.toList args.toList e p:=f
 have a:(DataW.weightsEach Tryz.prog (Tryz.f9.params.toList++Rows.sleepRunsSpec.plain.varTypes Tryz.prog) (e++gs)).all (· <= reachBytes)=true:=c;rw [Tryz.params9]at hA b a;obtain ⟨v0,u,k,x,p0,p1,rfl,rfl,rfl,l,m⟩:=trodAll_two hA;obtain ⟨a0,q0,z0,r⟩:=Wl l (tJ a 0 26 k rfl rfl) (b 0 26 v0 rfl rfl);obtain ⟨a1,z,s⟩:=RQ m (b 1 28 u rfl rfl);exact Vz (tb:=4) ZE (by kernel_rfl) (by rfl) aa3 rfl (λe hd=>by match e,hd with | [x0,x1],_=>rfl) (aaF n) g (WT a0 a1 z0 (ZY q0)) rfl (acE r s)
theorem Jg:Rows.SleepRunsSaid :=
 OpenClaim.holds_of_wide 9 Tryz.f9 rfl rfl rfl rfl rfl rfl rfl ⟨rfl,rfl,rfl,rfl,rfl⟩ rfl rfl rfl rfl rfl BN Tryz.func9 Lc
  (of_decide_eq_true (by kernel_rfl)) (by unfold Func.isWrapper;first | (rw [if_pos (by decide+kernel)];kernel_rfl) | (rw [if_neg (by decide+kernel)];exact ⟨rfl,rfl⟩))
  (λos started H enc _=>DY os started H enc)
theorem sleepRuns_holds:Rows.SleepRunsCardSaid :=
 Claim7.holds_tied_plain_at .later [] [.data] true (true,"c261f34d06e32309437328cb2908438c743783b67a56382ed35cf48bd8b105ae") false Jg (λ_ h=>by cases h) KX (λ_ h=>by cases h) sleepRuns_row_tie rfl ⟨rfl,rfl⟩ KY rfl
  (
   λf fn hf b=>by
   obtain rfl:f=9:=Option.some.inj (BN.symm.trans hf) |>.symm;obtain rfl:fn=Tryz.f9:=(Option.some.inj (Tryz.func9.symm.trans b)).symm;exact ⟨KZ,λj t ht=>by
    rw [Tryz.params9]at ht;have hm:t∈[26,28]:=by simpa using Array.mem_of_getElem? ht
    have a:([26,28].all λu => !Tryz.prog.wantsStandIn u)=true:=by kernel_rfl
    exact (show Tryz.prog.wantsStandIn t=false by simpa using List.all_eq_true.1 a t hm)⟩)
  La
end Go.Proofs.YtcfelhfcjdofoaaGreatDoor
