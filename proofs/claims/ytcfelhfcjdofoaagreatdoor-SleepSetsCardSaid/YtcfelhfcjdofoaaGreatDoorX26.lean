/- Part 27 of a proof of a statement about the given program: an abstract machine over the model, proved sound, and contracts of the functions that the statement reaches; the last part proves the statement, for every input, with no condition. -/
import Derived.Test.YtcfelhfcjdofoaaGreatDoorX21
import Derived.Test.YtcfelhfcjdofoaaGreatDoorX23
import Derived.Test.YtcfelhfcjdofoaaGreatDoorX22
import Derived.Test.YtcfelhfcjdofoaaGreatDoorX24
import Derived.Test.YtcfelhfcjdofoaaGreatDoorX25
set_option autoImplicit false
set_option linter.unusedSimpArgs false
set_option linter.unusedVariables false
set_option maxRecDepth 20000
namespace Go.Proofs.YtcfelhfcjdofoaaGreatDoor
open Go.Ab Go.ChangeShapes Go.WideShapes Go.ChangeAt Go.RowKit
set_option maxRecDepth 100000 in
theorem Dy (os:Os) (started:os.Started) (H:Type) (enc:TypeId×Value->H) :
 ReturnsInHanded {} Tryz.checked os 11 .any (λw args=>(Rows.sleepSetsSpec.pre enc Tryz.prog Tryz.f11 Rows.sleepSetsRow.domain false w args/\laidMetH Tryz.prog lds w)/\sizedMet enc Tryz.prog Tryz.f11 (OpenSpec.ofChange Rows.sleepSetsSpec) false w args)
  (Rows.sleepSetsSpec.post enc Tryz.prog Tryz.f11 false true false false):=by
 refine returnsInHanded_of_change_and (C:=Tryz.checked) (X:=λw _=>laidMetH Tryz.prog lds w) (λ_ _ _ o h=>h.of_heap o) aa8 started (by kernel_rfl) Tryz.func11
  (
   ChangeSpec.witness_shaped (enc:=enc) (C:=Tryz.checked) (os:=os) (X:=λw _=>laidMetH Tryz.prog lds w) false (World.laidAll Tryz.prog os lds) #[.agg #[.slice none 0 0,.int .i64 0,.slice none 0 0,.slice none 0 0],.slice none 0 0,.agg #[.int .i64 0,.int .i64 0,.int .i64 0]] 8 (World.laidAll_os _ _ _)
   (World.shaped_of_ZipB (by kernel_rfl) (by kernel_rfl)) (by kernel_rfl) (by kernel_rfl) (by kernel_rfl)
   (by rw [MakeChecks.laidMetH_plain _ _ _ (by kernel_rfl)];exact laidMet_laidAll _ (by kernel_rfl) (by kernel_rfl))) ?_
 intro W base args c gs before b g hc d n _;have a:∀ (j:Nat) t v,Tryz.f11.params[j]? = some t->args[j]? = some v->Value.okWide Tryz.prog W .any base t v:=b
 have f:DataW.Whole enc Tryz.prog Tryz.f11.params.toList Rows.sleepSetsSpec.vars false W args.toList c gs before:=g;obtain ⟨p,q,e,hV,_,_,_⟩:=g;have hA:DataW.TrodAll enc Tryz.prog W 0 (λ_=>true) true Tryz.f11.params.toList args.toList c p:=e
 rw [Tryz.params11]at hA a;obtain ⟨v0,x,y,z,d1,d2,p0,p1,p2,rfl,rfl,rfl,k,l,m⟩:=trodAll_three hA;obtain ⟨a0,q0,r⟩:=Y4 k (a 0 26 v0 rfl rfl);obtain ⟨a1,q1,s⟩:=VJ l (a 1 43 x rfl rfl);obtain ⟨i,q2,u⟩:=Ry m (a 2 28 y rfl rfl);exact Vd (tb:=4) Zk (by kernel_rfl) (by rfl) aaM rfl (λc hd=>by match c,hd with | [x0,x1,x2],_=>rfl) (aao n) f (Wx a0 a1 i (ZG q0)) rfl (aco r s u)
theorem IV:Rows.SleepSetsSaid :=
 OpenClaim.holds_of_wide 11 Tryz.f11 rfl rfl rfl rfl rfl rfl rfl ⟨rfl,rfl,rfl,rfl,rfl⟩ rfl rfl rfl rfl rfl Bv Tryz.func11 KA
  (of_decide_eq_true (by kernel_rfl)) (by unfold Func.isWrapper;first | (rw [if_pos (by decide+kernel)];kernel_rfl) | (rw [if_neg (by decide+kernel)];exact ⟨rfl,rfl⟩))
  (λos started H enc _=>Dy os started H enc)
theorem sleepSets_holds:Rows.SleepSetsCardSaid :=
 Claim7.holds_tied_plain_at .later [] [.data] true (true,"c261f34d06e32309437328cb2908438c743783b67a56382ed35cf48bd8b105ae") false IV (λ_ h=>by cases h) Kv (λ_ h=>by cases h) sleepSets_row_tie rfl ⟨rfl,rfl⟩ Kw rfl
  (
   λf fn hf b=>by
   obtain rfl:f=11:=Option.some.inj (Bv.symm.trans hf) |>.symm;obtain rfl:fn=Tryz.f11:=(Option.some.inj (Tryz.func11.symm.trans b)).symm;exact ⟨Ky,λj t ht=>by
    rw [Tryz.params11]at ht;have hm:t∈[26,43,28]:=by simpa using Array.mem_of_getElem? ht
    have a:([26,43,28].all λu => !Tryz.prog.wantsStandIn u)=true:=by kernel_rfl
    exact (show Tryz.prog.wantsStandIn t=false by simpa using List.all_eq_true.1 a t hm)⟩)
  Kz
end Go.Proofs.YtcfelhfcjdofoaaGreatDoor
