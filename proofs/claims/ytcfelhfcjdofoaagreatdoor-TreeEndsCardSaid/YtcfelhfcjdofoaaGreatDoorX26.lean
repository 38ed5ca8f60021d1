/- Part 27 of a proof of a statement about the given program: an abstract machine over the model, proved sound, and contracts of the functions that the statement reaches; the last part proves the statement, for every input, with no condition. -/
import Derived.Test.YtcfelhfcjdofoaaGreatDoorX21
import Derived.Test.YtcfelhfcjdofoaaGreatDoorX23
import Derived.Test.YtcfelhfcjdofoaaGreatDoorX22
import Derived.Test.YtcfelhfcjdofoaaGreatDoorX24
import Derived.Test.YtcfelhfcjdofoaaGreatDoorX25
set_option autoImplicit false
set_option linter.unusedSimpArgs false
set_option linter.unusedVariables false
set_option maxRecDepth 20000
namespace Go.Proofs.YtcfelhfcjdofoaaGreatDoor
open Go.Ab Go.ChangeShapes Go.WideShapes Go.ChangeAt Go.RowKit
set_option maxRecDepth 100000 in
theorem E5 (os:Os) (started:os.Started) (H:Type) (enc:TypeId×Value->H) :
 ReturnsInHanded {} Tryz.checked os 5 .any (λw args=>(Rows.treeEndsSpec.pre enc Tryz.prog Tryz.f5 Rows.treeEndsRow.domain false w args/\laidMetH Tryz.prog lds w)/\sizedMet enc Tryz.prog Tryz.f5 (OpenSpec.ofChange Rows.treeEndsSpec) false w args)
  (Rows.treeEndsSpec.post enc Tryz.prog Tryz.f5 false true false false):=by
 refine returnsInHanded_of_change_and (C:=Tryz.checked) (X:=λw _=>laidMetH Tryz.prog lds w) (λ_ _ _ m h=>h.of_heap m) aa7 started (by kernel_rfl) Tryz.func5
  (
   ChangeSpec.witness_shaped (enc:=enc) (C:=Tryz.checked) (os:=os) (X:=λw _=>laidMetH Tryz.prog lds w) false (World.laidAll Tryz.prog os lds) #[.agg #[.slice none 0 0,.int .i64 0,.slice none 0 0,.slice none 0 0],.agg #[.int .i64 0,.int .i64 0,.int .i64 0]] 8 (World.laidAll_os _ _ _)
   (World.shaped_of_ZipB (by kernel_rfl) (by kernel_rfl)) (by kernel_rfl) (by kernel_rfl) (by kernel_rfl)
   (by rw [MakeChecks.laidMetH_plain _ _ _ (by kernel_rfl)];exact laidMet_laidAll _ (by kernel_rfl) (by kernel_rfl))) ?_
 intro W base args c gs before b g hc d l _;have a:∀ (j:Nat) t v,Tryz.f5.params[j]? = some t->args[j]? = some v->Value.okWide Tryz.prog W .any base t v:=b
 have f:DataW.Whole enc Tryz.prog Tryz.f5.params.toList Rows.treeEndsSpec.vars false W args.toList c gs before:=g;obtain ⟨p,q,e,x,_,_,_⟩:=g;have hA:DataW.TrodAll enc Tryz.prog W 0 (λ_=>true) true Tryz.f5.params.toList args.toList c p:=e
 rw [Tryz.params5]at hA a;obtain ⟨v0,r,s,u,p0,p1,rfl,rfl,rfl,i,k⟩:=trodAll_two hA;obtain ⟨a0,q0,n⟩:=Y5 i (a 0 26 v0 rfl rfl);obtain ⟨a1,y,o⟩:=Ri k (a 1 28 r rfl rfl);exact Ve (tb:=4) Zh (by kernel_rfl) (by rfl) aaG rfl (λc hd=>by match c,hd with | [x0,x1],_=>rfl) (aai l) f (Wn a0 a1 (Zw q0)) rfl (acs n o)
theorem KA:Rows.TreeEndsSaid :=
 OpenClaim.holds_of_wide 5 Tryz.f5 rfl rfl rfl rfl rfl rfl rfl ⟨rfl,rfl,rfl,rfl,rfl⟩ rfl rfl rfl rfl rfl En Tryz.func5 MO
  (of_decide_eq_true (by kernel_rfl)) (by unfold Func.isWrapper;first | (rw [if_pos (by decide+kernel)];kernel_rfl) | (rw [if_neg (by decide+kernel)];exact ⟨rfl,rfl⟩))
  (λos started H enc _=>E5 os started H enc)
theorem treeEnds_holds:Rows.TreeEndsCardSaid :=
 Claim7.holds_tied_plain_at .later [] [.data] true (true,"c261f34d06e32309437328cb2908438c743783b67a56382ed35cf48bd8b105ae") false KA (λ_ h=>by cases h) MJ (λ_ h=>by cases h) treeEnds_row_tie rfl ⟨rfl,rfl⟩ MK rfl
  (
   λf fn hf b=>by
   obtain rfl:f=5:=Option.some.inj (En.symm.trans hf) |>.symm;obtain rfl:fn=Tryz.f5:=(Option.some.inj (Tryz.func5.symm.trans b)).symm;exact ⟨ML,λj t ht=>by
    rw [Tryz.params5]at ht;have hm:t∈[26,28]:=by simpa using Array.mem_of_getElem? ht
    have a:([26,28].all λu => !Tryz.prog.wantsStandIn u)=true:=by kernel_rfl
    exact (show Tryz.prog.wantsStandIn t=false by simpa using List.all_eq_true.1 a t hm)⟩)
  MN
end Go.Proofs.YtcfelhfcjdofoaaGreatDoor
