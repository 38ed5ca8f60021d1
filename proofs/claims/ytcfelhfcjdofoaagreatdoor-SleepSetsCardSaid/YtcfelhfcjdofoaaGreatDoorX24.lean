/- Part 25 of a proof of a statement about the given program: an abstract machine over the model, proved sound, and contracts of the functions that the statement reaches; the last part proves the statement, for every input, with no condition. -/
import Derived.Test.YtcfelhfcjdofoaaGreatDoorX22
set_option autoImplicit false
set_option linter.unusedSimpArgs false
set_option linter.unusedVariables false
set_option maxRecDepth 20000
namespace Go.Proofs.YtcfelhfcjdofoaaGreatDoor
open Go.Ab Go.ChangeShapes Go.WideShapes Go.ChangeAt Go.RowKit
theorem KF:Tryz.prog.inPlace 11=Rows.sleepSetsRow.inPlace:=by kernel_rfl
theorem KE:Tryz.prog.unfollowed 11=true:=by kernel_rfl
theorem KD:Tryz.prog.recurses 11=true:=by kernel_rfl
theorem KC:Tryz.prog.varsNamed 11=Rows.sleepSetsRow.named:=by kernel_rfl
theorem KA:joinedFacts Tryz.prog 11 Tryz.f11 Rows.sleepSetsSpec Rows.sleepSetsRow=true:=by
 unfold joinedFacts;rw [KF,KE,KD,KC]
 kernel_rfl
end Go.Proofs.YtcfelhfcjdofoaaGreatDoor
