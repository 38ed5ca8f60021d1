/- Part 25 of a proof of a statement about the given program: an abstract machine over the model, proved sound, and contracts of the functions that the statement reaches; the last part proves the statement, for every input, with no condition. -/
import Derived.Test.YtcfelhfcjdofoaaGreatDoorX22
set_option autoImplicit false
set_option linter.unusedSimpArgs false
set_option linter.unusedVariables false
set_option maxRecDepth 20000
namespace Go.Proofs.YtcfelhfcjdofoaaGreatDoor
open Go.Ab Go.ChangeShapes Go.WideShapes Go.ChangeAt Go.RowKit
theorem IU:Tryz.prog.inPlace 8=Rows.treeFirstsRow.inPlace:=by kernel_rfl
theorem IQ:Tryz.prog.unfollowed 8=true:=by kernel_rfl
theorem IL:Tryz.prog.recurses 8=true:=by kernel_rfl
theorem IK:Tryz.prog.varsNamed 8=Rows.treeFirstsRow.named:=by kernel_rfl
theorem IJ:joinedFacts Tryz.prog 8 Tryz.f8 Rows.treeFirstsSpec Rows.treeFirstsRow=true:=by
 unfold joinedFacts;rw [IU,IQ,IL,IK]
 kernel_rfl
end Go.Proofs.YtcfelhfcjdofoaaGreatDoor
