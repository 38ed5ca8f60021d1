/- Part 25 of a proof of a statement about the given program: an abstract machine over the model, proved sound, and contracts of the functions that the statement reaches; the last part proves the statement, for every input, with no condition. -/
import Derived.Test.YtcfelhfcjdofoaaGreatDoorX22
set_option autoImplicit false
set_option linter.unusedSimpArgs false
set_option linter.unusedVariables false
set_option maxRecDepth 20000
namespace Go.Proofs.YtcfelhfcjdofoaaGreatDoor
open Go.Ab Go.ChangeShapes Go.WideShapes Go.ChangeAt Go.RowKit
theorem MS:Tryz.prog.inPlace 5=Rows.treeEndsRow.inPlace:=by kernel_rfl
theorem MR:Tryz.prog.unfollowed 5=true:=by kernel_rfl
theorem MQ:Tryz.prog.recurses 5=true:=by kernel_rfl
theorem MP:Tryz.prog.varsNamed 5=Rows.treeEndsRow.named:=by kernel_rfl
theorem MO:joinedFacts Tryz.prog 5 Tryz.f5 Rows.treeEndsSpec Rows.treeEndsRow=true:=by
 unfold joinedFacts;rw [MS,MR,MQ,MP]
 kernel_rfl
end Go.Proofs.YtcfelhfcjdofoaaGreatDoor
