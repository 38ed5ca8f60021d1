/- Part 23 of a proof of a statement about the given program: an abstract machine over the model, proved sound, and contracts of the functions that the statement reaches; the last part proves the statement, for every input, with no condition. -/
import Derived.Test.YtcfelhfcjdofoaaGreatDoorX21
set_option linter.unusedSimpArgs false
set_option linter.unusedVariables false
/- TreeWhole: facts of the program for the row. -/
set_option autoImplicit false
set_option maxRecDepth 20000
namespace Go.Proofs.YtcfelhfcjdofoaaGreatDoor
open Go.Ab Go.ChangeShapes Go.WideShapes Go.ChangeAt Go.RowKit
theorem treeWhole_k1 : Tryz.prog.inPlace 7 = Rows.treeWholeRow.inPlace := by kernel_rfl
theorem treeWhole_k2 : Tryz.prog.unfollowed 7 = true := by kernel_rfl
theorem treeWhole_k3 : Tryz.prog.recurses 7 = true := by kernel_rfl
theorem treeWhole_k4 : Tryz.prog.varsNamed 7 = Rows.treeWholeRow.named := by kernel_rfl
theorem treeWhole_k5 : joinedFacts Tryz.prog 7 Tryz.f7 Rows.treeWholeSpec Rows.treeWholeRow = true := by
  unfold joinedFacts
  rw [treeWhole_k1, treeWhole_k2, treeWhole_k3, treeWhole_k4]
  kernel_rfl
end Go.Proofs.YtcfelhfcjdofoaaGreatDoor

