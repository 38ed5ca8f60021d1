/- Part 23 of a proof of a statement about the given program: an abstract machine over the model, proved sound, and contracts of the functions that the statement reaches; the last part proves the statement, for every input, with no condition. -/
import Derived.Test.YtcfelhfcjdofoaaGreatDoorX21
set_option linter.unusedSimpArgs false
set_option linter.unusedVariables false
/- TreeRise: facts of the program for the row. -/
set_option autoImplicit false
set_option maxRecDepth 20000
namespace Go.Proofs.YtcfelhfcjdofoaaGreatDoor
open Go.Ab Go.ChangeShapes Go.WideShapes Go.ChangeAt Go.RowKit
theorem treeRise_k1 : Tryz.prog.inPlace 6 = Rows.treeRiseRow.inPlace := by kernel_rfl
theorem treeRise_k2 : Tryz.prog.unfollowed 6 = true := by kernel_rfl
theorem treeRise_k3 : Tryz.prog.recurses 6 = true := by kernel_rfl
theorem treeRise_k4 : Tryz.prog.varsNamed 6 = Rows.treeRiseRow.named := by kernel_rfl
theorem treeRise_k5 : joinedFacts Tryz.prog 6 Tryz.f6 Rows.treeRiseSpec Rows.treeRiseRow = true := by
  unfold joinedFacts
  rw [treeRise_k1, treeRise_k2, treeRise_k3, treeRise_k4]
  kernel_rfl
end Go.Proofs.YtcfelhfcjdofoaaGreatDoor

