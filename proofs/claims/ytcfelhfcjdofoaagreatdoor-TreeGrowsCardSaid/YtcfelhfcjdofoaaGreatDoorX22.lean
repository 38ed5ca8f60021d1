/- Part 23 of a proof of a statement about the given program: an abstract machine over the model, proved sound, and contracts of the functions that the statement reaches; the last part proves the statement, for every input, with no condition. -/
import Derived.Test.YtcfelhfcjdofoaaGreatDoorX21
set_option linter.unusedSimpArgs false
set_option linter.unusedVariables false
/- TreeGrows: facts of the program for the row. -/
set_option autoImplicit false
set_option maxRecDepth 20000
namespace Go.Proofs.YtcfelhfcjdofoaaGreatDoor
open Go.Ab Go.ChangeShapes Go.WideShapes Go.ChangeAt Go.RowKit
theorem treeGrows_k1 : Tryz.prog.inPlace 4 = Rows.treeGrowsRow.inPlace := by kernel_rfl
theorem treeGrows_k2 : Tryz.prog.unfollowed 4 = true := by kernel_rfl
theorem treeGrows_k3 : Tryz.prog.recurses 4 = true := by kernel_rfl
theorem treeGrows_k4 : Tryz.prog.varsNamed 4 = Rows.treeGrowsRow.named := by kernel_rfl
theorem treeGrows_k5 : joinedFacts Tryz.prog 4 Tryz.f4 Rows.treeGrowsSpec Rows.treeGrowsRow = true := by
  unfold joinedFacts
  rw [treeGrows_k1, treeGrows_k2, treeGrows_k3, treeGrows_k4]
  kernel_rfl
end Go.Proofs.YtcfelhfcjdofoaaGreatDoor

