/- Part 25 of a proof of a statement about the given program: an abstract machine over the model, proved sound, and contracts of the functions that the statement reaches; the last part proves the statement, for every input, with no condition. -/
import Derived.Test.YtcfelhfcjdofoaaGreatDoorX22
set_option autoImplicit false
set_option linter.unusedSimpArgs false
set_option linter.unusedVariables false
set_option maxRecDepth 20000
namespace Go.Proofs.YtcfelhfcjdofoaaGreatDoor
open Go.Ab Go.ChangeShapes Go.WideShapes Go.ChangeAt Go.RowKit
theorem IC:Tryz.prog.inPlace 3=Rows.treeRunsRow.inPlace:=by kernel_rfl
theorem IB:Tryz.prog.unfollowed 3=true:=by kernel_rfl
theorem Iz:Tryz.prog.recurses 3=true:=by kernel_rfl
theorem Iy:Tryz.prog.varsNamed 3=Rows.treeRunsRow.named:=by kernel_rfl
theorem Iw:joinedFacts Tryz.prog 3 Tryz.f3 Rows.treeRunsSpec Rows.treeRunsRow=true:=by
 unfold joinedFacts;rw [IC,IB,Iz,Iy]
 kernel_rfl
end Go.Proofs.YtcfelhfcjdofoaaGreatDoor
