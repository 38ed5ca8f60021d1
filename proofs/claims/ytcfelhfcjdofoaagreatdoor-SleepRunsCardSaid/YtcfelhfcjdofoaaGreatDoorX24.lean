/- Part 25 of a proof of a statement about the given program: an abstract machine over the model, proved sound, and contracts of the functions that the statement reaches; the last part proves the statement, for every input, with no condition. -/
import Derived.Test.YtcfelhfcjdofoaaGreatDoorX22
set_option autoImplicit false
set_option linter.unusedSimpArgs false
set_option linter.unusedVariables false
set_option maxRecDepth 20000
namespace Go.Proofs.YtcfelhfcjdofoaaGreatDoor
open Go.Ab Go.ChangeShapes Go.WideShapes Go.ChangeAt Go.RowKit
theorem Lj:Tryz.prog.inPlace 9=Rows.sleepRunsRow.inPlace:=by kernel_rfl
theorem Lh:Tryz.prog.unfollowed 9=true:=by kernel_rfl
theorem Le:Tryz.prog.recurses 9=true:=by kernel_rfl
theorem Ld:Tryz.prog.varsNamed 9=Rows.sleepRunsRow.named:=by kernel_rfl
theorem Lc:joinedFacts Tryz.prog 9 Tryz.f9 Rows.sleepRunsSpec Rows.sleepRunsRow=true:=by
 unfold joinedFacts;rw [Lj,Lh,Le,Ld]
 kernel_rfl
end Go.Proofs.YtcfelhfcjdofoaaGreatDoor
