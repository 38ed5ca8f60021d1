/- Part 22 of a proof of a statement about the given program: an abstract machine over the model, proved sound, and contracts of the functions that the statement reaches; the last part proves the statement, for every input, with no condition. -/
import Derived.Test.YtcfelhfcjdofoaaGreatDoorX20
set_option autoImplicit false
set_option linter.unusedSimpArgs false
set_option linter.unusedVariables false
set_option maxRecDepth 20000
namespace Go.Proofs.YtcfelhfcjdofoaaGreatDoor
open Go.Ab Go.ChangeShapes Go.WideShapes Go.ChangeAt Go.RowKit
theorem uo:Tryz.prog.inPlace 10=Rows.sleepTalliesRow.inPlace:=by kernel_rfl
theorem um:Tryz.prog.unfollowed 10=true:=by kernel_rfl
theorem uj:Tryz.prog.recurses 10=true:=by kernel_rfl
theorem uh:Tryz.prog.varsNamed 10=Rows.sleepTalliesRow.named:=by kernel_rfl
theorem ug:joinedFacts Tryz.prog 10 Tryz.f10 Rows.sleepTalliesSpec Rows.sleepTalliesRow=true:=by
 unfold joinedFacts;rw [uo,um,uj,uh]
 kernel_rfl
end Go.Proofs.YtcfelhfcjdofoaaGreatDoor
