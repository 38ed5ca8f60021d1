/- Part 26 of a proof of a statement about the given program: an abstract machine over the model, proved sound, and contracts of the functions that the statement reaches; the last part proves the statement, for every input, with no condition. -/
import Derived.Test.YtcfelhfcjdofoaaGreatDoorX22
set_option autoImplicit false
set_option linter.unusedSimpArgs false
set_option linter.unusedVariables false
set_option maxRecDepth 20000
namespace Go.Proofs.YtcfelhfcjdofoaaGreatDoor
open Go.Ab Go.ChangeShapes Go.WideShapes Go.ChangeAt Go.RowKit
theorem En:Tryz.prog.funcNamed "scarab/scarablaw15.TreeEnds" = some 5:=by kernel_rfl
theorem ML:false=Tryz.prog.looks []:=by kernel_rfl
theorem MN:false=Rows.treeEndsRow.goesBy Tryz.prog:=by kernel_rfl
theorem MK:Tryz.prog.mainIs=some (true,"c261f34d06e32309437328cb2908438c743783b67a56382ed35cf48bd8b105ae".toList):=by kernel_rfl
theorem MJ:Rows.treeEndsRow.wfByText (OpenSpec.ofChange Rows.treeEndsSpec)=true:=by kernel_rfl
end Go.Proofs.YtcfelhfcjdofoaaGreatDoor
