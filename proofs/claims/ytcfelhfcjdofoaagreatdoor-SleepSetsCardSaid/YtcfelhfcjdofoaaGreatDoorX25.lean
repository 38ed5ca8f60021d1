/- Part 26 of a proof of a statement about the given program: an abstract machine over the model, proved sound, and contracts of the functions that the statement reaches; the last part proves the statement, for every input, with no condition. -/
import Derived.Test.YtcfelhfcjdofoaaGreatDoorX22
set_option autoImplicit false
set_option linter.unusedSimpArgs false
set_option linter.unusedVariables false
set_option maxRecDepth 20000
namespace Go.Proofs.YtcfelhfcjdofoaaGreatDoor
open Go.Ab Go.ChangeShapes Go.WideShapes Go.ChangeAt Go.RowKit
theorem Bv:Tryz.prog.funcNamed "scarab/scarablaw17.SleepSets" = some 11:=by kernel_rfl
theorem Ky:false=Tryz.prog.looks []:=by kernel_rfl
theorem Kz:false=Rows.sleepSetsRow.goesBy Tryz.prog:=by kernel_rfl
theorem Kw:Tryz.prog.mainIs=some (true,"c261f34d06e32309437328cb2908438c743783b67a56382ed35cf48bd8b105ae".toList):=by kernel_rfl
theorem Kv:Rows.sleepSetsRow.wfByText (OpenSpec.ofChange Rows.sleepSetsSpec)=true:=by kernel_rfl
end Go.Proofs.YtcfelhfcjdofoaaGreatDoor
