/- Part 24 of a proof of a statement about the given program: an abstract machine over the model, proved sound, and contracts of the functions that the statement reaches; the last part proves the statement, for every input, with no condition. -/
import Derived.Test.YtcfelhfcjdofoaaGreatDoorX22
import Derived.Test.YtcfelhfcjdofoaaGreatDoorX20
set_option autoImplicit false
set_option linter.unusedSimpArgs false
set_option linter.unusedVariables false
namespace Go.Ab
open Go.Proofs
theorem X7 {n:Int} (h:Ee n):oC n:=h
theorem ZG {p:aj} (h:KN p):xC p:=⟨λv a=>X7 (h.1 v a),λf hf x hx=>X7 ((h.2.2.2 f hf).2.2.1 x hx).2.2.2.2⟩
end Go.Ab
