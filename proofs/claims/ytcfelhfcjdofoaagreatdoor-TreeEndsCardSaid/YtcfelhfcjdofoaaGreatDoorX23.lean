/- Part 24 of a proof of a statement about the given program: an abstract machine over the model, proved sound, and contracts of the functions that the statement reaches; the last part proves the statement, for every input, with no condition. -/
import Derived.Test.YtcfelhfcjdofoaaGreatDoorX22
import Derived.Test.YtcfelhfcjdofoaaGreatDoorX20
set_option autoImplicit false
set_option linter.unusedSimpArgs false
set_option linter.unusedVariables false
namespace Go.Ab
open Go.Proofs
theorem Yf {n:Int} (h:I9 n):oC n:=h
theorem Zw {p:aj} (h:KN p):tV p:=⟨λv a=>Yf (h.1 v a),λf hf x hx=>Yf ((h.2.2.2 f hf).2.2.1 x hx).2.2.2.2⟩
end Go.Ab
