/-
  No cell of these rows narrows 'for every input' (looked for: loops, veiled, ifaces, maps, wideKeys, modest, calm, conditions, laid).
  DERIVED. THE GIVEN ROWS OF THIS SEAT. 6 by the template 'for every input the law returns true; each argument reads behind the call as it read before'; 0 by the template 'total and deterministic' (their statements: YtaanljgonmhdiaaTotals.lean).
  GIVEN WITH THE SEED: the statements are not yours to turn. If you find one false, say at which input.
  Laid BY PROGRAM, IN A SANDBOX (cutbox-rows.mjs): the forced cells as the released guide's own fill.sh prints them over the translation 02967311d0537bc9… (all of the seat's roots in one cut). By AI agents, Wed Nov 11 2026. No macro, syntax, notation, axiom, sorry.
-/
import Derived.Test.YtaanljgonmhdiaaChecked
import GoSem.Claim
import GoSem.ClaimJoined
import GoSem.ClaimMapViews
import Derived.JoinedTies
import Derived.KernelRfl
namespace Go.Proofs.Ytaanljgonmhdiaa
/- THE CELL 'sum', in the pinned program and in every row, IS THE sha256 OF THE DUMP (.gsa) THAT YtaanljgonmhdiaaProg.lean LOADS. Nothing in Lean hashes anything: it is a label: what it is worth is what the hold of that sum in a sandbox is worth. -/
noncomputable def Try.pinned : Pinned := { name := "ytaanljgonmhdiaa", sum := "02967311d0537bc99635b408eb302f2bd414063efa6a6df6351e3e74215d1e78", checked := Try.checked }
namespace Rows
def none {H : Type} : Left H := { results := [], args := [] }

/-- 'scarablaw26.LinearParts': WHATEVER THE INPUT: true; the input reads as it did. -/
def linearPartsSpec : ChangeSpec := { name := "linearParts", fn := fun _ => fun
  | [d1, d2, d3] => { results := [.lit (.bool true)], args := [d1, d2, d3] }
  | _ => none }
def linearPartsRow : OpenClaim := { program := "ytaanljgonmhdiaa", sum := "02967311d0537bc99635b408eb302f2bd414063efa6a6df6351e3e74215d1e78", func := "scarab/scarablaw26.LinearParts", spec := "linearParts", unfollowed := true, recurses := true, plainKeys := false, apart := false }
def LinearPartsSaid : Prop := linearPartsRow.holds Try.pinned (OpenSpec.ofChange linearPartsSpec)

/-- ITS FALSE NEIGHBOUR: 'it returns false'. Refute it at one input. -/
def linearPartsWrong : ChangeSpec := { name := "linearParts", fn := fun _ => fun
  | [d1, d2, d3] => { results := [.lit (.bool false)], args := [d1, d2, d3] }
  | _ => none }
def LinearPartsWrongFalsely : Prop := linearPartsRow.holds Try.pinned (OpenSpec.ofChange linearPartsWrong)

/-- 'scarablaw26.LinearOrders': WHATEVER THE INPUT: true; the input reads as it did. -/
def linearOrdersSpec : ChangeSpec := { name := "linearOrders", fn := fun _ => fun
  | [d1, d2] => { results := [.lit (.bool true)], args := [d1, d2] }
  | _ => none }
def linearOrdersRow : OpenClaim := { program := "ytaanljgonmhdiaa", sum := "02967311d0537bc99635b408eb302f2bd414063efa6a6df6351e3e74215d1e78", func := "scarab/scarablaw26.LinearOrders", spec := "linearOrders", unfollowed := true, recurses := true, plainKeys := false, apart := false }
def LinearOrdersSaid : Prop := linearOrdersRow.holds Try.pinned (OpenSpec.ofChange linearOrdersSpec)

/-- ITS FALSE NEIGHBOUR: 'it returns false'. Refute it at one input. -/
def linearOrdersWrong : ChangeSpec := { name := "linearOrders", fn := fun _ => fun
  | [d1, d2] => { results := [.lit (.bool false)], args := [d1, d2] }
  | _ => none }
def LinearOrdersWrongFalsely : Prop := linearOrdersRow.holds Try.pinned (OpenSpec.ofChange linearOrdersWrong)

/-- 'scarablaw26.LinearAlone': WHATEVER THE INPUT: true; the input reads as it did. -/
def linearAloneSpec : ChangeSpec := { name := "linearAlone", fn := fun _ => fun
  | [d1, d2] => { results := [.lit (.bool true)], args := [d1, d2] }
  | _ => none }
def linearAloneRow : OpenClaim := { program := "ytaanljgonmhdiaa", sum := "02967311d0537bc99635b408eb302f2bd414063efa6a6df6351e3e74215d1e78", func := "scarab/scarablaw26.LinearAlone", spec := "linearAlone", unfollowed := true, recurses := true, plainKeys := false, apart := false }
def LinearAloneSaid : Prop := linearAloneRow.holds Try.pinned (OpenSpec.ofChange linearAloneSpec)

/-- ITS FALSE NEIGHBOUR: 'it returns false'. Refute it at one input. -/
def linearAloneWrong : ChangeSpec := { name := "linearAlone", fn := fun _ => fun
  | [d1, d2] => { results := [.lit (.bool false)], args := [d1, d2] }
  | _ => none }
def LinearAloneWrongFalsely : Prop := linearAloneRow.holds Try.pinned (OpenSpec.ofChange linearAloneWrong)

/-- 'scarablaw26.LinearKeeps': WHATEVER THE INPUT: true; the input reads as it did. -/
def linearKeepsSpec : ChangeSpec := { name := "linearKeeps", fn := fun _ => fun
  | [d1, d2] => { results := [.lit (.bool true)], args := [d1, d2] }
  | _ => none }
def linearKeepsRow : OpenClaim := { program := "ytaanljgonmhdiaa", sum := "02967311d0537bc99635b408eb302f2bd414063efa6a6df6351e3e74215d1e78", func := "scarab/scarablaw26.LinearKeeps", spec := "linearKeeps", unfollowed := true, recurses := true, plainKeys := false, apart := false }
def LinearKeepsSaid : Prop := linearKeepsRow.holds Try.pinned (OpenSpec.ofChange linearKeepsSpec)

/-- ITS FALSE NEIGHBOUR: 'it returns false'. Refute it at one input. -/
def linearKeepsWrong : ChangeSpec := { name := "linearKeeps", fn := fun _ => fun
  | [d1, d2] => { results := [.lit (.bool false)], args := [d1, d2] }
  | _ => none }
def LinearKeepsWrongFalsely : Prop := linearKeepsRow.holds Try.pinned (OpenSpec.ofChange linearKeepsWrong)

/-- 'scarablaw26.LinearFits': WHATEVER THE INPUT: true; the input reads as it did. -/
def linearFitsSpec : ChangeSpec := { name := "linearFits", fn := fun _ => fun
  | [d1, d2, d3] => { results := [.lit (.bool true)], args := [d1, d2, d3] }
  | _ => none }
def linearFitsRow : OpenClaim := { program := "ytaanljgonmhdiaa", sum := "02967311d0537bc99635b408eb302f2bd414063efa6a6df6351e3e74215d1e78", func := "scarab/scarablaw26.LinearFits", spec := "linearFits", unfollowed := true, recurses := true, plainKeys := false, apart := false }
def LinearFitsSaid : Prop := linearFitsRow.holds Try.pinned (OpenSpec.ofChange linearFitsSpec)

/-- ITS FALSE NEIGHBOUR: 'it returns false'. Refute it at one input. -/
def linearFitsWrong : ChangeSpec := { name := "linearFits", fn := fun _ => fun
  | [d1, d2, d3] => { results := [.lit (.bool false)], args := [d1, d2, d3] }
  | _ => none }
def LinearFitsWrongFalsely : Prop := linearFitsRow.holds Try.pinned (OpenSpec.ofChange linearFitsWrong)

/-- 'scarablaw26.LinearNotes': WHATEVER THE INPUT: true; the input reads as it did. -/
def linearNotesSpec : ChangeSpec := { name := "linearNotes", fn := fun _ => fun
  | [d] => { results := [.lit (.bool true)], args := [d] }
  | _ => none }
def linearNotesRow : OpenClaim := { program := "ytaanljgonmhdiaa", sum := "02967311d0537bc99635b408eb302f2bd414063efa6a6df6351e3e74215d1e78", func := "scarab/scarablaw26.LinearNotes", spec := "linearNotes", unfollowed := true, recurses := true, plainKeys := false, apart := false }
def LinearNotesSaid : Prop := linearNotesRow.holds Try.pinned (OpenSpec.ofChange linearNotesSpec)

/-- ITS FALSE NEIGHBOUR: 'it returns false'. Refute it at one input. -/
def linearNotesWrong : ChangeSpec := { name := "linearNotes", fn := fun _ => fun
  | [d] => { results := [.lit (.bool false)], args := [d] }
  | _ => none }
def LinearNotesWrongFalsely : Prop := linearNotesRow.holds Try.pinned (OpenSpec.ofChange linearNotesWrong)

/- THE SECOND FORM. 'bulk': how many values and letters a reading holds, each counted each time it is reached (what is shared counts as often as it is met; a slice's spare places count too). A statement '..UptoSaid' is the law's where the arguments, and the package variables that the reading takes, are together of bulk at most 1048576: NARROWER than '..Said'. Prove '..Said' where nothing that the law and all that it calls make is longer than what came in: it says more and counts as full. Else prove '..UptoSaid'. A law counts once. -/
mutual
def uptoBulk {H : Type} : DataW H → Nat
  | .lit (.string bytes) => bytes.length + 1
  | .lit _ => 1
  | .nil => 1
  | .ptr d => uptoBulk d + 1
  | .slice elems spare => uptoBulkAll elems + uptoBulkAll spare + 1
  | .agg parts => uptoBulkAll parts + 1
  | .iface _ d => uptoBulk d + 1
  | .map entries => uptoBulkEntries entries + 1
  | .held _ => 1
def uptoBulkAll {H : Type} : List (DataW H) → Nat
  | [] => 0
  | d :: r => uptoBulk d + uptoBulkAll r
def uptoBulkEntries {H : Type} : List (Lit × DataW H) → Nat
  | [] => 0
  | x :: r => uptoBulkEntry x + uptoBulkEntries r
def uptoBulkEntry {H : Type} : Lit × DataW H → Nat
  | (.string bytes, d) => bytes.length + uptoBulk d + 1
  | (_, d) => uptoBulk d + 1
 end
def uptoSmall : (H : Type) → List (DataW H) → Bool := fun _ ds => decide (uptoBulkAll ds ≤ 1048576)
def OpenSpec.upto (s : _root_.Go.ChangeSpec) : _root_.Go.OpenSpec := { _root_.Go.OpenSpec.ofChange s with cond := some uptoSmall }

/-- 'scarablaw26.LinearParts', WHERE WHAT IT READS IS OF BULK AT MOST 1048576: true; the input reads as it did. -/
def linearPartsUptoRow : OpenClaim := { program := "ytaanljgonmhdiaa", sum := "02967311d0537bc99635b408eb302f2bd414063efa6a6df6351e3e74215d1e78", func := "scarab/scarablaw26.LinearParts", spec := "linearParts", unfollowed := true, recurses := true, plainKeys := false, apart := false, narrowed := true }
def LinearPartsUptoSaid : Prop := linearPartsUptoRow.holds Try.pinned (OpenSpec.upto linearPartsSpec)

/-- 'scarablaw26.LinearOrders', WHERE WHAT IT READS IS OF BULK AT MOST 1048576: true; the input reads as it did. -/
def linearOrdersUptoRow : OpenClaim := { program := "ytaanljgonmhdiaa", sum := "02967311d0537bc99635b408eb302f2bd414063efa6a6df6351e3e74215d1e78", func := "scarab/scarablaw26.LinearOrders", spec := "linearOrders", unfollowed := true, recurses := true, plainKeys := false, apart := false, narrowed := true }
def LinearOrdersUptoSaid : Prop := linearOrdersUptoRow.holds Try.pinned (OpenSpec.upto linearOrdersSpec)

/-- 'scarablaw26.LinearAlone', WHERE WHAT IT READS IS OF BULK AT MOST 1048576: true; the input reads as it did. -/
def linearAloneUptoRow : OpenClaim := { program := "ytaanljgonmhdiaa", sum := "02967311d0537bc99635b408eb302f2bd414063efa6a6df6351e3e74215d1e78", func := "scarab/scarablaw26.LinearAlone", spec := "linearAlone", unfollowed := true, recurses := true, plainKeys := false, apart := false, narrowed := true }
def LinearAloneUptoSaid : Prop := linearAloneUptoRow.holds Try.pinned (OpenSpec.upto linearAloneSpec)

/-- 'scarablaw26.LinearKeeps', WHERE WHAT IT READS IS OF BULK AT MOST 1048576: true; the input reads as it did. -/
def linearKeepsUptoRow : OpenClaim := { program := "ytaanljgonmhdiaa", sum := "02967311d0537bc99635b408eb302f2bd414063efa6a6df6351e3e74215d1e78", func := "scarab/scarablaw26.LinearKeeps", spec := "linearKeeps", unfollowed := true, recurses := true, plainKeys := false, apart := false, narrowed := true }
def LinearKeepsUptoSaid : Prop := linearKeepsUptoRow.holds Try.pinned (OpenSpec.upto linearKeepsSpec)

/-- 'scarablaw26.LinearFits', WHERE WHAT IT READS IS OF BULK AT MOST 1048576: true; the input reads as it did. -/
def linearFitsUptoRow : OpenClaim := { program := "ytaanljgonmhdiaa", sum := "02967311d0537bc99635b408eb302f2bd414063efa6a6df6351e3e74215d1e78", func := "scarab/scarablaw26.LinearFits", spec := "linearFits", unfollowed := true, recurses := true, plainKeys := false, apart := false, narrowed := true }
def LinearFitsUptoSaid : Prop := linearFitsUptoRow.holds Try.pinned (OpenSpec.upto linearFitsSpec)

/-- 'scarablaw26.LinearNotes', WHERE WHAT IT READS IS OF BULK AT MOST 1048576: true; the input reads as it did. -/
def linearNotesUptoRow : OpenClaim := { program := "ytaanljgonmhdiaa", sum := "02967311d0537bc99635b408eb302f2bd414063efa6a6df6351e3e74215d1e78", func := "scarab/scarablaw26.LinearNotes", spec := "linearNotes", unfollowed := true, recurses := true, plainKeys := false, apart := false, narrowed := true }
def LinearNotesUptoSaid : Prop := linearNotesUptoRow.holds Try.pinned (OpenSpec.upto linearNotesSpec)

end Rows
end Go.Proofs.Ytaanljgonmhdiaa
