/-
  No cell of these rows narrows 'for every input' (looked for: loops, veiled, ifaces, maps, wideKeys, modest, calm, conditions, laid).
  DERIVED. THE GIVEN ROWS OF THIS SEAT. 6 by the template 'for every input the law returns true; each argument reads behind the call as it read before'; 0 by the template 'total and deterministic' (their statements: YtkdnjnbocjpmfaaGreatTotals.lean).
  GIVEN WITH THE SEED: the statements are not yours to turn. If you find one false, say at which input.
  Laid BY PROGRAM, IN A SANDBOX (cutbox-rows.mjs): the forced cells as the released guide's own fill.sh prints them over the translation 567ef917f0a4b13f… (all of the seat's roots in one cut). By AI agents, Wed Nov 11 2026. No macro, syntax, notation, axiom, sorry.
-/
import Derived.Test.YtkdnjnbocjpmfaaGreatChecked
import GoSem.Claim
import GoSem.ClaimJoined
import GoSem.ClaimMapViews
import Derived.JoinedTies
import Derived.KernelRfl
namespace Go.Proofs.YtkdnjnbocjpmfaaGreat
/- THE CELL 'sum', in the pinned program and in every row, IS THE sha256 OF THE DUMP (.gsa) THAT YtkdnjnbocjpmfaaGreatProg.lean LOADS. Nothing in Lean hashes anything: it is a label: what it is worth is what the hold of that sum in a sandbox is worth. -/
noncomputable def Tryz.pinned : Pinned := { name := "ytkdnjnbocjpmfaagreat", sum := "567ef917f0a4b13f2920edf01791292caf06f3f139d1ce686a136a5b43c69b2c", checked := Tryz.checked }
namespace Rows
def none {H : Type} : Left H := { results := [], args := [] }

/-- 'scarablaw14.RaceData': WHATEVER THE INPUT: true; the input reads as it did. -/
def raceDataSpec : ChangeSpec := { name := "raceData", fn := fun _ => fun
  | [d1, d2] => { results := [.lit (.bool true)], args := [d1, d2] }
  | _ => none }
def raceDataRow : OpenClaim := { program := "ytkdnjnbocjpmfaagreat", sum := "567ef917f0a4b13f2920edf01791292caf06f3f139d1ce686a136a5b43c69b2c", func := "scarab/scarablaw14.RaceData", spec := "raceData", unfollowed := true, recurses := true, apart := false }
def RaceDataSaid : Prop := raceDataRow.holds Tryz.pinned (OpenSpec.ofChange raceDataSpec)

/-- ITS FALSE NEIGHBOUR: 'it returns false'. Refute it at one input. -/
def raceDataWrong : ChangeSpec := { name := "raceData", fn := fun _ => fun
  | [d1, d2] => { results := [.lit (.bool false)], args := [d1, d2] }
  | _ => none }
def RaceDataWrongFalsely : Prop := raceDataRow.holds Tryz.pinned (OpenSpec.ofChange raceDataWrong)

/-- 'scarablaw14.RacePairs': WHATEVER THE INPUT: true; the input reads as it did. -/
def racePairsSpec : ChangeSpec := { name := "racePairs", fn := fun _ => fun
  | [d] => { results := [.lit (.bool true)], args := [d] }
  | _ => none }
def racePairsRow : OpenClaim := { program := "ytkdnjnbocjpmfaagreat", sum := "567ef917f0a4b13f2920edf01791292caf06f3f139d1ce686a136a5b43c69b2c", func := "scarab/scarablaw14.RacePairs", spec := "racePairs", unfollowed := true, recurses := true, apart := false }
def RacePairsSaid : Prop := racePairsRow.holds Tryz.pinned (OpenSpec.ofChange racePairsSpec)

/-- ITS FALSE NEIGHBOUR: 'it returns false'. Refute it at one input. -/
def racePairsWrong : ChangeSpec := { name := "racePairs", fn := fun _ => fun
  | [d] => { results := [.lit (.bool false)], args := [d] }
  | _ => none }
def RacePairsWrongFalsely : Prop := racePairsRow.holds Tryz.pinned (OpenSpec.ofChange racePairsWrong)

/-- 'scarablaw14.RaceGuards': WHATEVER THE INPUT: true; the input reads as it did. -/
def raceGuardsSpec : ChangeSpec := { name := "raceGuards", fn := fun _ => fun
  | [d1, d2] => { results := [.lit (.bool true)], args := [d1, d2] }
  | _ => none }
def raceGuardsRow : OpenClaim := { program := "ytkdnjnbocjpmfaagreat", sum := "567ef917f0a4b13f2920edf01791292caf06f3f139d1ce686a136a5b43c69b2c", func := "scarab/scarablaw14.RaceGuards", spec := "raceGuards", unfollowed := true, recurses := true, apart := false }
def RaceGuardsSaid : Prop := raceGuardsRow.holds Tryz.pinned (OpenSpec.ofChange raceGuardsSpec)

/-- ITS FALSE NEIGHBOUR: 'it returns false'. Refute it at one input. -/
def raceGuardsWrong : ChangeSpec := { name := "raceGuards", fn := fun _ => fun
  | [d1, d2] => { results := [.lit (.bool false)], args := [d1, d2] }
  | _ => none }
def RaceGuardsWrongFalsely : Prop := raceGuardsRow.holds Tryz.pinned (OpenSpec.ofChange raceGuardsWrong)

/-- 'scarablaw14.RaceClass': WHATEVER THE INPUT: true; the input reads as it did. -/
def raceClassSpec : ChangeSpec := { name := "raceClass", fn := fun _ => fun
  | [d1, d2] => { results := [.lit (.bool true)], args := [d1, d2] }
  | _ => none }
def raceClassRow : OpenClaim := { program := "ytkdnjnbocjpmfaagreat", sum := "567ef917f0a4b13f2920edf01791292caf06f3f139d1ce686a136a5b43c69b2c", func := "scarab/scarablaw14.RaceClass", spec := "raceClass", unfollowed := true, recurses := true, apart := false }
def RaceClassSaid : Prop := raceClassRow.holds Tryz.pinned (OpenSpec.ofChange raceClassSpec)

/-- ITS FALSE NEIGHBOUR: 'it returns false'. Refute it at one input. -/
def raceClassWrong : ChangeSpec := { name := "raceClass", fn := fun _ => fun
  | [d1, d2] => { results := [.lit (.bool false)], args := [d1, d2] }
  | _ => none }
def RaceClassWrongFalsely : Prop := raceClassRow.holds Tryz.pinned (OpenSpec.ofChange raceClassWrong)

/-- 'scarablaw14.RaceAsks': WHATEVER THE INPUT: true; the input reads as it did. -/
def raceAsksSpec : ChangeSpec := { name := "raceAsks", fn := fun _ => fun
  | [d1, d2, d3] => { results := [.lit (.bool true)], args := [d1, d2, d3] }
  | _ => none }
def raceAsksRow : OpenClaim := { program := "ytkdnjnbocjpmfaagreat", sum := "567ef917f0a4b13f2920edf01791292caf06f3f139d1ce686a136a5b43c69b2c", func := "scarab/scarablaw14.RaceAsks", spec := "raceAsks", unfollowed := true, recurses := true, apart := false }
def RaceAsksSaid : Prop := raceAsksRow.holds Tryz.pinned (OpenSpec.ofChange raceAsksSpec)

/-- ITS FALSE NEIGHBOUR: 'it returns false'. Refute it at one input. -/
def raceAsksWrong : ChangeSpec := { name := "raceAsks", fn := fun _ => fun
  | [d1, d2, d3] => { results := [.lit (.bool false)], args := [d1, d2, d3] }
  | _ => none }
def RaceAsksWrongFalsely : Prop := raceAsksRow.holds Tryz.pinned (OpenSpec.ofChange raceAsksWrong)

/-- 'scarablaw14.RaceMeets': WHATEVER THE INPUT: true; the input reads as it did. -/
def raceMeetsSpec : ChangeSpec := { name := "raceMeets", fn := fun _ => fun
  | [d1, d2, d3] => { results := [.lit (.bool true)], args := [d1, d2, d3] }
  | _ => none }
def raceMeetsRow : OpenClaim := { program := "ytkdnjnbocjpmfaagreat", sum := "567ef917f0a4b13f2920edf01791292caf06f3f139d1ce686a136a5b43c69b2c", func := "scarab/scarablaw14.RaceMeets", spec := "raceMeets", unfollowed := true, recurses := true, apart := false }
def RaceMeetsSaid : Prop := raceMeetsRow.holds Tryz.pinned (OpenSpec.ofChange raceMeetsSpec)

/-- ITS FALSE NEIGHBOUR: 'it returns false'. Refute it at one input. -/
def raceMeetsWrong : ChangeSpec := { name := "raceMeets", fn := fun _ => fun
  | [d1, d2, d3] => { results := [.lit (.bool false)], args := [d1, d2, d3] }
  | _ => none }
def RaceMeetsWrongFalsely : Prop := raceMeetsRow.holds Tryz.pinned (OpenSpec.ofChange raceMeetsWrong)

/- THE SECOND FORM. 'bulk': how many values and letters a reading holds, each counted each time it is reached (what is shared counts as often as it is met; a slice's spare places count too). A statement '..UptoSaid' is the law's where the arguments, and the package variables that the reading takes, are together of bulk at most 1048576: NARROWER than '..Said'. Prove '..Said' where nothing that the law and all that it calls make is longer than what came in: it says more and counts as full. Else prove '..UptoSaid'. A law counts once. -/
mutual
def uptoBulk {H : Type} : DataW H → Nat
  | .lit (.string bytes) => bytes.length + 1
  | .lit _ => 1
  | .nil => 1
  | .ptr d => uptoBulk d + 1
  | .slice elems spare => uptoBulkAll elems + uptoBulkAll spare + 1
  | .agg parts => uptoBulkAll parts + 1
  | .iface _ d => uptoBulk d + 1
  | .map entries => uptoBulkEntries entries + 1
  | .held _ => 1
def uptoBulkAll {H : Type} : List (DataW H) → Nat
  | [] => 0
  | d :: r => uptoBulk d + uptoBulkAll r
def uptoBulkEntries {H : Type} : List (Lit × DataW H) → Nat
  | [] => 0
  | x :: r => uptoBulkEntry x + uptoBulkEntries r
def uptoBulkEntry {H : Type} : Lit × DataW H → Nat
  | (.string bytes, d) => bytes.length + uptoBulk d + 1
  | (_, d) => uptoBulk d + 1
 end
def uptoSmall : (H : Type) → List (DataW H) → Bool := fun _ ds => decide (uptoBulkAll ds ≤ 1048576)
def OpenSpec.upto (s : _root_.Go.ChangeSpec) : _root_.Go.OpenSpec := { _root_.Go.OpenSpec.ofChange s with cond := some uptoSmall }

/-- 'scarablaw14.RaceData', WHERE WHAT IT READS IS OF BULK AT MOST 1048576: true; the input reads as it did. -/
def raceDataUptoRow : OpenClaim := { program := "ytkdnjnbocjpmfaagreat", sum := "567ef917f0a4b13f2920edf01791292caf06f3f139d1ce686a136a5b43c69b2c", func := "scarab/scarablaw14.RaceData", spec := "raceData", unfollowed := true, recurses := true, apart := false, narrowed := true }
def RaceDataUptoSaid : Prop := raceDataUptoRow.holds Tryz.pinned (OpenSpec.upto raceDataSpec)

/-- 'scarablaw14.RacePairs', WHERE WHAT IT READS IS OF BULK AT MOST 1048576: true; the input reads as it did. -/
def racePairsUptoRow : OpenClaim := { program := "ytkdnjnbocjpmfaagreat", sum := "567ef917f0a4b13f2920edf01791292caf06f3f139d1ce686a136a5b43c69b2c", func := "scarab/scarablaw14.RacePairs", spec := "racePairs", unfollowed := true, recurses := true, apart := false, narrowed := true }
def RacePairsUptoSaid : Prop := racePairsUptoRow.holds Tryz.pinned (OpenSpec.upto racePairsSpec)

/-- 'scarablaw14.RaceGuards', WHERE WHAT IT READS IS OF BULK AT MOST 1048576: true; the input reads as it did. -/
def raceGuardsUptoRow : OpenClaim := { program := "ytkdnjnbocjpmfaagreat", sum := "567ef917f0a4b13f2920edf01791292caf06f3f139d1ce686a136a5b43c69b2c", func := "scarab/scarablaw14.RaceGuards", spec := "raceGuards", unfollowed := true, recurses := true, apart := false, narrowed := true }
def RaceGuardsUptoSaid : Prop := raceGuardsUptoRow.holds Tryz.pinned (OpenSpec.upto raceGuardsSpec)

/-- 'scarablaw14.RaceClass', WHERE WHAT IT READS IS OF BULK AT MOST 1048576: true; the input reads as it did. -/
def raceClassUptoRow : OpenClaim := { program := "ytkdnjnbocjpmfaagreat", sum := "567ef917f0a4b13f2920edf01791292caf06f3f139d1ce686a136a5b43c69b2c", func := "scarab/scarablaw14.RaceClass", spec := "raceClass", unfollowed := true, recurses := true, apart := false, narrowed := true }
def RaceClassUptoSaid : Prop := raceClassUptoRow.holds Tryz.pinned (OpenSpec.upto raceClassSpec)

/-- 'scarablaw14.RaceAsks', WHERE WHAT IT READS IS OF BULK AT MOST 1048576: true; the input reads as it did. -/
def raceAsksUptoRow : OpenClaim := { program := "ytkdnjnbocjpmfaagreat", sum := "567ef917f0a4b13f2920edf01791292caf06f3f139d1ce686a136a5b43c69b2c", func := "scarab/scarablaw14.RaceAsks", spec := "raceAsks", unfollowed := true, recurses := true, apart := false, narrowed := true }
def RaceAsksUptoSaid : Prop := raceAsksUptoRow.holds Tryz.pinned (OpenSpec.upto raceAsksSpec)

/-- 'scarablaw14.RaceMeets', WHERE WHAT IT READS IS OF BULK AT MOST 1048576: true; the input reads as it did. -/
def raceMeetsUptoRow : OpenClaim := { program := "ytkdnjnbocjpmfaagreat", sum := "567ef917f0a4b13f2920edf01791292caf06f3f139d1ce686a136a5b43c69b2c", func := "scarab/scarablaw14.RaceMeets", spec := "raceMeets", unfollowed := true, recurses := true, apart := false, narrowed := true }
def RaceMeetsUptoSaid : Prop := raceMeetsUptoRow.holds Tryz.pinned (OpenSpec.upto raceMeetsSpec)

end Rows
end Go.Proofs.YtkdnjnbocjpmfaaGreat
