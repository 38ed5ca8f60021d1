/-
  NARROWER THAN 'FOR EVERY INPUT', by the rows' own cells (each row's printed sentence says how): TreeRuns: laid · TreeGrows: laid · TreeEnds: laid · TreeRise: laid · TreeWhole: laid · TreeFirsts: laid · SleepRuns: laid · SleepTallies: laid · SleepSets: laid · PersistRuns: laid · PersistSets: laid · PersistCloses: laid.
  DERIVED. THE GIVEN ROWS OF THIS SEAT. 12 by the template 'for every input the law returns true; each argument reads behind the call as it read before'; 0 by the template 'total and deterministic' (their statements: YtcfelhfcjdofoaaGreatDoorTotals.lean).
  GIVEN WITH THE SEED: the statements are not yours to turn. If you find one false, say at which input.
  Laid BY PROGRAM, IN A SANDBOX (cutbox-rows.mjs): the forced cells as the released guide's own fill.sh prints them over the translation 53517697b8fc2fee… (all of the seat's roots in one cut). By AI agents, Wed Nov 11 2026. No macro, syntax, notation, axiom, sorry.
-/
import Derived.Test.YtcfelhfcjdofoaaGreatDoorChecked
import GoSem.Claim
import GoSem.ClaimJoined
import GoSem.ClaimMapViews
import Derived.JoinedTies
import Derived.KernelRfl
namespace Go.Proofs.YtcfelhfcjdofoaaGreatDoor
/- THE CELL 'sum', in the pinned program and in every row, IS THE sha256 OF THE DUMP (.gsa) THAT YtcfelhfcjdofoaaGreatDoorProg.lean LOADS. Nothing in Lean hashes anything: it is a label: what it is worth is what the hold of that sum in a sandbox is worth. -/
noncomputable def Tryz.pinned : Pinned := { name := "ytcfelhfcjdofoaagreatdoor", sum := "53517697b8fc2fee0bd697882397ea9a5696ddcaac0edeaad5e9a86c5bc47d5e", checked := Tryz.checked }
namespace Rows
def none {H : Type} : Left H := { results := [], args := [] }

/- WHAT THE LISTED PACKAGE-LEVEL VARIABLES READ AS WHEN THE CALL BEGINS. Each datum BY PROGRAM (the guide's laid-datum.mjs) off the statement by which the dump's own 'gosem.cut.vars' lays the variable. In a bare row this is a premise. The card (YtcfelhfcjdofoaaGreatDoorCards.lean) ties it to the program's text. -/
def laid_math_bits_deBruijn64tab {H : Type} : DataW H := .agg [.lit (.int .u8 0), .lit (.int .u8 1), .lit (.int .u8 56), .lit (.int .u8 2), .lit (.int .u8 57), .lit (.int .u8 49), .lit (.int .u8 28), .lit (.int .u8 3), .lit (.int .u8 61), .lit (.int .u8 58), .lit (.int .u8 42), .lit (.int .u8 50), .lit (.int .u8 38), .lit (.int .u8 29), .lit (.int .u8 17), .lit (.int .u8 4), .lit (.int .u8 62), .lit (.int .u8 47), .lit (.int .u8 59), .lit (.int .u8 36), .lit (.int .u8 45), .lit (.int .u8 43), .lit (.int .u8 51), .lit (.int .u8 22), .lit (.int .u8 53), .lit (.int .u8 39), .lit (.int .u8 33), .lit (.int .u8 30), .lit (.int .u8 24), .lit (.int .u8 18), .lit (.int .u8 12), .lit (.int .u8 5), .lit (.int .u8 63), .lit (.int .u8 55), .lit (.int .u8 48), .lit (.int .u8 27), .lit (.int .u8 60), .lit (.int .u8 41), .lit (.int .u8 37), .lit (.int .u8 16), .lit (.int .u8 46), .lit (.int .u8 35), .lit (.int .u8 44), .lit (.int .u8 21), .lit (.int .u8 52), .lit (.int .u8 32), .lit (.int .u8 23), .lit (.int .u8 11), .lit (.int .u8 54), .lit (.int .u8 26), .lit (.int .u8 40), .lit (.int .u8 15), .lit (.int .u8 34), .lit (.int .u8 20), .lit (.int .u8 31), .lit (.int .u8 10), .lit (.int .u8 25), .lit (.int .u8 14), .lit (.int .u8 19), .lit (.int .u8 9), .lit (.int .u8 13), .lit (.int .u8 8), .lit (.int .u8 7), .lit (.int .u8 6)]

/-- 'scarablaw15.TreeRuns': WHATEVER THE INPUT: true; the input reads as it did. -/
def treeRunsSpec : ChangeSpec := { name := "treeRuns", fn := fun _ => fun
  | [d1, d2] => { results := [.lit (.bool true)], args := [d1, d2] }
  | _ => none }
def treeRunsRow : OpenClaim := { program := "ytcfelhfcjdofoaagreatdoor", sum := "53517697b8fc2fee0bd697882397ea9a5696ddcaac0edeaad5e9a86c5bc47d5e", func := "scarab/scarablaw15.TreeRuns", spec := "treeRuns", unfollowed := true, recurses := true, named := ["math/bits.deBruijn64tab"], plainKeys := false, apart := false, laid := [("math/bits.deBruijn64tab", laid_math_bits_deBruijn64tab)] }
def TreeRunsSaid : Prop := treeRunsRow.holds Tryz.pinned (OpenSpec.ofChange treeRunsSpec)

/-- ITS FALSE NEIGHBOUR: 'it returns false'. Refute it at one input. -/
def treeRunsWrong : ChangeSpec := { name := "treeRuns", fn := fun _ => fun
  | [d1, d2] => { results := [.lit (.bool false)], args := [d1, d2] }
  | _ => none }
def TreeRunsWrongFalsely : Prop := treeRunsRow.holds Tryz.pinned (OpenSpec.ofChange treeRunsWrong)

/-- 'scarablaw15.TreeGrows': WHATEVER THE INPUT: true; the input reads as it did. -/
def treeGrowsSpec : ChangeSpec := { name := "treeGrows", fn := fun _ => fun
  | [d1, d2, d3] => { results := [.lit (.bool true)], args := [d1, d2, d3] }
  | _ => none }
def treeGrowsRow : OpenClaim := { program := "ytcfelhfcjdofoaagreatdoor", sum := "53517697b8fc2fee0bd697882397ea9a5696ddcaac0edeaad5e9a86c5bc47d5e", func := "scarab/scarablaw15.TreeGrows", spec := "treeGrows", unfollowed := true, recurses := true, named := ["math/bits.deBruijn64tab"], plainKeys := false, apart := false, laid := [("math/bits.deBruijn64tab", laid_math_bits_deBruijn64tab)] }
def TreeGrowsSaid : Prop := treeGrowsRow.holds Tryz.pinned (OpenSpec.ofChange treeGrowsSpec)

/-- ITS FALSE NEIGHBOUR: 'it returns false'. Refute it at one input. -/
def treeGrowsWrong : ChangeSpec := { name := "treeGrows", fn := fun _ => fun
  | [d1, d2, d3] => { results := [.lit (.bool false)], args := [d1, d2, d3] }
  | _ => none }
def TreeGrowsWrongFalsely : Prop := treeGrowsRow.holds Tryz.pinned (OpenSpec.ofChange treeGrowsWrong)

/-- 'scarablaw15.TreeEnds': WHATEVER THE INPUT: true; the input reads as it did. -/
def treeEndsSpec : ChangeSpec := { name := "treeEnds", fn := fun _ => fun
  | [d1, d2] => { results := [.lit (.bool true)], args := [d1, d2] }
  | _ => none }
def treeEndsRow : OpenClaim := { program := "ytcfelhfcjdofoaagreatdoor", sum := "53517697b8fc2fee0bd697882397ea9a5696ddcaac0edeaad5e9a86c5bc47d5e", func := "scarab/scarablaw15.TreeEnds", spec := "treeEnds", unfollowed := true, recurses := true, named := ["math/bits.deBruijn64tab"], plainKeys := false, apart := false, laid := [("math/bits.deBruijn64tab", laid_math_bits_deBruijn64tab)] }
def TreeEndsSaid : Prop := treeEndsRow.holds Tryz.pinned (OpenSpec.ofChange treeEndsSpec)

/-- ITS FALSE NEIGHBOUR: 'it returns false'. Refute it at one input. -/
def treeEndsWrong : ChangeSpec := { name := "treeEnds", fn := fun _ => fun
  | [d1, d2] => { results := [.lit (.bool false)], args := [d1, d2] }
  | _ => none }
def TreeEndsWrongFalsely : Prop := treeEndsRow.holds Tryz.pinned (OpenSpec.ofChange treeEndsWrong)

/-- 'scarablaw15.TreeRise': WHATEVER THE INPUT: true; the input reads as it did. -/
def treeRiseSpec : ChangeSpec := { name := "treeRise", fn := fun _ => fun
  | [d1, d2] => { results := [.lit (.bool true)], args := [d1, d2] }
  | _ => none }
def treeRiseRow : OpenClaim := { program := "ytcfelhfcjdofoaagreatdoor", sum := "53517697b8fc2fee0bd697882397ea9a5696ddcaac0edeaad5e9a86c5bc47d5e", func := "scarab/scarablaw15.TreeRise", spec := "treeRise", unfollowed := true, recurses := true, named := ["math/bits.deBruijn64tab"], plainKeys := false, apart := false, laid := [("math/bits.deBruijn64tab", laid_math_bits_deBruijn64tab)] }
def TreeRiseSaid : Prop := treeRiseRow.holds Tryz.pinned (OpenSpec.ofChange treeRiseSpec)

/-- ITS FALSE NEIGHBOUR: 'it returns false'. Refute it at one input. -/
def treeRiseWrong : ChangeSpec := { name := "treeRise", fn := fun _ => fun
  | [d1, d2] => { results := [.lit (.bool false)], args := [d1, d2] }
  | _ => none }
def TreeRiseWrongFalsely : Prop := treeRiseRow.holds Tryz.pinned (OpenSpec.ofChange treeRiseWrong)

/-- 'scarablaw15.TreeWhole': WHATEVER THE INPUT: true; the input reads as it did. -/
def treeWholeSpec : ChangeSpec := { name := "treeWhole", fn := fun _ => fun
  | [d1, d2, d3] => { results := [.lit (.bool true)], args := [d1, d2, d3] }
  | _ => none }
def treeWholeRow : OpenClaim := { program := "ytcfelhfcjdofoaagreatdoor", sum := "53517697b8fc2fee0bd697882397ea9a5696ddcaac0edeaad5e9a86c5bc47d5e", func := "scarab/scarablaw15.TreeWhole", spec := "treeWhole", unfollowed := true, recurses := true, named := ["math/bits.deBruijn64tab"], plainKeys := false, apart := false, laid := [("math/bits.deBruijn64tab", laid_math_bits_deBruijn64tab)] }
def TreeWholeSaid : Prop := treeWholeRow.holds Tryz.pinned (OpenSpec.ofChange treeWholeSpec)

/-- ITS FALSE NEIGHBOUR: 'it returns false'. Refute it at one input. -/
def treeWholeWrong : ChangeSpec := { name := "treeWhole", fn := fun _ => fun
  | [d1, d2, d3] => { results := [.lit (.bool false)], args := [d1, d2, d3] }
  | _ => none }
def TreeWholeWrongFalsely : Prop := treeWholeRow.holds Tryz.pinned (OpenSpec.ofChange treeWholeWrong)

/-- 'scarablaw15.TreeFirsts': WHATEVER THE INPUT: true; the input reads as it did. -/
def treeFirstsSpec : ChangeSpec := { name := "treeFirsts", fn := fun _ => fun
  | [d1, d2, d3] => { results := [.lit (.bool true)], args := [d1, d2, d3] }
  | _ => none }
def treeFirstsRow : OpenClaim := { program := "ytcfelhfcjdofoaagreatdoor", sum := "53517697b8fc2fee0bd697882397ea9a5696ddcaac0edeaad5e9a86c5bc47d5e", func := "scarab/scarablaw15.TreeFirsts", spec := "treeFirsts", unfollowed := true, recurses := true, named := ["math/bits.deBruijn64tab"], plainKeys := false, apart := false, laid := [("math/bits.deBruijn64tab", laid_math_bits_deBruijn64tab)] }
def TreeFirstsSaid : Prop := treeFirstsRow.holds Tryz.pinned (OpenSpec.ofChange treeFirstsSpec)

/-- ITS FALSE NEIGHBOUR: 'it returns false'. Refute it at one input. -/
def treeFirstsWrong : ChangeSpec := { name := "treeFirsts", fn := fun _ => fun
  | [d1, d2, d3] => { results := [.lit (.bool false)], args := [d1, d2, d3] }
  | _ => none }
def TreeFirstsWrongFalsely : Prop := treeFirstsRow.holds Tryz.pinned (OpenSpec.ofChange treeFirstsWrong)

/-- 'scarablaw17.SleepRuns': WHATEVER THE INPUT: true; the input reads as it did. -/
def sleepRunsSpec : ChangeSpec := { name := "sleepRuns", fn := fun _ => fun
  | [d1, d2] => { results := [.lit (.bool true)], args := [d1, d2] }
  | _ => none }
def sleepRunsRow : OpenClaim := { program := "ytcfelhfcjdofoaagreatdoor", sum := "53517697b8fc2fee0bd697882397ea9a5696ddcaac0edeaad5e9a86c5bc47d5e", func := "scarab/scarablaw17.SleepRuns", spec := "sleepRuns", unfollowed := true, recurses := true, named := ["math/bits.deBruijn64tab"], plainKeys := false, apart := false, laid := [("math/bits.deBruijn64tab", laid_math_bits_deBruijn64tab)] }
def SleepRunsSaid : Prop := sleepRunsRow.holds Tryz.pinned (OpenSpec.ofChange sleepRunsSpec)

/-- ITS FALSE NEIGHBOUR: 'it returns false'. Refute it at one input. -/
def sleepRunsWrong : ChangeSpec := { name := "sleepRuns", fn := fun _ => fun
  | [d1, d2] => { results := [.lit (.bool false)], args := [d1, d2] }
  | _ => none }
def SleepRunsWrongFalsely : Prop := sleepRunsRow.holds Tryz.pinned (OpenSpec.ofChange sleepRunsWrong)

/-- 'scarablaw17.SleepTallies': WHATEVER THE INPUT: true; the input reads as it did. -/
def sleepTalliesSpec : ChangeSpec := { name := "sleepTallies", fn := fun _ => fun
  | [d1, d2] => { results := [.lit (.bool true)], args := [d1, d2] }
  | _ => none }
def sleepTalliesRow : OpenClaim := { program := "ytcfelhfcjdofoaagreatdoor", sum := "53517697b8fc2fee0bd697882397ea9a5696ddcaac0edeaad5e9a86c5bc47d5e", func := "scarab/scarablaw17.SleepTallies", spec := "sleepTallies", unfollowed := true, recurses := true, named := ["math/bits.deBruijn64tab"], plainKeys := false, apart := false, laid := [("math/bits.deBruijn64tab", laid_math_bits_deBruijn64tab)] }
def SleepTalliesSaid : Prop := sleepTalliesRow.holds Tryz.pinned (OpenSpec.ofChange sleepTalliesSpec)

/-- ITS FALSE NEIGHBOUR: 'it returns false'. Refute it at one input. -/
def sleepTalliesWrong : ChangeSpec := { name := "sleepTallies", fn := fun _ => fun
  | [d1, d2] => { results := [.lit (.bool false)], args := [d1, d2] }
  | _ => none }
def SleepTalliesWrongFalsely : Prop := sleepTalliesRow.holds Tryz.pinned (OpenSpec.ofChange sleepTalliesWrong)

/-- 'scarablaw17.SleepSets': WHATEVER THE INPUT: true; the input reads as it did. -/
def sleepSetsSpec : ChangeSpec := { name := "sleepSets", fn := fun _ => fun
  | [d1, d2, d3] => { results := [.lit (.bool true)], args := [d1, d2, d3] }
  | _ => none }
def sleepSetsRow : OpenClaim := { program := "ytcfelhfcjdofoaagreatdoor", sum := "53517697b8fc2fee0bd697882397ea9a5696ddcaac0edeaad5e9a86c5bc47d5e", func := "scarab/scarablaw17.SleepSets", spec := "sleepSets", unfollowed := true, recurses := true, named := ["math/bits.deBruijn64tab"], plainKeys := false, apart := false, laid := [("math/bits.deBruijn64tab", laid_math_bits_deBruijn64tab)] }
def SleepSetsSaid : Prop := sleepSetsRow.holds Tryz.pinned (OpenSpec.ofChange sleepSetsSpec)

/-- ITS FALSE NEIGHBOUR: 'it returns false'. Refute it at one input. -/
def sleepSetsWrong : ChangeSpec := { name := "sleepSets", fn := fun _ => fun
  | [d1, d2, d3] => { results := [.lit (.bool false)], args := [d1, d2, d3] }
  | _ => none }
def SleepSetsWrongFalsely : Prop := sleepSetsRow.holds Tryz.pinned (OpenSpec.ofChange sleepSetsWrong)

/-- 'scarablaw18.PersistRuns': WHATEVER THE INPUT: true; the input reads as it did. -/
def persistRunsSpec : ChangeSpec := { name := "persistRuns", fn := fun _ => fun
  | [d1, d2] => { results := [.lit (.bool true)], args := [d1, d2] }
  | _ => none }
def persistRunsRow : OpenClaim := { program := "ytcfelhfcjdofoaagreatdoor", sum := "53517697b8fc2fee0bd697882397ea9a5696ddcaac0edeaad5e9a86c5bc47d5e", func := "scarab/scarablaw18.PersistRuns", spec := "persistRuns", unfollowed := true, recurses := true, named := ["math/bits.deBruijn64tab"], plainKeys := false, apart := false, laid := [("math/bits.deBruijn64tab", laid_math_bits_deBruijn64tab)] }
def PersistRunsSaid : Prop := persistRunsRow.holds Tryz.pinned (OpenSpec.ofChange persistRunsSpec)

/-- ITS FALSE NEIGHBOUR: 'it returns false'. Refute it at one input. -/
def persistRunsWrong : ChangeSpec := { name := "persistRuns", fn := fun _ => fun
  | [d1, d2] => { results := [.lit (.bool false)], args := [d1, d2] }
  | _ => none }
def PersistRunsWrongFalsely : Prop := persistRunsRow.holds Tryz.pinned (OpenSpec.ofChange persistRunsWrong)

/-- 'scarablaw18.PersistSets': WHATEVER THE INPUT: true; the input reads as it did. -/
def persistSetsSpec : ChangeSpec := { name := "persistSets", fn := fun _ => fun
  | [d1, d2, d3] => { results := [.lit (.bool true)], args := [d1, d2, d3] }
  | _ => none }
def persistSetsRow : OpenClaim := { program := "ytcfelhfcjdofoaagreatdoor", sum := "53517697b8fc2fee0bd697882397ea9a5696ddcaac0edeaad5e9a86c5bc47d5e", func := "scarab/scarablaw18.PersistSets", spec := "persistSets", unfollowed := true, recurses := true, named := ["math/bits.deBruijn64tab"], plainKeys := false, apart := false, laid := [("math/bits.deBruijn64tab", laid_math_bits_deBruijn64tab)] }
def PersistSetsSaid : Prop := persistSetsRow.holds Tryz.pinned (OpenSpec.ofChange persistSetsSpec)

/-- ITS FALSE NEIGHBOUR: 'it returns false'. Refute it at one input. -/
def persistSetsWrong : ChangeSpec := { name := "persistSets", fn := fun _ => fun
  | [d1, d2, d3] => { results := [.lit (.bool false)], args := [d1, d2, d3] }
  | _ => none }
def PersistSetsWrongFalsely : Prop := persistSetsRow.holds Tryz.pinned (OpenSpec.ofChange persistSetsWrong)

/-- 'scarablaw18.PersistCloses': WHATEVER THE INPUT: true; the input reads as it did. -/
def persistClosesSpec : ChangeSpec := { name := "persistCloses", fn := fun _ => fun
  | [d1, d2, d3] => { results := [.lit (.bool true)], args := [d1, d2, d3] }
  | _ => none }
def persistClosesRow : OpenClaim := { program := "ytcfelhfcjdofoaagreatdoor", sum := "53517697b8fc2fee0bd697882397ea9a5696ddcaac0edeaad5e9a86c5bc47d5e", func := "scarab/scarablaw18.PersistCloses", spec := "persistCloses", unfollowed := true, recurses := true, named := ["math/bits.deBruijn64tab"], plainKeys := false, apart := false, laid := [("math/bits.deBruijn64tab", laid_math_bits_deBruijn64tab)] }
def PersistClosesSaid : Prop := persistClosesRow.holds Tryz.pinned (OpenSpec.ofChange persistClosesSpec)

/-- ITS FALSE NEIGHBOUR: 'it returns false'. Refute it at one input. -/
def persistClosesWrong : ChangeSpec := { name := "persistCloses", fn := fun _ => fun
  | [d1, d2, d3] => { results := [.lit (.bool false)], args := [d1, d2, d3] }
  | _ => none }
def PersistClosesWrongFalsely : Prop := persistClosesRow.holds Tryz.pinned (OpenSpec.ofChange persistClosesWrong)

/- THE SECOND FORM. 'bulk': how many values and letters a reading holds, each counted each time it is reached (what is shared counts as often as it is met; a slice's spare places count too). A statement '..UptoSaid' is the law's where the arguments, and the package variables that the reading takes, are together of bulk at most 1048576: NARROWER than '..Said'. Prove '..Said' where nothing that the law and all that it calls make is longer than what came in: it says more and counts as full. Else prove '..UptoSaid'. A law counts once. -/
mutual
def uptoBulk {H : Type} : DataW H → Nat
  | .lit (.string bytes) => bytes.length + 1
  | .lit _ => 1
  | .nil => 1
  | .ptr d => uptoBulk d + 1
  | .slice elems spare => uptoBulkAll elems + uptoBulkAll spare + 1
  | .agg parts => uptoBulkAll parts + 1
  | .iface _ d => uptoBulk d + 1
  | .map entries => uptoBulkEntries entries + 1
  | .held _ => 1
def uptoBulkAll {H : Type} : List (DataW H) → Nat
  | [] => 0
  | d :: r => uptoBulk d + uptoBulkAll r
def uptoBulkEntries {H : Type} : List (Lit × DataW H) → Nat
  | [] => 0
  | x :: r => uptoBulkEntry x + uptoBulkEntries r
def uptoBulkEntry {H : Type} : Lit × DataW H → Nat
  | (.string bytes, d) => bytes.length + uptoBulk d + 1
  | (_, d) => uptoBulk d + 1
 end
def uptoSmall : (H : Type) → List (DataW H) → Bool := fun _ ds => decide (uptoBulkAll ds ≤ 1048576)
def OpenSpec.upto (s : _root_.Go.ChangeSpec) : _root_.Go.OpenSpec := { _root_.Go.OpenSpec.ofChange s with cond := some uptoSmall }

/-- 'scarablaw15.TreeRuns', WHERE WHAT IT READS IS OF BULK AT MOST 1048576: true; the input reads as it did. -/
def treeRunsUptoRow : OpenClaim := { program := "ytcfelhfcjdofoaagreatdoor", sum := "53517697b8fc2fee0bd697882397ea9a5696ddcaac0edeaad5e9a86c5bc47d5e", func := "scarab/scarablaw15.TreeRuns", spec := "treeRuns", unfollowed := true, recurses := true, named := ["math/bits.deBruijn64tab"], plainKeys := false, apart := false, laid := [("math/bits.deBruijn64tab", laid_math_bits_deBruijn64tab)], narrowed := true }
def TreeRunsUptoSaid : Prop := treeRunsUptoRow.holds Tryz.pinned (OpenSpec.upto treeRunsSpec)

/-- 'scarablaw15.TreeGrows', WHERE WHAT IT READS IS OF BULK AT MOST 1048576: true; the input reads as it did. -/
def treeGrowsUptoRow : OpenClaim := { program := "ytcfelhfcjdofoaagreatdoor", sum := "53517697b8fc2fee0bd697882397ea9a5696ddcaac0edeaad5e9a86c5bc47d5e", func := "scarab/scarablaw15.TreeGrows", spec := "treeGrows", unfollowed := true, recurses := true, named := ["math/bits.deBruijn64tab"], plainKeys := false, apart := false, laid := [("math/bits.deBruijn64tab", laid_math_bits_deBruijn64tab)], narrowed := true }
def TreeGrowsUptoSaid : Prop := treeGrowsUptoRow.holds Tryz.pinned (OpenSpec.upto treeGrowsSpec)

/-- 'scarablaw15.TreeEnds', WHERE WHAT IT READS IS OF BULK AT MOST 1048576: true; the input reads as it did. -/
def treeEndsUptoRow : OpenClaim := { program := "ytcfelhfcjdofoaagreatdoor", sum := "53517697b8fc2fee0bd697882397ea9a5696ddcaac0edeaad5e9a86c5bc47d5e", func := "scarab/scarablaw15.TreeEnds", spec := "treeEnds", unfollowed := true, recurses := true, named := ["math/bits.deBruijn64tab"], plainKeys := false, apart := false, laid := [("math/bits.deBruijn64tab", laid_math_bits_deBruijn64tab)], narrowed := true }
def TreeEndsUptoSaid : Prop := treeEndsUptoRow.holds Tryz.pinned (OpenSpec.upto treeEndsSpec)

/-- 'scarablaw15.TreeRise', WHERE WHAT IT READS IS OF BULK AT MOST 1048576: true; the input reads as it did. -/
def treeRiseUptoRow : OpenClaim := { program := "ytcfelhfcjdofoaagreatdoor", sum := "53517697b8fc2fee0bd697882397ea9a5696ddcaac0edeaad5e9a86c5bc47d5e", func := "scarab/scarablaw15.TreeRise", spec := "treeRise", unfollowed := true, recurses := true, named := ["math/bits.deBruijn64tab"], plainKeys := false, apart := false, laid := [("math/bits.deBruijn64tab", laid_math_bits_deBruijn64tab)], narrowed := true }
def TreeRiseUptoSaid : Prop := treeRiseUptoRow.holds Tryz.pinned (OpenSpec.upto treeRiseSpec)

/-- 'scarablaw15.TreeWhole', WHERE WHAT IT READS IS OF BULK AT MOST 1048576: true; the input reads as it did. -/
def treeWholeUptoRow : OpenClaim := { program := "ytcfelhfcjdofoaagreatdoor", sum := "53517697b8fc2fee0bd697882397ea9a5696ddcaac0edeaad5e9a86c5bc47d5e", func := "scarab/scarablaw15.TreeWhole", spec := "treeWhole", unfollowed := true, recurses := true, named := ["math/bits.deBruijn64tab"], plainKeys := false, apart := false, laid := [("math/bits.deBruijn64tab", laid_math_bits_deBruijn64tab)], narrowed := true }
def TreeWholeUptoSaid : Prop := treeWholeUptoRow.holds Tryz.pinned (OpenSpec.upto treeWholeSpec)

/-- 'scarablaw15.TreeFirsts', WHERE WHAT IT READS IS OF BULK AT MOST 1048576: true; the input reads as it did. -/
def treeFirstsUptoRow : OpenClaim := { program := "ytcfelhfcjdofoaagreatdoor", sum := "53517697b8fc2fee0bd697882397ea9a5696ddcaac0edeaad5e9a86c5bc47d5e", func := "scarab/scarablaw15.TreeFirsts", spec := "treeFirsts", unfollowed := true, recurses := true, named := ["math/bits.deBruijn64tab"], plainKeys := false, apart := false, laid := [("math/bits.deBruijn64tab", laid_math_bits_deBruijn64tab)], narrowed := true }
def TreeFirstsUptoSaid : Prop := treeFirstsUptoRow.holds Tryz.pinned (OpenSpec.upto treeFirstsSpec)

/-- 'scarablaw17.SleepRuns', WHERE WHAT IT READS IS OF BULK AT MOST 1048576: true; the input reads as it did. -/
def sleepRunsUptoRow : OpenClaim := { program := "ytcfelhfcjdofoaagreatdoor", sum := "53517697b8fc2fee0bd697882397ea9a5696ddcaac0edeaad5e9a86c5bc47d5e", func := "scarab/scarablaw17.SleepRuns", spec := "sleepRuns", unfollowed := true, recurses := true, named := ["math/bits.deBruijn64tab"], plainKeys := false, apart := false, laid := [("math/bits.deBruijn64tab", laid_math_bits_deBruijn64tab)], narrowed := true }
def SleepRunsUptoSaid : Prop := sleepRunsUptoRow.holds Tryz.pinned (OpenSpec.upto sleepRunsSpec)

/-- 'scarablaw17.SleepTallies', WHERE WHAT IT READS IS OF BULK AT MOST 1048576: true; the input reads as it did. -/
def sleepTalliesUptoRow : OpenClaim := { program := "ytcfelhfcjdofoaagreatdoor", sum := "53517697b8fc2fee0bd697882397ea9a5696ddcaac0edeaad5e9a86c5bc47d5e", func := "scarab/scarablaw17.SleepTallies", spec := "sleepTallies", unfollowed := true, recurses := true, named := ["math/bits.deBruijn64tab"], plainKeys := false, apart := false, laid := [("math/bits.deBruijn64tab", laid_math_bits_deBruijn64tab)], narrowed := true }
def SleepTalliesUptoSaid : Prop := sleepTalliesUptoRow.holds Tryz.pinned (OpenSpec.upto sleepTalliesSpec)

/-- 'scarablaw17.SleepSets', WHERE WHAT IT READS IS OF BULK AT MOST 1048576: true; the input reads as it did. -/
def sleepSetsUptoRow : OpenClaim := { program := "ytcfelhfcjdofoaagreatdoor", sum := "53517697b8fc2fee0bd697882397ea9a5696ddcaac0edeaad5e9a86c5bc47d5e", func := "scarab/scarablaw17.SleepSets", spec := "sleepSets", unfollowed := true, recurses := true, named := ["math/bits.deBruijn64tab"], plainKeys := false, apart := false, laid := [("math/bits.deBruijn64tab", laid_math_bits_deBruijn64tab)], narrowed := true }
def SleepSetsUptoSaid : Prop := sleepSetsUptoRow.holds Tryz.pinned (OpenSpec.upto sleepSetsSpec)

/-- 'scarablaw18.PersistRuns', WHERE WHAT IT READS IS OF BULK AT MOST 1048576: true; the input reads as it did. -/
def persistRunsUptoRow : OpenClaim := { program := "ytcfelhfcjdofoaagreatdoor", sum := "53517697b8fc2fee0bd697882397ea9a5696ddcaac0edeaad5e9a86c5bc47d5e", func := "scarab/scarablaw18.PersistRuns", spec := "persistRuns", unfollowed := true, recurses := true, named := ["math/bits.deBruijn64tab"], plainKeys := false, apart := false, laid := [("math/bits.deBruijn64tab", laid_math_bits_deBruijn64tab)], narrowed := true }
def PersistRunsUptoSaid : Prop := persistRunsUptoRow.holds Tryz.pinned (OpenSpec.upto persistRunsSpec)

/-- 'scarablaw18.PersistSets', WHERE WHAT IT READS IS OF BULK AT MOST 1048576: true; the input reads as it did. -/
def persistSetsUptoRow : OpenClaim := { program := "ytcfelhfcjdofoaagreatdoor", sum := "53517697b8fc2fee0bd697882397ea9a5696ddcaac0edeaad5e9a86c5bc47d5e", func := "scarab/scarablaw18.PersistSets", spec := "persistSets", unfollowed := true, recurses := true, named := ["math/bits.deBruijn64tab"], plainKeys := false, apart := false, laid := [("math/bits.deBruijn64tab", laid_math_bits_deBruijn64tab)], narrowed := true }
def PersistSetsUptoSaid : Prop := persistSetsUptoRow.holds Tryz.pinned (OpenSpec.upto persistSetsSpec)

/-- 'scarablaw18.PersistCloses', WHERE WHAT IT READS IS OF BULK AT MOST 1048576: true; the input reads as it did. -/
def persistClosesUptoRow : OpenClaim := { program := "ytcfelhfcjdofoaagreatdoor", sum := "53517697b8fc2fee0bd697882397ea9a5696ddcaac0edeaad5e9a86c5bc47d5e", func := "scarab/scarablaw18.PersistCloses", spec := "persistCloses", unfollowed := true, recurses := true, named := ["math/bits.deBruijn64tab"], plainKeys := false, apart := false, laid := [("math/bits.deBruijn64tab", laid_math_bits_deBruijn64tab)], narrowed := true }
def PersistClosesUptoSaid : Prop := persistClosesUptoRow.holds Tryz.pinned (OpenSpec.upto persistClosesSpec)

end Rows
end Go.Proofs.YtcfelhfcjdofoaaGreatDoor
