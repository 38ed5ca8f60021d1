/-
  DERIVED. GIVEN WITH THE SEED: THE CARDS: each row of YtcfelhfcjdofoaaGreatDoorRows.lean that lists a variable, with what it lists TIED to the program's text (the seventh form; the later family's looks); each row that meets fmt, with fmt's text TOLD by the authors' own Lean function (tested against real Go, not proved from fmt's source: count such statements apart). THE CARD IS WHAT COUNTS. Prove the row's statement (the work); the ties are given (YtcfelhfcjdofoaaGreatDoorTie.lean); close each card by the builder's one call (the guide's Derived/Test/ToyasCard.lean, 'card_holds'). Laid BY PROGRAM, IN A SANDBOX (cutbox-door.mjs). By AI agents, Wed Nov 11 2026. No macro, syntax, notation, axiom, sorry.
-/
import Derived.Test.YtcfelhfcjdofoaaGreatDoorRows
import GoSem.ClaimSeven
namespace Go.Proofs.YtcfelhfcjdofoaaGreatDoor
namespace Rows

/-- THE TIED CARD OF 'scarablaw15.TreeRuns'. -/
def treeRunsCard : Claim7 := { stood := { row := treeRunsRow, standIns := [], harness := (true, "c261f34d06e32309437328cb2908438c743783b67a56382ed35cf48bd8b105ae"), looks := false }, kinds := [], alts := [], laidByText := true, laidKinds := [.data], laidTests := true, laidLooks := .later }
def TreeRunsCardSaid : Prop := Claim7.holds Tryz.pinned (.plain (OpenSpec.ofChange treeRunsSpec)) treeRunsCard

/-- THE TIED CARD OF 'scarablaw15.TreeGrows'. -/
def treeGrowsCard : Claim7 := { stood := { row := treeGrowsRow, standIns := [], harness := (true, "c261f34d06e32309437328cb2908438c743783b67a56382ed35cf48bd8b105ae"), looks := false }, kinds := [], alts := [], laidByText := true, laidKinds := [.data], laidTests := true, laidLooks := .later }
def TreeGrowsCardSaid : Prop := Claim7.holds Tryz.pinned (.plain (OpenSpec.ofChange treeGrowsSpec)) treeGrowsCard

/-- THE TIED CARD OF 'scarablaw15.TreeEnds'. -/
def treeEndsCard : Claim7 := { stood := { row := treeEndsRow, standIns := [], harness := (true, "c261f34d06e32309437328cb2908438c743783b67a56382ed35cf48bd8b105ae"), looks := false }, kinds := [], alts := [], laidByText := true, laidKinds := [.data], laidTests := true, laidLooks := .later }
def TreeEndsCardSaid : Prop := Claim7.holds Tryz.pinned (.plain (OpenSpec.ofChange treeEndsSpec)) treeEndsCard

/-- THE TIED CARD OF 'scarablaw15.TreeRise'. -/
def treeRiseCard : Claim7 := { stood := { row := treeRiseRow, standIns := [], harness := (true, "c261f34d06e32309437328cb2908438c743783b67a56382ed35cf48bd8b105ae"), looks := false }, kinds := [], alts := [], laidByText := true, laidKinds := [.data], laidTests := true, laidLooks := .later }
def TreeRiseCardSaid : Prop := Claim7.holds Tryz.pinned (.plain (OpenSpec.ofChange treeRiseSpec)) treeRiseCard

/-- THE TIED CARD OF 'scarablaw15.TreeWhole'. -/
def treeWholeCard : Claim7 := { stood := { row := treeWholeRow, standIns := [], harness := (true, "c261f34d06e32309437328cb2908438c743783b67a56382ed35cf48bd8b105ae"), looks := false }, kinds := [], alts := [], laidByText := true, laidKinds := [.data], laidTests := true, laidLooks := .later }
def TreeWholeCardSaid : Prop := Claim7.holds Tryz.pinned (.plain (OpenSpec.ofChange treeWholeSpec)) treeWholeCard

/-- THE TIED CARD OF 'scarablaw15.TreeFirsts'. -/
def treeFirstsCard : Claim7 := { stood := { row := treeFirstsRow, standIns := [], harness := (true, "c261f34d06e32309437328cb2908438c743783b67a56382ed35cf48bd8b105ae"), looks := false }, kinds := [], alts := [], laidByText := true, laidKinds := [.data], laidTests := true, laidLooks := .later }
def TreeFirstsCardSaid : Prop := Claim7.holds Tryz.pinned (.plain (OpenSpec.ofChange treeFirstsSpec)) treeFirstsCard

/-- THE TIED CARD OF 'scarablaw17.SleepRuns'. -/
def sleepRunsCard : Claim7 := { stood := { row := sleepRunsRow, standIns := [], harness := (true, "c261f34d06e32309437328cb2908438c743783b67a56382ed35cf48bd8b105ae"), looks := false }, kinds := [], alts := [], laidByText := true, laidKinds := [.data], laidTests := true, laidLooks := .later }
def SleepRunsCardSaid : Prop := Claim7.holds Tryz.pinned (.plain (OpenSpec.ofChange sleepRunsSpec)) sleepRunsCard

/-- THE TIED CARD OF 'scarablaw17.SleepTallies'. -/
def sleepTalliesCard : Claim7 := { stood := { row := sleepTalliesRow, standIns := [], harness := (true, "c261f34d06e32309437328cb2908438c743783b67a56382ed35cf48bd8b105ae"), looks := false }, kinds := [], alts := [], laidByText := true, laidKinds := [.data], laidTests := true, laidLooks := .later }
def SleepTalliesCardSaid : Prop := Claim7.holds Tryz.pinned (.plain (OpenSpec.ofChange sleepTalliesSpec)) sleepTalliesCard

/-- THE TIED CARD OF 'scarablaw17.SleepSets'. -/
def sleepSetsCard : Claim7 := { stood := { row := sleepSetsRow, standIns := [], harness := (true, "c261f34d06e32309437328cb2908438c743783b67a56382ed35cf48bd8b105ae"), looks := false }, kinds := [], alts := [], laidByText := true, laidKinds := [.data], laidTests := true, laidLooks := .later }
def SleepSetsCardSaid : Prop := Claim7.holds Tryz.pinned (.plain (OpenSpec.ofChange sleepSetsSpec)) sleepSetsCard

/-- THE TIED CARD OF 'scarablaw18.PersistRuns'. -/
def persistRunsCard : Claim7 := { stood := { row := persistRunsRow, standIns := [], harness := (true, "c261f34d06e32309437328cb2908438c743783b67a56382ed35cf48bd8b105ae"), looks := false }, kinds := [], alts := [], laidByText := true, laidKinds := [.data], laidTests := true, laidLooks := .later }
def PersistRunsCardSaid : Prop := Claim7.holds Tryz.pinned (.plain (OpenSpec.ofChange persistRunsSpec)) persistRunsCard

/-- THE TIED CARD OF 'scarablaw18.PersistSets'. -/
def persistSetsCard : Claim7 := { stood := { row := persistSetsRow, standIns := [], harness := (true, "c261f34d06e32309437328cb2908438c743783b67a56382ed35cf48bd8b105ae"), looks := false }, kinds := [], alts := [], laidByText := true, laidKinds := [.data], laidTests := true, laidLooks := .later }
def PersistSetsCardSaid : Prop := Claim7.holds Tryz.pinned (.plain (OpenSpec.ofChange persistSetsSpec)) persistSetsCard

/-- THE TIED CARD OF 'scarablaw18.PersistCloses'. -/
def persistClosesCard : Claim7 := { stood := { row := persistClosesRow, standIns := [], harness := (true, "c261f34d06e32309437328cb2908438c743783b67a56382ed35cf48bd8b105ae"), looks := false }, kinds := [], alts := [], laidByText := true, laidKinds := [.data], laidTests := true, laidLooks := .later }
def PersistClosesCardSaid : Prop := Claim7.holds Tryz.pinned (.plain (OpenSpec.ofChange persistClosesSpec)) persistClosesCard

/-- THE SECOND FORM's CARD OF 'scarablaw15.TreeRuns'. -/
def treeRunsUptoCard : Claim7 := { stood := { row := treeRunsUptoRow, standIns := [], harness := (true, "c261f34d06e32309437328cb2908438c743783b67a56382ed35cf48bd8b105ae"), looks := false }, kinds := [], alts := [], laidByText := true, laidKinds := [.data], laidTests := true, laidLooks := .later }
def TreeRunsUptoCardSaid : Prop := Claim7.holds Tryz.pinned (.plain (OpenSpec.upto treeRunsSpec)) treeRunsUptoCard

/-- THE SECOND FORM's CARD OF 'scarablaw15.TreeGrows'. -/
def treeGrowsUptoCard : Claim7 := { stood := { row := treeGrowsUptoRow, standIns := [], harness := (true, "c261f34d06e32309437328cb2908438c743783b67a56382ed35cf48bd8b105ae"), looks := false }, kinds := [], alts := [], laidByText := true, laidKinds := [.data], laidTests := true, laidLooks := .later }
def TreeGrowsUptoCardSaid : Prop := Claim7.holds Tryz.pinned (.plain (OpenSpec.upto treeGrowsSpec)) treeGrowsUptoCard

/-- THE SECOND FORM's CARD OF 'scarablaw15.TreeEnds'. -/
def treeEndsUptoCard : Claim7 := { stood := { row := treeEndsUptoRow, standIns := [], harness := (true, "c261f34d06e32309437328cb2908438c743783b67a56382ed35cf48bd8b105ae"), looks := false }, kinds := [], alts := [], laidByText := true, laidKinds := [.data], laidTests := true, laidLooks := .later }
def TreeEndsUptoCardSaid : Prop := Claim7.holds Tryz.pinned (.plain (OpenSpec.upto treeEndsSpec)) treeEndsUptoCard

/-- THE SECOND FORM's CARD OF 'scarablaw15.TreeRise'. -/
def treeRiseUptoCard : Claim7 := { stood := { row := treeRiseUptoRow, standIns := [], harness := (true, "c261f34d06e32309437328cb2908438c743783b67a56382ed35cf48bd8b105ae"), looks := false }, kinds := [], alts := [], laidByText := true, laidKinds := [.data], laidTests := true, laidLooks := .later }
def TreeRiseUptoCardSaid : Prop := Claim7.holds Tryz.pinned (.plain (OpenSpec.upto treeRiseSpec)) treeRiseUptoCard

/-- THE SECOND FORM's CARD OF 'scarablaw15.TreeWhole'. -/
def treeWholeUptoCard : Claim7 := { stood := { row := treeWholeUptoRow, standIns := [], harness := (true, "c261f34d06e32309437328cb2908438c743783b67a56382ed35cf48bd8b105ae"), looks := false }, kinds := [], alts := [], laidByText := true, laidKinds := [.data], laidTests := true, laidLooks := .later }
def TreeWholeUptoCardSaid : Prop := Claim7.holds Tryz.pinned (.plain (OpenSpec.upto treeWholeSpec)) treeWholeUptoCard

/-- THE SECOND FORM's CARD OF 'scarablaw15.TreeFirsts'. -/
def treeFirstsUptoCard : Claim7 := { stood := { row := treeFirstsUptoRow, standIns := [], harness := (true, "c261f34d06e32309437328cb2908438c743783b67a56382ed35cf48bd8b105ae"), looks := false }, kinds := [], alts := [], laidByText := true, laidKinds := [.data], laidTests := true, laidLooks := .later }
def TreeFirstsUptoCardSaid : Prop := Claim7.holds Tryz.pinned (.plain (OpenSpec.upto treeFirstsSpec)) treeFirstsUptoCard

/-- THE SECOND FORM's CARD OF 'scarablaw17.SleepRuns'. -/
def sleepRunsUptoCard : Claim7 := { stood := { row := sleepRunsUptoRow, standIns := [], harness := (true, "c261f34d06e32309437328cb2908438c743783b67a56382ed35cf48bd8b105ae"), looks := false }, kinds := [], alts := [], laidByText := true, laidKinds := [.data], laidTests := true, laidLooks := .later }
def SleepRunsUptoCardSaid : Prop := Claim7.holds Tryz.pinned (.plain (OpenSpec.upto sleepRunsSpec)) sleepRunsUptoCard

/-- THE SECOND FORM's CARD OF 'scarablaw17.SleepTallies'. -/
def sleepTalliesUptoCard : Claim7 := { stood := { row := sleepTalliesUptoRow, standIns := [], harness := (true, "c261f34d06e32309437328cb2908438c743783b67a56382ed35cf48bd8b105ae"), looks := false }, kinds := [], alts := [], laidByText := true, laidKinds := [.data], laidTests := true, laidLooks := .later }
def SleepTalliesUptoCardSaid : Prop := Claim7.holds Tryz.pinned (.plain (OpenSpec.upto sleepTalliesSpec)) sleepTalliesUptoCard

/-- THE SECOND FORM's CARD OF 'scarablaw17.SleepSets'. -/
def sleepSetsUptoCard : Claim7 := { stood := { row := sleepSetsUptoRow, standIns := [], harness := (true, "c261f34d06e32309437328cb2908438c743783b67a56382ed35cf48bd8b105ae"), looks := false }, kinds := [], alts := [], laidByText := true, laidKinds := [.data], laidTests := true, laidLooks := .later }
def SleepSetsUptoCardSaid : Prop := Claim7.holds Tryz.pinned (.plain (OpenSpec.upto sleepSetsSpec)) sleepSetsUptoCard

/-- THE SECOND FORM's CARD OF 'scarablaw18.PersistRuns'. -/
def persistRunsUptoCard : Claim7 := { stood := { row := persistRunsUptoRow, standIns := [], harness := (true, "c261f34d06e32309437328cb2908438c743783b67a56382ed35cf48bd8b105ae"), looks := false }, kinds := [], alts := [], laidByText := true, laidKinds := [.data], laidTests := true, laidLooks := .later }
def PersistRunsUptoCardSaid : Prop := Claim7.holds Tryz.pinned (.plain (OpenSpec.upto persistRunsSpec)) persistRunsUptoCard

/-- THE SECOND FORM's CARD OF 'scarablaw18.PersistSets'. -/
def persistSetsUptoCard : Claim7 := { stood := { row := persistSetsUptoRow, standIns := [], harness := (true, "c261f34d06e32309437328cb2908438c743783b67a56382ed35cf48bd8b105ae"), looks := false }, kinds := [], alts := [], laidByText := true, laidKinds := [.data], laidTests := true, laidLooks := .later }
def PersistSetsUptoCardSaid : Prop := Claim7.holds Tryz.pinned (.plain (OpenSpec.upto persistSetsSpec)) persistSetsUptoCard

/-- THE SECOND FORM's CARD OF 'scarablaw18.PersistCloses'. -/
def persistClosesUptoCard : Claim7 := { stood := { row := persistClosesUptoRow, standIns := [], harness := (true, "c261f34d06e32309437328cb2908438c743783b67a56382ed35cf48bd8b105ae"), looks := false }, kinds := [], alts := [], laidByText := true, laidKinds := [.data], laidTests := true, laidLooks := .later }
def PersistClosesUptoCardSaid : Prop := Claim7.holds Tryz.pinned (.plain (OpenSpec.upto persistClosesSpec)) persistClosesUptoCard
end Rows
end Go.Proofs.YtcfelhfcjdofoaaGreatDoor
