/-
  DERIVED. GIVEN WITH THE SEED: THE CARDS: each row of YtknnmidnodeanaaGreatDoorRows.lean that lists a variable, with what it lists TIED to the program's text (the seventh form; the later family's looks); each row that meets fmt, with fmt's text TOLD by the authors' own Lean function (tested against real Go, not proved from fmt's source: count such statements apart). THE CARD IS WHAT COUNTS. Prove the row's statement (the work); the ties are given (YtknnmidnodeanaaGreatDoorTie.lean); close each card by the builder's one call (the guide's Derived/Test/ToyasCard.lean, 'card_holds'). Laid BY PROGRAM, IN A SANDBOX (cutbox-door.mjs). By AI agents, Wed Nov 11 2026. No macro, syntax, notation, axiom, sorry.
-/
import Derived.Test.YtknnmidnodeanaaGreatDoorRows
import GoSem.ClaimSeven
namespace Go.Proofs.YtknnmidnodeanaaGreatDoor
namespace Rows

/-- THE TIED CARD OF 'fencepostlaw18.CheckLess'. -/
def checkLessCard : Claim7 := { stood := { row := checkLessRow, standIns := [], harness := (true, "becf16929fedbc1eada76b0b05a61f60e25ff2a6ca358c5234be36840033176e"), looks := true }, kinds := [], alts := [], laidByText := true, laidKinds := [.listed, .data], laidTests := true, laidLooks := .later }
def CheckLessCardSaid : Prop := Claim7.holds Tryz.pinned (.plain (OpenSpec.ofChange checkLessSpec)) checkLessCard

/-- THE TIED CARD OF 'fencepostlaw18.CheckThreads'. -/
def checkThreadsCard : Claim7 := { stood := { row := checkThreadsRow, standIns := [], harness := (true, "becf16929fedbc1eada76b0b05a61f60e25ff2a6ca358c5234be36840033176e"), looks := true }, kinds := [], alts := [], laidByText := true, laidKinds := [.listed, .data], laidTests := true, laidLooks := .later }
def CheckThreadsCardSaid : Prop := Claim7.holds Tryz.pinned (.plain (OpenSpec.ofChange checkThreadsSpec)) checkThreadsCard

/-- THE TIED CARD OF 'fencepostlaw18.CheckRenames'. -/
def checkRenamesCard : Claim7 := { stood := { row := checkRenamesRow, standIns := [], harness := (true, "becf16929fedbc1eada76b0b05a61f60e25ff2a6ca358c5234be36840033176e"), looks := true }, kinds := [], alts := [], laidByText := true, laidKinds := [.listed, .data], laidTests := true, laidLooks := .later }
def CheckRenamesCardSaid : Prop := Claim7.holds Tryz.pinned (.plain (OpenSpec.ofChange checkRenamesSpec)) checkRenamesCard

/-- THE SECOND FORM's CARD OF 'fencepostlaw18.CheckLess'. -/
def checkLessUptoCard : Claim7 := { stood := { row := checkLessUptoRow, standIns := [], harness := (true, "becf16929fedbc1eada76b0b05a61f60e25ff2a6ca358c5234be36840033176e"), looks := true }, kinds := [], alts := [], laidByText := true, laidKinds := [.listed, .data], laidTests := true, laidLooks := .later }
def CheckLessUptoCardSaid : Prop := Claim7.holds Tryz.pinned (.plain (OpenSpec.upto checkLessSpec)) checkLessUptoCard

/-- THE SECOND FORM's CARD OF 'fencepostlaw18.CheckThreads'. -/
def checkThreadsUptoCard : Claim7 := { stood := { row := checkThreadsUptoRow, standIns := [], harness := (true, "becf16929fedbc1eada76b0b05a61f60e25ff2a6ca358c5234be36840033176e"), looks := true }, kinds := [], alts := [], laidByText := true, laidKinds := [.listed, .data], laidTests := true, laidLooks := .later }
def CheckThreadsUptoCardSaid : Prop := Claim7.holds Tryz.pinned (.plain (OpenSpec.upto checkThreadsSpec)) checkThreadsUptoCard

/-- THE SECOND FORM's CARD OF 'fencepostlaw18.CheckRenames'. -/
def checkRenamesUptoCard : Claim7 := { stood := { row := checkRenamesUptoRow, standIns := [], harness := (true, "becf16929fedbc1eada76b0b05a61f60e25ff2a6ca358c5234be36840033176e"), looks := true }, kinds := [], alts := [], laidByText := true, laidKinds := [.listed, .data], laidTests := true, laidLooks := .later }
def CheckRenamesUptoCardSaid : Prop := Claim7.holds Tryz.pinned (.plain (OpenSpec.upto checkRenamesSpec)) checkRenamesUptoCard
end Rows
end Go.Proofs.YtknnmidnodeanaaGreatDoor
