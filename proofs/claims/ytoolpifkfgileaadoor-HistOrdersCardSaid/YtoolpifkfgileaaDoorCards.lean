/-
  DERIVED. GIVEN WITH THE SEED: THE CARDS: each row of YtoolpifkfgileaaDoorRows.lean that lists a variable, with what it lists TIED to the program's text (the seventh form; the later family's looks); each row that meets fmt, with fmt's text TOLD by the authors' own Lean function (tested against real Go, not proved from fmt's source: count such statements apart). THE CARD IS WHAT COUNTS. Prove the row's statement (the work); the ties are given (YtoolpifkfgileaaDoorTie.lean); close each card by the builder's one call (the guide's Derived/Test/ToyasCard.lean, 'card_holds'). Laid BY PROGRAM, IN A SANDBOX (cutbox-door.mjs). By AI agents, Wed Nov 11 2026. No macro, syntax, notation, axiom, sorry.
-/
import Derived.Test.YtoolpifkfgileaaDoorRows
import GoSem.ClaimSeven
namespace Go.Proofs.YtoolpifkfgileaaDoor
namespace Rows

/-- THE TIED CARD OF 'fencepostlaw29.HistPrefix'. -/
def histPrefixCard : Claim7 := { stood := { row := histPrefixRow, standIns := [], harness := (true, "72a294a191d67a19d536ae3c98a3933793c0d974eecf4be5b3d5ad669d9e81ea"), looks := false }, kinds := [], alts := [], laidByText := true, laidKinds := [.data, .data, .data], laidTests := true, laidLooks := .later }
def HistPrefixCardSaid : Prop := Claim7.holds Tryd.pinned (.plain (OpenSpec.ofChange histPrefixSpec)) histPrefixCard

/-- THE TIED CARD OF 'fencepostlaw29.HistParts'. -/
def histPartsCard : Claim7 := { stood := { row := histPartsRow, standIns := [], harness := (true, "72a294a191d67a19d536ae3c98a3933793c0d974eecf4be5b3d5ad669d9e81ea"), looks := false }, kinds := [], alts := [], laidByText := true, laidKinds := [.data, .data, .data], laidTests := true, laidLooks := .later }
def HistPartsCardSaid : Prop := Claim7.holds Tryd.pinned (.plain (OpenSpec.ofChange histPartsSpec)) histPartsCard

/-- THE TIED CARD OF 'fencepostlaw29.HistWider'. -/
def histWiderCard : Claim7 := { stood := { row := histWiderRow, standIns := [], harness := (true, "72a294a191d67a19d536ae3c98a3933793c0d974eecf4be5b3d5ad669d9e81ea"), looks := false }, kinds := [], alts := [], laidByText := true, laidKinds := [.data, .data, .data], laidTests := true, laidLooks := .later }
def HistWiderCardSaid : Prop := Claim7.holds Tryd.pinned (.plain (OpenSpec.ofChange histWiderSpec)) histWiderCard

/-- THE TIED CARD OF 'fencepostlaw29.HistSpec'. -/
def histSpecCard : Claim7 := { stood := { row := histSpecRow, standIns := [], harness := (true, "72a294a191d67a19d536ae3c98a3933793c0d974eecf4be5b3d5ad669d9e81ea"), looks := false }, kinds := [], alts := [], laidByText := true, laidKinds := [.data, .data, .data], laidTests := true, laidLooks := .later }
def HistSpecCardSaid : Prop := Claim7.holds Tryd.pinned (.plain (OpenSpec.ofChange histSpecSpec)) histSpecCard

/-- THE TIED CARD OF 'fencepostlaw29.HistNames'. -/
def histNamesCard : Claim7 := { stood := { row := histNamesRow, standIns := [], harness := (true, "72a294a191d67a19d536ae3c98a3933793c0d974eecf4be5b3d5ad669d9e81ea"), looks := false }, kinds := [], alts := [], laidByText := true, laidKinds := [.data, .data, .data], laidTests := true, laidLooks := .later }
def HistNamesCardSaid : Prop := Claim7.holds Tryd.pinned (.plain (OpenSpec.ofChange histNamesSpec)) histNamesCard

/-- THE TIED CARD OF 'fencepostlaw29.HistOrders'. -/
def histOrdersCard : Claim7 := { stood := { row := histOrdersRow, standIns := [], harness := (true, "72a294a191d67a19d536ae3c98a3933793c0d974eecf4be5b3d5ad669d9e81ea"), looks := false }, kinds := [], alts := [], laidByText := true, laidKinds := [.data, .data, .data], laidTests := true, laidLooks := .later }
def HistOrdersCardSaid : Prop := Claim7.holds Tryd.pinned (.plain (OpenSpec.ofChange histOrdersSpec)) histOrdersCard

/-- THE SECOND FORM's CARD OF 'fencepostlaw29.HistPrefix'. -/
def histPrefixUptoCard : Claim7 := { stood := { row := histPrefixUptoRow, standIns := [], harness := (true, "72a294a191d67a19d536ae3c98a3933793c0d974eecf4be5b3d5ad669d9e81ea"), looks := false }, kinds := [], alts := [], laidByText := true, laidKinds := [.data, .data, .data], laidTests := true, laidLooks := .later }
def HistPrefixUptoCardSaid : Prop := Claim7.holds Tryd.pinned (.plain (OpenSpec.upto histPrefixSpec)) histPrefixUptoCard

/-- THE SECOND FORM's CARD OF 'fencepostlaw29.HistParts'. -/
def histPartsUptoCard : Claim7 := { stood := { row := histPartsUptoRow, standIns := [], harness := (true, "72a294a191d67a19d536ae3c98a3933793c0d974eecf4be5b3d5ad669d9e81ea"), looks := false }, kinds := [], alts := [], laidByText := true, laidKinds := [.data, .data, .data], laidTests := true, laidLooks := .later }
def HistPartsUptoCardSaid : Prop := Claim7.holds Tryd.pinned (.plain (OpenSpec.upto histPartsSpec)) histPartsUptoCard

/-- THE SECOND FORM's CARD OF 'fencepostlaw29.HistWider'. -/
def histWiderUptoCard : Claim7 := { stood := { row := histWiderUptoRow, standIns := [], harness := (true, "72a294a191d67a19d536ae3c98a3933793c0d974eecf4be5b3d5ad669d9e81ea"), looks := false }, kinds := [], alts := [], laidByText := true, laidKinds := [.data, .data, .data], laidTests := true, laidLooks := .later }
def HistWiderUptoCardSaid : Prop := Claim7.holds Tryd.pinned (.plain (OpenSpec.upto histWiderSpec)) histWiderUptoCard

/-- THE SECOND FORM's CARD OF 'fencepostlaw29.HistSpec'. -/
def histSpecUptoCard : Claim7 := { stood := { row := histSpecUptoRow, standIns := [], harness := (true, "72a294a191d67a19d536ae3c98a3933793c0d974eecf4be5b3d5ad669d9e81ea"), looks := false }, kinds := [], alts := [], laidByText := true, laidKinds := [.data, .data, .data], laidTests := true, laidLooks := .later }
def HistSpecUptoCardSaid : Prop := Claim7.holds Tryd.pinned (.plain (OpenSpec.upto histSpecSpec)) histSpecUptoCard

/-- THE SECOND FORM's CARD OF 'fencepostlaw29.HistNames'. -/
def histNamesUptoCard : Claim7 := { stood := { row := histNamesUptoRow, standIns := [], harness := (true, "72a294a191d67a19d536ae3c98a3933793c0d974eecf4be5b3d5ad669d9e81ea"), looks := false }, kinds := [], alts := [], laidByText := true, laidKinds := [.data, .data, .data], laidTests := true, laidLooks := .later }
def HistNamesUptoCardSaid : Prop := Claim7.holds Tryd.pinned (.plain (OpenSpec.upto histNamesSpec)) histNamesUptoCard

/-- THE SECOND FORM's CARD OF 'fencepostlaw29.HistOrders'. -/
def histOrdersUptoCard : Claim7 := { stood := { row := histOrdersUptoRow, standIns := [], harness := (true, "72a294a191d67a19d536ae3c98a3933793c0d974eecf4be5b3d5ad669d9e81ea"), looks := false }, kinds := [], alts := [], laidByText := true, laidKinds := [.data, .data, .data], laidTests := true, laidLooks := .later }
def HistOrdersUptoCardSaid : Prop := Claim7.holds Tryd.pinned (.plain (OpenSpec.upto histOrdersSpec)) histOrdersUptoCard
end Rows
end Go.Proofs.YtoolpifkfgileaaDoor
