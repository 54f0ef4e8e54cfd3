/-
  DERIVED. GIVEN WITH THE SEED: THE CARDS: each row of YtopodipjapiaoaaDoorRows.lean that lists a variable, with what it lists TIED to the program's text (the seventh form; the later family's looks); each row that meets fmt, with fmt's text TOLD by the authors' own Lean function (tested against real Go, not proved from fmt's source: count such statements apart). THE CARD IS WHAT COUNTS. Prove the row's statement (the work); the ties are given (YtopodipjapiaoaaDoorTie.lean); close each card by the builder's one call (the guide's Derived/Test/ToyasCard.lean, 'card_holds'). Laid BY PROGRAM, IN A SANDBOX (cutbox-door.mjs). By AI agents, Wed Nov 11 2026. No macro, syntax, notation, axiom, sorry.
-/
import Derived.Test.YtopodipjapiaoaaDoorRows
import GoSem.ClaimSeven
namespace Go.Proofs.YtopodipjapiaoaaDoor
namespace Rows

/-- THE TIED CARD OF 'fencepostlaw19.SpecNames'. -/
def specNamesCard : Claim7 := { stood := { row := specNamesRow, standIns := [], harness := (true, "4a5fbac1be41faad7a6058a10de7ff72821034515dc35c596044f9891dce3dec"), looks := false }, kinds := [], alts := [], laidByText := true, laidKinds := [.data, .data, .data], laidTests := true, laidLooks := .later }
def SpecNamesCardSaid : Prop := Claim7.holds Tryd.pinned (.plain (OpenSpec.ofChange specNamesSpec)) specNamesCard

/-- THE TIED CARD OF 'fencepostlaw19.SpecMay'. -/
def specMayCard : Claim7 := { stood := { row := specMayRow, standIns := [], harness := (true, "4a5fbac1be41faad7a6058a10de7ff72821034515dc35c596044f9891dce3dec"), looks := false }, kinds := [], alts := [], laidByText := true, laidKinds := [.data, .data, .data], laidTests := true, laidLooks := .later }
def SpecMayCardSaid : Prop := Claim7.holds Tryd.pinned (.plain (OpenSpec.ofChange specMaySpec)) specMayCard

/-- THE TIED CARD OF 'fencepostlaw19.SpecCalls'. -/
def specCallsCard : Claim7 := { stood := { row := specCallsRow, standIns := [], harness := (true, "4a5fbac1be41faad7a6058a10de7ff72821034515dc35c596044f9891dce3dec"), looks := false }, kinds := [], alts := [], laidByText := true, laidKinds := [.data, .data, .data], laidTests := true, laidLooks := .later }
def SpecCallsCardSaid : Prop := Claim7.holds Tryd.pinned (.plain (OpenSpec.ofChange specCallsSpec)) specCallsCard

/-- THE SECOND FORM's CARD OF 'fencepostlaw19.SpecNames'. -/
def specNamesUptoCard : Claim7 := { stood := { row := specNamesUptoRow, standIns := [], harness := (true, "4a5fbac1be41faad7a6058a10de7ff72821034515dc35c596044f9891dce3dec"), looks := false }, kinds := [], alts := [], laidByText := true, laidKinds := [.data, .data, .data], laidTests := true, laidLooks := .later }
def SpecNamesUptoCardSaid : Prop := Claim7.holds Tryd.pinned (.plain (OpenSpec.upto specNamesSpec)) specNamesUptoCard

/-- THE SECOND FORM's CARD OF 'fencepostlaw19.SpecMay'. -/
def specMayUptoCard : Claim7 := { stood := { row := specMayUptoRow, standIns := [], harness := (true, "4a5fbac1be41faad7a6058a10de7ff72821034515dc35c596044f9891dce3dec"), looks := false }, kinds := [], alts := [], laidByText := true, laidKinds := [.data, .data, .data], laidTests := true, laidLooks := .later }
def SpecMayUptoCardSaid : Prop := Claim7.holds Tryd.pinned (.plain (OpenSpec.upto specMaySpec)) specMayUptoCard

/-- THE SECOND FORM's CARD OF 'fencepostlaw19.SpecCalls'. -/
def specCallsUptoCard : Claim7 := { stood := { row := specCallsUptoRow, standIns := [], harness := (true, "4a5fbac1be41faad7a6058a10de7ff72821034515dc35c596044f9891dce3dec"), looks := false }, kinds := [], alts := [], laidByText := true, laidKinds := [.data, .data, .data], laidTests := true, laidLooks := .later }
def SpecCallsUptoCardSaid : Prop := Claim7.holds Tryd.pinned (.plain (OpenSpec.upto specCallsSpec)) specCallsUptoCard
end Rows
end Go.Proofs.YtopodipjapiaoaaDoor
