/-
  DERIVED. GIVEN WITH THE SEED: THE CARDS: each row of YtfdcainjppljhaaGreatDoorRows.lean that lists a variable, with what it lists TIED to the program's text (the seventh form; the later family's looks); each row that meets fmt, with fmt's text TOLD by the authors' own Lean function (tested against real Go, not proved from fmt's source: count such statements apart). THE CARD IS WHAT COUNTS. Prove the row's statement (the work); the ties are given (YtfdcainjppljhaaGreatDoorTie.lean); close each card by the builder's one call (the guide's Derived/Test/ToyasCard.lean, 'card_holds'). Laid BY PROGRAM, IN A SANDBOX (cutbox-door.mjs). By AI agents, Wed Nov 11 2026. No macro, syntax, notation, axiom, sorry.
-/
import Derived.Test.YtfdcainjppljhaaGreatDoorRows
import GoSem.ClaimSeven
namespace Go.Proofs.YtfdcainjppljhaaGreatDoor
namespace Rows

/-- THE TIED CARD OF 'laws.FnFlux'. -/
def fnFluxCard : Claim7 := { stood := { row := fnFluxRow, standIns := [], harness := (true, "ad9b4bfe5f716b37e6a76db64ec6cf73756d2e739acd8996be046956553b9702"), looks := true }, kinds := [], alts := [], laidByText := true, laidKinds := [.data, .data, .data, .data, .sentinel, .sentinel, .pinned], laidTests := true, laidLooks := .later }
def FnFluxCardSaid : Prop := Claim7.holds Tryz.pinned (.plain (OpenSpec.ofChange fnFluxSpec)) fnFluxCard

/-- THE SECOND FORM's CARD OF 'laws.FnFlux'. -/
def fnFluxUptoCard : Claim7 := { stood := { row := fnFluxUptoRow, standIns := [], harness := (true, "ad9b4bfe5f716b37e6a76db64ec6cf73756d2e739acd8996be046956553b9702"), looks := true }, kinds := [], alts := [], laidByText := true, laidKinds := [.data, .data, .data, .data, .sentinel, .sentinel, .pinned], laidTests := true, laidLooks := .later }
def FnFluxUptoCardSaid : Prop := Claim7.holds Tryz.pinned (.plain (OpenSpec.upto fnFluxSpec)) fnFluxUptoCard
end Rows
end Go.Proofs.YtfdcainjppljhaaGreatDoor
