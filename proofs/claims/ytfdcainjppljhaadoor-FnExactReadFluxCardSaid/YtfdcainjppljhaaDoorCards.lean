/-
  DERIVED. GIVEN WITH THE SEED: THE CARDS: each row of YtfdcainjppljhaaDoorRows.lean that lists a variable, with what it lists TIED to the program's text (the seventh form; the later family's looks); each row that meets fmt, with fmt's text TOLD by the authors' own Lean function (tested against real Go, not proved from fmt's source: count such statements apart). THE CARD IS WHAT COUNTS. Prove the row's statement (the work); the ties are given (YtfdcainjppljhaaDoorTie.lean); close each card by the builder's one call (the guide's Derived/Test/ToyasCard.lean, 'card_holds'). Laid BY PROGRAM, IN A SANDBOX (cutbox-door.mjs). By AI agents, Wed Nov 11 2026. No macro, syntax, notation, axiom, sorry.
-/
import Derived.Test.YtfdcainjppljhaaDoorRows
import GoSem.ClaimSeven
namespace Go.Proofs.YtfdcainjppljhaaDoor
namespace Rows

/-- THE TIED CARD OF 'laws.FnExactFluxText'. -/
def fnExactFluxTextCard : Claim7 := { stood := { row := fnExactFluxTextRow, standIns := [], harness := (true, "5936d3082fb7a9f80e1e14c6f1af1ae9bf14dc7a5c1f382ed4be1f99041ecf63"), looks := true }, kinds := [], alts := [], laidByText := true, laidKinds := [.data, .data, .data], laidTests := true, laidLooks := .later }
def FnExactFluxTextCardSaid : Prop := Claim7.holds Tryd.pinned (.plain (OpenSpec.ofChange fnExactFluxTextSpec)) fnExactFluxTextCard

/-- THE TIED CARD OF 'laws.FnExactReadFlux'. -/
def fnExactReadFluxCard : Claim7 := { stood := { row := fnExactReadFluxRow, standIns := [], harness := (true, "5936d3082fb7a9f80e1e14c6f1af1ae9bf14dc7a5c1f382ed4be1f99041ecf63"), looks := true }, kinds := [], alts := [], laidByText := true, laidKinds := [.data, .data, .data, .data, .sentinel, .sentinel, .pinned], laidTests := true, laidLooks := .later }
def FnExactReadFluxCardSaid : Prop := Claim7.holds Tryd.pinned (.plain (OpenSpec.ofChange fnExactReadFluxSpec)) fnExactReadFluxCard

/-- THE SECOND FORM's CARD OF 'laws.FnExactFluxText'. -/
def fnExactFluxTextUptoCard : Claim7 := { stood := { row := fnExactFluxTextUptoRow, standIns := [], harness := (true, "5936d3082fb7a9f80e1e14c6f1af1ae9bf14dc7a5c1f382ed4be1f99041ecf63"), looks := true }, kinds := [], alts := [], laidByText := true, laidKinds := [.data, .data, .data], laidTests := true, laidLooks := .later }
def FnExactFluxTextUptoCardSaid : Prop := Claim7.holds Tryd.pinned (.plain (OpenSpec.upto fnExactFluxTextSpec)) fnExactFluxTextUptoCard

/-- THE SECOND FORM's CARD OF 'laws.FnExactReadFlux'. -/
def fnExactReadFluxUptoCard : Claim7 := { stood := { row := fnExactReadFluxUptoRow, standIns := [], harness := (true, "5936d3082fb7a9f80e1e14c6f1af1ae9bf14dc7a5c1f382ed4be1f99041ecf63"), looks := true }, kinds := [], alts := [], laidByText := true, laidKinds := [.data, .data, .data, .data, .sentinel, .sentinel, .pinned], laidTests := true, laidLooks := .later }
def FnExactReadFluxUptoCardSaid : Prop := Claim7.holds Tryd.pinned (.plain (OpenSpec.upto fnExactReadFluxSpec)) fnExactReadFluxUptoCard
end Rows
end Go.Proofs.YtfdcainjppljhaaDoor
