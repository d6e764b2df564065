/-
  DERIVED. GIVEN WITH THE SEED: THE CARDS: each row of YtmjmhdjfaamgkaaDoorRows.lean that lists a variable, with what it lists TIED to the program's text (the seventh form; the later family's looks); each row that meets fmt, with fmt's text TOLD by the authors' own Lean function (tested against real Go, not proved from fmt's source: count such statements apart). THE CARD IS WHAT COUNTS. Prove the row's statement (the work); the ties are given (YtmjmhdjfaamgkaaDoorTie.lean); close each card by the builder's one call (the guide's Derived/Test/ToyasCard.lean, 'card_holds'). Laid BY PROGRAM, IN A SANDBOX (cutbox-door.mjs). By AI agents, Wed Nov 11 2026. No macro, syntax, notation, axiom, sorry.
-/
import Derived.Test.YtmjmhdjfaamgkaaDoorRows
import GoSem.ClaimSeven
namespace Go.Proofs.YtmjmhdjfaamgkaaDoor
namespace Rows

/-- THE TIED CARD OF 'laws.FnExactFluxOf'. -/
def fnExactFluxOfCard : Claim7 := { stood := { row := fnExactFluxOfRow, standIns := [], harness := (true, "f4854643f9210228a2818230495b19a4a9bb6fa1faa13b1e266059c50662f288"), looks := false }, kinds := [], alts := [], laidByText := true, laidKinds := [.data, .pinned], laidTests := true, laidLooks := .later }
def FnExactFluxOfCardSaid : Prop := Claim7.holds Tryd.pinned (.plain (OpenSpec.ofChange fnExactFluxOfSpec)) fnExactFluxOfCard

/-- THE SECOND FORM's CARD OF 'laws.FnExactFluxOf'. -/
def fnExactFluxOfUptoCard : Claim7 := { stood := { row := fnExactFluxOfUptoRow, standIns := [], harness := (true, "f4854643f9210228a2818230495b19a4a9bb6fa1faa13b1e266059c50662f288"), looks := false }, kinds := [], alts := [], laidByText := true, laidKinds := [.data, .pinned], laidTests := true, laidLooks := .later }
def FnExactFluxOfUptoCardSaid : Prop := Claim7.holds Tryd.pinned (.plain (OpenSpec.upto fnExactFluxOfSpec)) fnExactFluxOfUptoCard
end Rows
end Go.Proofs.YtmjmhdjfaamgkaaDoor
