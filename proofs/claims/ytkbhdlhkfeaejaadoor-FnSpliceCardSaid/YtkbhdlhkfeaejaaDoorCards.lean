/-
  DERIVED. GIVEN WITH THE SEED: THE CARDS: each row of YtkbhdlhkfeaejaaDoorRows.lean that lists a variable, with what it lists TIED to the program's text (the seventh form; the later family's looks); each row that meets fmt, with fmt's text TOLD by the authors' own Lean function (tested against real Go, not proved from fmt's source: count such statements apart). THE CARD IS WHAT COUNTS. Prove the row's statement (the work); the ties are given (YtkbhdlhkfeaejaaDoorTie.lean); close each card by the builder's one call (the guide's Derived/Test/ToyasCard.lean, 'card_holds'). Laid BY PROGRAM, IN A SANDBOX (cutbox-door.mjs). By AI agents, Wed Nov 11 2026. No macro, syntax, notation, axiom, sorry.
-/
import Derived.Test.YtkbhdlhkfeaejaaDoorRows
import GoSem.ClaimSeven
namespace Go.Proofs.YtkbhdlhkfeaejaaDoor
namespace Rows

/-- THE TIED CARD OF 'laws.FnExactRotateCells'. -/
def fnExactRotateCellsCard : Claim7 := { stood := { row := fnExactRotateCellsRow, standIns := [], harness := (true, "05653bd286a92137e21381ca250f34c254f4a9ca71144bf488ae41b8d4f96384"), looks := false }, kinds := [], alts := [], laidByText := true, laidKinds := [.data, .pinned], laidTests := true, laidLooks := .later }
def FnExactRotateCellsCardSaid : Prop := Claim7.holds Tryd.pinned (.plain (OpenSpec.ofChange fnExactRotateCellsSpec)) fnExactRotateCellsCard

/-- THE TIED CARD OF 'laws.FnExactSpliceCells'. -/
def fnExactSpliceCellsCard : Claim7 := { stood := { row := fnExactSpliceCellsRow, standIns := [], harness := (true, "05653bd286a92137e21381ca250f34c254f4a9ca71144bf488ae41b8d4f96384"), looks := false }, kinds := [], alts := [], laidByText := true, laidKinds := [.data, .pinned], laidTests := true, laidLooks := .later }
def FnExactSpliceCellsCardSaid : Prop := Claim7.holds Tryd.pinned (.plain (OpenSpec.ofChange fnExactSpliceCellsSpec)) fnExactSpliceCellsCard

/-- THE TIED CARD OF 'laws.FnExactRunsOf'. -/
def fnExactRunsOfCard : Claim7 := { stood := { row := fnExactRunsOfRow, standIns := [], harness := (true, "05653bd286a92137e21381ca250f34c254f4a9ca71144bf488ae41b8d4f96384"), looks := false }, kinds := [], alts := [], laidByText := true, laidKinds := [.data, .pinned], laidTests := true, laidLooks := .later }
def FnExactRunsOfCardSaid : Prop := Claim7.holds Tryd.pinned (.plain (OpenSpec.ofChange fnExactRunsOfSpec)) fnExactRunsOfCard

/-- THE TIED CARD OF 'laws.FnExactClockFaults'. -/
def fnExactClockFaultsCard : Claim7 := { stood := { row := fnExactClockFaultsRow, standIns := [], harness := (true, "05653bd286a92137e21381ca250f34c254f4a9ca71144bf488ae41b8d4f96384"), looks := false }, kinds := [], alts := [], laidByText := true, laidKinds := [.data, .pinned], laidTests := true, laidLooks := .later }
def FnExactClockFaultsCardSaid : Prop := Claim7.holds Tryd.pinned (.plain (OpenSpec.ofChange fnExactClockFaultsSpec)) fnExactClockFaultsCard

/-- THE TIED CARD OF 'laws.FnExactFmMarkOf'. -/
def fnExactFmMarkOfCard : Claim7 := { stood := { row := fnExactFmMarkOfRow, standIns := [], harness := (true, "05653bd286a92137e21381ca250f34c254f4a9ca71144bf488ae41b8d4f96384"), looks := false }, kinds := [], alts := [], laidByText := true, laidKinds := [.data, .pinned], laidTests := true, laidLooks := .later }
def FnExactFmMarkOfCardSaid : Prop := Claim7.holds Tryd.pinned (.plain (OpenSpec.ofChange fnExactFmMarkOfSpec)) fnExactFmMarkOfCard

/-- THE TIED CARD OF 'laws.FnSplice'. -/
def fnSpliceCard : Claim7 := { stood := { row := fnSpliceRow, standIns := [], harness := (true, "05653bd286a92137e21381ca250f34c254f4a9ca71144bf488ae41b8d4f96384"), looks := false }, kinds := [], alts := [], laidByText := true, laidKinds := [.data, .pinned], laidTests := true, laidLooks := .later }
def FnSpliceCardSaid : Prop := Claim7.holds Tryd.pinned (.plain (OpenSpec.ofChange fnSpliceSpec)) fnSpliceCard

/-- THE TIED CARD OF 'laws.FnMfm'. -/
def fnMfmCard : Claim7 := { stood := { row := fnMfmRow, standIns := [], harness := (true, "05653bd286a92137e21381ca250f34c254f4a9ca71144bf488ae41b8d4f96384"), looks := false }, kinds := [], alts := [], laidByText := true, laidKinds := [.data, .pinned], laidTests := true, laidLooks := .later }
def FnMfmCardSaid : Prop := Claim7.holds Tryd.pinned (.plain (OpenSpec.ofChange fnMfmSpec)) fnMfmCard

/-- THE SECOND FORM's CARD OF 'laws.FnExactRotateCells'. -/
def fnExactRotateCellsUptoCard : Claim7 := { stood := { row := fnExactRotateCellsUptoRow, standIns := [], harness := (true, "05653bd286a92137e21381ca250f34c254f4a9ca71144bf488ae41b8d4f96384"), looks := false }, kinds := [], alts := [], laidByText := true, laidKinds := [.data, .pinned], laidTests := true, laidLooks := .later }
def FnExactRotateCellsUptoCardSaid : Prop := Claim7.holds Tryd.pinned (.plain (OpenSpec.upto fnExactRotateCellsSpec)) fnExactRotateCellsUptoCard

/-- THE SECOND FORM's CARD OF 'laws.FnExactSpliceCells'. -/
def fnExactSpliceCellsUptoCard : Claim7 := { stood := { row := fnExactSpliceCellsUptoRow, standIns := [], harness := (true, "05653bd286a92137e21381ca250f34c254f4a9ca71144bf488ae41b8d4f96384"), looks := false }, kinds := [], alts := [], laidByText := true, laidKinds := [.data, .pinned], laidTests := true, laidLooks := .later }
def FnExactSpliceCellsUptoCardSaid : Prop := Claim7.holds Tryd.pinned (.plain (OpenSpec.upto fnExactSpliceCellsSpec)) fnExactSpliceCellsUptoCard

/-- THE SECOND FORM's CARD OF 'laws.FnExactRunsOf'. -/
def fnExactRunsOfUptoCard : Claim7 := { stood := { row := fnExactRunsOfUptoRow, standIns := [], harness := (true, "05653bd286a92137e21381ca250f34c254f4a9ca71144bf488ae41b8d4f96384"), looks := false }, kinds := [], alts := [], laidByText := true, laidKinds := [.data, .pinned], laidTests := true, laidLooks := .later }
def FnExactRunsOfUptoCardSaid : Prop := Claim7.holds Tryd.pinned (.plain (OpenSpec.upto fnExactRunsOfSpec)) fnExactRunsOfUptoCard

/-- THE SECOND FORM's CARD OF 'laws.FnExactClockFaults'. -/
def fnExactClockFaultsUptoCard : Claim7 := { stood := { row := fnExactClockFaultsUptoRow, standIns := [], harness := (true, "05653bd286a92137e21381ca250f34c254f4a9ca71144bf488ae41b8d4f96384"), looks := false }, kinds := [], alts := [], laidByText := true, laidKinds := [.data, .pinned], laidTests := true, laidLooks := .later }
def FnExactClockFaultsUptoCardSaid : Prop := Claim7.holds Tryd.pinned (.plain (OpenSpec.upto fnExactClockFaultsSpec)) fnExactClockFaultsUptoCard

/-- THE SECOND FORM's CARD OF 'laws.FnExactFmMarkOf'. -/
def fnExactFmMarkOfUptoCard : Claim7 := { stood := { row := fnExactFmMarkOfUptoRow, standIns := [], harness := (true, "05653bd286a92137e21381ca250f34c254f4a9ca71144bf488ae41b8d4f96384"), looks := false }, kinds := [], alts := [], laidByText := true, laidKinds := [.data, .pinned], laidTests := true, laidLooks := .later }
def FnExactFmMarkOfUptoCardSaid : Prop := Claim7.holds Tryd.pinned (.plain (OpenSpec.upto fnExactFmMarkOfSpec)) fnExactFmMarkOfUptoCard

/-- THE SECOND FORM's CARD OF 'laws.FnSplice'. -/
def fnSpliceUptoCard : Claim7 := { stood := { row := fnSpliceUptoRow, standIns := [], harness := (true, "05653bd286a92137e21381ca250f34c254f4a9ca71144bf488ae41b8d4f96384"), looks := false }, kinds := [], alts := [], laidByText := true, laidKinds := [.data, .pinned], laidTests := true, laidLooks := .later }
def FnSpliceUptoCardSaid : Prop := Claim7.holds Tryd.pinned (.plain (OpenSpec.upto fnSpliceSpec)) fnSpliceUptoCard

/-- THE SECOND FORM's CARD OF 'laws.FnMfm'. -/
def fnMfmUptoCard : Claim7 := { stood := { row := fnMfmUptoRow, standIns := [], harness := (true, "05653bd286a92137e21381ca250f34c254f4a9ca71144bf488ae41b8d4f96384"), looks := false }, kinds := [], alts := [], laidByText := true, laidKinds := [.data, .pinned], laidTests := true, laidLooks := .later }
def FnMfmUptoCardSaid : Prop := Claim7.holds Tryd.pinned (.plain (OpenSpec.upto fnMfmSpec)) fnMfmUptoCard
end Rows
end Go.Proofs.YtkbhdlhkfeaejaaDoor
