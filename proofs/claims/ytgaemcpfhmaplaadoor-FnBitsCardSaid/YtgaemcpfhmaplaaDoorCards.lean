/-
  DERIVED. GIVEN WITH THE SEED: THE CARDS: each row of YtgaemcpfhmaplaaDoorRows.lean that lists a variable, with what it lists TIED to the program's text (the seventh form; the later family's looks); each row that meets fmt, with fmt's text TOLD by the authors' own Lean function (tested against real Go, not proved from fmt's source: count such statements apart). THE CARD IS WHAT COUNTS. Prove the row's statement (the work); the ties are given (YtgaemcpfhmaplaaDoorTie.lean); close each card by the builder's one call (the guide's Derived/Test/ToyasCard.lean, 'card_holds'). Laid BY PROGRAM, IN A SANDBOX (cutbox-door.mjs). By AI agents, Wed Nov 11 2026. No macro, syntax, notation, axiom, sorry.
-/
import Derived.Test.YtgaemcpfhmaplaaDoorRows
import GoSem.ClaimSeven
namespace Go.Proofs.YtgaemcpfhmaplaaDoor
namespace Rows

/-- THE TIED CARD OF 'laws.FnExactBytesOf'. -/
def fnExactBytesOfCard : Claim7 := { stood := { row := fnExactBytesOfRow, standIns := [], harness := (true, "4797795fe9d97d50f98fca279dbe0a9b0b839b9b715cb0ccb217ce5e728bc095"), looks := false }, kinds := [], alts := [], laidByText := true, laidKinds := [.data, .pinned], laidTests := true, laidLooks := .later }
def FnExactBytesOfCardSaid : Prop := Claim7.holds Tryd.pinned (.plain (OpenSpec.ofChange fnExactBytesOfSpec)) fnExactBytesOfCard

/-- THE TIED CARD OF 'laws.FnBits'. -/
def fnBitsCard : Claim7 := { stood := { row := fnBitsRow, standIns := [], harness := (true, "4797795fe9d97d50f98fca279dbe0a9b0b839b9b715cb0ccb217ce5e728bc095"), looks := false }, kinds := [], alts := [], laidByText := true, laidKinds := [.data, .pinned], laidTests := true, laidLooks := .later }
def FnBitsCardSaid : Prop := Claim7.holds Tryd.pinned (.plain (OpenSpec.ofChange fnBitsSpec)) fnBitsCard

/-- THE TIED CARD OF 'laws.FnExactValidCells'. -/
def fnExactValidCellsCard : Claim7 := { stood := { row := fnExactValidCellsRow, standIns := [], harness := (true, "4797795fe9d97d50f98fca279dbe0a9b0b839b9b715cb0ccb217ce5e728bc095"), looks := false }, kinds := [], alts := [], laidByText := true, laidKinds := [.data, .pinned], laidTests := true, laidLooks := .later }
def FnExactValidCellsCardSaid : Prop := Claim7.holds Tryd.pinned (.plain (OpenSpec.ofChange fnExactValidCellsSpec)) fnExactValidCellsCard

/-- THE TIED CARD OF 'laws.FnExactDecodeFm'. -/
def fnExactDecodeFmCard : Claim7 := { stood := { row := fnExactDecodeFmRow, standIns := [], harness := (true, "4797795fe9d97d50f98fca279dbe0a9b0b839b9b715cb0ccb217ce5e728bc095"), looks := false }, kinds := [], alts := [], laidByText := true, laidKinds := [.data, .pinned], laidTests := true, laidLooks := .later }
def FnExactDecodeFmCardSaid : Prop := Claim7.holds Tryd.pinned (.plain (OpenSpec.ofChange fnExactDecodeFmSpec)) fnExactDecodeFmCard

/-- THE TIED CARD OF 'laws.FnExactDecodeMfm'. -/
def fnExactDecodeMfmCard : Claim7 := { stood := { row := fnExactDecodeMfmRow, standIns := [], harness := (true, "4797795fe9d97d50f98fca279dbe0a9b0b839b9b715cb0ccb217ce5e728bc095"), looks := false }, kinds := [], alts := [], laidByText := true, laidKinds := [.data, .pinned], laidTests := true, laidLooks := .later }
def FnExactDecodeMfmCardSaid : Prop := Claim7.holds Tryd.pinned (.plain (OpenSpec.ofChange fnExactDecodeMfmSpec)) fnExactDecodeMfmCard

/-- THE SECOND FORM's CARD OF 'laws.FnExactBytesOf'. -/
def fnExactBytesOfUptoCard : Claim7 := { stood := { row := fnExactBytesOfUptoRow, standIns := [], harness := (true, "4797795fe9d97d50f98fca279dbe0a9b0b839b9b715cb0ccb217ce5e728bc095"), looks := false }, kinds := [], alts := [], laidByText := true, laidKinds := [.data, .pinned], laidTests := true, laidLooks := .later }
def FnExactBytesOfUptoCardSaid : Prop := Claim7.holds Tryd.pinned (.plain (OpenSpec.upto fnExactBytesOfSpec)) fnExactBytesOfUptoCard

/-- THE SECOND FORM's CARD OF 'laws.FnBits'. -/
def fnBitsUptoCard : Claim7 := { stood := { row := fnBitsUptoRow, standIns := [], harness := (true, "4797795fe9d97d50f98fca279dbe0a9b0b839b9b715cb0ccb217ce5e728bc095"), looks := false }, kinds := [], alts := [], laidByText := true, laidKinds := [.data, .pinned], laidTests := true, laidLooks := .later }
def FnBitsUptoCardSaid : Prop := Claim7.holds Tryd.pinned (.plain (OpenSpec.upto fnBitsSpec)) fnBitsUptoCard

/-- THE SECOND FORM's CARD OF 'laws.FnExactValidCells'. -/
def fnExactValidCellsUptoCard : Claim7 := { stood := { row := fnExactValidCellsUptoRow, standIns := [], harness := (true, "4797795fe9d97d50f98fca279dbe0a9b0b839b9b715cb0ccb217ce5e728bc095"), looks := false }, kinds := [], alts := [], laidByText := true, laidKinds := [.data, .pinned], laidTests := true, laidLooks := .later }
def FnExactValidCellsUptoCardSaid : Prop := Claim7.holds Tryd.pinned (.plain (OpenSpec.upto fnExactValidCellsSpec)) fnExactValidCellsUptoCard

/-- THE SECOND FORM's CARD OF 'laws.FnExactDecodeFm'. -/
def fnExactDecodeFmUptoCard : Claim7 := { stood := { row := fnExactDecodeFmUptoRow, standIns := [], harness := (true, "4797795fe9d97d50f98fca279dbe0a9b0b839b9b715cb0ccb217ce5e728bc095"), looks := false }, kinds := [], alts := [], laidByText := true, laidKinds := [.data, .pinned], laidTests := true, laidLooks := .later }
def FnExactDecodeFmUptoCardSaid : Prop := Claim7.holds Tryd.pinned (.plain (OpenSpec.upto fnExactDecodeFmSpec)) fnExactDecodeFmUptoCard

/-- THE SECOND FORM's CARD OF 'laws.FnExactDecodeMfm'. -/
def fnExactDecodeMfmUptoCard : Claim7 := { stood := { row := fnExactDecodeMfmUptoRow, standIns := [], harness := (true, "4797795fe9d97d50f98fca279dbe0a9b0b839b9b715cb0ccb217ce5e728bc095"), looks := false }, kinds := [], alts := [], laidByText := true, laidKinds := [.data, .pinned], laidTests := true, laidLooks := .later }
def FnExactDecodeMfmUptoCardSaid : Prop := Claim7.holds Tryd.pinned (.plain (OpenSpec.upto fnExactDecodeMfmSpec)) fnExactDecodeMfmUptoCard
end Rows
end Go.Proofs.YtgaemcpfhmaplaaDoor
