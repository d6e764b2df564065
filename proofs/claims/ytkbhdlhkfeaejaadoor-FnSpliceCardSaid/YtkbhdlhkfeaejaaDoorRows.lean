/-
  NARROWER THAN 'FOR EVERY INPUT', by the rows' own cells (each row's printed sentence says how): FnExactRotateCells: laid · FnExactSpliceCells: laid · FnExactRunsOf: laid · FnExactClockFaults: laid · FnExactFmMarkOf: laid · FnSplice: laid · FnMfm: laid.
  DERIVED. THE GIVEN ROWS OF THIS SEAT. 7 by the template 'for every input the law returns true; each argument reads behind the call as it read before'; 0 by the template 'total and deterministic' (their statements: YtkbhdlhkfeaejaaDoorTotals.lean).
  GIVEN WITH THE SEED: the statements are not yours to turn. If you find one false, say at which input.
  Laid BY PROGRAM, IN A SANDBOX (cutbox-rows.mjs): the forced cells as the released guide's own fill.sh prints them over the translation 4153513e0f45e046… (all of the seat's roots in one cut). By AI agents, Wed Nov 11 2026. No macro, syntax, notation, axiom, sorry.
-/
import Derived.Test.YtkbhdlhkfeaejaaDoorChecked
import GoSem.PinnedTables
import GoSem.Claim
import GoSem.ClaimJoined
import GoSem.ClaimMapViews
import Derived.JoinedTies
import Derived.KernelRfl
namespace Go.Proofs.YtkbhdlhkfeaejaaDoor
/- THE CELL 'sum', in the pinned program and in every row, IS THE sha256 OF THE DUMP (.gsa) THAT YtkbhdlhkfeaejaaDoorProg.lean LOADS. Nothing in Lean hashes anything: it is a label: what it is worth is what the hold of that sum in a sandbox is worth. -/
noncomputable def Tryd.pinned : Pinned := { name := "ytkbhdlhkfeaejaadoor", sum := "4153513e0f45e0467a31fac055059b32d5fb5f77e0b663de745d88e4a7250da0", checked := Tryd.checked }
namespace Rows
def none {H : Type} : Left H := { results := [], args := [] }

/- WHAT THE LISTED PACKAGE-LEVEL VARIABLES READ AS WHEN THE CALL BEGINS. Each datum BY PROGRAM (the guide's laid-datum.mjs) off the statement by which the dump's own 'gosem.cut.vars' lays the variable. In a bare row this is a premise. The card (YtkbhdlhkfeaejaaDoorCards.lean) ties it to the program's text. -/
def laid_unicode_utf8_acceptRanges {H : Type} : DataW H := .agg [.agg [.lit (.int .u8 128), .lit (.int .u8 191)], .agg [.lit (.int .u8 160), .lit (.int .u8 191)], .agg [.lit (.int .u8 128), .lit (.int .u8 159)], .agg [.lit (.int .u8 144), .lit (.int .u8 191)], .agg [.lit (.int .u8 128), .lit (.int .u8 143)], .agg [.lit (.int .u8 0), .lit (.int .u8 0)], .agg [.lit (.int .u8 0), .lit (.int .u8 0)], .agg [.lit (.int .u8 0), .lit (.int .u8 0)], .agg [.lit (.int .u8 0), .lit (.int .u8 0)], .agg [.lit (.int .u8 0), .lit (.int .u8 0)], .agg [.lit (.int .u8 0), .lit (.int .u8 0)], .agg [.lit (.int .u8 0), .lit (.int .u8 0)], .agg [.lit (.int .u8 0), .lit (.int .u8 0)], .agg [.lit (.int .u8 0), .lit (.int .u8 0)], .agg [.lit (.int .u8 0), .lit (.int .u8 0)], .agg [.lit (.int .u8 0), .lit (.int .u8 0)]]
/-- One of Go's own tables, pinned by name: the form's constant. -/
def laid_unicode_utf8_first : DataW Unit := Go.Pinned.utf8First

/-- 'laws.FnExactRotateCells': WHATEVER THE INPUT: true; the input reads as it did. -/
def fnExactRotateCellsSpec : ChangeSpec := { name := "fnExactRotateCells", fn := fun _ => fun
  | [d1, d2] => { results := [.lit (.bool true)], args := [d1, d2] }
  | _ => none }
def fnExactRotateCellsRow : OpenClaim := { program := "ytkbhdlhkfeaejaadoor", sum := "4153513e0f45e0467a31fac055059b32d5fb5f77e0b663de745d88e4a7250da0", func := "loop.example/g00899/laws.FnExactRotateCells", spec := "fnExactRotateCells", inPlace := ["internal/bytealg.IndexByteString", "internal/bytealg.IndexString"], named := ["unicode/utf8.first", "unicode/utf8.acceptRanges", "internal/bytealg.MaxLen"], apart := false, laid := [("unicode/utf8.acceptRanges", laid_unicode_utf8_acceptRanges), ("unicode/utf8.first", laid_unicode_utf8_first)] }
def FnExactRotateCellsSaid : Prop := fnExactRotateCellsRow.holds Tryd.pinned (OpenSpec.ofChange fnExactRotateCellsSpec)

/-- ITS FALSE NEIGHBOUR: 'it returns false'. Refute it at one input. -/
def fnExactRotateCellsWrong : ChangeSpec := { name := "fnExactRotateCells", fn := fun _ => fun
  | [d1, d2] => { results := [.lit (.bool false)], args := [d1, d2] }
  | _ => none }
def FnExactRotateCellsWrongFalsely : Prop := fnExactRotateCellsRow.holds Tryd.pinned (OpenSpec.ofChange fnExactRotateCellsWrong)

/-- 'laws.FnExactSpliceCells': WHATEVER THE INPUT: true; the input reads as it did. -/
def fnExactSpliceCellsSpec : ChangeSpec := { name := "fnExactSpliceCells", fn := fun _ => fun
  | [d1, d2, d3] => { results := [.lit (.bool true)], args := [d1, d2, d3] }
  | _ => none }
def fnExactSpliceCellsRow : OpenClaim := { program := "ytkbhdlhkfeaejaadoor", sum := "4153513e0f45e0467a31fac055059b32d5fb5f77e0b663de745d88e4a7250da0", func := "loop.example/g00899/laws.FnExactSpliceCells", spec := "fnExactSpliceCells", inPlace := ["internal/bytealg.IndexByteString", "internal/bytealg.IndexString"], named := ["unicode/utf8.first", "unicode/utf8.acceptRanges", "internal/bytealg.MaxLen"], apart := false, laid := [("unicode/utf8.acceptRanges", laid_unicode_utf8_acceptRanges), ("unicode/utf8.first", laid_unicode_utf8_first)] }
def FnExactSpliceCellsSaid : Prop := fnExactSpliceCellsRow.holds Tryd.pinned (OpenSpec.ofChange fnExactSpliceCellsSpec)

/-- ITS FALSE NEIGHBOUR: 'it returns false'. Refute it at one input. -/
def fnExactSpliceCellsWrong : ChangeSpec := { name := "fnExactSpliceCells", fn := fun _ => fun
  | [d1, d2, d3] => { results := [.lit (.bool false)], args := [d1, d2, d3] }
  | _ => none }
def FnExactSpliceCellsWrongFalsely : Prop := fnExactSpliceCellsRow.holds Tryd.pinned (OpenSpec.ofChange fnExactSpliceCellsWrong)

/-- 'laws.FnExactRunsOf': WHATEVER THE INPUT: true; the input reads as it did. -/
def fnExactRunsOfSpec : ChangeSpec := { name := "fnExactRunsOf", fn := fun _ => fun
  | [d] => { results := [.lit (.bool true)], args := [d] }
  | _ => none }
def fnExactRunsOfRow : OpenClaim := { program := "ytkbhdlhkfeaejaadoor", sum := "4153513e0f45e0467a31fac055059b32d5fb5f77e0b663de745d88e4a7250da0", func := "loop.example/g00899/laws.FnExactRunsOf", spec := "fnExactRunsOf", inPlace := ["internal/bytealg.IndexByteString", "internal/bytealg.IndexString"], named := ["unicode/utf8.first", "unicode/utf8.acceptRanges", "internal/bytealg.MaxLen"], apart := false, laid := [("unicode/utf8.acceptRanges", laid_unicode_utf8_acceptRanges), ("unicode/utf8.first", laid_unicode_utf8_first)] }
def FnExactRunsOfSaid : Prop := fnExactRunsOfRow.holds Tryd.pinned (OpenSpec.ofChange fnExactRunsOfSpec)

/-- ITS FALSE NEIGHBOUR: 'it returns false'. Refute it at one input. -/
def fnExactRunsOfWrong : ChangeSpec := { name := "fnExactRunsOf", fn := fun _ => fun
  | [d] => { results := [.lit (.bool false)], args := [d] }
  | _ => none }
def FnExactRunsOfWrongFalsely : Prop := fnExactRunsOfRow.holds Tryd.pinned (OpenSpec.ofChange fnExactRunsOfWrong)

/-- 'laws.FnExactClockFaults': WHATEVER THE INPUT: true; the input reads as it did. -/
def fnExactClockFaultsSpec : ChangeSpec := { name := "fnExactClockFaults", fn := fun _ => fun
  | [d1, d2, d3] => { results := [.lit (.bool true)], args := [d1, d2, d3] }
  | _ => none }
def fnExactClockFaultsRow : OpenClaim := { program := "ytkbhdlhkfeaejaadoor", sum := "4153513e0f45e0467a31fac055059b32d5fb5f77e0b663de745d88e4a7250da0", func := "loop.example/g00899/laws.FnExactClockFaults", spec := "fnExactClockFaults", inPlace := ["internal/bytealg.IndexByteString", "internal/bytealg.IndexString"], named := ["unicode/utf8.first", "unicode/utf8.acceptRanges", "internal/bytealg.MaxLen"], apart := false, laid := [("unicode/utf8.acceptRanges", laid_unicode_utf8_acceptRanges), ("unicode/utf8.first", laid_unicode_utf8_first)] }
def FnExactClockFaultsSaid : Prop := fnExactClockFaultsRow.holds Tryd.pinned (OpenSpec.ofChange fnExactClockFaultsSpec)

/-- ITS FALSE NEIGHBOUR: 'it returns false'. Refute it at one input. -/
def fnExactClockFaultsWrong : ChangeSpec := { name := "fnExactClockFaults", fn := fun _ => fun
  | [d1, d2, d3] => { results := [.lit (.bool false)], args := [d1, d2, d3] }
  | _ => none }
def FnExactClockFaultsWrongFalsely : Prop := fnExactClockFaultsRow.holds Tryd.pinned (OpenSpec.ofChange fnExactClockFaultsWrong)

/-- 'laws.FnExactFmMarkOf': WHATEVER THE INPUT: true; the input reads as it did. -/
def fnExactFmMarkOfSpec : ChangeSpec := { name := "fnExactFmMarkOf", fn := fun _ => fun
  | [d] => { results := [.lit (.bool true)], args := [d] }
  | _ => none }
def fnExactFmMarkOfRow : OpenClaim := { program := "ytkbhdlhkfeaejaadoor", sum := "4153513e0f45e0467a31fac055059b32d5fb5f77e0b663de745d88e4a7250da0", func := "loop.example/g00899/laws.FnExactFmMarkOf", spec := "fnExactFmMarkOf", inPlace := ["internal/bytealg.IndexByteString", "internal/bytealg.IndexString"], named := ["unicode/utf8.first", "unicode/utf8.acceptRanges", "internal/bytealg.MaxLen"], apart := false, laid := [("unicode/utf8.acceptRanges", laid_unicode_utf8_acceptRanges), ("unicode/utf8.first", laid_unicode_utf8_first)] }
def FnExactFmMarkOfSaid : Prop := fnExactFmMarkOfRow.holds Tryd.pinned (OpenSpec.ofChange fnExactFmMarkOfSpec)

/-- ITS FALSE NEIGHBOUR: 'it returns false'. Refute it at one input. -/
def fnExactFmMarkOfWrong : ChangeSpec := { name := "fnExactFmMarkOf", fn := fun _ => fun
  | [d] => { results := [.lit (.bool false)], args := [d] }
  | _ => none }
def FnExactFmMarkOfWrongFalsely : Prop := fnExactFmMarkOfRow.holds Tryd.pinned (OpenSpec.ofChange fnExactFmMarkOfWrong)

/-- 'laws.FnSplice': WHATEVER THE INPUT: true; the input reads as it did. -/
def fnSpliceSpec : ChangeSpec := { name := "fnSplice", fn := fun _ => fun
  | [d] => { results := [.lit (.bool true)], args := [d] }
  | _ => none }
def fnSpliceRow : OpenClaim := { program := "ytkbhdlhkfeaejaadoor", sum := "4153513e0f45e0467a31fac055059b32d5fb5f77e0b663de745d88e4a7250da0", func := "loop.example/g00899/laws.FnSplice", spec := "fnSplice", inPlace := ["internal/bytealg.IndexByteString", "internal/bytealg.IndexString"], named := ["unicode/utf8.first", "unicode/utf8.acceptRanges", "internal/bytealg.MaxLen"], apart := false, laid := [("unicode/utf8.acceptRanges", laid_unicode_utf8_acceptRanges), ("unicode/utf8.first", laid_unicode_utf8_first)] }
def FnSpliceSaid : Prop := fnSpliceRow.holds Tryd.pinned (OpenSpec.ofChange fnSpliceSpec)

/-- ITS FALSE NEIGHBOUR: 'it returns false'. Refute it at one input. -/
def fnSpliceWrong : ChangeSpec := { name := "fnSplice", fn := fun _ => fun
  | [d] => { results := [.lit (.bool false)], args := [d] }
  | _ => none }
def FnSpliceWrongFalsely : Prop := fnSpliceRow.holds Tryd.pinned (OpenSpec.ofChange fnSpliceWrong)

/-- 'laws.FnMfm': WHATEVER THE INPUT: true; the input reads as it did. -/
def fnMfmSpec : ChangeSpec := { name := "fnMfm", fn := fun _ => fun
  | [d1, d2] => { results := [.lit (.bool true)], args := [d1, d2] }
  | _ => none }
def fnMfmRow : OpenClaim := { program := "ytkbhdlhkfeaejaadoor", sum := "4153513e0f45e0467a31fac055059b32d5fb5f77e0b663de745d88e4a7250da0", func := "loop.example/g00899/laws.FnMfm", spec := "fnMfm", inPlace := ["internal/bytealg.IndexByteString", "internal/bytealg.IndexString"], named := ["unicode/utf8.first", "unicode/utf8.acceptRanges", "internal/bytealg.MaxLen"], apart := false, laid := [("unicode/utf8.acceptRanges", laid_unicode_utf8_acceptRanges), ("unicode/utf8.first", laid_unicode_utf8_first)] }
def FnMfmSaid : Prop := fnMfmRow.holds Tryd.pinned (OpenSpec.ofChange fnMfmSpec)

/-- ITS FALSE NEIGHBOUR: 'it returns false'. Refute it at one input. -/
def fnMfmWrong : ChangeSpec := { name := "fnMfm", fn := fun _ => fun
  | [d1, d2] => { results := [.lit (.bool false)], args := [d1, d2] }
  | _ => none }
def FnMfmWrongFalsely : Prop := fnMfmRow.holds Tryd.pinned (OpenSpec.ofChange fnMfmWrong)

/- THE SECOND FORM. 'bulk': how many values and letters a reading holds, each counted each time it is reached (what is shared counts as often as it is met; a slice's spare places count too). A statement '..UptoSaid' is the law's where the arguments, and the package variables that the reading takes, are together of bulk at most 1048576: NARROWER than '..Said'. Prove '..Said' where nothing that the law and all that it calls make is longer than what came in: it says more and counts as full. Else prove '..UptoSaid'. A law counts once. -/
mutual
def uptoBulk {H : Type} : DataW H → Nat
  | .lit (.string bytes) => bytes.length + 1
  | .lit _ => 1
  | .nil => 1
  | .ptr d => uptoBulk d + 1
  | .slice elems spare => uptoBulkAll elems + uptoBulkAll spare + 1
  | .agg parts => uptoBulkAll parts + 1
  | .iface _ d => uptoBulk d + 1
  | .map entries => uptoBulkEntries entries + 1
  | .held _ => 1
def uptoBulkAll {H : Type} : List (DataW H) → Nat
  | [] => 0
  | d :: r => uptoBulk d + uptoBulkAll r
def uptoBulkEntries {H : Type} : List (Lit × DataW H) → Nat
  | [] => 0
  | x :: r => uptoBulkEntry x + uptoBulkEntries r
def uptoBulkEntry {H : Type} : Lit × DataW H → Nat
  | (.string bytes, d) => bytes.length + uptoBulk d + 1
  | (_, d) => uptoBulk d + 1
 end
def uptoSmall : (H : Type) → List (DataW H) → Bool := fun _ ds => decide (uptoBulkAll ds ≤ 1048576)
def OpenSpec.upto (s : _root_.Go.ChangeSpec) : _root_.Go.OpenSpec := { _root_.Go.OpenSpec.ofChange s with cond := some uptoSmall }

/-- 'laws.FnExactRotateCells', WHERE WHAT IT READS IS OF BULK AT MOST 1048576: true; the input reads as it did. -/
def fnExactRotateCellsUptoRow : OpenClaim := { program := "ytkbhdlhkfeaejaadoor", sum := "4153513e0f45e0467a31fac055059b32d5fb5f77e0b663de745d88e4a7250da0", func := "loop.example/g00899/laws.FnExactRotateCells", spec := "fnExactRotateCells", inPlace := ["internal/bytealg.IndexByteString", "internal/bytealg.IndexString"], named := ["unicode/utf8.first", "unicode/utf8.acceptRanges", "internal/bytealg.MaxLen"], apart := false, laid := [("unicode/utf8.acceptRanges", laid_unicode_utf8_acceptRanges), ("unicode/utf8.first", laid_unicode_utf8_first)], narrowed := true }
def FnExactRotateCellsUptoSaid : Prop := fnExactRotateCellsUptoRow.holds Tryd.pinned (OpenSpec.upto fnExactRotateCellsSpec)

/-- 'laws.FnExactSpliceCells', WHERE WHAT IT READS IS OF BULK AT MOST 1048576: true; the input reads as it did. -/
def fnExactSpliceCellsUptoRow : OpenClaim := { program := "ytkbhdlhkfeaejaadoor", sum := "4153513e0f45e0467a31fac055059b32d5fb5f77e0b663de745d88e4a7250da0", func := "loop.example/g00899/laws.FnExactSpliceCells", spec := "fnExactSpliceCells", inPlace := ["internal/bytealg.IndexByteString", "internal/bytealg.IndexString"], named := ["unicode/utf8.first", "unicode/utf8.acceptRanges", "internal/bytealg.MaxLen"], apart := false, laid := [("unicode/utf8.acceptRanges", laid_unicode_utf8_acceptRanges), ("unicode/utf8.first", laid_unicode_utf8_first)], narrowed := true }
def FnExactSpliceCellsUptoSaid : Prop := fnExactSpliceCellsUptoRow.holds Tryd.pinned (OpenSpec.upto fnExactSpliceCellsSpec)

/-- 'laws.FnExactRunsOf', WHERE WHAT IT READS IS OF BULK AT MOST 1048576: true; the input reads as it did. -/
def fnExactRunsOfUptoRow : OpenClaim := { program := "ytkbhdlhkfeaejaadoor", sum := "4153513e0f45e0467a31fac055059b32d5fb5f77e0b663de745d88e4a7250da0", func := "loop.example/g00899/laws.FnExactRunsOf", spec := "fnExactRunsOf", inPlace := ["internal/bytealg.IndexByteString", "internal/bytealg.IndexString"], named := ["unicode/utf8.first", "unicode/utf8.acceptRanges", "internal/bytealg.MaxLen"], apart := false, laid := [("unicode/utf8.acceptRanges", laid_unicode_utf8_acceptRanges), ("unicode/utf8.first", laid_unicode_utf8_first)], narrowed := true }
def FnExactRunsOfUptoSaid : Prop := fnExactRunsOfUptoRow.holds Tryd.pinned (OpenSpec.upto fnExactRunsOfSpec)

/-- 'laws.FnExactClockFaults', WHERE WHAT IT READS IS OF BULK AT MOST 1048576: true; the input reads as it did. -/
def fnExactClockFaultsUptoRow : OpenClaim := { program := "ytkbhdlhkfeaejaadoor", sum := "4153513e0f45e0467a31fac055059b32d5fb5f77e0b663de745d88e4a7250da0", func := "loop.example/g00899/laws.FnExactClockFaults", spec := "fnExactClockFaults", inPlace := ["internal/bytealg.IndexByteString", "internal/bytealg.IndexString"], named := ["unicode/utf8.first", "unicode/utf8.acceptRanges", "internal/bytealg.MaxLen"], apart := false, laid := [("unicode/utf8.acceptRanges", laid_unicode_utf8_acceptRanges), ("unicode/utf8.first", laid_unicode_utf8_first)], narrowed := true }
def FnExactClockFaultsUptoSaid : Prop := fnExactClockFaultsUptoRow.holds Tryd.pinned (OpenSpec.upto fnExactClockFaultsSpec)

/-- 'laws.FnExactFmMarkOf', WHERE WHAT IT READS IS OF BULK AT MOST 1048576: true; the input reads as it did. -/
def fnExactFmMarkOfUptoRow : OpenClaim := { program := "ytkbhdlhkfeaejaadoor", sum := "4153513e0f45e0467a31fac055059b32d5fb5f77e0b663de745d88e4a7250da0", func := "loop.example/g00899/laws.FnExactFmMarkOf", spec := "fnExactFmMarkOf", inPlace := ["internal/bytealg.IndexByteString", "internal/bytealg.IndexString"], named := ["unicode/utf8.first", "unicode/utf8.acceptRanges", "internal/bytealg.MaxLen"], apart := false, laid := [("unicode/utf8.acceptRanges", laid_unicode_utf8_acceptRanges), ("unicode/utf8.first", laid_unicode_utf8_first)], narrowed := true }
def FnExactFmMarkOfUptoSaid : Prop := fnExactFmMarkOfUptoRow.holds Tryd.pinned (OpenSpec.upto fnExactFmMarkOfSpec)

/-- 'laws.FnSplice', WHERE WHAT IT READS IS OF BULK AT MOST 1048576: true; the input reads as it did. -/
def fnSpliceUptoRow : OpenClaim := { program := "ytkbhdlhkfeaejaadoor", sum := "4153513e0f45e0467a31fac055059b32d5fb5f77e0b663de745d88e4a7250da0", func := "loop.example/g00899/laws.FnSplice", spec := "fnSplice", inPlace := ["internal/bytealg.IndexByteString", "internal/bytealg.IndexString"], named := ["unicode/utf8.first", "unicode/utf8.acceptRanges", "internal/bytealg.MaxLen"], apart := false, laid := [("unicode/utf8.acceptRanges", laid_unicode_utf8_acceptRanges), ("unicode/utf8.first", laid_unicode_utf8_first)], narrowed := true }
def FnSpliceUptoSaid : Prop := fnSpliceUptoRow.holds Tryd.pinned (OpenSpec.upto fnSpliceSpec)

/-- 'laws.FnMfm', WHERE WHAT IT READS IS OF BULK AT MOST 1048576: true; the input reads as it did. -/
def fnMfmUptoRow : OpenClaim := { program := "ytkbhdlhkfeaejaadoor", sum := "4153513e0f45e0467a31fac055059b32d5fb5f77e0b663de745d88e4a7250da0", func := "loop.example/g00899/laws.FnMfm", spec := "fnMfm", inPlace := ["internal/bytealg.IndexByteString", "internal/bytealg.IndexString"], named := ["unicode/utf8.first", "unicode/utf8.acceptRanges", "internal/bytealg.MaxLen"], apart := false, laid := [("unicode/utf8.acceptRanges", laid_unicode_utf8_acceptRanges), ("unicode/utf8.first", laid_unicode_utf8_first)], narrowed := true }
def FnMfmUptoSaid : Prop := fnMfmUptoRow.holds Tryd.pinned (OpenSpec.upto fnMfmSpec)

end Rows
end Go.Proofs.YtkbhdlhkfeaejaaDoor
