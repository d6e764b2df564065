/-
  No cell of these rows narrows 'for every input' (looked for: loops, veiled, ifaces, maps, wideKeys, modest, calm, conditions, laid).
  DERIVED. THE GIVEN ROWS OF THIS SEAT. 12 by the template 'for every input the law returns true; each argument reads behind the call as it read before'; 0 by the template 'total and deterministic' (their statements: YtancaffihijohaaTotals.lean).
  GIVEN WITH THE SEED: the statements are not yours to turn. If you find one false, say at which input.
  Laid BY PROGRAM, IN A SANDBOX (cutbox-rows.mjs): the forced cells as the released guide's own fill.sh prints them over the translation 807955fd4e88c40b… (all of the seat's roots in one cut). By AI agents, Wed Nov 11 2026. No macro, syntax, notation, axiom, sorry.
-/
import Derived.Test.YtancaffihijohaaChecked
import GoSem.Claim
import GoSem.ClaimJoined
import GoSem.ClaimMapViews
import Derived.JoinedTies
import Derived.KernelRfl
namespace Go.Proofs.Ytancaffihijohaa
/- THE CELL 'sum', in the pinned program and in every row, IS THE sha256 OF THE DUMP (.gsa) THAT YtancaffihijohaaProg.lean LOADS. Nothing in Lean hashes anything: it is a label: what it is worth is what the hold of that sum in a sandbox is worth. -/
noncomputable def Try.pinned : Pinned := { name := "ytancaffihijohaa", sum := "807955fd4e88c40bd3fa8b9025463a2626d98c52e6b87f9cf1a17b7c61db4e4f", checked := Try.checked }
namespace Rows
def none {H : Type} : Left H := { results := [], args := [] }

/-- 'laws.FnExactConstants': WHATEVER THE INPUT: true; the input reads as it did. -/
def fnExactConstantsSpec : ChangeSpec := { name := "fnExactConstants", fn := fun _ => fun
  | [] => { results := [.lit (.bool true)], args := [] }
  | _ => none }
def fnExactConstantsRow : OpenClaim := { program := "ytancaffihijohaa", sum := "807955fd4e88c40bd3fa8b9025463a2626d98c52e6b87f9cf1a17b7c61db4e4f", func := "loop.example/g00899/laws.FnExactConstants", spec := "fnExactConstants", apart := false }
def FnExactConstantsSaid : Prop := fnExactConstantsRow.holds Try.pinned (OpenSpec.ofChange fnExactConstantsSpec)

/-- ITS FALSE NEIGHBOUR: 'it returns false'. Refute it at one input. -/
def fnExactConstantsWrong : ChangeSpec := { name := "fnExactConstants", fn := fun _ => fun
  | [] => { results := [.lit (.bool false)], args := [] }
  | _ => none }
def FnExactConstantsWrongFalsely : Prop := fnExactConstantsRow.holds Try.pinned (OpenSpec.ofChange fnExactConstantsWrong)

/-- 'laws.FnExactLastBit': WHATEVER THE INPUT: true; the input reads as it did. -/
def fnExactLastBitSpec : ChangeSpec := { name := "fnExactLastBit", fn := fun _ => fun
  | [d] => { results := [.lit (.bool true)], args := [d] }
  | _ => none }
def fnExactLastBitRow : OpenClaim := { program := "ytancaffihijohaa", sum := "807955fd4e88c40bd3fa8b9025463a2626d98c52e6b87f9cf1a17b7c61db4e4f", func := "loop.example/g00899/laws.FnExactLastBit", spec := "fnExactLastBit", apart := false }
def FnExactLastBitSaid : Prop := fnExactLastBitRow.holds Try.pinned (OpenSpec.ofChange fnExactLastBitSpec)

/-- ITS FALSE NEIGHBOUR: 'it returns false'. Refute it at one input. -/
def fnExactLastBitWrong : ChangeSpec := { name := "fnExactLastBit", fn := fun _ => fun
  | [d] => { results := [.lit (.bool false)], args := [d] }
  | _ => none }
def FnExactLastBitWrongFalsely : Prop := fnExactLastBitRow.holds Try.pinned (OpenSpec.ofChange fnExactLastBitWrong)

/-- 'laws.FnExactMfmMark': WHATEVER THE INPUT: true; the input reads as it did. -/
def fnExactMfmMarkSpec : ChangeSpec := { name := "fnExactMfmMark", fn := fun _ => fun
  | [] => { results := [.lit (.bool true)], args := [] }
  | _ => none }
def fnExactMfmMarkRow : OpenClaim := { program := "ytancaffihijohaa", sum := "807955fd4e88c40bd3fa8b9025463a2626d98c52e6b87f9cf1a17b7c61db4e4f", func := "loop.example/g00899/laws.FnExactMfmMark", spec := "fnExactMfmMark", apart := false }
def FnExactMfmMarkSaid : Prop := fnExactMfmMarkRow.holds Try.pinned (OpenSpec.ofChange fnExactMfmMarkSpec)

/-- ITS FALSE NEIGHBOUR: 'it returns false'. Refute it at one input. -/
def fnExactMfmMarkWrong : ChangeSpec := { name := "fnExactMfmMark", fn := fun _ => fun
  | [] => { results := [.lit (.bool false)], args := [] }
  | _ => none }
def FnExactMfmMarkWrongFalsely : Prop := fnExactMfmMarkRow.holds Try.pinned (OpenSpec.ofChange fnExactMfmMarkWrong)

/-- 'laws.FnExactSum16': WHATEVER THE INPUT: true; the input reads as it did. -/
def fnExactSum16Spec : ChangeSpec := { name := "fnExactSum16", fn := fun _ => fun
  | [d] => { results := [.lit (.bool true)], args := [d] }
  | _ => none }
def fnExactSum16Row : OpenClaim := { program := "ytancaffihijohaa", sum := "807955fd4e88c40bd3fa8b9025463a2626d98c52e6b87f9cf1a17b7c61db4e4f", func := "loop.example/g00899/laws.FnExactSum16", spec := "fnExactSum16", apart := false }
def FnExactSum16Said : Prop := fnExactSum16Row.holds Try.pinned (OpenSpec.ofChange fnExactSum16Spec)

/-- ITS FALSE NEIGHBOUR: 'it returns false'. Refute it at one input. -/
def fnExactSum16Wrong : ChangeSpec := { name := "fnExactSum16", fn := fun _ => fun
  | [d] => { results := [.lit (.bool false)], args := [d] }
  | _ => none }
def FnExactSum16WrongFalsely : Prop := fnExactSum16Row.holds Try.pinned (OpenSpec.ofChange fnExactSum16Wrong)

/-- 'laws.FnExactGetWord': WHATEVER THE INPUT: true; the input reads as it did. -/
def fnExactGetWordSpec : ChangeSpec := { name := "fnExactGetWord", fn := fun _ => fun
  | [d1, d2] => { results := [.lit (.bool true)], args := [d1, d2] }
  | _ => none }
def fnExactGetWordRow : OpenClaim := { program := "ytancaffihijohaa", sum := "807955fd4e88c40bd3fa8b9025463a2626d98c52e6b87f9cf1a17b7c61db4e4f", func := "loop.example/g00899/laws.FnExactGetWord", spec := "fnExactGetWord", apart := false }
def FnExactGetWordSaid : Prop := fnExactGetWordRow.holds Try.pinned (OpenSpec.ofChange fnExactGetWordSpec)

/-- ITS FALSE NEIGHBOUR: 'it returns false'. Refute it at one input. -/
def fnExactGetWordWrong : ChangeSpec := { name := "fnExactGetWord", fn := fun _ => fun
  | [d1, d2] => { results := [.lit (.bool false)], args := [d1, d2] }
  | _ => none }
def FnExactGetWordWrongFalsely : Prop := fnExactGetWordRow.holds Try.pinned (OpenSpec.ofChange fnExactGetWordWrong)

/-- 'laws.FnExactPutWord': WHATEVER THE INPUT: true; the input reads as it did. -/
def fnExactPutWordSpec : ChangeSpec := { name := "fnExactPutWord", fn := fun _ => fun
  | [d] => { results := [.lit (.bool true)], args := [d] }
  | _ => none }
def fnExactPutWordRow : OpenClaim := { program := "ytancaffihijohaa", sum := "807955fd4e88c40bd3fa8b9025463a2626d98c52e6b87f9cf1a17b7c61db4e4f", func := "loop.example/g00899/laws.FnExactPutWord", spec := "fnExactPutWord", apart := false }
def FnExactPutWordSaid : Prop := fnExactPutWordRow.holds Try.pinned (OpenSpec.ofChange fnExactPutWordSpec)

/-- ITS FALSE NEIGHBOUR: 'it returns false'. Refute it at one input. -/
def fnExactPutWordWrong : ChangeSpec := { name := "fnExactPutWord", fn := fun _ => fun
  | [d] => { results := [.lit (.bool false)], args := [d] }
  | _ => none }
def FnExactPutWordWrongFalsely : Prop := fnExactPutWordRow.holds Try.pinned (OpenSpec.ofChange fnExactPutWordWrong)

/-- 'laws.FnExactCodeName': WHATEVER THE INPUT: true; the input reads as it did. -/
def fnExactCodeNameSpec : ChangeSpec := { name := "fnExactCodeName", fn := fun _ => fun
  | [d] => { results := [.lit (.bool true)], args := [d] }
  | _ => none }
def fnExactCodeNameRow : OpenClaim := { program := "ytancaffihijohaa", sum := "807955fd4e88c40bd3fa8b9025463a2626d98c52e6b87f9cf1a17b7c61db4e4f", func := "loop.example/g00899/laws.FnExactCodeName", spec := "fnExactCodeName", apart := false }
def FnExactCodeNameSaid : Prop := fnExactCodeNameRow.holds Try.pinned (OpenSpec.ofChange fnExactCodeNameSpec)

/-- ITS FALSE NEIGHBOUR: 'it returns false'. Refute it at one input. -/
def fnExactCodeNameWrong : ChangeSpec := { name := "fnExactCodeName", fn := fun _ => fun
  | [d] => { results := [.lit (.bool false)], args := [d] }
  | _ => none }
def FnExactCodeNameWrongFalsely : Prop := fnExactCodeNameRow.holds Try.pinned (OpenSpec.ofChange fnExactCodeNameWrong)

/-- 'laws.FnExactValidClock': WHATEVER THE INPUT: true; the input reads as it did. -/
def fnExactValidClockSpec : ChangeSpec := { name := "fnExactValidClock", fn := fun _ => fun
  | [d] => { results := [.lit (.bool true)], args := [d] }
  | _ => none }
def fnExactValidClockRow : OpenClaim := { program := "ytancaffihijohaa", sum := "807955fd4e88c40bd3fa8b9025463a2626d98c52e6b87f9cf1a17b7c61db4e4f", func := "loop.example/g00899/laws.FnExactValidClock", spec := "fnExactValidClock", apart := false }
def FnExactValidClockSaid : Prop := fnExactValidClockRow.holds Try.pinned (OpenSpec.ofChange fnExactValidClockSpec)

/-- ITS FALSE NEIGHBOUR: 'it returns false'. Refute it at one input. -/
def fnExactValidClockWrong : ChangeSpec := { name := "fnExactValidClock", fn := fun _ => fun
  | [d] => { results := [.lit (.bool false)], args := [d] }
  | _ => none }
def FnExactValidClockWrongFalsely : Prop := fnExactValidClockRow.holds Try.pinned (OpenSpec.ofChange fnExactValidClockWrong)

/-- 'laws.FnExactIsName': WHATEVER THE INPUT: true; the input reads as it did. -/
def fnExactIsNameSpec : ChangeSpec := { name := "fnExactIsName", fn := fun _ => fun
  | [d] => { results := [.lit (.bool true)], args := [d] }
  | _ => none }
def fnExactIsNameRow : OpenClaim := { program := "ytancaffihijohaa", sum := "807955fd4e88c40bd3fa8b9025463a2626d98c52e6b87f9cf1a17b7c61db4e4f", func := "loop.example/g00899/laws.FnExactIsName", spec := "fnExactIsName", apart := false }
def FnExactIsNameSaid : Prop := fnExactIsNameRow.holds Try.pinned (OpenSpec.ofChange fnExactIsNameSpec)

/-- ITS FALSE NEIGHBOUR: 'it returns false'. Refute it at one input. -/
def fnExactIsNameWrong : ChangeSpec := { name := "fnExactIsName", fn := fun _ => fun
  | [d] => { results := [.lit (.bool false)], args := [d] }
  | _ => none }
def FnExactIsNameWrongFalsely : Prop := fnExactIsNameRow.holds Try.pinned (OpenSpec.ofChange fnExactIsNameWrong)

/-- 'laws.FnExactXorBytes': WHATEVER THE INPUT: true; the input reads as it did. -/
def fnExactXorBytesSpec : ChangeSpec := { name := "fnExactXorBytes", fn := fun _ => fun
  | [d1, d2] => { results := [.lit (.bool true)], args := [d1, d2] }
  | _ => none }
def fnExactXorBytesRow : OpenClaim := { program := "ytancaffihijohaa", sum := "807955fd4e88c40bd3fa8b9025463a2626d98c52e6b87f9cf1a17b7c61db4e4f", func := "loop.example/g00899/laws.FnExactXorBytes", spec := "fnExactXorBytes", apart := false }
def FnExactXorBytesSaid : Prop := fnExactXorBytesRow.holds Try.pinned (OpenSpec.ofChange fnExactXorBytesSpec)

/-- ITS FALSE NEIGHBOUR: 'it returns false'. Refute it at one input. -/
def fnExactXorBytesWrong : ChangeSpec := { name := "fnExactXorBytes", fn := fun _ => fun
  | [d1, d2] => { results := [.lit (.bool false)], args := [d1, d2] }
  | _ => none }
def FnExactXorBytesWrongFalsely : Prop := fnExactXorBytesRow.holds Try.pinned (OpenSpec.ofChange fnExactXorBytesWrong)

/-- 'laws.FnExactHexText': WHATEVER THE INPUT: true; the input reads as it did. -/
def fnExactHexTextSpec : ChangeSpec := { name := "fnExactHexText", fn := fun _ => fun
  | [d] => { results := [.lit (.bool true)], args := [d] }
  | _ => none }
def fnExactHexTextRow : OpenClaim := { program := "ytancaffihijohaa", sum := "807955fd4e88c40bd3fa8b9025463a2626d98c52e6b87f9cf1a17b7c61db4e4f", func := "loop.example/g00899/laws.FnExactHexText", spec := "fnExactHexText", apart := false }
def FnExactHexTextSaid : Prop := fnExactHexTextRow.holds Try.pinned (OpenSpec.ofChange fnExactHexTextSpec)

/-- ITS FALSE NEIGHBOUR: 'it returns false'. Refute it at one input. -/
def fnExactHexTextWrong : ChangeSpec := { name := "fnExactHexText", fn := fun _ => fun
  | [d] => { results := [.lit (.bool false)], args := [d] }
  | _ => none }
def FnExactHexTextWrongFalsely : Prop := fnExactHexTextRow.holds Try.pinned (OpenSpec.ofChange fnExactHexTextWrong)

/-- 'laws.FnExactBitsOf': WHATEVER THE INPUT: true; the input reads as it did. -/
def fnExactBitsOfSpec : ChangeSpec := { name := "fnExactBitsOf", fn := fun _ => fun
  | [d] => { results := [.lit (.bool true)], args := [d] }
  | _ => none }
def fnExactBitsOfRow : OpenClaim := { program := "ytancaffihijohaa", sum := "807955fd4e88c40bd3fa8b9025463a2626d98c52e6b87f9cf1a17b7c61db4e4f", func := "loop.example/g00899/laws.FnExactBitsOf", spec := "fnExactBitsOf", apart := false }
def FnExactBitsOfSaid : Prop := fnExactBitsOfRow.holds Try.pinned (OpenSpec.ofChange fnExactBitsOfSpec)

/-- ITS FALSE NEIGHBOUR: 'it returns false'. Refute it at one input. -/
def fnExactBitsOfWrong : ChangeSpec := { name := "fnExactBitsOf", fn := fun _ => fun
  | [d] => { results := [.lit (.bool false)], args := [d] }
  | _ => none }
def FnExactBitsOfWrongFalsely : Prop := fnExactBitsOfRow.holds Try.pinned (OpenSpec.ofChange fnExactBitsOfWrong)

/- THE SECOND FORM. 'bulk': how many values and letters a reading holds, each counted each time it is reached (what is shared counts as often as it is met; a slice's spare places count too). A statement '..UptoSaid' is the law's where the arguments, and the package variables that the reading takes, are together of bulk at most 1048576: NARROWER than '..Said'. Prove '..Said' where nothing that the law and all that it calls make is longer than what came in: it says more and counts as full. Else prove '..UptoSaid'. A law counts once. -/
mutual
def uptoBulk {H : Type} : DataW H → Nat
  | .lit (.string bytes) => bytes.length + 1
  | .lit _ => 1
  | .nil => 1
  | .ptr d => uptoBulk d + 1
  | .slice elems spare => uptoBulkAll elems + uptoBulkAll spare + 1
  | .agg parts => uptoBulkAll parts + 1
  | .iface _ d => uptoBulk d + 1
  | .map entries => uptoBulkEntries entries + 1
  | .held _ => 1
def uptoBulkAll {H : Type} : List (DataW H) → Nat
  | [] => 0
  | d :: r => uptoBulk d + uptoBulkAll r
def uptoBulkEntries {H : Type} : List (Lit × DataW H) → Nat
  | [] => 0
  | x :: r => uptoBulkEntry x + uptoBulkEntries r
def uptoBulkEntry {H : Type} : Lit × DataW H → Nat
  | (.string bytes, d) => bytes.length + uptoBulk d + 1
  | (_, d) => uptoBulk d + 1
 end
def uptoSmall : (H : Type) → List (DataW H) → Bool := fun _ ds => decide (uptoBulkAll ds ≤ 1048576)
def OpenSpec.upto (s : _root_.Go.ChangeSpec) : _root_.Go.OpenSpec := { _root_.Go.OpenSpec.ofChange s with cond := some uptoSmall }

/-- 'laws.FnExactConstants', WHERE WHAT IT READS IS OF BULK AT MOST 1048576: true; the input reads as it did. -/
def fnExactConstantsUptoRow : OpenClaim := { program := "ytancaffihijohaa", sum := "807955fd4e88c40bd3fa8b9025463a2626d98c52e6b87f9cf1a17b7c61db4e4f", func := "loop.example/g00899/laws.FnExactConstants", spec := "fnExactConstants", apart := false, narrowed := true }
def FnExactConstantsUptoSaid : Prop := fnExactConstantsUptoRow.holds Try.pinned (OpenSpec.upto fnExactConstantsSpec)

/-- 'laws.FnExactLastBit', WHERE WHAT IT READS IS OF BULK AT MOST 1048576: true; the input reads as it did. -/
def fnExactLastBitUptoRow : OpenClaim := { program := "ytancaffihijohaa", sum := "807955fd4e88c40bd3fa8b9025463a2626d98c52e6b87f9cf1a17b7c61db4e4f", func := "loop.example/g00899/laws.FnExactLastBit", spec := "fnExactLastBit", apart := false, narrowed := true }
def FnExactLastBitUptoSaid : Prop := fnExactLastBitUptoRow.holds Try.pinned (OpenSpec.upto fnExactLastBitSpec)

/-- 'laws.FnExactMfmMark', WHERE WHAT IT READS IS OF BULK AT MOST 1048576: true; the input reads as it did. -/
def fnExactMfmMarkUptoRow : OpenClaim := { program := "ytancaffihijohaa", sum := "807955fd4e88c40bd3fa8b9025463a2626d98c52e6b87f9cf1a17b7c61db4e4f", func := "loop.example/g00899/laws.FnExactMfmMark", spec := "fnExactMfmMark", apart := false, narrowed := true }
def FnExactMfmMarkUptoSaid : Prop := fnExactMfmMarkUptoRow.holds Try.pinned (OpenSpec.upto fnExactMfmMarkSpec)

/-- 'laws.FnExactSum16', WHERE WHAT IT READS IS OF BULK AT MOST 1048576: true; the input reads as it did. -/
def fnExactSum16UptoRow : OpenClaim := { program := "ytancaffihijohaa", sum := "807955fd4e88c40bd3fa8b9025463a2626d98c52e6b87f9cf1a17b7c61db4e4f", func := "loop.example/g00899/laws.FnExactSum16", spec := "fnExactSum16", apart := false, narrowed := true }
def FnExactSum16UptoSaid : Prop := fnExactSum16UptoRow.holds Try.pinned (OpenSpec.upto fnExactSum16Spec)

/-- 'laws.FnExactGetWord', WHERE WHAT IT READS IS OF BULK AT MOST 1048576: true; the input reads as it did. -/
def fnExactGetWordUptoRow : OpenClaim := { program := "ytancaffihijohaa", sum := "807955fd4e88c40bd3fa8b9025463a2626d98c52e6b87f9cf1a17b7c61db4e4f", func := "loop.example/g00899/laws.FnExactGetWord", spec := "fnExactGetWord", apart := false, narrowed := true }
def FnExactGetWordUptoSaid : Prop := fnExactGetWordUptoRow.holds Try.pinned (OpenSpec.upto fnExactGetWordSpec)

/-- 'laws.FnExactPutWord', WHERE WHAT IT READS IS OF BULK AT MOST 1048576: true; the input reads as it did. -/
def fnExactPutWordUptoRow : OpenClaim := { program := "ytancaffihijohaa", sum := "807955fd4e88c40bd3fa8b9025463a2626d98c52e6b87f9cf1a17b7c61db4e4f", func := "loop.example/g00899/laws.FnExactPutWord", spec := "fnExactPutWord", apart := false, narrowed := true }
def FnExactPutWordUptoSaid : Prop := fnExactPutWordUptoRow.holds Try.pinned (OpenSpec.upto fnExactPutWordSpec)

/-- 'laws.FnExactCodeName', WHERE WHAT IT READS IS OF BULK AT MOST 1048576: true; the input reads as it did. -/
def fnExactCodeNameUptoRow : OpenClaim := { program := "ytancaffihijohaa", sum := "807955fd4e88c40bd3fa8b9025463a2626d98c52e6b87f9cf1a17b7c61db4e4f", func := "loop.example/g00899/laws.FnExactCodeName", spec := "fnExactCodeName", apart := false, narrowed := true }
def FnExactCodeNameUptoSaid : Prop := fnExactCodeNameUptoRow.holds Try.pinned (OpenSpec.upto fnExactCodeNameSpec)

/-- 'laws.FnExactValidClock', WHERE WHAT IT READS IS OF BULK AT MOST 1048576: true; the input reads as it did. -/
def fnExactValidClockUptoRow : OpenClaim := { program := "ytancaffihijohaa", sum := "807955fd4e88c40bd3fa8b9025463a2626d98c52e6b87f9cf1a17b7c61db4e4f", func := "loop.example/g00899/laws.FnExactValidClock", spec := "fnExactValidClock", apart := false, narrowed := true }
def FnExactValidClockUptoSaid : Prop := fnExactValidClockUptoRow.holds Try.pinned (OpenSpec.upto fnExactValidClockSpec)

/-- 'laws.FnExactIsName', WHERE WHAT IT READS IS OF BULK AT MOST 1048576: true; the input reads as it did. -/
def fnExactIsNameUptoRow : OpenClaim := { program := "ytancaffihijohaa", sum := "807955fd4e88c40bd3fa8b9025463a2626d98c52e6b87f9cf1a17b7c61db4e4f", func := "loop.example/g00899/laws.FnExactIsName", spec := "fnExactIsName", apart := false, narrowed := true }
def FnExactIsNameUptoSaid : Prop := fnExactIsNameUptoRow.holds Try.pinned (OpenSpec.upto fnExactIsNameSpec)

/-- 'laws.FnExactXorBytes', WHERE WHAT IT READS IS OF BULK AT MOST 1048576: true; the input reads as it did. -/
def fnExactXorBytesUptoRow : OpenClaim := { program := "ytancaffihijohaa", sum := "807955fd4e88c40bd3fa8b9025463a2626d98c52e6b87f9cf1a17b7c61db4e4f", func := "loop.example/g00899/laws.FnExactXorBytes", spec := "fnExactXorBytes", apart := false, narrowed := true }
def FnExactXorBytesUptoSaid : Prop := fnExactXorBytesUptoRow.holds Try.pinned (OpenSpec.upto fnExactXorBytesSpec)

/-- 'laws.FnExactHexText', WHERE WHAT IT READS IS OF BULK AT MOST 1048576: true; the input reads as it did. -/
def fnExactHexTextUptoRow : OpenClaim := { program := "ytancaffihijohaa", sum := "807955fd4e88c40bd3fa8b9025463a2626d98c52e6b87f9cf1a17b7c61db4e4f", func := "loop.example/g00899/laws.FnExactHexText", spec := "fnExactHexText", apart := false, narrowed := true }
def FnExactHexTextUptoSaid : Prop := fnExactHexTextUptoRow.holds Try.pinned (OpenSpec.upto fnExactHexTextSpec)

/-- 'laws.FnExactBitsOf', WHERE WHAT IT READS IS OF BULK AT MOST 1048576: true; the input reads as it did. -/
def fnExactBitsOfUptoRow : OpenClaim := { program := "ytancaffihijohaa", sum := "807955fd4e88c40bd3fa8b9025463a2626d98c52e6b87f9cf1a17b7c61db4e4f", func := "loop.example/g00899/laws.FnExactBitsOf", spec := "fnExactBitsOf", apart := false, narrowed := true }
def FnExactBitsOfUptoSaid : Prop := fnExactBitsOfUptoRow.holds Try.pinned (OpenSpec.upto fnExactBitsOfSpec)

end Rows
end Go.Proofs.Ytancaffihijohaa
