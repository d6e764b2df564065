/-
  No cell of these rows narrows 'for every input' (looked for: loops, veiled, ifaces, maps, wideKeys, modest, calm, conditions, laid).
  DERIVED. THE GIVEN ROWS OF THIS SEAT. 7 by the template 'for every input the law returns true; each argument reads behind the call as it read before'; 0 by the template 'total and deterministic' (their statements: YtgaemcpfhmaplaaTotals.lean).
  GIVEN WITH THE SEED: the statements are not yours to turn. If you find one false, say at which input.
  Laid BY PROGRAM, IN A SANDBOX (cutbox-rows.mjs): the forced cells as the released guide's own fill.sh prints them over the translation c4d41f0fedad9541… (all of the seat's roots in one cut). By AI agents, Wed Nov 11 2026. No macro, syntax, notation, axiom, sorry.
-/
import Derived.Test.YtgaemcpfhmaplaaChecked
import GoSem.Claim
import GoSem.ClaimJoined
import GoSem.ClaimMapViews
import Derived.JoinedTies
import Derived.KernelRfl
namespace Go.Proofs.Ytgaemcpfhmaplaa
/- THE CELL 'sum', in the pinned program and in every row, IS THE sha256 OF THE DUMP (.gsa) THAT YtgaemcpfhmaplaaProg.lean LOADS. Nothing in Lean hashes anything: it is a label: what it is worth is what the hold of that sum in a sandbox is worth. -/
noncomputable def Try.pinned : Pinned := { name := "ytgaemcpfhmaplaa", sum := "c4d41f0fedad9541c11b3fa630fc08f5459531357d27fe9556c21a668c639b77", checked := Try.checked }
namespace Rows
def none {H : Type} : Left H := { results := [], args := [] }

/-- 'laws.FnExactReadHex': WHATEVER THE INPUT: true; the input reads as it did. -/
def fnExactReadHexSpec : ChangeSpec := { name := "fnExactReadHex", fn := fun _ => fun
  | [d] => { results := [.lit (.bool true)], args := [d] }
  | _ => none }
def fnExactReadHexRow : OpenClaim := { program := "ytgaemcpfhmaplaa", sum := "c4d41f0fedad9541c11b3fa630fc08f5459531357d27fe9556c21a668c639b77", func := "loop.example/g00899/laws.FnExactReadHex", spec := "fnExactReadHex", inPlace := ["internal/bytealg.IndexByteString"], apart := false }
def FnExactReadHexSaid : Prop := fnExactReadHexRow.holds Try.pinned (OpenSpec.ofChange fnExactReadHexSpec)

/-- ITS FALSE NEIGHBOUR: 'it returns false'. Refute it at one input. -/
def fnExactReadHexWrong : ChangeSpec := { name := "fnExactReadHex", fn := fun _ => fun
  | [d] => { results := [.lit (.bool false)], args := [d] }
  | _ => none }
def FnExactReadHexWrongFalsely : Prop := fnExactReadHexRow.holds Try.pinned (OpenSpec.ofChange fnExactReadHexWrong)

/-- 'laws.FnExactCrc16': WHATEVER THE INPUT: true; the input reads as it did. -/
def fnExactCrc16Spec : ChangeSpec := { name := "fnExactCrc16", fn := fun _ => fun
  | [d1, d2] => { results := [.lit (.bool true)], args := [d1, d2] }
  | _ => none }
def fnExactCrc16Row : OpenClaim := { program := "ytgaemcpfhmaplaa", sum := "c4d41f0fedad9541c11b3fa630fc08f5459531357d27fe9556c21a668c639b77", func := "loop.example/g00899/laws.FnExactCrc16", spec := "fnExactCrc16", apart := false }
def FnExactCrc16Said : Prop := fnExactCrc16Row.holds Try.pinned (OpenSpec.ofChange fnExactCrc16Spec)

/-- ITS FALSE NEIGHBOUR: 'it returns false'. Refute it at one input. -/
def fnExactCrc16Wrong : ChangeSpec := { name := "fnExactCrc16", fn := fun _ => fun
  | [d1, d2] => { results := [.lit (.bool false)], args := [d1, d2] }
  | _ => none }
def FnExactCrc16WrongFalsely : Prop := fnExactCrc16Row.holds Try.pinned (OpenSpec.ofChange fnExactCrc16Wrong)

/-- 'laws.FnCrcBurst': WHATEVER THE INPUT: true; the input reads as it did. -/
def fnCrcBurstSpec : ChangeSpec := { name := "fnCrcBurst", fn := fun _ => fun
  | [d1, d2] => { results := [.lit (.bool true)], args := [d1, d2] }
  | _ => none }
def fnCrcBurstRow : OpenClaim := { program := "ytgaemcpfhmaplaa", sum := "c4d41f0fedad9541c11b3fa630fc08f5459531357d27fe9556c21a668c639b77", func := "loop.example/g00899/laws.FnCrcBurst", spec := "fnCrcBurst", apart := false }
def FnCrcBurstSaid : Prop := fnCrcBurstRow.holds Try.pinned (OpenSpec.ofChange fnCrcBurstSpec)

/-- ITS FALSE NEIGHBOUR: 'it returns false'. Refute it at one input. -/
def fnCrcBurstWrong : ChangeSpec := { name := "fnCrcBurst", fn := fun _ => fun
  | [d1, d2] => { results := [.lit (.bool false)], args := [d1, d2] }
  | _ => none }
def FnCrcBurstWrongFalsely : Prop := fnCrcBurstRow.holds Try.pinned (OpenSpec.ofChange fnCrcBurstWrong)

/-- 'laws.FnCrcLinear': WHATEVER THE INPUT: true; the input reads as it did. -/
def fnCrcLinearSpec : ChangeSpec := { name := "fnCrcLinear", fn := fun _ => fun
  | [d] => { results := [.lit (.bool true)], args := [d] }
  | _ => none }
def fnCrcLinearRow : OpenClaim := { program := "ytgaemcpfhmaplaa", sum := "c4d41f0fedad9541c11b3fa630fc08f5459531357d27fe9556c21a668c639b77", func := "loop.example/g00899/laws.FnCrcLinear", spec := "fnCrcLinear", apart := false }
def FnCrcLinearSaid : Prop := fnCrcLinearRow.holds Try.pinned (OpenSpec.ofChange fnCrcLinearSpec)

/-- ITS FALSE NEIGHBOUR: 'it returns false'. Refute it at one input. -/
def fnCrcLinearWrong : ChangeSpec := { name := "fnCrcLinear", fn := fun _ => fun
  | [d] => { results := [.lit (.bool false)], args := [d] }
  | _ => none }
def FnCrcLinearWrongFalsely : Prop := fnCrcLinearRow.holds Try.pinned (OpenSpec.ofChange fnCrcLinearWrong)

/-- 'laws.FnExactEncodeFm': WHATEVER THE INPUT: true; the input reads as it did. -/
def fnExactEncodeFmSpec : ChangeSpec := { name := "fnExactEncodeFm", fn := fun _ => fun
  | [d] => { results := [.lit (.bool true)], args := [d] }
  | _ => none }
def fnExactEncodeFmRow : OpenClaim := { program := "ytgaemcpfhmaplaa", sum := "c4d41f0fedad9541c11b3fa630fc08f5459531357d27fe9556c21a668c639b77", func := "loop.example/g00899/laws.FnExactEncodeFm", spec := "fnExactEncodeFm", apart := false }
def FnExactEncodeFmSaid : Prop := fnExactEncodeFmRow.holds Try.pinned (OpenSpec.ofChange fnExactEncodeFmSpec)

/-- ITS FALSE NEIGHBOUR: 'it returns false'. Refute it at one input. -/
def fnExactEncodeFmWrong : ChangeSpec := { name := "fnExactEncodeFm", fn := fun _ => fun
  | [d] => { results := [.lit (.bool false)], args := [d] }
  | _ => none }
def FnExactEncodeFmWrongFalsely : Prop := fnExactEncodeFmRow.holds Try.pinned (OpenSpec.ofChange fnExactEncodeFmWrong)

/-- 'laws.FnExactEncodeMfm': WHATEVER THE INPUT: true; the input reads as it did. -/
def fnExactEncodeMfmSpec : ChangeSpec := { name := "fnExactEncodeMfm", fn := fun _ => fun
  | [d1, d2] => { results := [.lit (.bool true)], args := [d1, d2] }
  | _ => none }
def fnExactEncodeMfmRow : OpenClaim := { program := "ytgaemcpfhmaplaa", sum := "c4d41f0fedad9541c11b3fa630fc08f5459531357d27fe9556c21a668c639b77", func := "loop.example/g00899/laws.FnExactEncodeMfm", spec := "fnExactEncodeMfm", apart := false }
def FnExactEncodeMfmSaid : Prop := fnExactEncodeMfmRow.holds Try.pinned (OpenSpec.ofChange fnExactEncodeMfmSpec)

/-- ITS FALSE NEIGHBOUR: 'it returns false'. Refute it at one input. -/
def fnExactEncodeMfmWrong : ChangeSpec := { name := "fnExactEncodeMfm", fn := fun _ => fun
  | [d1, d2] => { results := [.lit (.bool false)], args := [d1, d2] }
  | _ => none }
def FnExactEncodeMfmWrongFalsely : Prop := fnExactEncodeMfmRow.holds Try.pinned (OpenSpec.ofChange fnExactEncodeMfmWrong)

/-- 'laws.FnExactFmMark': WHATEVER THE INPUT: true; the input reads as it did. -/
def fnExactFmMarkSpec : ChangeSpec := { name := "fnExactFmMark", fn := fun _ => fun
  | [d] => { results := [.lit (.bool true)], args := [d] }
  | _ => none }
def fnExactFmMarkRow : OpenClaim := { program := "ytgaemcpfhmaplaa", sum := "c4d41f0fedad9541c11b3fa630fc08f5459531357d27fe9556c21a668c639b77", func := "loop.example/g00899/laws.FnExactFmMark", spec := "fnExactFmMark", apart := false }
def FnExactFmMarkSaid : Prop := fnExactFmMarkRow.holds Try.pinned (OpenSpec.ofChange fnExactFmMarkSpec)

/-- ITS FALSE NEIGHBOUR: 'it returns false'. Refute it at one input. -/
def fnExactFmMarkWrong : ChangeSpec := { name := "fnExactFmMark", fn := fun _ => fun
  | [d] => { results := [.lit (.bool false)], args := [d] }
  | _ => none }
def FnExactFmMarkWrongFalsely : Prop := fnExactFmMarkRow.holds Try.pinned (OpenSpec.ofChange fnExactFmMarkWrong)

/- THE SECOND FORM. 'bulk': how many values and letters a reading holds, each counted each time it is reached (what is shared counts as often as it is met; a slice's spare places count too). A statement '..UptoSaid' is the law's where the arguments, and the package variables that the reading takes, are together of bulk at most 1048576: NARROWER than '..Said'. Prove '..Said' where nothing that the law and all that it calls make is longer than what came in: it says more and counts as full. Else prove '..UptoSaid'. A law counts once. -/
mutual
def uptoBulk {H : Type} : DataW H → Nat
  | .lit (.string bytes) => bytes.length + 1
  | .lit _ => 1
  | .nil => 1
  | .ptr d => uptoBulk d + 1
  | .slice elems spare => uptoBulkAll elems + uptoBulkAll spare + 1
  | .agg parts => uptoBulkAll parts + 1
  | .iface _ d => uptoBulk d + 1
  | .map entries => uptoBulkEntries entries + 1
  | .held _ => 1
def uptoBulkAll {H : Type} : List (DataW H) → Nat
  | [] => 0
  | d :: r => uptoBulk d + uptoBulkAll r
def uptoBulkEntries {H : Type} : List (Lit × DataW H) → Nat
  | [] => 0
  | x :: r => uptoBulkEntry x + uptoBulkEntries r
def uptoBulkEntry {H : Type} : Lit × DataW H → Nat
  | (.string bytes, d) => bytes.length + uptoBulk d + 1
  | (_, d) => uptoBulk d + 1
 end
def uptoSmall : (H : Type) → List (DataW H) → Bool := fun _ ds => decide (uptoBulkAll ds ≤ 1048576)
def OpenSpec.upto (s : _root_.Go.ChangeSpec) : _root_.Go.OpenSpec := { _root_.Go.OpenSpec.ofChange s with cond := some uptoSmall }

/-- 'laws.FnExactReadHex', WHERE WHAT IT READS IS OF BULK AT MOST 1048576: true; the input reads as it did. -/
def fnExactReadHexUptoRow : OpenClaim := { program := "ytgaemcpfhmaplaa", sum := "c4d41f0fedad9541c11b3fa630fc08f5459531357d27fe9556c21a668c639b77", func := "loop.example/g00899/laws.FnExactReadHex", spec := "fnExactReadHex", inPlace := ["internal/bytealg.IndexByteString"], apart := false, narrowed := true }
def FnExactReadHexUptoSaid : Prop := fnExactReadHexUptoRow.holds Try.pinned (OpenSpec.upto fnExactReadHexSpec)

/-- 'laws.FnExactCrc16', WHERE WHAT IT READS IS OF BULK AT MOST 1048576: true; the input reads as it did. -/
def fnExactCrc16UptoRow : OpenClaim := { program := "ytgaemcpfhmaplaa", sum := "c4d41f0fedad9541c11b3fa630fc08f5459531357d27fe9556c21a668c639b77", func := "loop.example/g00899/laws.FnExactCrc16", spec := "fnExactCrc16", apart := false, narrowed := true }
def FnExactCrc16UptoSaid : Prop := fnExactCrc16UptoRow.holds Try.pinned (OpenSpec.upto fnExactCrc16Spec)

/-- 'laws.FnCrcBurst', WHERE WHAT IT READS IS OF BULK AT MOST 1048576: true; the input reads as it did. -/
def fnCrcBurstUptoRow : OpenClaim := { program := "ytgaemcpfhmaplaa", sum := "c4d41f0fedad9541c11b3fa630fc08f5459531357d27fe9556c21a668c639b77", func := "loop.example/g00899/laws.FnCrcBurst", spec := "fnCrcBurst", apart := false, narrowed := true }
def FnCrcBurstUptoSaid : Prop := fnCrcBurstUptoRow.holds Try.pinned (OpenSpec.upto fnCrcBurstSpec)

/-- 'laws.FnCrcLinear', WHERE WHAT IT READS IS OF BULK AT MOST 1048576: true; the input reads as it did. -/
def fnCrcLinearUptoRow : OpenClaim := { program := "ytgaemcpfhmaplaa", sum := "c4d41f0fedad9541c11b3fa630fc08f5459531357d27fe9556c21a668c639b77", func := "loop.example/g00899/laws.FnCrcLinear", spec := "fnCrcLinear", apart := false, narrowed := true }
def FnCrcLinearUptoSaid : Prop := fnCrcLinearUptoRow.holds Try.pinned (OpenSpec.upto fnCrcLinearSpec)

/-- 'laws.FnExactEncodeFm', WHERE WHAT IT READS IS OF BULK AT MOST 1048576: true; the input reads as it did. -/
def fnExactEncodeFmUptoRow : OpenClaim := { program := "ytgaemcpfhmaplaa", sum := "c4d41f0fedad9541c11b3fa630fc08f5459531357d27fe9556c21a668c639b77", func := "loop.example/g00899/laws.FnExactEncodeFm", spec := "fnExactEncodeFm", apart := false, narrowed := true }
def FnExactEncodeFmUptoSaid : Prop := fnExactEncodeFmUptoRow.holds Try.pinned (OpenSpec.upto fnExactEncodeFmSpec)

/-- 'laws.FnExactEncodeMfm', WHERE WHAT IT READS IS OF BULK AT MOST 1048576: true; the input reads as it did. -/
def fnExactEncodeMfmUptoRow : OpenClaim := { program := "ytgaemcpfhmaplaa", sum := "c4d41f0fedad9541c11b3fa630fc08f5459531357d27fe9556c21a668c639b77", func := "loop.example/g00899/laws.FnExactEncodeMfm", spec := "fnExactEncodeMfm", apart := false, narrowed := true }
def FnExactEncodeMfmUptoSaid : Prop := fnExactEncodeMfmUptoRow.holds Try.pinned (OpenSpec.upto fnExactEncodeMfmSpec)

/-- 'laws.FnExactFmMark', WHERE WHAT IT READS IS OF BULK AT MOST 1048576: true; the input reads as it did. -/
def fnExactFmMarkUptoRow : OpenClaim := { program := "ytgaemcpfhmaplaa", sum := "c4d41f0fedad9541c11b3fa630fc08f5459531357d27fe9556c21a668c639b77", func := "loop.example/g00899/laws.FnExactFmMark", spec := "fnExactFmMark", apart := false, narrowed := true }
def FnExactFmMarkUptoSaid : Prop := fnExactFmMarkUptoRow.holds Try.pinned (OpenSpec.upto fnExactFmMarkSpec)

end Rows
end Go.Proofs.Ytgaemcpfhmaplaa
