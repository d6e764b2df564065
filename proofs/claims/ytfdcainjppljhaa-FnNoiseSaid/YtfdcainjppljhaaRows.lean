/-
  No cell of these rows narrows 'for every input' (looked for: loops, veiled, ifaces, maps, wideKeys, modest, calm, conditions, laid).
  DERIVED. THE GIVEN ROWS OF THIS SEAT. 5 by the template 'for every input the law returns true; each argument reads behind the call as it read before'; 0 by the template 'total and deterministic' (their statements: YtfdcainjppljhaaTotals.lean).
  GIVEN WITH THE SEED: the statements are not yours to turn. If you find one false, say at which input.
  Laid BY PROGRAM, IN A SANDBOX (cutbox-rows.mjs): the forced cells as the released guide's own fill.sh prints them over the translation 94721e4d2d1bb639… (all of the seat's roots in one cut). By AI agents, Wed Nov 11 2026. No macro, syntax, notation, axiom, sorry.
-/
import Derived.Test.YtfdcainjppljhaaChecked
import GoSem.Claim
import GoSem.ClaimJoined
import GoSem.ClaimMapViews
import Derived.JoinedTies
import Derived.KernelRfl
namespace Go.Proofs.Ytfdcainjppljhaa
/- THE CELL 'sum', in the pinned program and in every row, IS THE sha256 OF THE DUMP (.gsa) THAT YtfdcainjppljhaaProg.lean LOADS. Nothing in Lean hashes anything: it is a label: what it is worth is what the hold of that sum in a sandbox is worth. -/
noncomputable def Try.pinned : Pinned := { name := "ytfdcainjppljhaa", sum := "94721e4d2d1bb639d7993007fccf18738c86310da4d0e9ff892282ff566eb8fa", checked := Try.checked }
namespace Rows
def none {H : Type} : Left H := { results := [], args := [] }

/-- 'laws.FnExactRotateFlux': WHATEVER THE INPUT: true; the input reads as it did. -/
def fnExactRotateFluxSpec : ChangeSpec := { name := "fnExactRotateFlux", fn := fun _ => fun
  | [d1, d2] => { results := [.lit (.bool true)], args := [d1, d2] }
  | _ => none }
def fnExactRotateFluxRow : OpenClaim := { program := "ytfdcainjppljhaa", sum := "94721e4d2d1bb639d7993007fccf18738c86310da4d0e9ff892282ff566eb8fa", func := "loop.example/g00899/laws.FnExactRotateFlux", spec := "fnExactRotateFlux", recurses := true, apart := false }
def FnExactRotateFluxSaid : Prop := fnExactRotateFluxRow.holds Try.pinned (OpenSpec.ofChange fnExactRotateFluxSpec)

/-- ITS FALSE NEIGHBOUR: 'it returns false'. Refute it at one input. -/
def fnExactRotateFluxWrong : ChangeSpec := { name := "fnExactRotateFlux", fn := fun _ => fun
  | [d1, d2] => { results := [.lit (.bool false)], args := [d1, d2] }
  | _ => none }
def FnExactRotateFluxWrongFalsely : Prop := fnExactRotateFluxRow.holds Try.pinned (OpenSpec.ofChange fnExactRotateFluxWrong)

/-- 'laws.FnWeakAreas': WHATEVER THE INPUT: true; the input reads as it did. -/
def fnWeakAreasSpec : ChangeSpec := { name := "fnWeakAreas", fn := fun _ => fun
  | [d1, d2] => { results := [.lit (.bool true)], args := [d1, d2] }
  | _ => none }
def fnWeakAreasRow : OpenClaim := { program := "ytfdcainjppljhaa", sum := "94721e4d2d1bb639d7993007fccf18738c86310da4d0e9ff892282ff566eb8fa", func := "loop.example/g00899/laws.FnWeakAreas", spec := "fnWeakAreas", recurses := true, apart := false }
def FnWeakAreasSaid : Prop := fnWeakAreasRow.holds Try.pinned (OpenSpec.ofChange fnWeakAreasSpec)

/-- ITS FALSE NEIGHBOUR: 'it returns false'. Refute it at one input. -/
def fnWeakAreasWrong : ChangeSpec := { name := "fnWeakAreas", fn := fun _ => fun
  | [d1, d2] => { results := [.lit (.bool false)], args := [d1, d2] }
  | _ => none }
def FnWeakAreasWrongFalsely : Prop := fnWeakAreasRow.holds Try.pinned (OpenSpec.ofChange fnWeakAreasWrong)

/-- 'laws.FnExactWeakenFlux': WHATEVER THE INPUT: true; the input reads as it did. -/
def fnExactWeakenFluxSpec : ChangeSpec := { name := "fnExactWeakenFlux", fn := fun _ => fun
  | [d1, d2] => { results := [.lit (.bool true)], args := [d1, d2] }
  | _ => none }
def fnExactWeakenFluxRow : OpenClaim := { program := "ytfdcainjppljhaa", sum := "94721e4d2d1bb639d7993007fccf18738c86310da4d0e9ff892282ff566eb8fa", func := "loop.example/g00899/laws.FnExactWeakenFlux", spec := "fnExactWeakenFlux", recurses := true, apart := false }
def FnExactWeakenFluxSaid : Prop := fnExactWeakenFluxRow.holds Try.pinned (OpenSpec.ofChange fnExactWeakenFluxSpec)

/-- ITS FALSE NEIGHBOUR: 'it returns false'. Refute it at one input. -/
def fnExactWeakenFluxWrong : ChangeSpec := { name := "fnExactWeakenFlux", fn := fun _ => fun
  | [d1, d2] => { results := [.lit (.bool false)], args := [d1, d2] }
  | _ => none }
def FnExactWeakenFluxWrongFalsely : Prop := fnExactWeakenFluxRow.holds Try.pinned (OpenSpec.ofChange fnExactWeakenFluxWrong)

/-- 'laws.FnNoise': WHATEVER THE INPUT: true; the input reads as it did. -/
def fnNoiseSpec : ChangeSpec := { name := "fnNoise", fn := fun _ => fun
  | [d1, d2] => { results := [.lit (.bool true)], args := [d1, d2] }
  | _ => none }
def fnNoiseRow : OpenClaim := { program := "ytfdcainjppljhaa", sum := "94721e4d2d1bb639d7993007fccf18738c86310da4d0e9ff892282ff566eb8fa", func := "loop.example/g00899/laws.FnNoise", spec := "fnNoise", recurses := true, apart := false }
def FnNoiseSaid : Prop := fnNoiseRow.holds Try.pinned (OpenSpec.ofChange fnNoiseSpec)

/-- ITS FALSE NEIGHBOUR: 'it returns false'. Refute it at one input. -/
def fnNoiseWrong : ChangeSpec := { name := "fnNoise", fn := fun _ => fun
  | [d1, d2] => { results := [.lit (.bool false)], args := [d1, d2] }
  | _ => none }
def FnNoiseWrongFalsely : Prop := fnNoiseRow.holds Try.pinned (OpenSpec.ofChange fnNoiseWrong)

/-- 'laws.FnExactAddNoise': WHATEVER THE INPUT: true; the input reads as it did. -/
def fnExactAddNoiseSpec : ChangeSpec := { name := "fnExactAddNoise", fn := fun _ => fun
  | [d1, d2] => { results := [.lit (.bool true)], args := [d1, d2] }
  | _ => none }
def fnExactAddNoiseRow : OpenClaim := { program := "ytfdcainjppljhaa", sum := "94721e4d2d1bb639d7993007fccf18738c86310da4d0e9ff892282ff566eb8fa", func := "loop.example/g00899/laws.FnExactAddNoise", spec := "fnExactAddNoise", recurses := true, apart := false }
def FnExactAddNoiseSaid : Prop := fnExactAddNoiseRow.holds Try.pinned (OpenSpec.ofChange fnExactAddNoiseSpec)

/-- ITS FALSE NEIGHBOUR: 'it returns false'. Refute it at one input. -/
def fnExactAddNoiseWrong : ChangeSpec := { name := "fnExactAddNoise", fn := fun _ => fun
  | [d1, d2] => { results := [.lit (.bool false)], args := [d1, d2] }
  | _ => none }
def FnExactAddNoiseWrongFalsely : Prop := fnExactAddNoiseRow.holds Try.pinned (OpenSpec.ofChange fnExactAddNoiseWrong)

/- THE SECOND FORM. 'bulk': how many values and letters a reading holds, each counted each time it is reached (what is shared counts as often as it is met; a slice's spare places count too). A statement '..UptoSaid' is the law's where the arguments, and the package variables that the reading takes, are together of bulk at most 1048576: NARROWER than '..Said'. Prove '..Said' where nothing that the law and all that it calls make is longer than what came in: it says more and counts as full. Else prove '..UptoSaid'. A law counts once. -/
mutual
def uptoBulk {H : Type} : DataW H → Nat
  | .lit (.string bytes) => bytes.length + 1
  | .lit _ => 1
  | .nil => 1
  | .ptr d => uptoBulk d + 1
  | .slice elems spare => uptoBulkAll elems + uptoBulkAll spare + 1
  | .agg parts => uptoBulkAll parts + 1
  | .iface _ d => uptoBulk d + 1
  | .map entries => uptoBulkEntries entries + 1
  | .held _ => 1
def uptoBulkAll {H : Type} : List (DataW H) → Nat
  | [] => 0
  | d :: r => uptoBulk d + uptoBulkAll r
def uptoBulkEntries {H : Type} : List (Lit × DataW H) → Nat
  | [] => 0
  | x :: r => uptoBulkEntry x + uptoBulkEntries r
def uptoBulkEntry {H : Type} : Lit × DataW H → Nat
  | (.string bytes, d) => bytes.length + uptoBulk d + 1
  | (_, d) => uptoBulk d + 1
 end
def uptoSmall : (H : Type) → List (DataW H) → Bool := fun _ ds => decide (uptoBulkAll ds ≤ 1048576)
def OpenSpec.upto (s : _root_.Go.ChangeSpec) : _root_.Go.OpenSpec := { _root_.Go.OpenSpec.ofChange s with cond := some uptoSmall }

/-- 'laws.FnExactRotateFlux', WHERE WHAT IT READS IS OF BULK AT MOST 1048576: true; the input reads as it did. -/
def fnExactRotateFluxUptoRow : OpenClaim := { program := "ytfdcainjppljhaa", sum := "94721e4d2d1bb639d7993007fccf18738c86310da4d0e9ff892282ff566eb8fa", func := "loop.example/g00899/laws.FnExactRotateFlux", spec := "fnExactRotateFlux", recurses := true, apart := false, narrowed := true }
def FnExactRotateFluxUptoSaid : Prop := fnExactRotateFluxUptoRow.holds Try.pinned (OpenSpec.upto fnExactRotateFluxSpec)

/-- 'laws.FnWeakAreas', WHERE WHAT IT READS IS OF BULK AT MOST 1048576: true; the input reads as it did. -/
def fnWeakAreasUptoRow : OpenClaim := { program := "ytfdcainjppljhaa", sum := "94721e4d2d1bb639d7993007fccf18738c86310da4d0e9ff892282ff566eb8fa", func := "loop.example/g00899/laws.FnWeakAreas", spec := "fnWeakAreas", recurses := true, apart := false, narrowed := true }
def FnWeakAreasUptoSaid : Prop := fnWeakAreasUptoRow.holds Try.pinned (OpenSpec.upto fnWeakAreasSpec)

/-- 'laws.FnExactWeakenFlux', WHERE WHAT IT READS IS OF BULK AT MOST 1048576: true; the input reads as it did. -/
def fnExactWeakenFluxUptoRow : OpenClaim := { program := "ytfdcainjppljhaa", sum := "94721e4d2d1bb639d7993007fccf18738c86310da4d0e9ff892282ff566eb8fa", func := "loop.example/g00899/laws.FnExactWeakenFlux", spec := "fnExactWeakenFlux", recurses := true, apart := false, narrowed := true }
def FnExactWeakenFluxUptoSaid : Prop := fnExactWeakenFluxUptoRow.holds Try.pinned (OpenSpec.upto fnExactWeakenFluxSpec)

/-- 'laws.FnNoise', WHERE WHAT IT READS IS OF BULK AT MOST 1048576: true; the input reads as it did. -/
def fnNoiseUptoRow : OpenClaim := { program := "ytfdcainjppljhaa", sum := "94721e4d2d1bb639d7993007fccf18738c86310da4d0e9ff892282ff566eb8fa", func := "loop.example/g00899/laws.FnNoise", spec := "fnNoise", recurses := true, apart := false, narrowed := true }
def FnNoiseUptoSaid : Prop := fnNoiseUptoRow.holds Try.pinned (OpenSpec.upto fnNoiseSpec)

/-- 'laws.FnExactAddNoise', WHERE WHAT IT READS IS OF BULK AT MOST 1048576: true; the input reads as it did. -/
def fnExactAddNoiseUptoRow : OpenClaim := { program := "ytfdcainjppljhaa", sum := "94721e4d2d1bb639d7993007fccf18738c86310da4d0e9ff892282ff566eb8fa", func := "loop.example/g00899/laws.FnExactAddNoise", spec := "fnExactAddNoise", recurses := true, apart := false, narrowed := true }
def FnExactAddNoiseUptoSaid : Prop := fnExactAddNoiseUptoRow.holds Try.pinned (OpenSpec.upto fnExactAddNoiseSpec)

end Rows
end Go.Proofs.Ytfdcainjppljhaa
