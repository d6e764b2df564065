/-
  No cell of these rows narrows 'for every input' (looked for: loops, veiled, ifaces, maps, wideKeys, modest, calm, conditions, laid).
  DERIVED. THE GIVEN ROWS OF THIS SEAT. 10 by the template 'for every input the law returns true; each argument reads behind the call as it read before'; 0 by the template 'total and deterministic' (their statements: YtmjmhdjfaamgkaaTotals.lean).
  GIVEN WITH THE SEED: the statements are not yours to turn. If you find one false, say at which input.
  Laid BY PROGRAM, IN A SANDBOX (cutbox-rows.mjs): the forced cells as the released guide's own fill.sh prints them over the translation 90ca8fb62a6aa936… (all of the seat's roots in one cut). By AI agents, Wed Nov 11 2026. No macro, syntax, notation, axiom, sorry.
-/
import Derived.Test.YtmjmhdjfaamgkaaChecked
import GoSem.Claim
import GoSem.ClaimJoined
import GoSem.ClaimMapViews
import Derived.JoinedTies
import Derived.KernelRfl
namespace Go.Proofs.Ytmjmhdjfaamgkaa
/- THE CELL 'sum', in the pinned program and in every row, IS THE sha256 OF THE DUMP (.gsa) THAT YtmjmhdjfaamgkaaProg.lean LOADS. Nothing in Lean hashes anything: it is a label: what it is worth is what the hold of that sum in a sandbox is worth. -/
noncomputable def Try.pinned : Pinned := { name := "ytmjmhdjfaamgkaa", sum := "90ca8fb62a6aa9366d6325964cb5b11ff8826761325964931de8869794c319e5", checked := Try.checked }
namespace Rows
def none {H : Type} : Left H := { results := [], args := [] }

/-- 'laws.FnExactFluxOfTimes': WHATEVER THE INPUT: true; the input reads as it did. -/
def fnExactFluxOfTimesSpec : ChangeSpec := { name := "fnExactFluxOfTimes", fn := fun _ => fun
  | [d1, d2, d3] => { results := [.lit (.bool true)], args := [d1, d2, d3] }
  | _ => none }
def fnExactFluxOfTimesRow : OpenClaim := { program := "ytmjmhdjfaamgkaa", sum := "90ca8fb62a6aa9366d6325964cb5b11ff8826761325964931de8869794c319e5", func := "loop.example/g00899/laws.FnExactFluxOfTimes", spec := "fnExactFluxOfTimes", apart := false }
def FnExactFluxOfTimesSaid : Prop := fnExactFluxOfTimesRow.holds Try.pinned (OpenSpec.ofChange fnExactFluxOfTimesSpec)

/-- ITS FALSE NEIGHBOUR: 'it returns false'. Refute it at one input. -/
def fnExactFluxOfTimesWrong : ChangeSpec := { name := "fnExactFluxOfTimes", fn := fun _ => fun
  | [d1, d2, d3] => { results := [.lit (.bool false)], args := [d1, d2, d3] }
  | _ => none }
def FnExactFluxOfTimesWrongFalsely : Prop := fnExactFluxOfTimesRow.holds Try.pinned (OpenSpec.ofChange fnExactFluxOfTimesWrong)

/-- 'laws.FnExactCommonChanges': WHATEVER THE INPUT: true; the input reads as it did. -/
def fnExactCommonChangesSpec : ChangeSpec := { name := "fnExactCommonChanges", fn := fun _ => fun
  | [d1, d2] => { results := [.lit (.bool true)], args := [d1, d2] }
  | _ => none }
def fnExactCommonChangesRow : OpenClaim := { program := "ytmjmhdjfaamgkaa", sum := "90ca8fb62a6aa9366d6325964cb5b11ff8826761325964931de8869794c319e5", func := "loop.example/g00899/laws.FnExactCommonChanges", spec := "fnExactCommonChanges", apart := false }
def FnExactCommonChangesSaid : Prop := fnExactCommonChangesRow.holds Try.pinned (OpenSpec.ofChange fnExactCommonChangesSpec)

/-- ITS FALSE NEIGHBOUR: 'it returns false'. Refute it at one input. -/
def fnExactCommonChangesWrong : ChangeSpec := { name := "fnExactCommonChanges", fn := fun _ => fun
  | [d1, d2] => { results := [.lit (.bool false)], args := [d1, d2] }
  | _ => none }
def FnExactCommonChangesWrongFalsely : Prop := fnExactCommonChangesRow.holds Try.pinned (OpenSpec.ofChange fnExactCommonChangesWrong)

/-- 'laws.FnExactValidNoise': WHATEVER THE INPUT: true; the input reads as it did. -/
def fnExactValidNoiseSpec : ChangeSpec := { name := "fnExactValidNoise", fn := fun _ => fun
  | [d] => { results := [.lit (.bool true)], args := [d] }
  | _ => none }
def fnExactValidNoiseRow : OpenClaim := { program := "ytmjmhdjfaamgkaa", sum := "90ca8fb62a6aa9366d6325964cb5b11ff8826761325964931de8869794c319e5", func := "loop.example/g00899/laws.FnExactValidNoise", spec := "fnExactValidNoise", apart := false }
def FnExactValidNoiseSaid : Prop := fnExactValidNoiseRow.holds Try.pinned (OpenSpec.ofChange fnExactValidNoiseSpec)

/-- ITS FALSE NEIGHBOUR: 'it returns false'. Refute it at one input. -/
def fnExactValidNoiseWrong : ChangeSpec := { name := "fnExactValidNoise", fn := fun _ => fun
  | [d] => { results := [.lit (.bool false)], args := [d] }
  | _ => none }
def FnExactValidNoiseWrongFalsely : Prop := fnExactValidNoiseRow.holds Try.pinned (OpenSpec.ofChange fnExactValidNoiseWrong)

/-- 'laws.FnExactScaleFlux': WHATEVER THE INPUT: true; the input reads as it did. -/
def fnExactScaleFluxSpec : ChangeSpec := { name := "fnExactScaleFlux", fn := fun _ => fun
  | [d1, d2, d3] => { results := [.lit (.bool true)], args := [d1, d2, d3] }
  | _ => none }
def fnExactScaleFluxRow : OpenClaim := { program := "ytmjmhdjfaamgkaa", sum := "90ca8fb62a6aa9366d6325964cb5b11ff8826761325964931de8869794c319e5", func := "loop.example/g00899/laws.FnExactScaleFlux", spec := "fnExactScaleFlux", apart := false }
def FnExactScaleFluxSaid : Prop := fnExactScaleFluxRow.holds Try.pinned (OpenSpec.ofChange fnExactScaleFluxSpec)

/-- ITS FALSE NEIGHBOUR: 'it returns false'. Refute it at one input. -/
def fnExactScaleFluxWrong : ChangeSpec := { name := "fnExactScaleFlux", fn := fun _ => fun
  | [d1, d2, d3] => { results := [.lit (.bool false)], args := [d1, d2, d3] }
  | _ => none }
def FnExactScaleFluxWrongFalsely : Prop := fnExactScaleFluxRow.holds Try.pinned (OpenSpec.ofChange fnExactScaleFluxWrong)

/-- 'laws.FnExactAddDrift': WHATEVER THE INPUT: true; the input reads as it did. -/
def fnExactAddDriftSpec : ChangeSpec := { name := "fnExactAddDrift", fn := fun _ => fun
  | [d1, d2] => { results := [.lit (.bool true)], args := [d1, d2] }
  | _ => none }
def fnExactAddDriftRow : OpenClaim := { program := "ytmjmhdjfaamgkaa", sum := "90ca8fb62a6aa9366d6325964cb5b11ff8826761325964931de8869794c319e5", func := "loop.example/g00899/laws.FnExactAddDrift", spec := "fnExactAddDrift", apart := false }
def FnExactAddDriftSaid : Prop := fnExactAddDriftRow.holds Try.pinned (OpenSpec.ofChange fnExactAddDriftSpec)

/-- ITS FALSE NEIGHBOUR: 'it returns false'. Refute it at one input. -/
def fnExactAddDriftWrong : ChangeSpec := { name := "fnExactAddDrift", fn := fun _ => fun
  | [d1, d2] => { results := [.lit (.bool false)], args := [d1, d2] }
  | _ => none }
def FnExactAddDriftWrongFalsely : Prop := fnExactAddDriftRow.holds Try.pinned (OpenSpec.ofChange fnExactAddDriftWrong)

/-- 'laws.FnExactAddJitter': WHATEVER THE INPUT: true; the input reads as it did. -/
def fnExactAddJitterSpec : ChangeSpec := { name := "fnExactAddJitter", fn := fun _ => fun
  | [d1, d2] => { results := [.lit (.bool true)], args := [d1, d2] }
  | _ => none }
def fnExactAddJitterRow : OpenClaim := { program := "ytmjmhdjfaamgkaa", sum := "90ca8fb62a6aa9366d6325964cb5b11ff8826761325964931de8869794c319e5", func := "loop.example/g00899/laws.FnExactAddJitter", spec := "fnExactAddJitter", apart := false }
def FnExactAddJitterSaid : Prop := fnExactAddJitterRow.holds Try.pinned (OpenSpec.ofChange fnExactAddJitterSpec)

/-- ITS FALSE NEIGHBOUR: 'it returns false'. Refute it at one input. -/
def fnExactAddJitterWrong : ChangeSpec := { name := "fnExactAddJitter", fn := fun _ => fun
  | [d1, d2] => { results := [.lit (.bool false)], args := [d1, d2] }
  | _ => none }
def FnExactAddJitterWrongFalsely : Prop := fnExactAddJitterRow.holds Try.pinned (OpenSpec.ofChange fnExactAddJitterWrong)

/-- 'laws.FnExactDropChanges': WHATEVER THE INPUT: true; the input reads as it did. -/
def fnExactDropChangesSpec : ChangeSpec := { name := "fnExactDropChanges", fn := fun _ => fun
  | [d1, d2] => { results := [.lit (.bool true)], args := [d1, d2] }
  | _ => none }
def fnExactDropChangesRow : OpenClaim := { program := "ytmjmhdjfaamgkaa", sum := "90ca8fb62a6aa9366d6325964cb5b11ff8826761325964931de8869794c319e5", func := "loop.example/g00899/laws.FnExactDropChanges", spec := "fnExactDropChanges", apart := false }
def FnExactDropChangesSaid : Prop := fnExactDropChangesRow.holds Try.pinned (OpenSpec.ofChange fnExactDropChangesSpec)

/-- ITS FALSE NEIGHBOUR: 'it returns false'. Refute it at one input. -/
def fnExactDropChangesWrong : ChangeSpec := { name := "fnExactDropChanges", fn := fun _ => fun
  | [d1, d2] => { results := [.lit (.bool false)], args := [d1, d2] }
  | _ => none }
def FnExactDropChangesWrongFalsely : Prop := fnExactDropChangesRow.holds Try.pinned (OpenSpec.ofChange fnExactDropChangesWrong)

/-- 'laws.FnFluxTimes': WHATEVER THE INPUT: true; the input reads as it did. -/
def fnFluxTimesSpec : ChangeSpec := { name := "fnFluxTimes", fn := fun _ => fun
  | [d] => { results := [.lit (.bool true)], args := [d] }
  | _ => none }
def fnFluxTimesRow : OpenClaim := { program := "ytmjmhdjfaamgkaa", sum := "90ca8fb62a6aa9366d6325964cb5b11ff8826761325964931de8869794c319e5", func := "loop.example/g00899/laws.FnFluxTimes", spec := "fnFluxTimes", apart := false }
def FnFluxTimesSaid : Prop := fnFluxTimesRow.holds Try.pinned (OpenSpec.ofChange fnFluxTimesSpec)

/-- ITS FALSE NEIGHBOUR: 'it returns false'. Refute it at one input. -/
def fnFluxTimesWrong : ChangeSpec := { name := "fnFluxTimes", fn := fun _ => fun
  | [d] => { results := [.lit (.bool false)], args := [d] }
  | _ => none }
def FnFluxTimesWrongFalsely : Prop := fnFluxTimesRow.holds Try.pinned (OpenSpec.ofChange fnFluxTimesWrong)

/-- 'laws.FnExactRecoverCells': WHATEVER THE INPUT: true; the input reads as it did. -/
def fnExactRecoverCellsSpec : ChangeSpec := { name := "fnExactRecoverCells", fn := fun _ => fun
  | [d1, d2] => { results := [.lit (.bool true)], args := [d1, d2] }
  | _ => none }
def fnExactRecoverCellsRow : OpenClaim := { program := "ytmjmhdjfaamgkaa", sum := "90ca8fb62a6aa9366d6325964cb5b11ff8826761325964931de8869794c319e5", func := "loop.example/g00899/laws.FnExactRecoverCells", spec := "fnExactRecoverCells", inPlace := ["internal/abi.NoEscape", "internal/bytealg.MakeNoZero"], apart := false }
def FnExactRecoverCellsSaid : Prop := fnExactRecoverCellsRow.holds Try.pinned (OpenSpec.ofChange fnExactRecoverCellsSpec)

/-- ITS FALSE NEIGHBOUR: 'it returns false'. Refute it at one input. -/
def fnExactRecoverCellsWrong : ChangeSpec := { name := "fnExactRecoverCells", fn := fun _ => fun
  | [d1, d2] => { results := [.lit (.bool false)], args := [d1, d2] }
  | _ => none }
def FnExactRecoverCellsWrongFalsely : Prop := fnExactRecoverCellsRow.holds Try.pinned (OpenSpec.ofChange fnExactRecoverCellsWrong)

/-- 'laws.FnRecover': WHATEVER THE INPUT: true; the input reads as it did. -/
def fnRecoverSpec : ChangeSpec := { name := "fnRecover", fn := fun _ => fun
  | [d1, d2] => { results := [.lit (.bool true)], args := [d1, d2] }
  | _ => none }
def fnRecoverRow : OpenClaim := { program := "ytmjmhdjfaamgkaa", sum := "90ca8fb62a6aa9366d6325964cb5b11ff8826761325964931de8869794c319e5", func := "loop.example/g00899/laws.FnRecover", spec := "fnRecover", inPlace := ["internal/abi.NoEscape", "internal/bytealg.MakeNoZero"], apart := false }
def FnRecoverSaid : Prop := fnRecoverRow.holds Try.pinned (OpenSpec.ofChange fnRecoverSpec)

/-- ITS FALSE NEIGHBOUR: 'it returns false'. Refute it at one input. -/
def fnRecoverWrong : ChangeSpec := { name := "fnRecover", fn := fun _ => fun
  | [d1, d2] => { results := [.lit (.bool false)], args := [d1, d2] }
  | _ => none }
def FnRecoverWrongFalsely : Prop := fnRecoverRow.holds Try.pinned (OpenSpec.ofChange fnRecoverWrong)

/- THE SECOND FORM. 'bulk': how many values and letters a reading holds, each counted each time it is reached (what is shared counts as often as it is met; a slice's spare places count too). A statement '..UptoSaid' is the law's where the arguments, and the package variables that the reading takes, are together of bulk at most 1048576: NARROWER than '..Said'. Prove '..Said' where nothing that the law and all that it calls make is longer than what came in: it says more and counts as full. Else prove '..UptoSaid'. A law counts once. -/
mutual
def uptoBulk {H : Type} : DataW H → Nat
  | .lit (.string bytes) => bytes.length + 1
  | .lit _ => 1
  | .nil => 1
  | .ptr d => uptoBulk d + 1
  | .slice elems spare => uptoBulkAll elems + uptoBulkAll spare + 1
  | .agg parts => uptoBulkAll parts + 1
  | .iface _ d => uptoBulk d + 1
  | .map entries => uptoBulkEntries entries + 1
  | .held _ => 1
def uptoBulkAll {H : Type} : List (DataW H) → Nat
  | [] => 0
  | d :: r => uptoBulk d + uptoBulkAll r
def uptoBulkEntries {H : Type} : List (Lit × DataW H) → Nat
  | [] => 0
  | x :: r => uptoBulkEntry x + uptoBulkEntries r
def uptoBulkEntry {H : Type} : Lit × DataW H → Nat
  | (.string bytes, d) => bytes.length + uptoBulk d + 1
  | (_, d) => uptoBulk d + 1
 end
def uptoSmall : (H : Type) → List (DataW H) → Bool := fun _ ds => decide (uptoBulkAll ds ≤ 1048576)
def OpenSpec.upto (s : _root_.Go.ChangeSpec) : _root_.Go.OpenSpec := { _root_.Go.OpenSpec.ofChange s with cond := some uptoSmall }

/-- 'laws.FnExactFluxOfTimes', WHERE WHAT IT READS IS OF BULK AT MOST 1048576: true; the input reads as it did. -/
def fnExactFluxOfTimesUptoRow : OpenClaim := { program := "ytmjmhdjfaamgkaa", sum := "90ca8fb62a6aa9366d6325964cb5b11ff8826761325964931de8869794c319e5", func := "loop.example/g00899/laws.FnExactFluxOfTimes", spec := "fnExactFluxOfTimes", apart := false, narrowed := true }
def FnExactFluxOfTimesUptoSaid : Prop := fnExactFluxOfTimesUptoRow.holds Try.pinned (OpenSpec.upto fnExactFluxOfTimesSpec)

/-- 'laws.FnExactCommonChanges', WHERE WHAT IT READS IS OF BULK AT MOST 1048576: true; the input reads as it did. -/
def fnExactCommonChangesUptoRow : OpenClaim := { program := "ytmjmhdjfaamgkaa", sum := "90ca8fb62a6aa9366d6325964cb5b11ff8826761325964931de8869794c319e5", func := "loop.example/g00899/laws.FnExactCommonChanges", spec := "fnExactCommonChanges", apart := false, narrowed := true }
def FnExactCommonChangesUptoSaid : Prop := fnExactCommonChangesUptoRow.holds Try.pinned (OpenSpec.upto fnExactCommonChangesSpec)

/-- 'laws.FnExactValidNoise', WHERE WHAT IT READS IS OF BULK AT MOST 1048576: true; the input reads as it did. -/
def fnExactValidNoiseUptoRow : OpenClaim := { program := "ytmjmhdjfaamgkaa", sum := "90ca8fb62a6aa9366d6325964cb5b11ff8826761325964931de8869794c319e5", func := "loop.example/g00899/laws.FnExactValidNoise", spec := "fnExactValidNoise", apart := false, narrowed := true }
def FnExactValidNoiseUptoSaid : Prop := fnExactValidNoiseUptoRow.holds Try.pinned (OpenSpec.upto fnExactValidNoiseSpec)

/-- 'laws.FnExactScaleFlux', WHERE WHAT IT READS IS OF BULK AT MOST 1048576: true; the input reads as it did. -/
def fnExactScaleFluxUptoRow : OpenClaim := { program := "ytmjmhdjfaamgkaa", sum := "90ca8fb62a6aa9366d6325964cb5b11ff8826761325964931de8869794c319e5", func := "loop.example/g00899/laws.FnExactScaleFlux", spec := "fnExactScaleFlux", apart := false, narrowed := true }
def FnExactScaleFluxUptoSaid : Prop := fnExactScaleFluxUptoRow.holds Try.pinned (OpenSpec.upto fnExactScaleFluxSpec)

/-- 'laws.FnExactAddDrift', WHERE WHAT IT READS IS OF BULK AT MOST 1048576: true; the input reads as it did. -/
def fnExactAddDriftUptoRow : OpenClaim := { program := "ytmjmhdjfaamgkaa", sum := "90ca8fb62a6aa9366d6325964cb5b11ff8826761325964931de8869794c319e5", func := "loop.example/g00899/laws.FnExactAddDrift", spec := "fnExactAddDrift", apart := false, narrowed := true }
def FnExactAddDriftUptoSaid : Prop := fnExactAddDriftUptoRow.holds Try.pinned (OpenSpec.upto fnExactAddDriftSpec)

/-- 'laws.FnExactAddJitter', WHERE WHAT IT READS IS OF BULK AT MOST 1048576: true; the input reads as it did. -/
def fnExactAddJitterUptoRow : OpenClaim := { program := "ytmjmhdjfaamgkaa", sum := "90ca8fb62a6aa9366d6325964cb5b11ff8826761325964931de8869794c319e5", func := "loop.example/g00899/laws.FnExactAddJitter", spec := "fnExactAddJitter", apart := false, narrowed := true }
def FnExactAddJitterUptoSaid : Prop := fnExactAddJitterUptoRow.holds Try.pinned (OpenSpec.upto fnExactAddJitterSpec)

/-- 'laws.FnExactDropChanges', WHERE WHAT IT READS IS OF BULK AT MOST 1048576: true; the input reads as it did. -/
def fnExactDropChangesUptoRow : OpenClaim := { program := "ytmjmhdjfaamgkaa", sum := "90ca8fb62a6aa9366d6325964cb5b11ff8826761325964931de8869794c319e5", func := "loop.example/g00899/laws.FnExactDropChanges", spec := "fnExactDropChanges", apart := false, narrowed := true }
def FnExactDropChangesUptoSaid : Prop := fnExactDropChangesUptoRow.holds Try.pinned (OpenSpec.upto fnExactDropChangesSpec)

/-- 'laws.FnFluxTimes', WHERE WHAT IT READS IS OF BULK AT MOST 1048576: true; the input reads as it did. -/
def fnFluxTimesUptoRow : OpenClaim := { program := "ytmjmhdjfaamgkaa", sum := "90ca8fb62a6aa9366d6325964cb5b11ff8826761325964931de8869794c319e5", func := "loop.example/g00899/laws.FnFluxTimes", spec := "fnFluxTimes", apart := false, narrowed := true }
def FnFluxTimesUptoSaid : Prop := fnFluxTimesUptoRow.holds Try.pinned (OpenSpec.upto fnFluxTimesSpec)

/-- 'laws.FnExactRecoverCells', WHERE WHAT IT READS IS OF BULK AT MOST 1048576: true; the input reads as it did. -/
def fnExactRecoverCellsUptoRow : OpenClaim := { program := "ytmjmhdjfaamgkaa", sum := "90ca8fb62a6aa9366d6325964cb5b11ff8826761325964931de8869794c319e5", func := "loop.example/g00899/laws.FnExactRecoverCells", spec := "fnExactRecoverCells", inPlace := ["internal/abi.NoEscape", "internal/bytealg.MakeNoZero"], apart := false, narrowed := true }
def FnExactRecoverCellsUptoSaid : Prop := fnExactRecoverCellsUptoRow.holds Try.pinned (OpenSpec.upto fnExactRecoverCellsSpec)

/-- 'laws.FnRecover', WHERE WHAT IT READS IS OF BULK AT MOST 1048576: true; the input reads as it did. -/
def fnRecoverUptoRow : OpenClaim := { program := "ytmjmhdjfaamgkaa", sum := "90ca8fb62a6aa9366d6325964cb5b11ff8826761325964931de8869794c319e5", func := "loop.example/g00899/laws.FnRecover", spec := "fnRecover", inPlace := ["internal/abi.NoEscape", "internal/bytealg.MakeNoZero"], apart := false, narrowed := true }
def FnRecoverUptoSaid : Prop := fnRecoverUptoRow.holds Try.pinned (OpenSpec.upto fnRecoverSpec)

end Rows
end Go.Proofs.Ytmjmhdjfaamgkaa
