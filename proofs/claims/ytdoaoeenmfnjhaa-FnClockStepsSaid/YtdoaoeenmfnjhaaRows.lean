/-
  No cell of these rows narrows 'for every input' (looked for: loops, veiled, ifaces, maps, wideKeys, modest, calm, conditions, laid).
  DERIVED. THE GIVEN ROWS OF THIS SEAT. 12 by the template 'for every input the law returns true; each argument reads behind the call as it read before'; 0 by the template 'total and deterministic' (their statements: YtdoaoeenmfnjhaaTotals.lean).
  GIVEN WITH THE SEED: the statements are not yours to turn. If you find one false, say at which input.
  Laid BY PROGRAM, IN A SANDBOX (cutbox-rows.mjs): the forced cells as the released guide's own fill.sh prints them over the translation e82f26abe4fc6c7c… (all of the seat's roots in one cut). By AI agents, Wed Nov 11 2026. No macro, syntax, notation, axiom, sorry.
-/
import Derived.Test.YtdoaoeenmfnjhaaChecked
import GoSem.Claim
import GoSem.ClaimJoined
import GoSem.ClaimMapViews
import Derived.JoinedTies
import Derived.KernelRfl
namespace Go.Proofs.Ytdoaoeenmfnjhaa
/- THE CELL 'sum', in the pinned program and in every row, IS THE sha256 OF THE DUMP (.gsa) THAT YtdoaoeenmfnjhaaProg.lean LOADS. Nothing in Lean hashes anything: it is a label: what it is worth is what the hold of that sum in a sandbox is worth. -/
noncomputable def Try.pinned : Pinned := { name := "ytdoaoeenmfnjhaa", sum := "e82f26abe4fc6c7c83e3f27697a2ee8b361d22218384fd21f53477fef198d5df", checked := Try.checked }
namespace Rows
def none {H : Type} : Left H := { results := [], args := [] }

/-- 'laws.FnExactPlainClock': WHATEVER THE INPUT: true; the input reads as it did. -/
def fnExactPlainClockSpec : ChangeSpec := { name := "fnExactPlainClock", fn := fun _ => fun
  | [d] => { results := [.lit (.bool true)], args := [d] }
  | _ => none }
def fnExactPlainClockRow : OpenClaim := { program := "ytdoaoeenmfnjhaa", sum := "e82f26abe4fc6c7c83e3f27697a2ee8b361d22218384fd21f53477fef198d5df", func := "loop.example/g00899/laws.FnExactPlainClock", spec := "fnExactPlainClock", apart := false }
def FnExactPlainClockSaid : Prop := fnExactPlainClockRow.holds Try.pinned (OpenSpec.ofChange fnExactPlainClockSpec)

/-- ITS FALSE NEIGHBOUR: 'it returns false'. Refute it at one input. -/
def fnExactPlainClockWrong : ChangeSpec := { name := "fnExactPlainClock", fn := fun _ => fun
  | [d] => { results := [.lit (.bool false)], args := [d] }
  | _ => none }
def FnExactPlainClockWrongFalsely : Prop := fnExactPlainClockRow.holds Try.pinned (OpenSpec.ofChange fnExactPlainClockWrong)

/-- 'laws.FnExactStartClock': WHATEVER THE INPUT: true; the input reads as it did. -/
def fnExactStartClockSpec : ChangeSpec := { name := "fnExactStartClock", fn := fun _ => fun
  | [d] => { results := [.lit (.bool true)], args := [d] }
  | _ => none }
def fnExactStartClockRow : OpenClaim := { program := "ytdoaoeenmfnjhaa", sum := "e82f26abe4fc6c7c83e3f27697a2ee8b361d22218384fd21f53477fef198d5df", func := "loop.example/g00899/laws.FnExactStartClock", spec := "fnExactStartClock", apart := false }
def FnExactStartClockSaid : Prop := fnExactStartClockRow.holds Try.pinned (OpenSpec.ofChange fnExactStartClockSpec)

/-- ITS FALSE NEIGHBOUR: 'it returns false'. Refute it at one input. -/
def fnExactStartClockWrong : ChangeSpec := { name := "fnExactStartClock", fn := fun _ => fun
  | [d] => { results := [.lit (.bool false)], args := [d] }
  | _ => none }
def FnExactStartClockWrongFalsely : Prop := fnExactStartClockRow.holds Try.pinned (OpenSpec.ofChange fnExactStartClockWrong)

/-- 'laws.FnExactStepClock': WHATEVER THE INPUT: true; the input reads as it did. -/
def fnExactStepClockSpec : ChangeSpec := { name := "fnExactStepClock", fn := fun _ => fun
  | [d1, d2, d3] => { results := [.lit (.bool true)], args := [d1, d2, d3] }
  | _ => none }
def fnExactStepClockRow : OpenClaim := { program := "ytdoaoeenmfnjhaa", sum := "e82f26abe4fc6c7c83e3f27697a2ee8b361d22218384fd21f53477fef198d5df", func := "loop.example/g00899/laws.FnExactStepClock", spec := "fnExactStepClock", apart := false }
def FnExactStepClockSaid : Prop := fnExactStepClockRow.holds Try.pinned (OpenSpec.ofChange fnExactStepClockSpec)

/-- ITS FALSE NEIGHBOUR: 'it returns false'. Refute it at one input. -/
def fnExactStepClockWrong : ChangeSpec := { name := "fnExactStepClock", fn := fun _ => fun
  | [d1, d2, d3] => { results := [.lit (.bool false)], args := [d1, d2, d3] }
  | _ => none }
def FnExactStepClockWrongFalsely : Prop := fnExactStepClockRow.holds Try.pinned (OpenSpec.ofChange fnExactStepClockWrong)

/-- 'laws.FnExactSameFlux': WHATEVER THE INPUT: true; the input reads as it did. -/
def fnExactSameFluxSpec : ChangeSpec := { name := "fnExactSameFlux", fn := fun _ => fun
  | [d1, d2] => { results := [.lit (.bool true)], args := [d1, d2] }
  | _ => none }
def fnExactSameFluxRow : OpenClaim := { program := "ytdoaoeenmfnjhaa", sum := "e82f26abe4fc6c7c83e3f27697a2ee8b361d22218384fd21f53477fef198d5df", func := "loop.example/g00899/laws.FnExactSameFlux", spec := "fnExactSameFlux", apart := false }
def FnExactSameFluxSaid : Prop := fnExactSameFluxRow.holds Try.pinned (OpenSpec.ofChange fnExactSameFluxSpec)

/-- ITS FALSE NEIGHBOUR: 'it returns false'. Refute it at one input. -/
def fnExactSameFluxWrong : ChangeSpec := { name := "fnExactSameFlux", fn := fun _ => fun
  | [d1, d2] => { results := [.lit (.bool false)], args := [d1, d2] }
  | _ => none }
def FnExactSameFluxWrongFalsely : Prop := fnExactSameFluxRow.holds Try.pinned (OpenSpec.ofChange fnExactSameFluxWrong)

/-- 'laws.FnExactValidFlux': WHATEVER THE INPUT: true; the input reads as it did. -/
def fnExactValidFluxSpec : ChangeSpec := { name := "fnExactValidFlux", fn := fun _ => fun
  | [d] => { results := [.lit (.bool true)], args := [d] }
  | _ => none }
def fnExactValidFluxRow : OpenClaim := { program := "ytdoaoeenmfnjhaa", sum := "e82f26abe4fc6c7c83e3f27697a2ee8b361d22218384fd21f53477fef198d5df", func := "loop.example/g00899/laws.FnExactValidFlux", spec := "fnExactValidFlux", apart := false }
def FnExactValidFluxSaid : Prop := fnExactValidFluxRow.holds Try.pinned (OpenSpec.ofChange fnExactValidFluxSpec)

/-- ITS FALSE NEIGHBOUR: 'it returns false'. Refute it at one input. -/
def fnExactValidFluxWrong : ChangeSpec := { name := "fnExactValidFlux", fn := fun _ => fun
  | [d] => { results := [.lit (.bool false)], args := [d] }
  | _ => none }
def FnExactValidFluxWrongFalsely : Prop := fnExactValidFluxRow.holds Try.pinned (OpenSpec.ofChange fnExactValidFluxWrong)

/-- 'laws.FnExactRevolutionOf': WHATEVER THE INPUT: true; the input reads as it did. -/
def fnExactRevolutionOfSpec : ChangeSpec := { name := "fnExactRevolutionOf", fn := fun _ => fun
  | [d] => { results := [.lit (.bool true)], args := [d] }
  | _ => none }
def fnExactRevolutionOfRow : OpenClaim := { program := "ytdoaoeenmfnjhaa", sum := "e82f26abe4fc6c7c83e3f27697a2ee8b361d22218384fd21f53477fef198d5df", func := "loop.example/g00899/laws.FnExactRevolutionOf", spec := "fnExactRevolutionOf", apart := false }
def FnExactRevolutionOfSaid : Prop := fnExactRevolutionOfRow.holds Try.pinned (OpenSpec.ofChange fnExactRevolutionOfSpec)

/-- ITS FALSE NEIGHBOUR: 'it returns false'. Refute it at one input. -/
def fnExactRevolutionOfWrong : ChangeSpec := { name := "fnExactRevolutionOf", fn := fun _ => fun
  | [d] => { results := [.lit (.bool false)], args := [d] }
  | _ => none }
def FnExactRevolutionOfWrongFalsely : Prop := fnExactRevolutionOfRow.holds Try.pinned (OpenSpec.ofChange fnExactRevolutionOfWrong)

/-- 'laws.FnExactJitterBetween': WHATEVER THE INPUT: true; the input reads as it did. -/
def fnExactJitterBetweenSpec : ChangeSpec := { name := "fnExactJitterBetween", fn := fun _ => fun
  | [d1, d2] => { results := [.lit (.bool true)], args := [d1, d2] }
  | _ => none }
def fnExactJitterBetweenRow : OpenClaim := { program := "ytdoaoeenmfnjhaa", sum := "e82f26abe4fc6c7c83e3f27697a2ee8b361d22218384fd21f53477fef198d5df", func := "loop.example/g00899/laws.FnExactJitterBetween", spec := "fnExactJitterBetween", apart := false }
def FnExactJitterBetweenSaid : Prop := fnExactJitterBetweenRow.holds Try.pinned (OpenSpec.ofChange fnExactJitterBetweenSpec)

/-- ITS FALSE NEIGHBOUR: 'it returns false'. Refute it at one input. -/
def fnExactJitterBetweenWrong : ChangeSpec := { name := "fnExactJitterBetween", fn := fun _ => fun
  | [d1, d2] => { results := [.lit (.bool false)], args := [d1, d2] }
  | _ => none }
def FnExactJitterBetweenWrongFalsely : Prop := fnExactJitterBetweenRow.holds Try.pinned (OpenSpec.ofChange fnExactJitterBetweenWrong)

/-- 'laws.FnExactChangesOf': WHATEVER THE INPUT: true; the input reads as it did. -/
def fnExactChangesOfSpec : ChangeSpec := { name := "fnExactChangesOf", fn := fun _ => fun
  | [d] => { results := [.lit (.bool true)], args := [d] }
  | _ => none }
def fnExactChangesOfRow : OpenClaim := { program := "ytdoaoeenmfnjhaa", sum := "e82f26abe4fc6c7c83e3f27697a2ee8b361d22218384fd21f53477fef198d5df", func := "loop.example/g00899/laws.FnExactChangesOf", spec := "fnExactChangesOf", apart := false }
def FnExactChangesOfSaid : Prop := fnExactChangesOfRow.holds Try.pinned (OpenSpec.ofChange fnExactChangesOfSpec)

/-- ITS FALSE NEIGHBOUR: 'it returns false'. Refute it at one input. -/
def fnExactChangesOfWrong : ChangeSpec := { name := "fnExactChangesOf", fn := fun _ => fun
  | [d] => { results := [.lit (.bool false)], args := [d] }
  | _ => none }
def FnExactChangesOfWrongFalsely : Prop := fnExactChangesOfRow.holds Try.pinned (OpenSpec.ofChange fnExactChangesOfWrong)

/-- 'laws.FnExactGuessCell': WHATEVER THE INPUT: true; the input reads as it did. -/
def fnExactGuessCellSpec : ChangeSpec := { name := "fnExactGuessCell", fn := fun _ => fun
  | [d] => { results := [.lit (.bool true)], args := [d] }
  | _ => none }
def fnExactGuessCellRow : OpenClaim := { program := "ytdoaoeenmfnjhaa", sum := "e82f26abe4fc6c7c83e3f27697a2ee8b361d22218384fd21f53477fef198d5df", func := "loop.example/g00899/laws.FnExactGuessCell", spec := "fnExactGuessCell", apart := false }
def FnExactGuessCellSaid : Prop := fnExactGuessCellRow.holds Try.pinned (OpenSpec.ofChange fnExactGuessCellSpec)

/-- ITS FALSE NEIGHBOUR: 'it returns false'. Refute it at one input. -/
def fnExactGuessCellWrong : ChangeSpec := { name := "fnExactGuessCell", fn := fun _ => fun
  | [d] => { results := [.lit (.bool false)], args := [d] }
  | _ => none }
def FnExactGuessCellWrongFalsely : Prop := fnExactGuessCellRow.holds Try.pinned (OpenSpec.ofChange fnExactGuessCellWrong)

/-- 'laws.FnExactClockErrors': WHATEVER THE INPUT: true; the input reads as it did. -/
def fnExactClockErrorsSpec : ChangeSpec := { name := "fnExactClockErrors", fn := fun _ => fun
  | [d1, d2] => { results := [.lit (.bool true)], args := [d1, d2] }
  | _ => none }
def fnExactClockErrorsRow : OpenClaim := { program := "ytdoaoeenmfnjhaa", sum := "e82f26abe4fc6c7c83e3f27697a2ee8b361d22218384fd21f53477fef198d5df", func := "loop.example/g00899/laws.FnExactClockErrors", spec := "fnExactClockErrors", apart := false }
def FnExactClockErrorsSaid : Prop := fnExactClockErrorsRow.holds Try.pinned (OpenSpec.ofChange fnExactClockErrorsSpec)

/-- ITS FALSE NEIGHBOUR: 'it returns false'. Refute it at one input. -/
def fnExactClockErrorsWrong : ChangeSpec := { name := "fnExactClockErrors", fn := fun _ => fun
  | [d1, d2] => { results := [.lit (.bool false)], args := [d1, d2] }
  | _ => none }
def FnExactClockErrorsWrongFalsely : Prop := fnExactClockErrorsRow.holds Try.pinned (OpenSpec.ofChange fnExactClockErrorsWrong)

/-- 'laws.FnExactGapCounts': WHATEVER THE INPUT: true; the input reads as it did. -/
def fnExactGapCountsSpec : ChangeSpec := { name := "fnExactGapCounts", fn := fun _ => fun
  | [d1, d2] => { results := [.lit (.bool true)], args := [d1, d2] }
  | _ => none }
def fnExactGapCountsRow : OpenClaim := { program := "ytdoaoeenmfnjhaa", sum := "e82f26abe4fc6c7c83e3f27697a2ee8b361d22218384fd21f53477fef198d5df", func := "loop.example/g00899/laws.FnExactGapCounts", spec := "fnExactGapCounts", apart := false }
def FnExactGapCountsSaid : Prop := fnExactGapCountsRow.holds Try.pinned (OpenSpec.ofChange fnExactGapCountsSpec)

/-- ITS FALSE NEIGHBOUR: 'it returns false'. Refute it at one input. -/
def fnExactGapCountsWrong : ChangeSpec := { name := "fnExactGapCounts", fn := fun _ => fun
  | [d1, d2] => { results := [.lit (.bool false)], args := [d1, d2] }
  | _ => none }
def FnExactGapCountsWrongFalsely : Prop := fnExactGapCountsRow.holds Try.pinned (OpenSpec.ofChange fnExactGapCountsWrong)

/-- 'laws.FnClockSteps': WHATEVER THE INPUT: true; the input reads as it did. -/
def fnClockStepsSpec : ChangeSpec := { name := "fnClockSteps", fn := fun _ => fun
  | [d] => { results := [.lit (.bool true)], args := [d] }
  | _ => none }
def fnClockStepsRow : OpenClaim := { program := "ytdoaoeenmfnjhaa", sum := "e82f26abe4fc6c7c83e3f27697a2ee8b361d22218384fd21f53477fef198d5df", func := "loop.example/g00899/laws.FnClockSteps", spec := "fnClockSteps", apart := false }
def FnClockStepsSaid : Prop := fnClockStepsRow.holds Try.pinned (OpenSpec.ofChange fnClockStepsSpec)

/-- ITS FALSE NEIGHBOUR: 'it returns false'. Refute it at one input. -/
def fnClockStepsWrong : ChangeSpec := { name := "fnClockSteps", fn := fun _ => fun
  | [d] => { results := [.lit (.bool false)], args := [d] }
  | _ => none }
def FnClockStepsWrongFalsely : Prop := fnClockStepsRow.holds Try.pinned (OpenSpec.ofChange fnClockStepsWrong)

/- THE SECOND FORM. 'bulk': how many values and letters a reading holds, each counted each time it is reached (what is shared counts as often as it is met; a slice's spare places count too). A statement '..UptoSaid' is the law's where the arguments, and the package variables that the reading takes, are together of bulk at most 1048576: NARROWER than '..Said'. Prove '..Said' where nothing that the law and all that it calls make is longer than what came in: it says more and counts as full. Else prove '..UptoSaid'. A law counts once. -/
mutual
def uptoBulk {H : Type} : DataW H → Nat
  | .lit (.string bytes) => bytes.length + 1
  | .lit _ => 1
  | .nil => 1
  | .ptr d => uptoBulk d + 1
  | .slice elems spare => uptoBulkAll elems + uptoBulkAll spare + 1
  | .agg parts => uptoBulkAll parts + 1
  | .iface _ d => uptoBulk d + 1
  | .map entries => uptoBulkEntries entries + 1
  | .held _ => 1
def uptoBulkAll {H : Type} : List (DataW H) → Nat
  | [] => 0
  | d :: r => uptoBulk d + uptoBulkAll r
def uptoBulkEntries {H : Type} : List (Lit × DataW H) → Nat
  | [] => 0
  | x :: r => uptoBulkEntry x + uptoBulkEntries r
def uptoBulkEntry {H : Type} : Lit × DataW H → Nat
  | (.string bytes, d) => bytes.length + uptoBulk d + 1
  | (_, d) => uptoBulk d + 1
 end
def uptoSmall : (H : Type) → List (DataW H) → Bool := fun _ ds => decide (uptoBulkAll ds ≤ 1048576)
def OpenSpec.upto (s : _root_.Go.ChangeSpec) : _root_.Go.OpenSpec := { _root_.Go.OpenSpec.ofChange s with cond := some uptoSmall }

/-- 'laws.FnExactPlainClock', WHERE WHAT IT READS IS OF BULK AT MOST 1048576: true; the input reads as it did. -/
def fnExactPlainClockUptoRow : OpenClaim := { program := "ytdoaoeenmfnjhaa", sum := "e82f26abe4fc6c7c83e3f27697a2ee8b361d22218384fd21f53477fef198d5df", func := "loop.example/g00899/laws.FnExactPlainClock", spec := "fnExactPlainClock", apart := false, narrowed := true }
def FnExactPlainClockUptoSaid : Prop := fnExactPlainClockUptoRow.holds Try.pinned (OpenSpec.upto fnExactPlainClockSpec)

/-- 'laws.FnExactStartClock', WHERE WHAT IT READS IS OF BULK AT MOST 1048576: true; the input reads as it did. -/
def fnExactStartClockUptoRow : OpenClaim := { program := "ytdoaoeenmfnjhaa", sum := "e82f26abe4fc6c7c83e3f27697a2ee8b361d22218384fd21f53477fef198d5df", func := "loop.example/g00899/laws.FnExactStartClock", spec := "fnExactStartClock", apart := false, narrowed := true }
def FnExactStartClockUptoSaid : Prop := fnExactStartClockUptoRow.holds Try.pinned (OpenSpec.upto fnExactStartClockSpec)

/-- 'laws.FnExactStepClock', WHERE WHAT IT READS IS OF BULK AT MOST 1048576: true; the input reads as it did. -/
def fnExactStepClockUptoRow : OpenClaim := { program := "ytdoaoeenmfnjhaa", sum := "e82f26abe4fc6c7c83e3f27697a2ee8b361d22218384fd21f53477fef198d5df", func := "loop.example/g00899/laws.FnExactStepClock", spec := "fnExactStepClock", apart := false, narrowed := true }
def FnExactStepClockUptoSaid : Prop := fnExactStepClockUptoRow.holds Try.pinned (OpenSpec.upto fnExactStepClockSpec)

/-- 'laws.FnExactSameFlux', WHERE WHAT IT READS IS OF BULK AT MOST 1048576: true; the input reads as it did. -/
def fnExactSameFluxUptoRow : OpenClaim := { program := "ytdoaoeenmfnjhaa", sum := "e82f26abe4fc6c7c83e3f27697a2ee8b361d22218384fd21f53477fef198d5df", func := "loop.example/g00899/laws.FnExactSameFlux", spec := "fnExactSameFlux", apart := false, narrowed := true }
def FnExactSameFluxUptoSaid : Prop := fnExactSameFluxUptoRow.holds Try.pinned (OpenSpec.upto fnExactSameFluxSpec)

/-- 'laws.FnExactValidFlux', WHERE WHAT IT READS IS OF BULK AT MOST 1048576: true; the input reads as it did. -/
def fnExactValidFluxUptoRow : OpenClaim := { program := "ytdoaoeenmfnjhaa", sum := "e82f26abe4fc6c7c83e3f27697a2ee8b361d22218384fd21f53477fef198d5df", func := "loop.example/g00899/laws.FnExactValidFlux", spec := "fnExactValidFlux", apart := false, narrowed := true }
def FnExactValidFluxUptoSaid : Prop := fnExactValidFluxUptoRow.holds Try.pinned (OpenSpec.upto fnExactValidFluxSpec)

/-- 'laws.FnExactRevolutionOf', WHERE WHAT IT READS IS OF BULK AT MOST 1048576: true; the input reads as it did. -/
def fnExactRevolutionOfUptoRow : OpenClaim := { program := "ytdoaoeenmfnjhaa", sum := "e82f26abe4fc6c7c83e3f27697a2ee8b361d22218384fd21f53477fef198d5df", func := "loop.example/g00899/laws.FnExactRevolutionOf", spec := "fnExactRevolutionOf", apart := false, narrowed := true }
def FnExactRevolutionOfUptoSaid : Prop := fnExactRevolutionOfUptoRow.holds Try.pinned (OpenSpec.upto fnExactRevolutionOfSpec)

/-- 'laws.FnExactJitterBetween', WHERE WHAT IT READS IS OF BULK AT MOST 1048576: true; the input reads as it did. -/
def fnExactJitterBetweenUptoRow : OpenClaim := { program := "ytdoaoeenmfnjhaa", sum := "e82f26abe4fc6c7c83e3f27697a2ee8b361d22218384fd21f53477fef198d5df", func := "loop.example/g00899/laws.FnExactJitterBetween", spec := "fnExactJitterBetween", apart := false, narrowed := true }
def FnExactJitterBetweenUptoSaid : Prop := fnExactJitterBetweenUptoRow.holds Try.pinned (OpenSpec.upto fnExactJitterBetweenSpec)

/-- 'laws.FnExactChangesOf', WHERE WHAT IT READS IS OF BULK AT MOST 1048576: true; the input reads as it did. -/
def fnExactChangesOfUptoRow : OpenClaim := { program := "ytdoaoeenmfnjhaa", sum := "e82f26abe4fc6c7c83e3f27697a2ee8b361d22218384fd21f53477fef198d5df", func := "loop.example/g00899/laws.FnExactChangesOf", spec := "fnExactChangesOf", apart := false, narrowed := true }
def FnExactChangesOfUptoSaid : Prop := fnExactChangesOfUptoRow.holds Try.pinned (OpenSpec.upto fnExactChangesOfSpec)

/-- 'laws.FnExactGuessCell', WHERE WHAT IT READS IS OF BULK AT MOST 1048576: true; the input reads as it did. -/
def fnExactGuessCellUptoRow : OpenClaim := { program := "ytdoaoeenmfnjhaa", sum := "e82f26abe4fc6c7c83e3f27697a2ee8b361d22218384fd21f53477fef198d5df", func := "loop.example/g00899/laws.FnExactGuessCell", spec := "fnExactGuessCell", apart := false, narrowed := true }
def FnExactGuessCellUptoSaid : Prop := fnExactGuessCellUptoRow.holds Try.pinned (OpenSpec.upto fnExactGuessCellSpec)

/-- 'laws.FnExactClockErrors', WHERE WHAT IT READS IS OF BULK AT MOST 1048576: true; the input reads as it did. -/
def fnExactClockErrorsUptoRow : OpenClaim := { program := "ytdoaoeenmfnjhaa", sum := "e82f26abe4fc6c7c83e3f27697a2ee8b361d22218384fd21f53477fef198d5df", func := "loop.example/g00899/laws.FnExactClockErrors", spec := "fnExactClockErrors", apart := false, narrowed := true }
def FnExactClockErrorsUptoSaid : Prop := fnExactClockErrorsUptoRow.holds Try.pinned (OpenSpec.upto fnExactClockErrorsSpec)

/-- 'laws.FnExactGapCounts', WHERE WHAT IT READS IS OF BULK AT MOST 1048576: true; the input reads as it did. -/
def fnExactGapCountsUptoRow : OpenClaim := { program := "ytdoaoeenmfnjhaa", sum := "e82f26abe4fc6c7c83e3f27697a2ee8b361d22218384fd21f53477fef198d5df", func := "loop.example/g00899/laws.FnExactGapCounts", spec := "fnExactGapCounts", apart := false, narrowed := true }
def FnExactGapCountsUptoSaid : Prop := fnExactGapCountsUptoRow.holds Try.pinned (OpenSpec.upto fnExactGapCountsSpec)

/-- 'laws.FnClockSteps', WHERE WHAT IT READS IS OF BULK AT MOST 1048576: true; the input reads as it did. -/
def fnClockStepsUptoRow : OpenClaim := { program := "ytdoaoeenmfnjhaa", sum := "e82f26abe4fc6c7c83e3f27697a2ee8b361d22218384fd21f53477fef198d5df", func := "loop.example/g00899/laws.FnClockSteps", spec := "fnClockSteps", apart := false, narrowed := true }
def FnClockStepsUptoSaid : Prop := fnClockStepsUptoRow.holds Try.pinned (OpenSpec.upto fnClockStepsSpec)

end Rows
end Go.Proofs.Ytdoaoeenmfnjhaa
