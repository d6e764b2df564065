/- Small lemmas for the laws' walks. -/
import Derived.Test.YtfdcainjppljhaaDoorInts
namespace Go.Proofs.YtfdcainjppljhaaDoor
open Go.RowKit
theorem size_alloc' (w : World) (o : Obj) : (w.alloc o).heap.size = w.heap.size + 1 := by simp
theorem i64_bd {n : Int} (h : (Lit.int .i64 n).wf = true) : -9223372036854775808 ≤ n ∧ n ≤ 9223372036854775807 := by
  have h1 : IntKind.i64.min = -9223372036854775808 := rfl
  have h2 : IntKind.i64.max = 9223372036854775807 := rfl
  simp [Lit.wf] at h
  omega
end Go.Proofs.YtfdcainjppljhaaDoor
