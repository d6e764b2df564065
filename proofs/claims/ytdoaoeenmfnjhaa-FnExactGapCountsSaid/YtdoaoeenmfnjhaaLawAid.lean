/- Small lemmas for the laws' walks. -/
import Derived.Test.YtdoaoeenmfnjhaaInts
namespace Go.Proofs.Ytdoaoeenmfnjhaa
open Go.RowKit
theorem size_alloc' (w : World) (o : Obj) : (w.alloc o).heap.size = w.heap.size + 1 := by simp
end Go.Proofs.Ytdoaoeenmfnjhaa
