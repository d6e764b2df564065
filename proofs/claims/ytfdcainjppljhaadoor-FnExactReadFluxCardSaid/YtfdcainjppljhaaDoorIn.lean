/- The contract of spec.l00In. -/
import Derived.Test.YtfdcainjppljhaaDoorBase
namespace Go.Proofs.YtfdcainjppljhaaDoor
open Go.RowKit

theorem l00In_any (x lo hi : Int) (w : World) :
    Calls Tryd.prog 28 #[.int .i64 x, .int .i64 lo, .int .i64 hi] w fun e w' => e = .returned (.bool (inB x lo hi)) ∧ w = w' := by
  go_enter Tryd.func28, Tryd.ntmps28
  go_wp2
  all_goals
    go_ret
    exact ⟨ret_bool (by first | (simp [inB, *]; done) | (simp [inB]; omega)), rfl⟩

end Go.Proofs.YtfdcainjppljhaaDoor
