/- The contract of impl.within. -/
import Derived.Test.YtmjmhdjfaamgkaaDoorBase
namespace Go.Proofs.YtmjmhdjfaamgkaaDoor
open Go.RowKit

theorem within_any (x lo hi : Int) (w : World) :
    Calls Tryd.prog 14 #[.int .i64 x, .int .i64 lo, .int .i64 hi] w fun e w' => e = .returned (.bool (inB x lo hi)) ∧ w = w' := by
  go_enter Tryd.func14, Tryd.ntmps14
  go_wp2
  all_goals
    go_ret
    exact ⟨ret_bool (by first | (simp [inB, *]; done) | (simp [inB]; omega)), rfl⟩
end Go.Proofs.YtmjmhdjfaamgkaaDoor
