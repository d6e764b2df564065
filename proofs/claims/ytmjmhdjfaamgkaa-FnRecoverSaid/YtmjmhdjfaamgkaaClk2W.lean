/- PlainClock, StartClock, StepClock. -/
import Derived.Test.YtmjmhdjfaamgkaaClockW
namespace Go.Proofs.Ytmjmhdjfaamgkaa
open Go.RowKit
def c0 (a b c d f : Int) : Value := .agg #[.int .i64 a, .int .i64 b, .int .i64 c, .int .i64 d, .int .i64 f]
theorem ret_clk {a b c d f x a' b' c' d' f' x' : Int} (h : (a, b, c, d, f, x) = (a', b', c', d', f', x')) : Ending.returned (.tuple #[.agg #[.int .i64 a, .int .i64 b, .int .i64 c, .int .i64 d, .int .i64 f], .int .i64 x]) = .returned (.tuple #[.agg #[.int .i64 a', .int .i64 b', .int .i64 c', .int .i64 d', .int .i64 f'], .int .i64 x']) := by
  cases h; rfl
/-- What PlainClock answers. -/
def plainV (c : Int) : Value := if inB c 4 200 then .tuple #[.agg #[.int .i64 c, .int .i64 c, .int .i64 c, .int .i64 0, .int .i64 0], .int .i64 0] else .tuple #[.agg #[.int .i64 0, .int .i64 0, .int .i64 0, .int .i64 0, .int .i64 0], .int .i64 2]
set_option maxHeartbeats 400000 in
theorem impl_PlainClock (c : Int) (w : World) :
    Calls Try.prog 50 #[.int .i64 c] w fun e w' => e = .returned (plainV c) ∧ Below w.heap.size w w' := by
  cases hb : inB c 4 200
  all_goals
    have HB := Lib.hid hb
    clear hb
    go_enter Try.func50, Try.ntmps50
    go_wp2_with (go_at_call 73; refine (within_any _ _ _ _).mono ?_; rintro e w' ⟨rfl, rfl⟩; rw [HB.out])
    go_returns
    refine ⟨by simp [plainV, HB.out], ?_⟩
    go_grown
/-- What StartClock answers. -/
def startV (v : Bool) (a : Int) : Value := if v then .tuple #[.agg #[.int .i64 (a * 64), .int .i64 0], .int .i64 0] else .tuple #[.agg #[.int .i64 0, .int .i64 0], .int .i64 1]
set_option maxHeartbeats 400000 in
theorem spec_l03Start (a b c d f : Int) (w : World) (ha : 4 ≤ a ∧ a ≤ 200) :
    Calls Try.prog 124 #[.agg #[.int .i64 a, .int .i64 b, .int .i64 c, .int .i64 d, .int .i64 f]] w fun e w' => e = .returned (.agg #[.int .i64 (a * 64), .int .i64 0]) ∧ Below w.heap.size w w' := by
  go_enter Try.func124, Try.ntmps124
  go_wp2
  go_returns
  refine ⟨rfl, ?_⟩
  go_grown
end Go.Proofs.Ytmjmhdjfaamgkaa
