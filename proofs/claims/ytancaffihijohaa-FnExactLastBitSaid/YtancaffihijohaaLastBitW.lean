/- The walk of FnExactLastBit. -/
import Derived.Test.YtancaffihijohaaBase
namespace Go.Proofs.Ytancaffihijohaa
open Go.RowKit
set_option maxHeartbeats 400000 in
theorem walk_FnExactLastBit (s : ByteArray) (w : World) (hs : s.size ≤ maxLen) :
    Calls Try.prog 4 #[.string s] w fun e w' => e = .returned (.bool true) ∧ Below w.heap.size w w' := by
  unfold maxLen at hs
  by_cases h : s.size ≤ 1048576
  · have hd : decide ((1048576 : Int) < (s.size : Int)) = false := by simp; omega
    go_enter Try.func4, Try.ntmps4
    go_wp2_with (first | (go_at_call 15; refine (spec_LastBit _ _ h).mono ?_; rintro e w' ⟨rfl, rfl⟩) | (go_at_call 16; refine (impl_LastBit _ _ h).mono ?_; rintro e w' ⟨rfl, rfl⟩))
    go_ret
    exact ⟨rfl, Below.refl _ _⟩
  · go_enter Try.func4, Try.ntmps4
    go_wp2
    go_ret
    exact ⟨rfl, Below.refl _ _⟩
end Go.Proofs.Ytancaffihijohaa
