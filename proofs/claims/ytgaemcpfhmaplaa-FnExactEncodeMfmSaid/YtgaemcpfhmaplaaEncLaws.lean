/- The laws' walks: FnExactEncodeFm, FnExactEncodeMfm, FnExactFmMark. -/
import Derived.Test.YtgaemcpfhmaplaaEncW
namespace Go.Proofs.Ytgaemcpfhmaplaa
open Go.RowKit
set_option maxHeartbeats 400000 in
theorem walk_FnExactEncodeFm (s : ByteArray) (w : World) (hs : s.size ≤ maxLen) :
    Calls Try.prog 7 #[.string s] w fun e w' => e = .returned (.bool true) ∧ Below w.heap.size w w' := by
  unfold maxLen at hs
  by_cases h : s.size ≤ 1048576
  · have hd : decide ((1048576 : Int) < (s.size : Int)) = false := by simp; omega
    go_enter Try.func7, Try.ntmps7
    go_wp2_with (first | (go_at_call 19; refine (spec_EncodeFm _ _ h).mono ?_; rintro e w1 ⟨rfl, hb1⟩) | (go_at_call 20; refine (impl_EncodeFm _ _ h).mono ?_; rintro e w2 ⟨rfl, hb2⟩))
    go_ret
    exact ⟨rfl, hb1.trans (hb2.mono hb1.size)⟩
  · go_enter Try.func7, Try.ntmps7
    go_wp2
    go_ret
    exact ⟨rfl, Below.refl _ _⟩
set_option maxHeartbeats 400000 in
theorem walk_FnExactEncodeMfm (s : ByteArray) (last : Bool) (w : World) (hs : s.size ≤ maxLen) :
    Calls Try.prog 8 #[.string s, .bool last] w fun e w' => e = .returned (.bool true) ∧ Below w.heap.size w w' := by
  unfold maxLen at hs
  by_cases h : s.size ≤ 1048576
  · have hd : decide ((1048576 : Int) < (s.size : Int)) = false := by simp; omega
    go_enter Try.func8, Try.ntmps8
    go_wp2_with (first | (go_at_call 21; refine (spec_EncodeMfm _ _ _ h).mono ?_; rintro e w1 ⟨rfl, hb1⟩) | (go_at_call 22; refine (impl_EncodeMfm _ _ _ h).mono ?_; rintro e w2 ⟨rfl, hb2⟩))
    go_ret
    exact ⟨rfl, hb1.trans (hb2.mono hb1.size)⟩
  · go_enter Try.func8, Try.ntmps8
    go_wp2
    go_ret
    exact ⟨rfl, Below.refl _ _⟩
end Go.Proofs.Ytgaemcpfhmaplaa
