/- Contracts of the smallest functions. -/
import Derived.Test.YtancaffihijohaaRows
import Derived.Test.YtancaffihijohaaPlain
import Derived.WalkSpells
import Derived.WalkLawsBesides
import Derived.BigQuiet
import Derived.Deep.QuietTactic
import Derived.Lib.Hide
namespace Go.Proofs.Ytancaffihijohaa
open Go.RowKit

theorem within_any (x lo hi : Int) (w : World) :
    Calls Try.prog 40 #[.int .i64 x, .int .i64 lo, .int .i64 hi] w fun e w' => e = .returned (.bool (inB x lo hi)) ∧ w = w' := by
  go_enter Try.func40, Try.ntmps40
  go_wp2
  all_goals
    go_ret
    exact ⟨ret_bool (by first | (simp [inB, *]; done) | (simp [inB]; omega)), rfl⟩
theorem l00In_any (x lo hi : Int) (w : World) :
    Calls Try.prog 38 #[.int .i64 x, .int .i64 lo, .int .i64 hi] w fun e w' => e = .returned (.bool (inB x lo hi)) ∧ w = w' := by
  go_enter Try.func38, Try.ntmps38
  go_wp2
  all_goals
    go_ret
    exact ⟨ret_bool (by first | (simp [inB, *]; done) | (simp [inB]; omega)), rfl⟩

set_option maxHeartbeats 400000 in
theorem spec_LastBit (s : ByteArray) (w : World) (hs : s.size ≤ 1048576) :
    Calls Try.prog 15 #[.string s] w fun e w' => e = .returned (.bool (lastBitB s)) ∧ w = w' := by
  rcases Nat.eq_zero_or_pos s.size with h | h1
  · have H := Lib.hid (lastBitB_nil h)
    obtain rfl := empty_of_size h
    go_enter Try.func15, Try.ntmps15
    go_wp2
    go_ret
    exact ⟨ret_bool (by rw [H.out]), rfl⟩
  · have H := Lib.hid (lastBitB_at h1)
    have he := isEmpty_of_pos h1
    have hn : ¬ s.toList = [] := by rw [← List.isEmpty_iff, he]; decide
    have hi : (1 : Int) ≤ (s.size : Int) := by omega
    go_enter Try.func15, Try.ntmps15
    go_wp2
    go_ret
    exact ⟨ret_bool (by rw [H.out, u8_and1, Bool.eq_iff_iff]; simp; omega), rfl⟩
set_option maxHeartbeats 400000 in
theorem impl_LastBit (s : ByteArray) (w : World) (hs : s.size ≤ 1048576) :
    Calls Try.prog 16 #[.string s] w fun e w' => e = .returned (.bool (lastBitB s)) ∧ w = w' := by
  rcases Nat.eq_zero_or_pos s.size with h | h1
  · have H := Lib.hid (lastBitB_nil h)
    obtain rfl := empty_of_size h
    go_enter Try.func16, Try.ntmps16
    go_wp2
    go_ret
    exact ⟨ret_bool (by rw [H.out]), rfl⟩
  · have H := Lib.hid (lastBitB_at h1)
    have he := isEmpty_of_pos h1
    have hn : ¬ s.toList = [] := by rw [← List.isEmpty_iff, he]; decide
    have hi : (1 : Int) ≤ (s.size : Int) := by omega
    go_enter Try.func16, Try.ntmps16
    go_wp2
    go_ret
    exact ⟨ret_bool (by rw [H.out, u8_and1, Bool.eq_iff_iff]; simp; omega), rfl⟩

end Go.Proofs.Ytancaffihijohaa
