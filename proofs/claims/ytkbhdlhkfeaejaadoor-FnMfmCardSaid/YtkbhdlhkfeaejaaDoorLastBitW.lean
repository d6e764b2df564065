/- The walk of FnExactLastBit. -/
import Derived.Test.YtkbhdlhkfeaejaaDoorBase
namespace Go.Proofs.YtkbhdlhkfeaejaaDoor
open Go.RowKit
set_option maxHeartbeats 400000 in
theorem impl_LastBit (s : ByteArray) (w : World) (hs : s.size ≤ 1048576) :
    Calls Tryd.prog 28 #[.string s] w fun e w' => e = .returned (.bool (lastBitB s)) ∧ w = w' := by
  rcases Nat.eq_zero_or_pos s.size with h | h1
  · have H := Lib.hid (lastBitB_nil h)
    obtain rfl := empty_of_size h
    go_enter Tryd.func28, Tryd.ntmps28
    go_wp2
    go_ret
    exact ⟨ret_bool (by rw [H.out]), rfl⟩
  · have H := Lib.hid (lastBitB_at h1)
    have he := isEmpty_of_pos h1
    have hn : ¬ s.toList = [] := by rw [← List.isEmpty_iff, he]; decide
    have hi : (1 : Int) ≤ (s.size : Int) := by omega
    go_enter Tryd.func28, Tryd.ntmps28
    go_wp2
    go_ret
    exact ⟨ret_bool (by rw [H.out, u8_and1, Bool.eq_iff_iff]; simp; omega), rfl⟩

end Go.Proofs.YtkbhdlhkfeaejaaDoor
