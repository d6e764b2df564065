/- Words of two bytes: GetWord, PutWord. -/
import Derived.Test.YtgaemcpfhmaplaaDoorWithin
import Derived.Test.YtgaemcpfhmaplaaDoorIn
namespace Go.Proofs.YtgaemcpfhmaplaaDoor
open Go.RowKit

set_option maxHeartbeats 400000 in
theorem impl_GetWord_no (s : ByteArray) (at_ : Int) (w : World) (hs : s.size ≤ 1048576) (h : at_ < 0 ∨ (s.size : Int) - 2 < at_) :
    Calls Tryd.prog 15 #[.string s, .int .i64 at_] w fun e w' => e = .returned (.tuple #[.int .i64 0, .bool false]) ∧ Below w.heap.size w w' := by
  have H := Lib.hid (inB_no h)
  clear h
  go_enter Tryd.func15, Tryd.ntmps15
  go_wp2_with (go_at_call 30; refine (within_any _ _ _ _).mono ?_; rintro e w' ⟨rfl, rfl⟩; rw [H.out])
  go_ret2
  exact ⟨rfl, Below.refl _ _⟩
set_option maxHeartbeats 400000 in
theorem impl_GetWord_yes (s : ByteArray) (k : Nat) (w : World) (hs : s.size ≤ 1048576) (h : k + 1 < s.size) :
    Calls Tryd.prog 15 #[.string s, .int .i64 (k : Int)] w fun e w' => e = .returned (.tuple #[.int .i64 ((s[k].toNat : Int) * 256 + (s[k + 1].toNat : Int)), .bool true]) ∧ Below w.heap.size w w' := by
  have H := Lib.hid (inB_yes (x := (k : Int)) (lo := 0) (hi := (s.size : Int) - 2) (by omega))
  have h1 : (k : Int) < (s.size : Int) := by omega
  have h2 : (k : Int) + 1 < (s.size : Int) := by omega
  have h3 : k < s.size := by omega
  go_enter Tryd.func15, Tryd.ntmps15
  go_wp2_with (go_at_call 30; refine (within_any _ _ _ _).mono ?_; rintro e w' ⟨rfl, rfl⟩; rw [H.out])
  have e1 : IntKind.i64.wrap ((k : Int) + 1) = (k : Int) + 1 := IntWalk.i64_in _ (by omega)
  have e2 : (0 : Int) ≤ (k : Int) + 1 := by omega
  have e3 : ((k : Int) + 1).toNat = k + 1 := by omega
  go_quiet (fail)
  go_wp2
  go_ret2
  exact ⟨ret_int_bool (word_or _ _) rfl, below_drewN (Below.refl _ _) _⟩
theorem getWord_cases (s : ByteArray) (at_ : Int) : (at_ < 0 ∨ (s.size : Int) - 2 < at_) ∨ ∃ k : Nat, at_ = (k : Int) ∧ k + 1 < s.size := by
  by_cases h : at_ < 0 ∨ (s.size : Int) - 2 < at_
  · exact .inl h
  · exact .inr ⟨at_.toNat, by omega, by omega⟩
end Go.Proofs.YtgaemcpfhmaplaaDoor
