/- Words of two bytes: GetWord, PutWord. -/
import Derived.Test.YtancaffihijohaaBase
namespace Go.Proofs.Ytancaffihijohaa
open Go.RowKit

set_option maxHeartbeats 400000 in
theorem impl_GetWord_no (s : ByteArray) (at_ : Int) (w : World) (hs : s.size ≤ 1048576) (h : at_ < 0 ∨ (s.size : Int) - 2 < at_) :
    Calls Try.prog 22 #[.string s, .int .i64 at_] w fun e w' => e = .returned (.tuple #[.int .i64 0, .bool false]) ∧ Below w.heap.size w w' := by
  have H := Lib.hid (inB_no h)
  clear h
  go_enter Try.func22, Try.ntmps22
  go_wp2_with (go_at_call 40; refine (within_any _ _ _ _).mono ?_; rintro e w' ⟨rfl, rfl⟩; rw [H.out])
  go_ret2
  exact ⟨rfl, Below.refl _ _⟩
set_option maxHeartbeats 400000 in
theorem impl_GetWord_yes (s : ByteArray) (k : Nat) (w : World) (hs : s.size ≤ 1048576) (h : k + 1 < s.size) :
    Calls Try.prog 22 #[.string s, .int .i64 (k : Int)] w fun e w' => e = .returned (.tuple #[.int .i64 ((s[k].toNat : Int) * 256 + (s[k + 1].toNat : Int)), .bool true]) ∧ Below w.heap.size w w' := by
  have H := Lib.hid (inB_yes (x := (k : Int)) (lo := 0) (hi := (s.size : Int) - 2) (by omega))
  have h1 : (k : Int) < (s.size : Int) := by omega
  have h2 : (k : Int) + 1 < (s.size : Int) := by omega
  have h3 : k < s.size := by omega
  go_enter Try.func22, Try.ntmps22
  go_wp2_with (go_at_call 40; refine (within_any _ _ _ _).mono ?_; rintro e w' ⟨rfl, rfl⟩; rw [H.out])
  have e1 : IntKind.i64.wrap ((k : Int) + 1) = (k : Int) + 1 := IntWalk.i64_in _ (by omega)
  have e2 : (0 : Int) ≤ (k : Int) + 1 := by omega
  have e3 : ((k : Int) + 1).toNat = k + 1 := by omega
  go_quiet (fail)
  go_wp2
  go_ret2
  exact ⟨ret_int_bool (word_or _ _) rfl, below_drewN (Below.refl _ _) _⟩
set_option maxHeartbeats 400000 in
theorem spec_l01Get (s : ByteArray) (k : Nat) (w : World) (hs : s.size ≤ 1048576) (h : k + 1 < s.size) :
    Calls Try.prog 39 #[.string s, .int .i64 (k : Int)] w fun e w' => e = .returned (.int .i64 ((s[k].toNat : Int) * 256 + (s[k + 1].toNat : Int))) ∧ Below w.heap.size w w' := by
  have h1 : (k : Int) < (s.size : Int) := by omega
  have h2 : (k : Int) + 1 < (s.size : Int) := by omega
  have h3 : k < s.size := by omega
  have e1 : IntKind.i64.wrap ((k : Int) + 1) = (k : Int) + 1 := IntWalk.i64_in _ (by omega)
  have e2 : (0 : Int) ≤ (k : Int) + 1 := by omega
  have e3 : ((k : Int) + 1).toNat = k + 1 := by omega
  go_enter Try.func39, Try.ntmps39
  go_wp2
  go_quiet (fail)
  go_wp2
  go_ret
  exact ⟨ret_int (word_add _ _), below_drewN (Below.refl _ _) _⟩
set_option maxHeartbeats 400000 in
theorem spec_GetWord_no (s : ByteArray) (at_ : Int) (w : World) (hs : s.size ≤ 1048576) (h : at_ < 0 ∨ (s.size : Int) - 2 < at_) :
    Calls Try.prog 21 #[.string s, .int .i64 at_] w fun e w' => e = .returned (.tuple #[.int .i64 0, .bool false]) ∧ Below w.heap.size w w' := by
  have H := Lib.hid (inB_no h)
  clear h
  go_enter Try.func21, Try.ntmps21
  go_wp2_with (go_at_call 38; refine (l00In_any _ _ _ _).mono ?_; rintro e w' ⟨rfl, rfl⟩; rw [H.out])
  go_ret2
  exact ⟨rfl, Below.refl _ _⟩
set_option maxHeartbeats 400000 in
theorem spec_GetWord_yes (s : ByteArray) (k : Nat) (w : World) (hs : s.size ≤ 1048576) (h : k + 1 < s.size) :
    Calls Try.prog 21 #[.string s, .int .i64 (k : Int)] w fun e w' => e = .returned (.tuple #[.int .i64 ((s[k].toNat : Int) * 256 + (s[k + 1].toNat : Int)), .bool true]) ∧ Below w.heap.size w w' := by
  have H := Lib.hid (inB_yes (x := (k : Int)) (lo := 0) (hi := (s.size : Int) - 2) (by omega))
  have hk : (k : Int) < 1048576 := by omega
  go_enter Try.func21, Try.ntmps21
  go_wp2_with (first | (go_at_call 38; refine (l00In_any _ _ _ _).mono ?_; rintro e w' ⟨rfl, rfl⟩; rw [H.out]) | (go_at_call 39; refine (spec_l01Get _ k _ hs h).mono ?_; rintro e w1 ⟨rfl, hb1⟩))
  go_ret2
  exact ⟨rfl, hb1⟩

theorem getWord_cases (s : ByteArray) (at_ : Int) : (at_ < 0 ∨ (s.size : Int) - 2 < at_) ∨ ∃ k : Nat, at_ = (k : Int) ∧ k + 1 < s.size := by
  by_cases h : at_ < 0 ∨ (s.size : Int) - 2 < at_
  · exact .inl h
  · exact .inr ⟨at_.toNat, by omega, by omega⟩
set_option maxHeartbeats 400000 in
theorem walk_FnExactGetWord (s : ByteArray) (at_ : Int) (w : World) (hs : s.size ≤ maxLen) (_ha : (Lit.int .i64 at_).wf = true) :
    Calls Try.prog 7 #[.string s, .int .i64 at_] w fun e w' => e = .returned (.bool true) ∧ Below w.heap.size w w' := by
  unfold maxLen at hs
  by_cases h : s.size ≤ 1048576
  · have hd : decide ((1048576 : Int) < (s.size : Int)) = false := by simp; omega
    rcases getWord_cases s at_ with hn | ⟨k, rfl, hk⟩
    · go_enter Try.func7, Try.ntmps7
      go_wp2_with (first | (go_at_call 21; refine (spec_GetWord_no _ _ _ h hn).mono ?_; rintro e w1 ⟨rfl, hb1⟩) | (go_at_call 22; refine (impl_GetWord_no _ _ _ h hn).mono ?_; rintro e w2 ⟨rfl, hb2⟩))
      go_ret
      exact ⟨rfl, hb1.trans (hb2.mono hb1.size)⟩
    · go_enter Try.func7, Try.ntmps7
      go_wp2_with (first | (go_at_call 21; refine (spec_GetWord_yes _ k _ h hk).mono ?_; rintro e w1 ⟨rfl, hb1⟩) | (go_at_call 22; refine (impl_GetWord_yes _ k _ h hk).mono ?_; rintro e w2 ⟨rfl, hb2⟩))
      go_ret
      exact ⟨rfl, hb1.trans (hb2.mono hb1.size)⟩
  · go_enter Try.func7, Try.ntmps7
    go_wp2
    go_ret
    exact ⟨rfl, Below.refl _ _⟩
end Go.Proofs.Ytancaffihijohaa
