/- PutWord. -/
import Derived.Test.YtancaffihijohaaBase
import Derived.Test.YtancaffihijohaaMem
namespace Go.Proofs.Ytancaffihijohaa
open Go.RowKit
/-- A number as two bytes. -/
def wordS (n : Nat) : ByteArray := ⟨#[b8 ((n : Int) / 256), b8 ((n : Int) % 256)]⟩
set_option maxHeartbeats 400000 in
theorem impl_PutWord_no (n : Int) (w : World) (h : n < 0 ∨ 65535 < n) :
    Calls Try.prog 24 #[.int .i64 n] w fun e w' => e = .returned (.string ByteArray.empty) ∧ Below w.heap.size w w' := by
  have H := Lib.hid (inB_no h)
  clear h
  go_enter Try.func24, Try.ntmps24
  go_wp2_with (go_at_call 40; refine (within_any _ _ _ _).mono ?_; rintro e w' ⟨rfl, rfl⟩; rw [H.out])
  go_ret
  exact ⟨rfl, Below.refl _ _⟩
set_option maxHeartbeats 400000 in
theorem impl_PutWord_yes (n : Nat) (w : World) (h : n < 65536) :
    Calls Try.prog 24 #[.int .i64 n] w fun e w' => e = .returned (.string (wordS n)) ∧ Below w.heap.size w w' := by
  have H := Lib.hid (inB_yes (x := (n : Int)) (lo := 0) (hi := 65535) (by omega))
  have h1 : (n : Int) < 65536 := by omega
  have hcv := fun w => conv_two w ((n : Int) / 256) ((n : Int) % 256) (by omega) (by omega)
  go_enter Try.func24, Try.ntmps24
  go_wp2_with (go_at_call 40; refine (within_any _ _ _ _).mono ?_; rintro e w' ⟨rfl, rfl⟩; rw [H.out])
  go_ret
  exact ⟨rfl, (Below.refl _ _).alloc (Nat.le_refl _) _⟩
set_option maxHeartbeats 400000 in
theorem spec_l01Word (n : Nat) (w : World) (h : n < 65536) :
    Calls Try.prog 41 #[.int .i64 n] w fun e w' => e = .returned (.string (wordS n)) ∧ Below w.heap.size w w' := by
  have h1 : (n : Int) < 65536 := by omega
  have hcv := fun w => conv_two w ((n : Int) / 256) ((n : Int) % 256) (by omega) (by omega)
  go_enter Try.func41, Try.ntmps41
  go_wp2
  go_ret
  exact ⟨rfl, (Below.refl _ _).alloc (Nat.le_refl _) _⟩
set_option maxHeartbeats 400000 in
theorem spec_PutWord_no (n : Int) (w : World) (h : n < 0 ∨ 65535 < n) :
    Calls Try.prog 23 #[.int .i64 n] w fun e w' => e = .returned (.string ByteArray.empty) ∧ Below w.heap.size w w' := by
  have H := Lib.hid (inB_no h)
  clear h
  go_enter Try.func23, Try.ntmps23
  go_wp2_with (go_at_call 38; refine (l00In_any _ _ _ _).mono ?_; rintro e w' ⟨rfl, rfl⟩; rw [H.out])
  go_ret
  exact ⟨rfl, Below.refl _ _⟩
set_option maxHeartbeats 400000 in
theorem spec_PutWord_yes (n : Nat) (w : World) (h : n < 65536) :
    Calls Try.prog 23 #[.int .i64 n] w fun e w' => e = .returned (.string (wordS n)) ∧ Below w.heap.size w w' := by
  have H := Lib.hid (inB_yes (x := (n : Int)) (lo := 0) (hi := 65535) (by omega))
  go_enter Try.func23, Try.ntmps23
  go_wp2_with (first | (go_at_call 38; refine (l00In_any _ _ _ _).mono ?_; rintro e w' ⟨rfl, rfl⟩; rw [H.out]) | (go_at_call 41; refine (spec_l01Word n _ h).mono ?_; rintro e w1 ⟨rfl, hb1⟩))
  go_ret
  exact ⟨rfl, hb1⟩
set_option maxHeartbeats 400000 in
theorem walk_FnExactPutWord (n : Int) (w : World) (_hn : (Lit.int .i64 n).wf = true) :
    Calls Try.prog 8 #[.int .i64 n] w fun e w' => e = .returned (.bool true) ∧ Below w.heap.size w w' := by
  by_cases h : n < 0 ∨ 65535 < n
  · go_enter Try.func8, Try.ntmps8
    go_wp2_with (first | (go_at_call 23; refine (spec_PutWord_no _ _ h).mono ?_; rintro e w1 ⟨rfl, hb1⟩) | (go_at_call 24; refine (impl_PutWord_no _ _ h).mono ?_; rintro e w2 ⟨rfl, hb2⟩))
    go_ret
    exact ⟨rfl, hb1.trans (hb2.mono hb1.size)⟩
  · obtain ⟨k, rfl⟩ := Int.eq_ofNat_of_zero_le (a := n) (by omega)
    have hk : k < 65536 := by omega
    go_enter Try.func8, Try.ntmps8
    go_wp2_with (first | (go_at_call 23; refine (spec_PutWord_yes k _ hk).mono ?_; rintro e w1 ⟨rfl, hb1⟩) | (go_at_call 24; refine (impl_PutWord_yes k _ hk).mono ?_; rintro e w2 ⟨rfl, hb2⟩))
    go_ret
    exact ⟨rfl, hb1.trans (hb2.mono hb1.size)⟩
end Go.Proofs.Ytancaffihijohaa
