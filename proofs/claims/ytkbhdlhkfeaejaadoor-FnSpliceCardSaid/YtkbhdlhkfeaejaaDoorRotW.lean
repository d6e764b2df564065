/- RotateCells. -/
import Derived.Test.YtkbhdlhkfeaejaaDoorCellW
import Derived.Test.YtkbhdlhkfeaejaaDoorLawAid
import Derived.Deep.QuietTactic
namespace Go.Proofs.YtkbhdlhkfeaejaaDoor
open Go.RowKit
set_option linter.unusedVariables false
theorem rot_num (x n : Int) (hn : 0 < n) : (x.tmod n + n).tmod n = x % n := by
  have h1 := Int.tmod_lt_of_pos x hn
  have h2 : -n < x.tmod n := by
    have := Int.lt_tmod_of_pos x hn
    omega
  rw [Int.tmod_eq_emod_of_nonneg (by omega), Int.add_emod_right]
  rw [Int.emod_eq_emod_iff_emod_sub_eq_zero]
  have h3 := Int.tmod_add_mul_tdiv x n
  have : x.tmod n - x = n * (-(x.tdiv n)) := by rw [Int.mul_neg]; omega
  rw [this]
  exact Int.mul_emod_right _ _
/-- Cells that begin with another cell. -/
def rotS (s : ByteArray) (x : Int) : ByteArray := s.extract (x % (s.size : Int)).toNat s.size ++ s.extract 0 (x % (s.size : Int)).toNat
theorem rotS_size (s : ByteArray) (x : Int) (h : 0 < s.size) : (rotS s x).size = s.size := by
  have h3 := Int.emod_nonneg x (show (s.size : Int) ≠ 0 by omega)
  have h4 := Int.emod_lt_of_pos x (show 0 < (s.size : Int) by omega)
  unfold rotS
  rw [ByteArray.size_append, ByteArray.size_extract, ByteArray.size_extract]
  omega
theorem modulo_any (x n : Int) (w : World) (hn : 0 < n ∧ n ≤ 4000000000000000000) (hx : -9223372036854775808 ≤ x ∧ x ≤ 9223372036854775807) :
    Calls Tryd.prog 34 #[.int .i64 x, .int .i64 n] w fun e w' => e = .returned (.int .i64 (x % n)) ∧ w = w' := by
  have h1 := Int.tmod_lt_of_pos x hn.1
  have h2 := Int.lt_tmod_of_pos x hn.1
  have hr := rot_num x n hn.1
  have h3 := Int.emod_nonneg x (show n ≠ 0 by omega)
  have h4 := Int.emod_lt_of_pos x hn.1
  obtain ⟨k, hk⟩ : ∃ k : Int, x % n = k := ⟨_, rfl⟩
  rw [hk] at hr h3 h4
  have HK := Lib.hid hk
  clear hk
  have q0 : ¬ (n = 0) := by omega
  have q1 : IntKind.i64.wrap (x.tmod n) = x.tmod n := IntWalk.i64_in _ (by omega)
  have q2 : IntKind.i64.wrap (x.tmod n + n) = x.tmod n + n := IntWalk.i64_in _ (by omega)
  have q4 : wrap64 (x.tmod n + n) = x.tmod n + n := wrap64_of (by omega) (by omega)
  have q3 : IntKind.i64.wrap k = k := IntWalk.i64_in _ (by omega)
  go_enter Tryd.func34, Tryd.ntmps34
  go_wp2_with fail
  go_ret
  exact ⟨ret_int (by rw [HK.out]), rfl⟩
theorem spec_l02Rotate (s : ByteArray) (x : Int) (w : World) (hs : 0 < s.size ∧ s.size ≤ 9000000) (hx : -9223372036854775808 ≤ x ∧ x ≤ 9223372036854775807) :
    Calls Tryd.prog 32 #[.string s, .int .i64 x] w fun e w' => e = .returned (.string (rotS s x)) ∧ Below w.heap.size w w' := by
  have h1 := Int.tmod_lt_of_pos x (show 0 < (s.size : Int) by omega)
  have h2 := Int.lt_tmod_of_pos x (show 0 < (s.size : Int) by omega)
  have hr := rot_num x (s.size : Int) (by omega)
  have h3 := Int.emod_nonneg x (show (s.size : Int) ≠ 0 by omega)
  have h4 := Int.emod_lt_of_pos x (show 0 < (s.size : Int) by omega)
  obtain ⟨k, hk⟩ : ∃ k : Nat, x % (s.size : Int) = k := ⟨(x % (s.size : Int)).toNat, by omega⟩
  rw [hk] at hr h3 h4
  have q0 : ¬ ((s.size : Int) = 0) := by omega
  have q1 : IntKind.i64.wrap (x.tmod (s.size : Int)) = x.tmod (s.size : Int) := IntWalk.i64_in _ (by omega)
  have q2 : IntKind.i64.wrap (x.tmod (s.size : Int) + (s.size : Int)) = x.tmod (s.size : Int) + (s.size : Int) := IntWalk.i64_in _ (by omega)
  have q4 : wrap64 (x.tmod (s.size : Int) + (s.size : Int)) = x.tmod (s.size : Int) + (s.size : Int) := wrap64_of (by omega) (by omega)
  have q3 : IntKind.i64.wrap (k : Int) = (k : Int) := IntWalk.i64_in _ (by omega)
  have i1 : k ≤ s.size := by omega
  have i2 : (k : Int) ≤ (s.size : Int) := by omega
  have HK : Hid (rotS s x = s.extract k s.size ++ s.extract 0 k) := Lib.hid (by unfold rotS; rw [hk]; rfl)
  clear hk
  go_enter Tryd.func32, Tryd.ntmps32
  go_wp2_with fail
  go_quiet (fail)
  go_wp2_with fail
  go_ret
  exact ⟨ret_str (by rw [HK.out]), below_drewN (Below.refl _ _) _⟩
def rotC (s : ByteArray) (x : Int) : ByteArray := if cellsB s then rotS s x else ByteArray.empty
theorem cellsB_pos {s : ByteArray} (h : cellsB s = true) : 0 < s.size ∧ s.size ≤ 8000 := by
  unfold cellsB cellStr at h
  simp at h
  omega
theorem spec_RotateCells (s : ByteArray) (x : Int) (w : World) (hs : s.size ≤ 1048576) (hx : -9223372036854775808 ≤ x ∧ x ≤ 9223372036854775807) :
    Calls Tryd.prog 10 #[.string s, .int .i64 x] w fun e w' => e = .returned (.tuple #[.string (rotC s x), .bool (cellsB s)]) ∧ Below w.heap.size w w' := by
  obtain h | h := (Bool.eq_false_or_eq_true (cellsB s)).symm
  · have H := Lib.hid h
    have H2 : Hid (rotC s x = ByteArray.empty) := Lib.hid (by unfold rotC; rw [h]; rfl)
    clear h
    go_enter Tryd.func10, Tryd.ntmps10
    go_wp2_with (go_at_call 31; refine (spec_l02Cells s _ (by omega)).mono ?_; rintro e w1 ⟨rfl, rfl⟩; rw [H.out])
    go_ret2
    exact ⟨ret_str_bool (by rw [H2.out]; rfl) (by rw [H.out]), Below.refl _ _⟩
  · have hp := cellsB_pos h
    have H := Lib.hid h
    have H2 : Hid (rotC s x = rotS s x) := Lib.hid (by unfold rotC; rw [h]; rfl)
    clear h
    go_enter Tryd.func10, Tryd.ntmps10
    go_wp2_with (first | (go_at_call 31; refine (spec_l02Cells s _ (by omega)).mono ?_; rintro e w1 ⟨rfl, rfl⟩; rw [H.out]) | (go_at_call 32; refine (spec_l02Rotate s x _ (by omega) hx).mono ?_; rintro e w2 ⟨rfl, hb⟩))
    go_ret2
    exact ⟨ret_str_bool (by rw [H2.out]) (by rw [H.out]), hb⟩
set_option maxHeartbeats 1000000 in
theorem impl_RotateCells (s : ByteArray) (x : Int) (w : World) (hs : s.size ≤ 1048576) (hx : -9223372036854775808 ≤ x ∧ x ≤ 9223372036854775807) :
    Calls Tryd.prog 11 #[.string s, .int .i64 x] w fun e w' => e = .returned (.tuple #[.string (rotC s x), .bool (cellsB s)]) ∧ Below w.heap.size w w' := by
  obtain h | h := (Bool.eq_false_or_eq_true (cellsB s)).symm
  · have H := Lib.hid h
    have H2 : Hid (rotC s x = ByteArray.empty) := Lib.hid (by unfold rotC; rw [h]; rfl)
    clear h
    go_enter Tryd.func11, Tryd.ntmps11
    go_wp2_with (go_at_call 33; refine (impl_ValidCells s _ (by omega)).mono ?_; rintro e w1 ⟨rfl, hb⟩; rw [H.out])
    go_ret2
    exact ⟨ret_str_bool (by rw [H2.out]; rfl) (by rw [H.out]), hb⟩
  · have hp := cellsB_pos h
    have H := Lib.hid h
    have H2 : Hid (rotC s x = rotS s x) := Lib.hid (by unfold rotC; rw [h]; rfl)
    clear h
    have h1 := Int.tmod_lt_of_pos x (show 0 < (s.size : Int) by omega)
    have h2 := Int.lt_tmod_of_pos x (show 0 < (s.size : Int) by omega)
    have hr := rot_num x (s.size : Int) (by omega)
    have h3 := Int.emod_nonneg x (show (s.size : Int) ≠ 0 by omega)
    have h4 := Int.emod_lt_of_pos x (show 0 < (s.size : Int) by omega)
    obtain ⟨k, hk⟩ : ∃ k : Nat, x % (s.size : Int) = k := ⟨(x % (s.size : Int)).toNat, by omega⟩
    rw [hk] at hr h3 h4
    have q0 : ¬ ((s.size : Int) = 0) := by omega
    have q1 : IntKind.i64.wrap (x.tmod (s.size : Int)) = x.tmod (s.size : Int) := IntWalk.i64_in _ (by omega)
    have q2 : IntKind.i64.wrap (x.tmod (s.size : Int) + (s.size : Int)) = x.tmod (s.size : Int) + (s.size : Int) := IntWalk.i64_in _ (by omega)
    have q4 : wrap64 (x.tmod (s.size : Int) + (s.size : Int)) = x.tmod (s.size : Int) + (s.size : Int) := wrap64_of (by omega) (by omega)
    have q3 : IntKind.i64.wrap (k : Int) = (k : Int) := IntWalk.i64_in _ (by omega)
    have i1 : k ≤ s.size := by omega
    have i2 : (k : Int) ≤ (s.size : Int) := by omega
    have HK : Hid (rotS s x = s.extract k s.size ++ s.extract 0 k) := Lib.hid (by unfold rotS; rw [hk]; rfl)
    have hm := fun w => modulo_any x (s.size : Int) w (by omega) hx
    rw [hk] at hm
    clear hk
    go_enter Tryd.func11, Tryd.ntmps11
    go_wp2_with (first | (go_at_call 33; refine (impl_ValidCells s _ (by omega)).mono ?_; rintro e w1 ⟨rfl, hb⟩; rw [H.out]) | (go_at_call 34; refine (hm _).mono ?_; rintro e w2 ⟨rfl, rfl⟩))
    go_quiet (fail)
    go_wp2_with fail
    go_ret2
    exact ⟨ret_str_bool (by rw [H2.out, HK.out]) (by rw [H.out]), below_drewN hb _⟩
theorem walk_FnExactRotateCells (s : ByteArray) (x : Int) (w : World) (hs : s.size ≤ maxLen) (hx : (Lit.int .i64 x).wf = true) :
    Calls Tryd.prog 3 #[.string s, .int .i64 x] w fun e w' => e = .returned (.bool true) ∧ Below w.heap.size w w' := by
  unfold maxLen at hs
  have hxb := i64_bd hx
  by_cases h : s.size ≤ 1048576
  · have hd : decide ((1048576 : Int) < (s.size : Int)) = false := by simp; omega
    go_enter Tryd.func3, Tryd.ntmps3
    go_wp2_with (first | (go_at_call 10; refine (spec_RotateCells s x _ h hxb).mono ?_; rintro e w1 ⟨rfl, hb1⟩) | (go_at_call 11; refine (impl_RotateCells s x _ h hxb).mono ?_; rintro e w2 ⟨rfl, hb2⟩))
    go_ret
    exact ⟨rfl, hb1.trans (hb2.mono hb1.size)⟩
  · have hd : decide ((1048576 : Int) < (s.size : Int)) = true := by simp; omega
    go_enter Tryd.func3, Tryd.ntmps3
    go_wp2_with fail
    go_ret
    exact ⟨rfl, Below.refl _ _⟩
end Go.Proofs.YtkbhdlhkfeaejaaDoor
