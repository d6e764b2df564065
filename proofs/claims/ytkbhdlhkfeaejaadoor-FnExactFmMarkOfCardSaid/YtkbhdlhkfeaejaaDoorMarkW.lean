/- FmMark. -/
import Derived.Test.YtkbhdlhkfeaejaaDoorEncW
namespace Go.Proofs.YtkbhdlhkfeaejaaDoor
open Go.RowKit
theorem fmCells_mark (n : Nat) (w : World) :
    Calls Tryd.prog 56 #[.string ⟨#[b8 (n : Int)]⟩, .string ⟨#[49, 49, 48, 48, 48, 49, 49, 49]⟩] w fun e w' => e = .returned (.string (markS n)) ∧ Below w.heap.size w w' := by
  have h := impl_fmCells ⟨#[b8 (n : Int)]⟩ ⟨#[49, 49, 48, 48, 48, 49, 49, 49]⟩ w (by show (1 : Nat) ≤ 500; decide) rfl
  rw [show (⟨#[49, 49, 48, 48, 48, 49, 49, 49]⟩ : ByteArray).data.toList = [49, 49, 48, 48, 48, 49, 49, 49] from rfl, show (⟨#[b8 (n : Int)]⟩ : ByteArray).data.toList = [b8 (n : Int)] from rfl, bitsL_one, bits8_len] at h
  exact h
set_option maxHeartbeats 400000 in
theorem impl_FmMark_yes (n : Nat) (w : World) (h : n < 256) :
    Calls Tryd.prog 44 #[.int .i64 (n : Int)] w fun e w' => e = .returned (.string (markS n)) ∧ Below w.heap.size w w' := by
  have HB := Lib.hid (inB_yes (x := (n : Int)) (lo := 0) (hi := 255) (by omega))
  have h1 : (n : Int) < 256 := by omega
  have hcv := fun w => conv_one w (n : Int) (by omega)
  go_enter Tryd.func44, Tryd.ntmps44
  go_wp2_with (first | (go_at_call 36; refine (within_any _ _ _ _).mono ?_; rintro e w' ⟨rfl, rfl⟩; rw [HB.out]) | (go_at_call 56; refine (fmCells_mark n _).mono ?_; rintro e w1 ⟨rfl, hb1⟩))
  go_ret
  exact ⟨rfl, ((Below.refl _ _).alloc (Nat.le_refl _) _).trans (hb1.mono (by simp))⟩
set_option maxHeartbeats 400000 in
theorem impl_FmMark_no (n : Int) (w : World) (h : n < 0 ∨ 255 < n) :
    Calls Tryd.prog 44 #[.int .i64 n] w fun e w' => e = .returned (.string ByteArray.empty) ∧ Below w.heap.size w w' := by
  have HB := Lib.hid (inB_no h)
  clear h
  go_enter Tryd.func44, Tryd.ntmps44
  go_wp2_with (go_at_call 36; refine (within_any _ _ _ _).mono ?_; rintro e w' ⟨rfl, rfl⟩; rw [HB.out])
  go_ret
  exact ⟨rfl, Below.refl _ _⟩
set_option maxHeartbeats 400000 in
theorem spec_FmMark_no (n : Int) (w : World) (h : n < 0 ∨ 255 < n) :
    Calls Tryd.prog 42 #[.int .i64 n] w fun e w' => e = .returned (.string ByteArray.empty) ∧ Below w.heap.size w w' := by
  have HB := Lib.hid (inB_no h)
  clear h
  go_enter Tryd.func42, Tryd.ntmps42
  go_wp2_with (go_at_call 35; refine (l00In_any _ _ _ _).mono ?_; rintro e w' ⟨rfl, rfl⟩; rw [HB.out])
  go_ret
  exact ⟨rfl, Below.refl _ _⟩
theorem EncodeFm_one (n : Nat) (w : World) :
    Calls Tryd.prog 54 #[.string ⟨#[b8 (n : Int)]⟩] w fun e w' => e = .returned (.string ⟨(encL false false (bits8 (b8 (n : Int)))).toArray⟩) ∧ Below w.heap.size w w' := by
  have h := spec_EncodeFm ⟨#[b8 (n : Int)]⟩ w (by show (1 : Nat) ≤ 1048576; decide)
  rw [show encS false false ⟨#[b8 (n : Int)]⟩ = ⟨(encL false false (bitsL [b8 (n : Int)])).toArray⟩ from rfl, bitsL_one] at h
  exact h
set_option maxHeartbeats 1000000 in
set_option maxRecDepth 4096 in
theorem spec_FmMark_yes (n : Nat) (w : World) (h : n < 256) :
    Calls Tryd.prog 42 #[.int .i64 (n : Int)] w fun e w' => e = .returned (.string (markS n)) ∧ Below w.heap.size w w' := by
  have HB := Lib.hid (inB_yes (x := (n : Int)) (lo := 0) (hi := 255) (by omega))
  have h1 : (n : Int) < 256 := by omega
  have hcv := fun w => conv_one w (n : Int) (by omega)
  go_enter Tryd.func42, Tryd.ntmps42
  go_wp2_with (go_at_call 35; refine (l00In_any _ _ _ _).mono ?_; rintro e w' ⟨rfl, rfl⟩; rw [HB.out])
  refine (EncodeFm_one n _).mono ?_
  rintro e w1 ⟨rfl, hb1⟩
  have hb0 : Below w.heap.size w w1 := ((Below.refl _ _).alloc (Nat.le_refl _) _).trans (hb1.mono (by simp))
  obtain ⟨s, hs⟩ : ∃ s : ByteArray, s = ⟨(encL false false (bits8 (b8 (n : Int)))).toArray⟩ := ⟨_, rfl⟩
  have hl : s.data.toList = encL false false (bits8 (b8 (n : Int))) := by rw [hs]
  have hsz : s.size = 16 := by
    have e := encL_len false (bits8 (b8 (n : Int))) false
    rw [← hl, bits8_len] at e
    simpa using e
  rw [← hs]
  have HL := Lib.hid hl
  have HZ := Lib.hid hsz
  clear hcv hs hl hsz hb1
  have hcs := conv_str s
  have hz0 := hb0.size
  go_wp2
  clear hcs
  have hrow0 : RowB (Lib.bytesWorld w1 5 s) w1.heap.size (strike s.data.toList 0) := RowB.bytes w1 s
  have hbw : Below w.heap.size w (Lib.bytesWorld w1 5 s) := hb0.trans ((bytesWorld_below w1 _ s).mono hz0)
  go_loopw [4] (fun i wr => ∃ k j : Nat, j ≤ 3 ∧ k = 4 + 2 * j ∧ i = .int .i64 k ∧ RowB wr w1.heap.size (strike s.data.toList j) ∧ Below w.heap.size w wr) (fun i _ => 12 - (intOf i).toNat)
  case atStart => exact ⟨4, 0, Nat.zero_le _, rfl, rfl, hrow0, hbw⟩
  case round =>
    obtain ⟨k, j, hj, hk, rfl, hrow, hbel⟩ := hrel
    have hlen : (strike s.data.toList j).length = 16 := by rw [strike_len]; have := HZ.out; simpa using this
    have HK := Lib.hid hk
    by_cases hlt : k < 10
    · have hi : k < (strike s.data.toList j).length := by omega
      obtain ⟨hc, hf⟩ := hrow.2 k hi
      have hnew := hrow.set_ k (n := 48) (by decide)
      have hbn : Below w.heap.size w (wr.setCell ⟨w1.heap.size, k, none⟩ (.int .u8 48)) := hbel.setCell hz0 _
      rw [hk, show (strike s.data.toList j).set (4 + 2 * j) (b8 48) = strike s.data.toList (j + 1) from rfl, ← hk] at hnew
      have hz := HZ.out
      have hks : k < s.size := by omega
      clear hk hlen hz
      go_wp2
      go_roundw
      case rel => exact ⟨k + 2, j + 1, by have := HK.out; omega, by have := HK.out; omega, by go_num, hnew, hbn⟩
      case measure => simp [intOf]; omega
    · have e : j = 3 := by omega
      subst e
      have e2 : (strike s.data.toList 3).length = s.size := by have := HZ.out; omega
      have hcv := hrow.str (grownCap w1 s.size 0 5) s.size e2.symm
      clear hlen hk e2
      go_wp2
      go_ret
      exact ⟨ret_str (by rw [HL.out, strike_mark]), hbel⟩
end Go.Proofs.YtkbhdlhkfeaejaaDoor
