/- Crc16: both texts compute crcL. -/
import Derived.Test.YtgaemcpfhmaplaaWithin
import Derived.Test.YtgaemcpfhmaplaaIn
import Derived.Test.YtgaemcpfhmaplaaCrcP
namespace Go.Proofs.Ytgaemcpfhmaplaa
open Go.RowKit

set_option maxHeartbeats 1000000 in
theorem impl_crc16 (s : ByteArray) (v : Nat) (w : World) (hs : s.size ≤ 2097152) (hv : v < 65536) :
    Calls Try.prog 30 #[.string s, .int .i64 (v : Int)] w fun e w' => e = .returned (.int .i64 (crcL v s.data.toList : Nat)) ∧ w = w' := by
  go_enter Try.func30, Try.ntmps30
  go_wp2
  go_loopw [1, 10] (fun n i wr => ∃ k : Nat, k ≤ s.size ∧ i = .int .i64 k ∧ n = .int .i64 (crcL v (s.data.toList.take k) : Nat) ∧ w = wr) (fun _ i _ => s.size - (intOf i).toNat)
  case atStart => exact ⟨0, Nat.zero_le _, rfl, rfl, rfl⟩
  case round =>
    obtain ⟨k, hk, rfl, rfl, rfl⟩ := hrel
    by_cases hlt : k < s.size
    · have hu := crcL_lt hv (s.data.toList.take k)
      have HN := Lib.hid (crcL_snoc v (s.data.toList.take k) (s[k]'hlt))
      generalize crcL v (s.data.toList.take k) = u at *
      go_wp2
      go_loopw [1, 6] (fun n i wr => ∃ j : Nat, j ≤ 8 ∧ i = .int .i64 (7 - (j : Int)) ∧ n = .int .i64 (crcFeed u ((byteBits (s[k]'hlt)).take j) : Nat) ∧ w = wr) (fun _ i _ => (intOf i + 1).toNat)
      case atStart => exact ⟨0, by omega, rfl, rfl, rfl⟩
      case round =>
        obtain ⟨j, hj, rfl, rfl, rfl⟩ := hrel
        by_cases hj8 : j < 8
        · have hx := crcFeed_lt hu ((byteBits (s[k]'hlt)).take j)
          have HS := Lib.hid (crcFeed_step u (s[k]'hlt) hj8)
          generalize crcFeed u ((byteBits (s[k]'hlt)).take j) = x at *
          have q0 : (0 : Int) ≤ 7 - (j : Int) := by omega
          have q1 : 7 - (j : Int) ≤ 7 := by omega
          by_cases hb : x / 32768 % 2 = (s[k]'hlt).toNat / 2 ^ (7 - j) % 2
          · have ht := test_impl hx (s[k]'hlt) (7 - j)
            rw [decide_eq_false (by simpa using hb)] at ht
            have HE := Lib.hid (crc_eq hx hb)
            clear hb
            go_wp2
            go_roundw
            case rel => exact ⟨j + 1, by omega, by go_num, by rw [HS.out, HE.out], trivial⟩
            case measure => simp [intOf]; omega
          · have ht := test_impl hx (s[k]'hlt) (7 - j)
            rw [decide_eq_true hb] at ht
            have HE := Lib.hid (crc_ne hx hb)
            clear hb
            go_wp2
            go_roundw
            case rel => exact ⟨j + 1, by omega, by go_num, by rw [HS.out, HE.out], trivial⟩
            case measure => simp [intOf]; omega
        · obtain rfl : j = 8 := by omega
          go_wp2
          go_roundw
          case rel => exact ⟨k + 1, by omega, by go_num, by rw [take_snoc s k hlt, HN.out, byteBits_all], trivial⟩
          case measure => simp [intOf]; omega
    · go_wp2
      go_ret
      exact ⟨ret_int (by rw [take_all s (by omega)]), rfl⟩
set_option maxHeartbeats 1000000 in
theorem spec_l01Crc (s : ByteArray) (v : Nat) (w : World) (hs : s.size ≤ 2097152) (hv : v < 65536) :
    Calls Try.prog 28 #[.string s, .int .i64 (v : Int)] w fun e w' => e = .returned (.int .i64 (crcL v s.data.toList : Nat)) ∧ w = w' := by
  go_enter Try.func28, Try.ntmps28
  go_wp2
  go_loopw [5, 6] (fun n i wr => ∃ k : Nat, k ≤ s.size ∧ i = .int .i64 k ∧ n = .int .i64 (crcL v (s.data.toList.take k) : Nat) ∧ w = wr) (fun _ i _ => s.size - (intOf i).toNat)
  case atStart => exact ⟨0, Nat.zero_le _, rfl, rfl, rfl⟩
  case round =>
    obtain ⟨k, hk, rfl, rfl, rfl⟩ := hrel
    by_cases hlt : k < s.size
    · have hu := crcL_lt hv (s.data.toList.take k)
      have HN := Lib.hid (crcL_snoc v (s.data.toList.take k) (s[k]'hlt))
      generalize crcL v (s.data.toList.take k) = u at *
      go_wp2
      go_loopw [5, 7] (fun n i wr => ∃ j : Nat, j ≤ 8 ∧ i = .int .i64 (7 - (j : Int)) ∧ n = .int .i64 (crcFeed u ((byteBits (s[k]'hlt)).take j) : Nat) ∧ w = wr) (fun _ i _ => (intOf i + 1).toNat)
      case atStart => exact ⟨0, by omega, rfl, rfl, rfl⟩
      case round =>
        obtain ⟨j, hj, rfl, rfl, rfl⟩ := hrel
        by_cases hj8 : j < 8
        · have hx := crcFeed_lt hu ((byteBits (s[k]'hlt)).take j)
          have HS := Lib.hid (crcFeed_step u (s[k]'hlt) hj8)
          generalize crcFeed u ((byteBits (s[k]'hlt)).take j) = x at *
          have q0 : (0 : Int) ≤ 7 - (j : Int) := by omega
          have q1 : 7 - (j : Int) ≤ 7 := by omega
          by_cases hb : x / 32768 % 2 = (s[k]'hlt).toNat / 2 ^ (7 - j) % 2
          · have ht := test_spec hx (s[k]'hlt) (7 - j)
            rw [decide_eq_false (by simpa using hb)] at ht
            have HE := Lib.hid (crc_eq hx hb)
            clear hb
            go_wp2
            go_roundw
            case rel => exact ⟨j + 1, by omega, by go_num, by rw [HS.out, HE.out], trivial⟩
            case measure => simp [intOf]; omega
          · have ht := test_spec hx (s[k]'hlt) (7 - j)
            rw [decide_eq_true hb] at ht
            have HE := Lib.hid (crc_ne hx hb)
            clear hb
            go_wp2
            go_roundw
            case rel => exact ⟨j + 1, by omega, by go_num, by rw [HS.out, HE.out], trivial⟩
            case measure => simp [intOf]; omega
        · obtain rfl : j = 8 := by omega
          go_wp2
          go_roundw
          case rel => exact ⟨k + 1, by omega, by go_num, by rw [take_snoc s k hlt, HN.out, byteBits_all], trivial⟩
          case measure => simp [intOf]; omega
    · go_wp2
      go_ret
      exact ⟨ret_int (by rw [take_all s (by omega)]), rfl⟩
/-- The check value with its guard. -/
def crcV (s : ByteArray) (n : Int) : Int := if 0 ≤ n ∧ n ≤ 65535 then ((crcL n.toNat s.data.toList : Nat) : Int) else -1
set_option maxHeartbeats 400000 in
theorem impl_Crc16 (s : ByteArray) (n : Int) (w : World) (hs : s.size ≤ 2097152) :
    Calls Try.prog 13 #[.string s, .int .i64 n] w fun e w' => e = .returned (.int .i64 (crcV s n)) ∧ w = w' := by
  by_cases h : 0 ≤ n ∧ n ≤ 65535
  · have H := Lib.hid (show crcV s n = _ from if_pos h)
    obtain ⟨v, rfl⟩ := Int.eq_ofNat_of_zero_le h.1
    rw [Int.toNat_natCast] at H
    have HB := Lib.hid (inB_yes h)
    have hv : v < 65536 := by omega
    clear h
    go_enter Try.func13, Try.ntmps13
    go_wp2_with (first | (go_at_call 29; refine (within_any _ _ _ _).mono ?_; rintro e w' ⟨rfl, rfl⟩; rw [HB.out]) | (go_at_call 30; refine (impl_crc16 _ v _ hs hv).mono ?_; rintro e w' ⟨rfl, rfl⟩))
    go_ret
    exact ⟨ret_int (by rw [H.out]), rfl⟩
  · have H := Lib.hid (show crcV s n = -1 from if_neg h)
    have HB := Lib.hid (inB_no (x := n) (lo := 0) (hi := 65535) (by omega))
    clear h
    go_enter Try.func13, Try.ntmps13
    go_wp2_with (go_at_call 29; refine (within_any _ _ _ _).mono ?_; rintro e w' ⟨rfl, rfl⟩; rw [HB.out])
    go_ret
    exact ⟨ret_int (by rw [H.out]), rfl⟩
set_option maxHeartbeats 400000 in
theorem spec_Crc16 (s : ByteArray) (n : Int) (w : World) (hs : s.size ≤ 2097152) :
    Calls Try.prog 12 #[.string s, .int .i64 n] w fun e w' => e = .returned (.int .i64 (crcV s n)) ∧ w = w' := by
  by_cases h : 0 ≤ n ∧ n ≤ 65535
  · have H := Lib.hid (show crcV s n = _ from if_pos h)
    obtain ⟨v, rfl⟩ := Int.eq_ofNat_of_zero_le h.1
    rw [Int.toNat_natCast] at H
    have HB := Lib.hid (inB_yes h)
    have hv : v < 65536 := by omega
    clear h
    go_enter Try.func12, Try.ntmps12
    go_wp2_with (first | (go_at_call 27; refine (l00In_any _ _ _ _).mono ?_; rintro e w' ⟨rfl, rfl⟩; rw [HB.out]) | (go_at_call 28; refine (spec_l01Crc _ v _ hs hv).mono ?_; rintro e w' ⟨rfl, rfl⟩))
    go_ret
    exact ⟨ret_int (by rw [H.out]), rfl⟩
  · have H := Lib.hid (show crcV s n = -1 from if_neg h)
    have HB := Lib.hid (inB_no (x := n) (lo := 0) (hi := 65535) (by omega))
    clear h
    go_enter Try.func12, Try.ntmps12
    go_wp2_with (go_at_call 27; refine (l00In_any _ _ _ _).mono ?_; rintro e w' ⟨rfl, rfl⟩; rw [HB.out])
    go_ret
    exact ⟨ret_int (by rw [H.out]), rfl⟩
set_option maxHeartbeats 400000 in
theorem walk_FnExactCrc16 (s : ByteArray) (n : Int) (w : World) (hs : s.size ≤ maxLen) (_hn : (Lit.int .i64 n).wf = true) :
    Calls Try.prog 4 #[.string s, .int .i64 n] w fun e w' => e = .returned (.bool true) ∧ Below w.heap.size w w' := by
  unfold maxLen at hs
  by_cases h : s.size ≤ 1048576
  · have hd : decide ((1048576 : Int) < (s.size : Int)) = false := by simp; omega
    go_enter Try.func4, Try.ntmps4
    go_wp2_with (first | (go_at_call 12; refine (spec_Crc16 _ _ _ (by omega)).mono ?_; rintro e w' ⟨rfl, rfl⟩) | (go_at_call 13; refine (impl_Crc16 _ _ _ (by omega)).mono ?_; rintro e w' ⟨rfl, rfl⟩))
    go_ret
    exact ⟨rfl, Below.refl _ _⟩
  · go_enter Try.func4, Try.ntmps4
    go_wp2
    go_ret
    exact ⟨rfl, Below.refl _ _⟩
end Go.Proofs.Ytgaemcpfhmaplaa
