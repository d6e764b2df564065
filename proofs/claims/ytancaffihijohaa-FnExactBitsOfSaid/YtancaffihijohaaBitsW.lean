/- BitsOf. -/
import Derived.Test.YtancaffihijohaaBase
import Derived.Test.YtancaffihijohaaMem
import Derived.Deep.RegionLaw
namespace Go.Proofs.Ytancaffihijohaa
open Go.RowKit
/-- The eight bits of a byte, as characters, the highest first. -/
def bits8 (c : UInt8) : List UInt8 := (List.range 8).map fun j => UInt8.ofNat (48 + c.toNat / 2 ^ (7 - j) % 2)
def bitsL (l : List UInt8) : List UInt8 := l.flatMap bits8
theorem bits8_len (c : UInt8) : (bits8 c).length = 8 := by simp [bits8]
theorem bits8_all (c : UInt8) : (bits8 c).take 8 = bits8 c := List.take_of_length_le (by rw [bits8_len]; omega)
def bitsS (a : ByteArray) : ByteArray := if a.size ≤ 4096 then ⟨(bitsL a.data.toList).toArray⟩ else ByteArray.empty
theorem bitsL_len (l : List UInt8) : (bitsL l).length = 8 * l.length := by
  induction l with
  | nil => rfl
  | cons a l ih => simp only [bitsL, List.flatMap_cons, List.length_append, List.length_cons, bits8_len] at *; omega
theorem bitsL_snoc (l : List UInt8) (c : UInt8) : bitsL (l ++ [c]) = bitsL l ++ bits8 c := by simp [bitsL]
theorem bit_val (c : UInt8) (i : Nat) : (48 + bits .and .u8 ((c.toNat : Int) / 2 ^ i) 1) % 256 = ((48 + c.toNat / 2 ^ i % 2 : Nat) : Int) := by
  have hc := c.toNat_lt
  have e : (c.toNat : Int) / 2 ^ i = ((c.toNat / 2 ^ i : Nat) : Int) := by simp
  have hd : c.toNat / 2 ^ i ≤ c.toNat := Nat.div_le_self _ _
  have h := u8_and_nat (c.toNat / 2 ^ i) 1 (by omega) (by decide)
  rw [Nat.and_one_is_mod] at h
  rw [e, show (1 : Int) = ((1 : Nat) : Int) from rfl, h]
  omega
theorem bits8_step (c : UInt8) {j : Nat} (hj : j < 8) : (bits8 c).take (j + 1) = (bits8 c).take j ++ [b8 ((48 + bits .and .u8 ((c.toNat : Int) / 2 ^ (7 - j)) 1) % 256)] := by
  rw [List.take_succ_eq_append_getElem (by rw [bits8_len]; exact hj), bit_val]
  unfold b8
  rw [Int.toNat_natCast]
  simp only [bits8, List.getElem_map, List.getElem_range]
set_option maxHeartbeats 1000000 in
theorem spec_l01Bits (a : ByteArray) (w : World) (hs : a.size ≤ 4096) :
    Calls Try.prog 49 #[.string a] w fun e w' => e = .returned (.string ⟨(bitsL a.data.toList).toArray⟩) ∧ Below w.heap.size w w' := by
  go_enter Try.func49, Try.ntmps49
  go_wp2
  go_loopw [3, 4] (fun v i wr => ∃ k : Nat, k ≤ a.size ∧ i = .int .i64 k ∧ OwnB wr w.heap.size v (bitsL (a.data.toList.take k)) ∧ Below w.heap.size w wr) (fun _ i _ => a.size - (intOf i).toNat)
  case atStart => exact ⟨0, Nat.zero_le _, rfl, OwnB.nil0 _, (Below.refl _ _).alloc (Nat.le_refl _) _⟩
  case round =>
    obtain ⟨k, hk, rfl, hown, hbel⟩ := hrel
    obtain ⟨wo, rfl⟩ : ∃ wo : World, wo = wr := ⟨_, rfl⟩
    by_cases hlt : k < a.size
    · have hl : (bitsL (a.data.toList.take k)).length ≤ 8 * k := by rw [bitsL_len]; simp; omega
      go_wp2
      go_loopw [3, 5] (fun v i wr => ∃ j : Nat, j ≤ 8 ∧ i = .int .i64 (7 - (j : Int)) ∧ OwnB wr w.heap.size v (bitsL (a.data.toList.take k) ++ (bits8 (a[k]'hlt)).take j) ∧ Below w.heap.size w wr) (fun _ i _ => (intOf i + 1).toNat)
      case atStart => exact ⟨0, by omega, rfl, by simpa using hown, hbel⟩
      case round =>
        clear hown hbel
        obtain ⟨j, hj, rfl, hown, hbel⟩ := hrel
        have hz := hbel.size
        by_cases hj8 : j < 8
        · have q0 : (0 : Int) ≤ 7 - (j : Int) := by omega
          have q1 : 7 - (j : Int) ≤ 7 := by omega
          have hlen : (bitsL (a.data.toList.take k) ++ (bits8 (a[k]'hlt)).take j).length < 1099511627776 := by
            rw [List.length_append, List.length_take]; omega
          have HS := Lib.hid (bits8_step (a[k]'hlt) hj8)
          go_wp2_with (at_builtin; refine append_byte _ rfl _ _ rfl w.heap.size u3 (bitsL (a.data.toList.take k) ++ (bits8 (a[k]'hlt)).take j) _ rfl rfl hown (by omega) hlen hz ?_; intro v1 w1 hown1 hbel1)
          go_roundw
          case rel => exact ⟨j + 1, by omega, by go_num, by rw [HS.out, ← List.append_assoc]; exact hown1, hbel.trans hbel1⟩
          case measure => simp [intOf]; omega
        · obtain rfl : j = 8 := by omega
          have hnew : OwnB wr w.heap.size u3 (bitsL (a.data.toList.take (k + 1))) := by
            rw [take_snoc a k hlt, bitsL_snoc]
            rw [bits8_all] at hown
            exact hown
          go_wp2
          go_roundw
          case rel => exact ⟨k + 1, by omega, by go_num, hnew, hbel⟩
          case measure => simp [intOf]; omega
    · have hcv := hown.str
      go_wp2
      go_ret
      exact ⟨ret_str (by rw [take_all a (by omega)]), hbel⟩
set_option maxHeartbeats 1000000 in
theorem impl_bitsOf (a : ByteArray) (w : World) (hs : a.size ≤ 4096) :
    Calls Try.prog 50 #[.string a] w fun e w' => e = .returned (.string ⟨(bitsL a.data.toList).toArray⟩) ∧ Below w.heap.size w w' := by
  go_enter Try.func50, Try.ntmps50
  go_wp2_with (at_make; refine make_bytes0 _ rfl _ _ rfl _ (8 * a.size) rfl rfl (by omega) (by omega) ?_; intro w0 hown0 hbel0)
  go_loopw [3, 12] (fun v i wr => ∃ k : Nat, k ≤ a.size ∧ i = .int .i64 k ∧ OwnB wr w.heap.size v (bitsL (a.data.toList.take k)) ∧ Below w.heap.size w wr) (fun _ i _ => a.size - (intOf i).toNat)
  case atStart => exact ⟨0, Nat.zero_le _, rfl, hown0, hbel0⟩
  case round =>
    obtain ⟨k, hk, rfl, hown, hbel⟩ := hrel
    obtain ⟨wo, rfl⟩ : ∃ wo : World, wo = wr := ⟨_, rfl⟩
    by_cases hlt : k < a.size
    · have hl : (bitsL (a.data.toList.take k)).length ≤ 8 * k := by rw [bitsL_len]; simp; omega
      go_wp2
      go_loopw [3, 5] (fun v i wr => ∃ j : Nat, j ≤ 8 ∧ i = .int .i64 (7 - (j : Int)) ∧ OwnB wr w.heap.size v (bitsL (a.data.toList.take k) ++ (bits8 (a[k]'hlt)).take j) ∧ Below w.heap.size w wr) (fun _ i _ => (intOf i + 1).toNat)
      case atStart => exact ⟨0, by omega, rfl, by simpa using hown, hbel⟩
      case round =>
        clear hown hbel
        obtain ⟨j, hj, rfl, hown, hbel⟩ := hrel
        have hz := hbel.size
        by_cases hj8 : j < 8
        · have q0 : (0 : Int) ≤ 7 - (j : Int) := by omega
          have q1 : 7 - (j : Int) ≤ 7 := by omega
          have hlen : (bitsL (a.data.toList.take k) ++ (bits8 (a[k]'hlt)).take j).length < 1099511627776 := by
            rw [List.length_append, List.length_take]; omega
          have HS := Lib.hid (bits8_step (a[k]'hlt) hj8)
          go_wp2_with (at_builtin; refine append_byte _ rfl _ _ rfl w.heap.size u3 (bitsL (a.data.toList.take k) ++ (bits8 (a[k]'hlt)).take j) _ rfl rfl hown (by omega) hlen hz ?_; intro v1 w1 hown1 hbel1)
          go_roundw
          case rel => exact ⟨j + 1, by omega, by go_num, by rw [HS.out, ← List.append_assoc]; exact hown1, hbel.trans hbel1⟩
          case measure => simp [intOf]; omega
        · obtain rfl : j = 8 := by omega
          have hnew : OwnB wr w.heap.size u3 (bitsL (a.data.toList.take (k + 1))) := by
            rw [take_snoc a k hlt, bitsL_snoc]
            rw [bits8_all] at hown
            exact hown
          go_wp2
          go_roundw
          case rel => exact ⟨k + 1, by omega, by go_num, hnew, hbel⟩
          case measure => simp [intOf]; omega
    · have hcv := hown.str
      go_wp2
      go_ret
      exact ⟨ret_str (by rw [take_all a (by omega)]), hbel⟩
set_option maxHeartbeats 400000 in
theorem impl_BitsOf (a : ByteArray) (w : World) (hs : a.size ≤ 1048576) :
    Calls Try.prog 37 #[.string a] w fun e w' => e = .returned (.string (bitsS a)) ∧ Below w.heap.size w w' := by
  by_cases h : a.size ≤ 4096
  · have hd : decide ((4096 : Int) < (a.size : Int)) = false := by simp; omega
    have H := Lib.hid (show bitsS a = ⟨(bitsL a.data.toList).toArray⟩ from by unfold bitsS; rw [if_pos h])
    go_enter Try.func37, Try.ntmps37
    go_wp2_with (go_at_call 50; refine (impl_bitsOf _ _ h).mono ?_; rintro e w1 ⟨rfl, hbel⟩)
    go_ret
    exact ⟨ret_str (by rw [H.out]), hbel⟩
  · have hd : decide ((4096 : Int) < (a.size : Int)) = true := by simp; omega
    have H := Lib.hid (show bitsS a = ByteArray.empty from by unfold bitsS; rw [if_neg h])
    go_enter Try.func37, Try.ntmps37
    go_wp2
    go_ret
    exact ⟨ret_str (by rw [H.out]; rfl), Below.refl _ _⟩
set_option maxHeartbeats 400000 in
theorem spec_BitsOf (a : ByteArray) (w : World) (hs : a.size ≤ 1048576) :
    Calls Try.prog 36 #[.string a] w fun e w' => e = .returned (.string (bitsS a)) ∧ Below w.heap.size w w' := by
  by_cases h : a.size ≤ 4096
  · have hd : decide ((4096 : Int) < (a.size : Int)) = false := by simp; omega
    have H := Lib.hid (show bitsS a = ⟨(bitsL a.data.toList).toArray⟩ from by unfold bitsS; rw [if_pos h])
    go_enter Try.func36, Try.ntmps36
    go_wp2_with (go_at_call 49; refine (spec_l01Bits _ _ h).mono ?_; rintro e w1 ⟨rfl, hbel⟩)
    go_ret
    exact ⟨ret_str (by rw [H.out]), hbel⟩
  · have hd : decide ((4096 : Int) < (a.size : Int)) = true := by simp; omega
    have H := Lib.hid (show bitsS a = ByteArray.empty from by unfold bitsS; rw [if_neg h])
    go_enter Try.func36, Try.ntmps36
    go_wp2
    go_ret
    exact ⟨ret_str (by rw [H.out]; rfl), Below.refl _ _⟩
set_option maxHeartbeats 400000 in
theorem walk_FnExactBitsOf (s : ByteArray) (w : World) (hs : s.size ≤ maxLen) :
    Calls Try.prog 14 #[.string s] w fun e w' => e = .returned (.bool true) ∧ Below w.heap.size w w' := by
  unfold maxLen at hs
  by_cases h : s.size ≤ 1048576
  · have hd : decide ((1048576 : Int) < (s.size : Int)) = false := by simp; omega
    go_enter Try.func14, Try.ntmps14
    go_wp2_with (first | (go_at_call 36; refine (spec_BitsOf _ _ h).mono ?_; rintro e w1 ⟨rfl, hb1⟩) | (go_at_call 37; refine (impl_BitsOf _ _ h).mono ?_; rintro e w2 ⟨rfl, hb2⟩))
    go_ret
    exact ⟨rfl, hb1.trans (hb2.mono hb1.size)⟩
  · go_enter Try.func14, Try.ntmps14
    go_wp2
    go_ret
    exact ⟨rfl, Below.refl _ _⟩
end Go.Proofs.Ytancaffihijohaa
