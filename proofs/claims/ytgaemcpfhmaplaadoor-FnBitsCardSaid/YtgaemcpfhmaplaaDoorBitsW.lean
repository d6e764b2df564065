/- BitsOf. -/
import Derived.Test.YtgaemcpfhmaplaaDoorBitsP
import Derived.Deep.RegionLaw
namespace Go.Proofs.YtgaemcpfhmaplaaDoor
open Go.RowKit
set_option maxHeartbeats 1000000 in
theorem impl_bitsOf (a : ByteArray) (w : World) (hs : a.size ≤ 4096) :
    Calls Tryd.prog 27 #[.string a] w fun e w' => e = .returned (.string ⟨(bitsL a.data.toList).toArray⟩) ∧ Below w.heap.size w w' := by
  go_enter Tryd.func27, Tryd.ntmps27
  go_wp2_with (at_make; refine make_bytes0 _ rfl _ _ rfl _ (8 * a.size) rfl rfl (by omega) (by omega) ?_; intro w0 hown0 hbel0)
  go_loopw [3, 12] (fun v i wr => ∃ k : Nat, k ≤ a.size ∧ i = .int .i64 k ∧ OwnB wr w.heap.size v (bitsL (a.data.toList.take k)) ∧ Below w.heap.size w wr) (fun _ i _ => a.size - (intOf i).toNat)
  case atStart => exact ⟨0, Nat.zero_le _, rfl, hown0, hbel0⟩
  case round =>
    obtain ⟨k, hk, rfl, hown, hbel⟩ := hrel
    obtain ⟨wo, rfl⟩ : ∃ wo : World, wo = wr := ⟨_, rfl⟩
    by_cases hlt : k < a.size
    · have hl : (bitsL (a.data.toList.take k)).length ≤ 8 * k := by rw [bitsL_len]; simp; omega
      go_wp2
      go_loopw [3, 5] (fun v i wr => ∃ j : Nat, j ≤ 8 ∧ i = .int .i64 (7 - (j : Int)) ∧ OwnB wr w.heap.size v (bitsL (a.data.toList.take k) ++ (bits8 (a[k]'hlt)).take j) ∧ Below w.heap.size w wr) (fun _ i _ => (intOf i + 1).toNat)
      case atStart => exact ⟨0, by omega, rfl, by simpa using hown, hbel⟩
      case round =>
        clear hown hbel
        obtain ⟨j, hj, rfl, hown, hbel⟩ := hrel
        have hz := hbel.size
        by_cases hj8 : j < 8
        · have q0 : (0 : Int) ≤ 7 - (j : Int) := by omega
          have q1 : 7 - (j : Int) ≤ 7 := by omega
          have hlen : (bitsL (a.data.toList.take k) ++ (bits8 (a[k]'hlt)).take j).length < 1099511627776 := by
            rw [List.length_append, List.length_take]; omega
          have HS := Lib.hid (bits8_step (a[k]'hlt) hj8)
          go_wp2_with (at_builtin; refine append_byte _ rfl _ _ rfl w.heap.size u3 (bitsL (a.data.toList.take k) ++ (bits8 (a[k]'hlt)).take j) _ rfl rfl hown (by omega) hlen hz ?_; intro v1 w1 hown1 hbel1)
          go_roundw
          case rel => exact ⟨j + 1, by omega, by go_num, by rw [HS.out, ← List.append_assoc]; exact hown1, hbel.trans hbel1⟩
          case measure => simp [intOf]; omega
        · obtain rfl : j = 8 := by omega
          have hnew : OwnB wr w.heap.size u3 (bitsL (a.data.toList.take (k + 1))) := by
            rw [take_snoc a k hlt, bitsL_snoc]
            rw [bits8_all] at hown
            exact hown
          go_wp2
          go_roundw
          case rel => exact ⟨k + 1, by omega, by go_num, hnew, hbel⟩
          case measure => simp [intOf]; omega
    · have hcv := hown.str
      go_wp2
      go_ret
      exact ⟨ret_str (by rw [take_all a (by omega)]), hbel⟩
set_option maxHeartbeats 400000 in
theorem impl_BitsOf (a : ByteArray) (w : World) (hs : a.size ≤ 1048576) :
    Calls Tryd.prog 12 #[.string a] w fun e w' => e = .returned (.string (bitsS a)) ∧ Below w.heap.size w w' := by
  by_cases h : a.size ≤ 4096
  · have hd : decide ((4096 : Int) < (a.size : Int)) = false := by simp; omega
    have H := Lib.hid (show bitsS a = ⟨(bitsL a.data.toList).toArray⟩ from by unfold bitsS; rw [if_pos h])
    go_enter Tryd.func12, Tryd.ntmps12
    go_wp2_with (go_at_call 27; refine (impl_bitsOf _ _ h).mono ?_; rintro e w1 ⟨rfl, hbel⟩)
    go_ret
    exact ⟨ret_str (by rw [H.out]), hbel⟩
  · have hd : decide ((4096 : Int) < (a.size : Int)) = true := by simp; omega
    have H := Lib.hid (show bitsS a = ByteArray.empty from by unfold bitsS; rw [if_neg h])
    go_enter Tryd.func12, Tryd.ntmps12
    go_wp2
    go_ret
    exact ⟨ret_str (by rw [H.out]; rfl), Below.refl _ _⟩
end Go.Proofs.YtgaemcpfhmaplaaDoor
