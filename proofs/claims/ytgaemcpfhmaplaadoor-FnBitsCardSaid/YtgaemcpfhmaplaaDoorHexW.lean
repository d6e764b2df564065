/- HexText. -/
import Derived.Test.YtgaemcpfhmaplaaDoorBase
import Derived.Test.YtgaemcpfhmaplaaDoorMem
import Derived.Deep.RegionLaw
namespace Go.Proofs.YtgaemcpfhmaplaaDoor
open Go.RowKit
/-- The character of a hexadecimal digit. -/
def hexD (n : Nat) : UInt8 := if n < 10 then UInt8.ofNat (48 + n) else UInt8.ofNat (87 + n)
/-- Two hexadecimal digits a byte. -/
def hexL (l : List UInt8) : List UInt8 := l.flatMap fun c => [hexD (c.toNat / 16), hexD (c.toNat % 16)]
def hexS (a : ByteArray) : ByteArray := if a.size ≤ 4096 then ⟨(hexL a.data.toList).toArray⟩ else ByteArray.empty
theorem hexL_len (l : List UInt8) : (hexL l).length = 2 * l.length := by
  induction l with
  | nil => rfl
  | cons a l ih => simp only [hexL, List.flatMap_cons, List.length_append, List.length_cons, List.length_nil] at *; omega
theorem hexL_snoc (l : List UInt8) (c : UInt8) : hexL (l ++ [c]) = hexL l ++ [hexD (c.toNat / 16), hexD (c.toNat % 16)] := by simp [hexL]
theorem hex_all : ∀ n : Fin 16, (#[48, 49, 50, 51, 52, 53, 54, 55, 56, 57, 97, 98, 99, 100, 101, 102] : Array UInt8)[n.val]? = some (hexD n.val) := by decide
theorem hex_at (n : Nat) (h : n < ({ data := #[48, 49, 50, 51, 52, 53, 54, 55, 56, 57, 97, 98, 99, 100, 101, 102] } : ByteArray).size) :
    ({ data := #[48, 49, 50, 51, 52, 53, 54, 55, 56, 57, 97, 98, 99, 100, 101, 102] } : ByteArray)[n] = hexD n := by
  have h2 : n < 16 := h
  have h3 := hex_all ⟨n, h2⟩
  rw [Array.getElem?_eq_getElem (by simpa using h2)] at h3
  exact Option.some.inj h3
set_option maxHeartbeats 1000000 in
theorem impl_hexText (a : ByteArray) (w : World) (hs : a.size ≤ 4096) :
    Calls Tryd.prog 29 #[.string a] w fun e w' => e = .returned (.string ⟨(hexL a.data.toList).toArray⟩) ∧ Below w.heap.size w w' := by
  go_enter Tryd.func29, Tryd.ntmps29
  go_wp2_with (at_make; refine make_bytes0 _ rfl _ _ rfl _ (2 * a.size) rfl rfl (by omega) (by omega) ?_; intro w0 hown0 hbel0)
  go_loopw [3, 11] (fun v i wr => ∃ k : Nat, k ≤ a.size ∧ i = .int .i64 k ∧ OwnB wr w.heap.size v (hexL (a.data.toList.take k)) ∧ Below w.heap.size w wr) (fun _ i _ => a.size - (intOf i).toNat)
  case atStart => exact ⟨0, Nat.zero_le _, rfl, hown0, hbel0⟩
  case round =>
    obtain ⟨k, hk, rfl, hown, hbel⟩ := hrel
    by_cases hlt : k < a.size
    · have hl : (hexL (a.data.toList.take k)).length ≤ 2 * k := by rw [hexL_len]; simp; omega
      have hz := hbel.size
      have hc := u8_bd (a[k]'hlt)
      have q1 : 0 ≤ ((a[k]'hlt).toNat : Int) / 16 := by omega
      have q2 : ((a[k]'hlt).toNat : Int) / 16 < 16 := by omega
      have q3 : 0 ≤ ((a[k]'hlt).toNat : Int) % 16 := by omega
      have q4 : ((a[k]'hlt).toNat : Int) % 16 < 16 := by omega
      have q5 := u8_and15 ((a[k]'hlt).toNat : Int) (by omega) (by omega)
      have e1 : (((a[k]'hlt).toNat : Int) / 16).toNat = (a[k]'hlt).toNat / 16 := by omega
      have e2 : (((a[k]'hlt).toNat : Int) % 16).toNat = (a[k]'hlt).toNat % 16 := by omega
      go_wp2
      go_region_law (refine step_append_byte2 rfl _ _ rfl w.heap.size _ (hexL (a.data.toList.take k)) ((hexD ((a[k]'hlt).toNat / 16)).toNat : Int) ((hexD ((a[k]'hlt).toNat % 16)).toNat : Int) _ rfl rfl (hown.alloc _) (by simp [hex_at]) (by simp [hex_at]) (u8_bd _) (u8_bd _) (by omega) (by simp; omega) ?_; intro v1 w1 hown1 hbel1)
      all_goals
        have hnew : OwnB w1 w.heap.size v1 (hexL (a.data.toList.take (k + 1))) := by
          simp only [b8_toNat] at hown1
          rw [take_snoc a k hlt, hexL_snoc]
          exact hown1
        have hbn : Below w.heap.size w w1 := hbel.trans ((((Below.refl _ _).alloc hz _).drew).trans hbel1)
        clear hown1 hbel1
        go_wp2
        go_roundw
        case rel => exact ⟨k + 1, by omega, by go_num, hnew, hbn⟩
        case measure => simp [intOf]; omega
    · have hcv := hown.str
      go_wp2
      go_ret
      exact ⟨ret_str (by rw [take_all a (by omega)]), hbel⟩
set_option maxHeartbeats 400000 in
theorem impl_HexText (a : ByteArray) (w : World) (hs : a.size ≤ 1048576) :
    Calls Tryd.prog 14 #[.string a] w fun e w' => e = .returned (.string (hexS a)) ∧ Below w.heap.size w w' := by
  by_cases h : a.size ≤ 4096
  · have hd : decide ((4096 : Int) < (a.size : Int)) = false := by simp; omega
    have H := Lib.hid (show hexS a = ⟨(hexL a.data.toList).toArray⟩ from by unfold hexS; rw [if_pos h])
    go_enter Tryd.func14, Tryd.ntmps14
    go_wp2_with (go_at_call 29; refine (impl_hexText _ _ h).mono ?_; rintro e w1 ⟨rfl, hbel⟩)
    go_ret
    exact ⟨ret_str (by rw [H.out]), hbel⟩
  · have hd : decide ((4096 : Int) < (a.size : Int)) = true := by simp; omega
    have H := Lib.hid (show hexS a = ByteArray.empty from by unfold hexS; rw [if_neg h])
    go_enter Tryd.func14, Tryd.ntmps14
    go_wp2
    go_ret
    exact ⟨ret_str (by rw [H.out]; rfl), Below.refl _ _⟩
end Go.Proofs.YtgaemcpfhmaplaaDoor
