/- XorBytes. -/
import Derived.Test.YtgaemcpfhmaplaaBase
import Derived.Test.YtgaemcpfhmaplaaMem
import Derived.Deep.RegionLaw
namespace Go.Proofs.Ytgaemcpfhmaplaa
open Go.RowKit
def xorL (a b : List UInt8) : List UInt8 := List.zipWith (fun x y => x ^^^ y) a b
theorem xorL_len (a b : List UInt8) (k : Nat) : (xorL (a.take k) (b.take k)).length ≤ k := by simp [xorL]; omega
def xorS (a b : ByteArray) : ByteArray := ⟨(xorL a.data.toList b.data.toList).toArray⟩
theorem xorL_snoc {l m : List UInt8} {x y : UInt8} (h : l.length = m.length) : xorL (l ++ [x]) (m ++ [y]) = xorL l m ++ [x ^^^ y] := by
  unfold xorL; rw [List.zipWith_append h]; rfl
theorem xor_eq (a b : UInt8) : bits .xor .u8 (a.toNat : Int) (b.toNat : Int) = ((a ^^^ b).toNat : Int) := by
  rw [u8_xor_nat _ _ a.toNat_lt b.toNat_lt, UInt8.toNat_xor]
theorem b8_xor (a b : UInt8) : b8 (bits .xor .u8 (a.toNat : Int) (b.toNat : Int)) = a ^^^ b := by rw [xor_eq, b8_toNat]
theorem xor_bd (a b : UInt8) : 0 ≤ bits .xor .u8 (a.toNat : Int) (b.toNat : Int) ∧ bits .xor .u8 (a.toNat : Int) (b.toNat : Int) < 256 := by
  rw [xor_eq]; have := (a ^^^ b).toNat_lt; omega
/-- The bytes after k rounds. -/
def xorP (a b : List UInt8) (k : Nat) : List UInt8 := xorL (a.take k) (b.take k) ++ a.drop k
theorem xorP_len {a b : List UInt8} {k : Nat} (hb : b.length = a.length) (hk : k ≤ a.length) : (xorP a b k).length = a.length := by simp [xorP, xorL]; omega
theorem xorP_at {a b : List UInt8} {k : Nat} (hb : b.length = a.length) (hk : k < a.length) (h : k < (xorP a b k).length) : (xorP a b k)[k] = a[k] := by
  have hl : (xorL (a.take k) (b.take k)).length = k := by simp [xorL]; omega
  simp only [xorP]
  rw [List.getElem_append_right (by omega)]
  simp [hl]
theorem xorP_step {a b : List UInt8} {k : Nat} (hb : b.length = a.length) (hk : k < a.length) : (xorP a b k).set k (a[k] ^^^ b[k]) = xorP a b (k + 1) := by
  have hl : (xorL (a.take k) (b.take k)).length = k := by simp [xorL]; omega
  unfold xorP
  rw [List.set_append_right _ _ (by omega), hl, Nat.sub_self, List.drop_eq_getElem_cons hk, List.set_cons_zero,
    List.take_succ_eq_append_getElem hk, List.take_succ_eq_append_getElem (by omega : k < b.length), xorL_snoc (by simp; omega)]
  simp
set_option maxHeartbeats 400000 in
theorem impl_xorBytes (a b : ByteArray) (w : World) (hs : a.size ≤ 1048576) (hb : b.size = a.size) :
    Calls Try.prog 36 #[.string a, .string b] w fun e w' => e = .returned (.string (xorS a b)) ∧ Below w.heap.size w w' := by
  have hb1 := Lib.hid hb
  have hbl : b.data.toList.length = a.data.toList.length := by simpa using hb
  have HB := Lib.hid hbl
  clear hb hbl
  have hcv := conv_str a
  go_enter Try.func36, Try.ntmps36
  go_wp2
  clear hcv
  go_loopw [11] (fun i wr => ∃ k : Nat, k ≤ a.size ∧ i = .int .i64 k ∧ RowB wr w.heap.size (xorP a.data.toList b.data.toList k) ∧ Below w.heap.size w wr) (fun i _ => a.size - (intOf i).toNat)
  case atStart => exact ⟨0, Nat.zero_le _, rfl, by simpa [xorP, xorL] using RowB.bytes w a, bytesWorld_below _ _ _⟩
  case round =>
    obtain ⟨k, hk, rfl, hrow, hbel⟩ := hrel
    by_cases hlt : k < a.size
    · have hlt2 : k < b.size := by have := hb1.out; omega
      have hla : k < a.data.toList.length := by simpa using hlt
      have hlx : k < (xorP a.data.toList b.data.toList k).length := by rw [xorP_len HB.out (by omega)]; exact hla
      obtain ⟨hc, hf⟩ := hrow.2 k hlx
      rw [xorP_at HB.out hla] at hc
      have hc' : wr.cell? ⟨w.heap.size, k, none⟩ = some (.int .u8 ((a[k]'hlt).toNat : Int)) := hc
      clear hc
      have hnew := hrow.set_ k (xor_bd (a[k]'hlt) (b[k]'hlt2))
      rw [b8_xor] at hnew
      have hst := xorP_step HB.out hla
      rw [show a.data.toList[k] ^^^ b.data.toList[k]'(by have := HB.out; omega) = a[k] ^^^ b[k] from rfl] at hst
      rw [hst] at hnew
      clear hst
      have hbn : Below w.heap.size w (wr.setCell ⟨w.heap.size, k, none⟩ (.int .u8 (bits .xor .u8 ((a[k]'hlt).toNat : Int) ((b[k]'hlt2).toNat : Int)))) := hbel.setCell (Nat.le_refl _) _
      go_wp2
      go_region
      all_goals
        go_wp2
        go_roundw
        case rel => exact ⟨k + 1, by omega, by go_num, hnew.drew, hbn.drew⟩
        case measure => simp [intOf]; omega
    · have e : (xorP a.data.toList b.data.toList k).length = a.size := by rw [xorP_len HB.out (by simpa using hk)]; simp
      have hcv := hrow.str (grownCap w a.size 0 5) a.size e.symm
      have H2 := Lib.hid e
      clear e
      go_wp2
      go_ret
      exact ⟨ret_str (by
        have h1 : a.data.toList.length ≤ k := by simp; omega
        have h2 := HB.out
        unfold xorP xorS
        rw [List.take_of_length_le h1, List.take_of_length_le (by omega), List.drop_of_length_le h1, List.append_nil]), hbel⟩
set_option maxHeartbeats 400000 in
theorem impl_XorBytes_yes (a b : ByteArray) (w : World) (hs : a.size ≤ 1048576) (hb : b.size = a.size) :
    Calls Try.prog 18 #[.string a, .string b] w fun e w' => e = .returned (.tuple #[.string (xorS a b), .bool true]) ∧ Below w.heap.size w w' := by
  have hb1 := Lib.hid hb
  have hne : (((a.size : Int)) != (b.size : Int)) = false := by rw [bne_eq_false_iff_eq]; omega
  clear hb
  go_enter Try.func18, Try.ntmps18
  go_wp2_with (go_at_call 36; refine (impl_xorBytes _ _ _ hs hb1.out).mono ?_; rintro e w1 ⟨rfl, hbel⟩)
  go_ret2
  exact ⟨rfl, hbel⟩
set_option maxHeartbeats 400000 in
theorem impl_XorBytes_no (a b : ByteArray) (w : World) (hb : ¬ b.size = a.size) :
    Calls Try.prog 18 #[.string a, .string b] w fun e w' => e = .returned (.tuple #[.string ByteArray.empty, .bool false]) ∧ Below w.heap.size w w' := by
  have hne : (((a.size : Int)) != (b.size : Int)) = true := by rw [bne_iff_ne]; omega
  clear hb
  go_enter Try.func18, Try.ntmps18
  go_wp2
  go_ret2
  exact ⟨rfl, Below.refl _ _⟩
end Go.Proofs.Ytgaemcpfhmaplaa
