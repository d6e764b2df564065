/- The bits of bytes as characters, in plain Lean. -/
import Derived.Test.YtgaemcpfhmaplaaDoorMem
namespace Go.Proofs.YtgaemcpfhmaplaaDoor
open Go.RowKit
/-- The eight bits of a byte, as characters, the highest first. -/
def bits8 (c : UInt8) : List UInt8 := (List.range 8).map fun j => UInt8.ofNat (48 + c.toNat / 2 ^ (7 - j) % 2)
def bitsL (l : List UInt8) : List UInt8 := l.flatMap bits8
theorem bits8_len (c : UInt8) : (bits8 c).length = 8 := by simp [bits8]
theorem bits8_all (c : UInt8) : (bits8 c).take 8 = bits8 c := List.take_of_length_le (by rw [bits8_len]; omega)
def bitsS (a : ByteArray) : ByteArray := if a.size ≤ 4096 then ⟨(bitsL a.data.toList).toArray⟩ else ByteArray.empty
theorem bitsL_len (l : List UInt8) : (bitsL l).length = 8 * l.length := by
  induction l with
  | nil => rfl
  | cons a l ih => simp only [bitsL, List.flatMap_cons, List.length_append, List.length_cons, bits8_len] at *; omega
theorem bitsL_snoc (l : List UInt8) (c : UInt8) : bitsL (l ++ [c]) = bitsL l ++ bits8 c := by simp [bitsL]
theorem bit_val (c : UInt8) (i : Nat) : (48 + bits .and .u8 ((c.toNat : Int) / 2 ^ i) 1) % 256 = ((48 + c.toNat / 2 ^ i % 2 : Nat) : Int) := by
  have hc := c.toNat_lt
  have e : (c.toNat : Int) / 2 ^ i = ((c.toNat / 2 ^ i : Nat) : Int) := by simp
  have hd : c.toNat / 2 ^ i ≤ c.toNat := Nat.div_le_self _ _
  have h := u8_and_nat (c.toNat / 2 ^ i) 1 (by omega) (by decide)
  rw [Nat.and_one_is_mod] at h
  rw [e, show (1 : Int) = ((1 : Nat) : Int) from rfl, h]
  omega
theorem bits8_step (c : UInt8) {j : Nat} (hj : j < 8) : (bits8 c).take (j + 1) = (bits8 c).take j ++ [b8 ((48 + bits .and .u8 ((c.toNat : Int) / 2 ^ (7 - j)) 1) % 256)] := by
  rw [List.take_succ_eq_append_getElem (by rw [bits8_len]; exact hj), bit_val]
  unfold b8
  rw [Int.toNat_natCast]
  simp only [bits8, List.getElem_map, List.getElem_range]
end Go.Proofs.YtgaemcpfhmaplaaDoor
