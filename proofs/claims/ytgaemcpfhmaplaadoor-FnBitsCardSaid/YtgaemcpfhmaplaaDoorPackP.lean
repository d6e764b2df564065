/- Bytes out of bits: plain lemmas. -/
import Derived.Test.YtgaemcpfhmaplaaDoorCellW
namespace Go.Proofs.YtgaemcpfhmaplaaDoor
open Go.RowKit
set_option linter.unusedVariables false
def bitV (c : UInt8) : Nat := c.toNat % 2
theorem bitV_le (c : UInt8) : bitV c ≤ 1 := by unfold bitV; omega
def valL (l : List UInt8) : Nat := l.foldl (fun a c => 2 * a + bitV c) 0
theorem valL_snoc (l : List UInt8) (c : UInt8) : valL (l ++ [c]) = 2 * valL l + bitV c := by simp [valL]
theorem valL_nil : valL [] = 0 := rfl
theorem valL_lt (l : List UInt8) : valL l < 2 ^ l.length := by
  rw [← List.reverse_reverse l]
  induction l.reverse with
  | nil => simp [valL]
  | cons c r ih =>
    rw [List.reverse_cons, valL_snoc, List.length_append, Nat.pow_add]
    have := bitV_le c
    simp only [List.length_cons, List.length_nil]
    omega
def chunk (l : List UInt8) (j : Nat) : List UInt8 := (l.drop (8 * j)).take 8
theorem chunk_len (l : List UInt8) (j : Nat) : (chunk l j).length ≤ 8 := by unfold chunk; rw [List.length_take]; omega
theorem chunk_snoc {a : List UInt8} (c : UInt8) (j : Nat) : chunk (a ++ [c]) j = if j = a.length / 8 then chunk a j ++ [c] else chunk a j := by
  unfold chunk
  by_cases h : 8 * j ≤ a.length
  · rw [List.drop_append_of_le_length h]
    by_cases h2 : j = a.length / 8
    · rw [if_pos h2, List.take_of_length_le (by simp; omega), List.take_of_length_le (by simp; omega)]
    · rw [if_neg h2, List.take_append_of_le_length (by simp; omega)]
  · rw [if_neg (by omega), List.drop_of_length_le (by simp; omega), List.drop_of_length_le (by omega)]
def packL (l : List UInt8) (m : Nat) : List UInt8 := (List.range m).map fun j => UInt8.ofNat (valL (chunk l j))
theorem packL_len (l : List UInt8) (m : Nat) : (packL l m).length = m := by simp [packL]
theorem packL_at (l : List UInt8) (m j : Nat) (h : j < (packL l m).length) : (packL l m)[j] = UInt8.ofNat (valL (chunk l j)) := by simp [packL]
theorem packL_nil (m : Nat) : packL [] m = List.replicate m 0 := by
  apply List.ext_getElem
  · simp [packL]
  · intro i h1 h2
    rw [packL_at]
    simp [chunk, valL]
theorem packL_set {l : List UInt8} {m k : Nat} (hk : k < l.length) (hm : k / 8 < m) :
    packL (l.take (k + 1)) m = (packL (l.take k) m).set (k / 8) (UInt8.ofNat (2 * valL (chunk (l.take k) (k / 8)) + bitV (l[k]))) := by
  have hl : (l.take k).length = k := by rw [List.length_take]; omega
  apply List.ext_getElem
  · simp [packL]
  · intro i h1 h2
    rw [packL_at, List.take_succ_eq_append_getElem hk, chunk_snoc, hl]
    by_cases e : i = k / 8
    · subst e
      rw [if_pos rfl, List.getElem_set_self, valL_snoc]
    · rw [if_neg e, List.getElem_set_ne (by omega), packL_at]
theorem packL_more (l : List UInt8) (m : Nat) : packL l (m + 1) = packL l m ++ [UInt8.ofNat (valL (chunk l m))] := by
  simp [packL, List.range_succ]
theorem chunk_at {l : List UInt8} {j k : Nat} (hk : k < 8) (h : 8 * j + k < l.length) : (chunk l j).take (k + 1) = (chunk l j).take k ++ [l[8 * j + k]] := by
  have h2 : k < (chunk l j).length := by unfold chunk; rw [List.length_take, List.length_drop]; omega
  have h3 : (chunk l j)[k] = l[8 * j + k] := by simp [chunk]
  rw [List.take_succ_eq_append_getElem h2, h3]
theorem chunk_all (l : List UInt8) (j : Nat) : (chunk l j).take 8 = chunk l j := List.take_of_length_le (chunk_len l j)
/-- The low part of the current chunk. -/
theorem chunk_cur {l : List UInt8} {k : Nat} (hk : k ≤ l.length) : (chunk (l.take k) (k / 8)).length = k % 8 := by
  unfold chunk
  rw [List.length_take, List.length_drop, List.length_take]
  omega
theorem u8_or1 {v b : Nat} (hv : v < 128) (hb : b ≤ 1) : bits .or .u8 (IntKind.u8.wrap ((v : Int) * 2)) (IntKind.u8.wrap (b : Int)) = ((2 * v + b : Nat) : Int) := by
  have h : ∀ v : Fin 128, ∀ b : Fin 2, bits .or .u8 (IntKind.u8.wrap ((v.val : Int) * 2)) (IntKind.u8.wrap (b.val : Int)) = ((2 * v.val + b.val : Nat) : Int) := by decide +kernel
  exact h ⟨v, hv⟩ ⟨b, by omega⟩
theorem u8_or2 {v b : Nat} (hv : v < 128) (hb : b ≤ 1) : bits .or .u8 (IntKind.u8.wrap ((v : Int) * 2)) (b : Int) = ((2 * v + b : Nat) : Int) := by
  have h : ∀ v : Fin 128, ∀ b : Fin 2, bits .or .u8 (IntKind.u8.wrap ((v.val : Int) * 2)) (b.val : Int) = ((2 * v.val + b.val : Nat) : Int) := by decide +kernel
  exact h ⟨v, hv⟩ ⟨b, by omega⟩
theorem u8_or3 {v b : Nat} (hv : v < 128) (hb : b ≤ 1) : bits .or .u8 ((v : Int) * 2) (b : Int) = ((2 * v + b : Nat) : Int) := by
  have h : ∀ v : Fin 128, ∀ b : Fin 2, bits .or .u8 ((v.val : Int) * 2) (b.val : Int) = ((2 * v.val + b.val : Nat) : Int) := by decide +kernel
  exact h ⟨v, hv⟩ ⟨b, by omega⟩
theorem bit_sub {c : UInt8} (h : (c.toNat : Int) = 48 ∨ (c.toNat : Int) = 49) : (c.toNat : Int) - 48 = (bitV c : Int) := by unfold bitV; omega
theorem bit_and {c : UInt8} (h : (c.toNat : Int) = 48 ∨ (c.toNat : Int) = 49) : bits .and .u8 (c.toNat : Int) 1 = (bitV c : Int) := by
  unfold bitV
  have e : c.toNat = 48 ∨ c.toNat = 49 := by omega
  rcases e with e | e <;> rw [e] <;> decide +kernel
end Go.Proofs.YtgaemcpfhmaplaaDoor
