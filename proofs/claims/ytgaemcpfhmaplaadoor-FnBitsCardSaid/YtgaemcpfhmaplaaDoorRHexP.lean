/- Reading hexadecimal digits, in plain Lean. -/
import Derived.Test.YtgaemcpfhmaplaaDoorMem
import Derived.Lib.Bytealg
namespace Go.Proofs.YtgaemcpfhmaplaaDoor
open Go.RowKit
/-- The value of a hexadecimal digit, or -1. -/
def hexV (c : UInt8) : Int := if 48 ≤ c.toNat ∧ c.toNat ≤ 57 then (c.toNat : Int) - 48 else if 97 ≤ c.toNat ∧ c.toNat ≤ 102 then (c.toNat : Int) - 87 else -1
def unhexL : List UInt8 → Option (List UInt8)
  | a :: b :: l => if hexV a < 0 ∨ hexV b < 0 then none else (unhexL l).map (b8 (16 * hexV a + hexV b) :: ·)
  | [_] => none
  | [] => some []
theorem hexV_bd (c : UInt8) : -1 ≤ hexV c ∧ hexV c ≤ 15 := by unfold hexV; split <;> (try split) <;> omega
theorem index_hex (c : UInt8) : Lib.indexByte [48, 49, 50, 51, 52, 53, 54, 55, 56, 57, 97, 98, 99, 100, 101, 102] c = hexV c := by
  have h : ∀ n : Fin 256, Lib.indexByte [48, 49, 50, 51, 52, 53, 54, 55, 56, 57, 97, 98, 99, 100, 101, 102] (UInt8.ofNat n.val) = hexV (UInt8.ofNat n.val) := by decide +kernel
  have h2 := h ⟨c.toNat, c.toNat_lt⟩
  simpa using h2
theorem drop_two (s : ByteArray) {p : Nat} (h : p + 1 < s.size) : s.data.toList.drop p = s[p] :: s[p + 1] :: s.data.toList.drop (p + 2) := by
  rw [List.drop_eq_getElem_cons (by simp; omega), List.drop_eq_getElem_cons (by simp; omega)]
  rfl
theorem unhex_no (s : ByteArray) {p : Nat} (h : p + 1 < s.size) (hb : hexV s[p] < 0 ∨ hexV s[p + 1] < 0) : unhexL (s.data.toList.drop p) = none := by
  rw [drop_two s h, unhexL, if_pos hb]
theorem unhex_go (s : ByteArray) {p : Nat} (h : p + 1 < s.size) (ha : 0 ≤ hexV s[p]) (hb : 0 ≤ hexV s[p + 1]) :
    unhexL (s.data.toList.drop p) = (unhexL (s.data.toList.drop (p + 2))).map (b8 (16 * hexV s[p] + hexV s[p + 1]) :: ·) := by
  rw [drop_two s h, unhexL, if_neg (by omega)]
theorem unhex_end (s : ByteArray) {p : Nat} (h : s.size ≤ p) : unhexL (s.data.toList.drop p) = some [] := by
  rw [List.drop_of_length_le (by simpa using h)]; rfl
theorem unhex_odd : ∀ (n : Nat) (l : List UInt8), l.length = 2 * n + 1 → unhexL l = none
  | 0, [_], _ => rfl
  | n + 1, a :: b :: l, h => by
    rw [unhexL, unhex_odd n l (by simp at h; omega)]
    split <;> rfl
  | 0, _ :: _ :: _, h => by simp at h
  | 0, [], h => by simp at h
  | n + 1, [_], h => by simp at h
  | n + 1, [], h => by simp at h
def rhS (s : ByteArray) : ByteArray := match unhexL s.data.toList with | some l => ⟨l.toArray⟩ | none => ByteArray.empty
def rhB (s : ByteArray) : Bool := (unhexL s.data.toList).isSome
theorem rh_none {s : ByteArray} (h : unhexL s.data.toList = none) : rhS s = ByteArray.empty ∧ rhB s = false := by simp [rhS, rhB, h]
theorem rh_some {s : ByteArray} {l : List UInt8} (h : unhexL s.data.toList = some l) : rhS s = ⟨l.toArray⟩ ∧ rhB s = true := by simp [rhS, rhB, h]
end Go.Proofs.YtgaemcpfhmaplaaDoor
