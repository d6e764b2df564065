/- Bytes come back from their cells; cells of two parts. -/
import Derived.Test.YtkbhdlhkfeaejaaDoorBackP
import Derived.Test.YtkbhdlhkfeaejaaDoorDecW
import Derived.Test.YtkbhdlhkfeaejaaDoorEncP
namespace Go.Proofs.YtkbhdlhkfeaejaaDoor
open Go.RowKit
theorem enc_odd (mfm : Bool) : ∀ (l : List UInt8) (last : Bool) (i : Nat), (encL mfm last l).getD (2 * i + 1) 0 = l.getD i 0
  | [], _, i => by simp [encL]
  | b :: l, last, 0 => rfl
  | b :: l, last, i + 1 => by
    show (chr _ :: b :: encL mfm (b == 49) l).getD (2 * i + 1 + 1 + 1) 0 = _
    have h := enc_odd mfm l (b == 49) i
    simpa using h
theorem odd_enc (mfm last : Bool) (l : List UInt8) : oddL (encL mfm last l) l.length = l := by
  apply List.ext_getElem (oddL_len _ _)
  intro i h1 h2
  simp only [oddL, List.getElem_map, List.getElem_range, enc_odd]
  rw [List.getD_eq_getElem?_getD, List.getElem?_eq_getElem h2]; rfl
theorem chr_bit (b : Bool) : bitB (chr b) = true := by cases b <;> decide
theorem enc_bits (mfm : Bool) : ∀ (l : List UInt8) (last : Bool), bitsAll l = true → bitsAll (encL mfm last l) = true
  | [], _, _ => rfl
  | b :: l, last, h => by
    unfold bitsAll at h ⊢
    rw [List.all_cons, Bool.and_eq_true] at h
    have := enc_bits mfm l (b == 49) h.2
    unfold bitsAll at this
    show List.all (chr _ :: b :: encL mfm (b == 49) l) bitB = true
    rw [List.all_cons, List.all_cons, chr_bit, h.1, this]; rfl
theorem dec_enc (mfm last : Bool) {s : ByteArray} (hs : s.size ≤ 500) : decB (encS mfm last s) = true ∧ decS (encS mfm last s) = s := by
  have hl : s.data.toList.length = s.size := rfl
  have e : encS mfm last s = ⟨(encL mfm last (bitsL s.data.toList)).toArray⟩ := by unfold encS; rw [if_pos hs]
  have hd : (encS mfm last s).data.toList = encL mfm last (bitsL s.data.toList) := by rw [e]
  have hz : (encS mfm last s).size = 16 * s.size := by
    have h : (encS mfm last s).data.toList.length = (encS mfm last s).size := rfl
    rw [← h, hd, encL_len, bitsL_len, hl]; omega
  have hb : decB (encS mfm last s) = true := by
    unfold decB cellStr
    rw [hd, enc_bits _ _ _ (bitsL_bits _), hz, decide_eq_true (by omega), decide_eq_true (by omega)]; rfl
  refine ⟨hb, ?_⟩
  unfold decS
  rw [if_pos hb, hd, hz, show 16 * s.size / 2 = (bitsL s.data.toList).length by rw [bitsL_len]; omega, odd_enc, show 16 * s.size / 16 = s.data.toList.length by omega, pack_bits]
theorem enc_append (mfm : Bool) : ∀ (a b : List UInt8) (last : Bool), encL mfm last (a ++ b) = encL mfm last a ++ encL mfm (endL last a) b
  | [], _, _ => rfl
  | x :: a, b, last => by
    have h : endL last (x :: a) = endL (x == 49) a := by
      unfold endL
      cases a with
      | nil => rfl
      | cons c l =>
        rw [List.getLast?_cons_cons]
        cases h : (c :: l).getLast? with
        | none => simp at h
        | some b => rfl
    show chr _ :: x :: encL mfm (x == 49) (a ++ b) = chr _ :: x :: (encL mfm (x == 49) a ++ _)
    rw [enc_append mfm a b, h]
theorem bitsL_append (a b : List UInt8) : bitsL (a ++ b) = bitsL a ++ bitsL b := by simp [bitsL]
theorem end_bits8 (last : Bool) (l : List UInt8) (c : UInt8) : endL last (l ++ bits8 c) = decide (c.toNat % 2 = 1) := by
  have h : ∀ n : Fin 256, (bits8 (UInt8.ofNat n.val)).getLast? = some (chr (decide (n.val % 2 = 1))) := by decide +kernel
  have h2 := h ⟨c.toNat, c.toNat_lt⟩
  have h3 : (bits8 c).getLast? = some (chr (decide (c.toNat % 2 = 1))) := by simpa using h2
  unfold endL
  rw [List.getLast?_append, h3]
  show (chr _ == 49) = _
  rw [chr_49]
/-- The state behind some bytes. -/
theorem end_bits (last : Bool) {a : ByteArray} (h : 0 < a.size) : endL last (bitsL a.data.toList) = lastBitB a := by
  have hl : a.data.toList.length = a.size := rfl
  have hne : a.data.toList ≠ [] := by intro e; rw [e] at hl; simp at hl; omega
  unfold lastBitB
  generalize a.data.toList = l at hne
  obtain ⟨r, c, rfl⟩ : ∃ r c, l = r ++ [c] := ⟨l.dropLast, l.getLast hne, (List.dropLast_concat_getLast hne).symm⟩
  rw [bitsL_append, show bitsL [c] = bits8 c by simp [bitsL], end_bits8, List.getLast?_append]
  rw [Bool.eq_iff_iff]
  simp
theorem enc_two (mfm last : Bool) {a b : ByteArray} (h : a.size + b.size ≤ 500) :
    encS mfm last (a ++ b) = encS mfm last a ++ encS mfm (endL last (bitsL a.data.toList)) b := by
  have hz : (a ++ b).size = a.size + b.size := ByteArray.size_append
  unfold encS
  rw [if_pos (by omega), if_pos (by omega), if_pos (by omega)]
  apply ByteArray.ext
  apply Array.ext'
  simp only [ByteArray.data_append, Array.toList_append]
  rw [bitsL_append, enc_append]
end Go.Proofs.YtkbhdlhkfeaejaaDoor
