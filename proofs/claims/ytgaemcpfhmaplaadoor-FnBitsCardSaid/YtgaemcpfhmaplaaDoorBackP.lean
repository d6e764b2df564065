/- Bytes come back from their bits. -/
import Derived.Test.YtgaemcpfhmaplaaDoorPackW
import Derived.Test.YtgaemcpfhmaplaaDoorBitsP
namespace Go.Proofs.YtgaemcpfhmaplaaDoor
open Go.RowKit
theorem val_bits8 (c : UInt8) : valL (bits8 c) = c.toNat := by
  have h : ∀ n : Fin 256, valL (bits8 (UInt8.ofNat n.val)) = n.val := by decide +kernel
  have h2 := h ⟨c.toNat, c.toNat_lt⟩
  simpa using h2
theorem chunk_zero (c : UInt8) (r : List UInt8) : chunk (bits8 c ++ r) 0 = bits8 c := by
  unfold chunk
  rw [Nat.mul_zero, List.drop_zero, List.take_append_of_le_length (by rw [bits8_len]; omega), List.take_of_length_le (by rw [bits8_len]; omega)]
theorem chunk_succ (c : UInt8) (r : List UInt8) (j : Nat) : chunk (bits8 c ++ r) (j + 1) = chunk r j := by
  unfold chunk
  rw [show 8 * (j + 1) = (bits8 c).length + 8 * j by rw [bits8_len]; omega, ← List.drop_drop, List.drop_left]
theorem chunk_bits : ∀ (l : List UInt8) (j : Nat) (h : j < l.length), chunk (bitsL l) j = bits8 l[j]
  | c :: l, 0, _ => by
    rw [show bitsL (c :: l) = bits8 c ++ bitsL l from rfl, chunk_zero]; rfl
  | c :: l, j + 1, h => by
    rw [show bitsL (c :: l) = bits8 c ++ bitsL l from rfl, chunk_succ, chunk_bits l j (by simpa using h)]; rfl
theorem pack_bits (l : List UInt8) : packL (bitsL l) l.length = l := by
  apply List.ext_getElem (packL_len _ _)
  intro i h1 h2
  rw [packL_at, chunk_bits l i h2, val_bits8]
  simp
theorem bits8_bits (c : UInt8) : (bits8 c).all bitB = true := by
  have h : ∀ n : Fin 256, (bits8 (UInt8.ofNat n.val)).all bitB = true := by decide +kernel
  have h2 := h ⟨c.toNat, c.toNat_lt⟩
  simpa using h2
theorem bitsL_bits : ∀ l : List UInt8, bitsAll (bitsL l) = true
  | [] => rfl
  | c :: l => by
    have h := bitsL_bits l
    unfold bitsAll at h ⊢
    rw [show bitsL (c :: l) = bits8 c ++ bitsL l from rfl, List.all_append, bits8_bits, h]; rfl
theorem byt_bits {s : ByteArray} (hs : s.size ≤ 4096) : bytB (bitsS s) = true ∧ bytS (bitsS s) = s := by
  have hl : s.data.toList.length = s.size := rfl
  have e : bitsS s = ⟨(bitsL s.data.toList).toArray⟩ := by unfold bitsS; rw [if_pos hs]
  have hd : (bitsS s).data.toList = bitsL s.data.toList := by rw [e]
  have hz : (bitsS s).size = 8 * s.size := by
    have h : (bitsS s).data.toList.length = (bitsS s).size := rfl
    rw [← h, hd, bitsL_len]; rfl
  have hb : bytB (bitsS s) = true := by
    unfold bytB
    rw [hd, bitsL_bits, hz, decide_eq_true (by omega), decide_eq_true (by omega)]; rfl
  refine ⟨hb, ?_⟩
  unfold bytS
  rw [if_pos hb, hd, hz, show 8 * s.size / 8 = s.data.toList.length by omega, pack_bits]
end Go.Proofs.YtgaemcpfhmaplaaDoor
