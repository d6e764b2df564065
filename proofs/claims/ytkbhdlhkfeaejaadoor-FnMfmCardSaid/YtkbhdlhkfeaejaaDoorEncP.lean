/- FM and MFM cells of bits, in plain Lean. Bits and cells are the characters 48 and 49. -/
import Derived.Test.YtkbhdlhkfeaejaaDoorBitsP
namespace Go.Proofs.YtkbhdlhkfeaejaaDoor
open Go.RowKit
def chr (b : Bool) : UInt8 := cond b 49 48
/-- The cells of bits: a clock cell ahead of each. -/
def encL (mfm : Bool) : Bool → List UInt8 → List UInt8
  | _, [] => []
  | last, b :: l => chr (!mfm || (!last && !(b == 49))) :: b :: encL mfm (b == 49) l
/-- Is the last bit a 1? -/
def endL (last : Bool) (l : List UInt8) : Bool := match l.getLast? with | some b => b == 49 | none => last
theorem encL_snoc (mfm : Bool) : ∀ (l : List UInt8) (last : Bool) (b : UInt8), encL mfm last (l ++ [b]) = encL mfm last l ++ [chr (!mfm || (!(endL last l) && !(b == 49))), b]
  | [], _, _ => rfl
  | a :: l, last, b => by
    have h : endL last (a :: l) = endL (a == 49) l := by
      unfold endL
      cases l with
      | nil => rfl
      | cons c l =>
        rw [List.getLast?_cons_cons]
        cases h : (c :: l).getLast? with
        | none => simp at h
        | some b => rfl
    show chr _ :: a :: encL mfm (a == 49) (l ++ [b]) = chr _ :: a :: (encL mfm (a == 49) l ++ _)
    rw [encL_snoc mfm l, h]
theorem endL_snoc (last : Bool) (l : List UInt8) (b : UInt8) : endL last (l ++ [b]) = (b == 49) := by simp [endL]
theorem encL_len (mfm : Bool) : ∀ (l : List UInt8) (last : Bool), (encL mfm last l).length = 2 * l.length
  | [], _ => rfl
  | b :: l, last => by
    show (encL mfm (b == 49) l).length + 1 + 1 = _
    rw [encL_len mfm l, List.length_cons]; omega
/-- A bit of a byte as a character. -/
theorem bits8_next (c : UInt8) {j : Nat} (hj : j < 8) : (bits8 c).take (j + 1) = (bits8 c).take j ++ [chr (decide (c.toNat / 2 ^ (7 - j) % 2 = 1))] := by
  rw [List.take_succ_eq_append_getElem (by rw [bits8_len]; exact hj)]
  simp only [bits8, List.getElem_map, List.getElem_range]
  have h := Nat.mod_two_eq_zero_or_one (c.toNat / 2 ^ (7 - j))
  rcases h with h | h <;> rw [h] <;> rfl
theorem chr_49 (b : Bool) : (chr b == 49) = b := by cases b <;> decide
theorem bits8_01 (c : UInt8) : ∀ x ∈ bits8 c, x = 48 ∨ x = 49 := by
  intro x hx
  simp only [bits8, List.mem_map] at hx
  obtain ⟨j, _, rfl⟩ := hx
  have h := Nat.mod_two_eq_zero_or_one (c.toNat / 2 ^ (7 - j))
  rcases h with h | h <;> rw [h] <;> decide
theorem bitsL_01 (l : List UInt8) : ∀ x ∈ bitsL l, x = 48 ∨ x = 49 := by
  intro x hx
  simp only [bitsL, List.mem_flatMap] at hx
  obtain ⟨c, _, hc⟩ := hx
  exact bits8_01 c x hc
theorem mem_at (bs : ByteArray) {k : Nat} (h : k < bs.size) : bs[k] ∈ bs.data.toList := by
  have e : bs[k] = bs.data.toList[k]'(by simpa using h) := rfl
  rw [e]; exact List.getElem_mem _
/-- FM cells with clock cells of one's own, of the first k bits. -/
def fmN (clk l : List UInt8) (k : Nat) : List UInt8 := (List.range k).flatMap fun i => [clk.getD (i % 8) 0, l.getD i 0]
theorem fmN_succ (clk l : List UInt8) (k : Nat) : fmN clk l (k + 1) = fmN clk l k ++ [clk.getD (k % 8) 0, l.getD k 0] := by
  simp [fmN, List.range_succ]
theorem fmN_at (clk bs : ByteArray) {k : Nat} (h8 : k % 8 < clk.size) (hk : k < bs.size) : fmN clk.data.toList bs.data.toList (k + 1) = fmN clk.data.toList bs.data.toList k ++ [clk[k % 8], bs[k]] := by
  rw [fmN_succ]
  have e1 : clk.data.toList.getD (k % 8) 0 = clk[k % 8] := by simp [List.getD, h8]; rfl
  have e2 : bs.data.toList.getD k 0 = bs[k] := by simp [List.getD, hk]; rfl
  rw [e1, e2]
theorem fmN_len (clk l : List UInt8) (k : Nat) : (fmN clk l k).length = 2 * k := by
  induction k with
  | zero => rfl
  | succ k ih => rw [fmN_succ, List.length_append, ih]; simp; omega
theorem fm_ones (l : List UInt8) (last : Bool) : ∀ k, k ≤ l.length → fmN [49, 49, 49, 49, 49, 49, 49, 49] l k = encL false last (l.take k)
  | 0, _ => rfl
  | k + 1, h => by
    have hk : k < l.length := by omega
    rw [fmN_succ, fm_ones l last k (by omega), List.take_succ_eq_append_getElem hk, encL_snoc]
    have h8 : k % 8 < 8 := Nat.mod_lt _ (by decide)
    have e : ([49, 49, 49, 49, 49, 49, 49, 49] : List UInt8).getD (k % 8) 0 = 49 := by
      have : ∀ i, i < 8 → ([49, 49, 49, 49, 49, 49, 49, 49] : List UInt8).getD i 0 = 49 := by decide
      exact this _ h8
    rw [e]
    simp [chr, List.getD, hk]
theorem fm_ones_all (l : List UInt8) (last : Bool) : fmN [49, 49, 49, 49, 49, 49, 49, 49] l l.length = encL false last l := by
  rw [fm_ones l last _ (Nat.le_refl _), List.take_length]
/-- The cells of a mark. -/
theorem fm_mark (l : List UInt8) (h : l.length = 8) : (((encL false false l).set 4 48).set 6 48).set 8 48 = fmN [49, 49, 48, 48, 48, 49, 49, 49] l 8 := by
  match l, h with
  | [a, b, c, d, e, f, g, i], _ => rfl
/-- The cells of a mark of a byte. -/
def markS (n : Nat) : ByteArray := ⟨(fmN [49, 49, 48, 48, 48, 49, 49, 49] (bits8 (b8 (n : Int))) 8).toArray⟩
/-- The first j of three clock cells struck. -/
def strike (l : List UInt8) : Nat → List UInt8
  | 0 => l
  | j + 1 => (strike l j).set (4 + 2 * j) 48
theorem strike_len (l : List UInt8) (j : Nat) : (strike l j).length = l.length := by
  induction j with
  | zero => rfl
  | succ j ih => rw [strike, List.length_set, ih]
theorem bitsL_one (c : UInt8) : bitsL [c] = bits8 c := by simp [bitsL]
theorem strike_mark (n : Nat) : strike (encL false false (bits8 (b8 (n : Int)))) 3 = (markS n).data.toList := by
  rw [markS]
  exact fm_mark _ (bits8_len _)
def encS (mfm last : Bool) (s : ByteArray) : ByteArray := if s.size ≤ 500 then ⟨(encL mfm last (bitsL s.data.toList)).toArray⟩ else ByteArray.empty
end Go.Proofs.YtkbhdlhkfeaejaaDoor
