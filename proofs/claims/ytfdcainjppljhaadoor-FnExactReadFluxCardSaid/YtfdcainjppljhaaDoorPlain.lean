/- Plain lemmas on lists, bytes and numbers; no program in sight. -/
import Derived.WalkKit
import Derived.ProofKit
import Derived.PlainAid
import Derived.Deep.Draws
namespace Go.Proofs.YtfdcainjppljhaaDoor
open Go.RowKit

theorem ret_int {k : IntKind} {a b : Int} (h : a = b) : Ending.returned (.int k a) = .returned (.int k b) := by rw [h]
theorem ret_bool {a b : Bool} (h : a = b) : Ending.returned (.bool a) = .returned (.bool b) := by rw [h]
theorem ret_str {a b : ByteArray} (h : a = b) : Ending.returned (.string a) = .returned (.string b) := by rw [h]
theorem ret_int_bool {k : IntKind} {a b : Int} {x y : Bool} (h : a = b) (h2 : x = y) : Ending.returned (.tuple #[.int k a, .bool x]) = .returned (.tuple #[.int k b, .bool y]) := by rw [h, h2]
theorem ret_str_bool {a b : ByteArray} {x y : Bool} (h : a = b) (h2 : x = y) : Ending.returned (.tuple #[.string a, .bool x]) = .returned (.tuple #[.string b, .bool y]) := by rw [h, h2]
theorem below_drewN {B : Nat} {a w : World} (h : Below B a w) (n : Nat) : Below B a (w.drewN n) := ⟨h.os, h.tape, h.output, h.size, h.block⟩

theorem ofInt_i64 (a : Nat) (ha : a < 9223372036854775808) : (BitVec.ofInt 64 (a : Int)).toNat = a := by
  rw [BitVec.ofInt_natCast, BitVec.toNat_ofNat]; exact Nat.mod_eq_of_lt (by omega)
theorem i64_and_nat (a b : Nat) (ha : a < 9223372036854775808) (hb : b < 9223372036854775808) : bits .and .i64 (a : Int) (b : Int) = ((a &&& b : Nat) : Int) := by
  have hx : a &&& b < 2 ^ 63 := Nat.and_lt_two_pow _ (by omega)
  show IntKind.i64.wrap ((BitVec.ofInt 64 (a : Int) &&& BitVec.ofInt 64 (b : Int)).toNat : Int) = _
  rw [BitVec.toNat_and, ofInt_i64 a ha, ofInt_i64 b hb, IntKind.wrap_i64]
  omega
theorem i64_or_nat (a b : Nat) (ha : a < 9223372036854775808) (hb : b < 9223372036854775808) : bits .or .i64 (a : Int) (b : Int) = ((a ||| b : Nat) : Int) := by
  have hx : a ||| b < 2 ^ 63 := Nat.or_lt_two_pow (by omega) (by omega)
  show IntKind.i64.wrap ((BitVec.ofInt 64 (a : Int) ||| BitVec.ofInt 64 (b : Int)).toNat : Int) = _
  rw [BitVec.toNat_or, ofInt_i64 a ha, ofInt_i64 b hb, IntKind.wrap_i64]
  omega
theorem i64_xor_nat (a b : Nat) (ha : a < 9223372036854775808) (hb : b < 9223372036854775808) : bits .xor .i64 (a : Int) (b : Int) = ((a ^^^ b : Nat) : Int) := by
  have hx : a ^^^ b < 2 ^ 63 := Nat.xor_lt_two_pow (by omega) (by omega)
  show IntKind.i64.wrap ((BitVec.ofInt 64 (a : Int) ^^^ BitVec.ofInt 64 (b : Int)).toNat : Int) = _
  rw [BitVec.toNat_xor, ofInt_i64 a ha, ofInt_i64 b hb, IntKind.wrap_i64]
  omega
theorem wrap64_of {n : Int} (h0 : -9223372036854775808 ≤ n) (h1 : n ≤ 9223372036854775807) : wrap64 n = n := IntWalk.wrap64_in n ⟨h0, h1⟩
theorem word_or (a b : UInt8) : bits .or .i64 (wrap64 (wrap64 (a.toNat : Int) * 256)) (wrap64 (b.toNat : Int)) = (a.toNat : Int) * 256 + (b.toNat : Int) := by
  have ha := a.toNat_lt; have hb := b.toNat_lt
  rw [wrap64_of (n := (a.toNat : Int)) (by omega) (by omega), wrap64_of (n := (b.toNat : Int)) (by omega) (by omega), wrap64_of (by omega) (by omega)]
  have h := i64_or_nat (a.toNat * 256) b.toNat (by omega) (by omega)
  have h2 := Nat.two_pow_add_eq_or_of_lt (i := 8) (b := b.toNat) (by omega) a.toNat
  rw [Int.natCast_mul] at h
  rw [show ((256 : Nat) : Int) = 256 from rfl] at h
  rw [h, Nat.mul_comm, ← h2]
  omega
theorem word_add (a b : UInt8) : wrap64 (wrap64 (wrap64 (a.toNat : Int) * 256) + wrap64 (b.toNat : Int)) = (a.toNat : Int) * 256 + (b.toNat : Int) := by
  have ha := a.toNat_lt; have hb := b.toNat_lt
  rw [wrap64_of (n := (a.toNat : Int)) (by omega) (by omega), wrap64_of (n := (b.toNat : Int)) (by omega) (by omega), wrap64_of (n := (a.toNat : Int) * 256) (by omega) (by omega), wrap64_of (by omega) (by omega)]

/-- lo ≤ x ≤ hi, as a truth value. -/
def inB (x lo hi : Int) : Bool := decide (lo ≤ x) && decide (x ≤ hi)
theorem inB_yes {x lo hi : Int} (h : lo ≤ x ∧ x ≤ hi) : inB x lo hi = true := by simp [inB, h]
theorem inB_no {x lo hi : Int} (h : x < lo ∨ hi < x) : inB x lo hi = false := by simp [inB]; omega
theorem inB_iff {x lo hi : Int} : inB x lo hi = true ↔ lo ≤ x ∧ x ≤ hi := by simp [inB]

theorem take_snoc (s : ByteArray) (k : Nat) (h : k < s.size) : s.data.toList.take (k + 1) = s.data.toList.take k ++ [s[k]] := by
  rw [List.take_succ_eq_append_getElem (by simpa using h)]; rfl

theorem take_all (s : ByteArray) {k : Nat} (h : s.size ≤ k) : s.data.toList.take k = s.data.toList := List.take_of_length_le (by simpa using h)
/-- The sum of bytes. -/
def sumB (l : List UInt8) : Int := (l.map (fun c => (c.toNat : Int))).sum
theorem sumB_snoc (l : List UInt8) (c : UInt8) : sumB (l ++ [c]) = sumB l + (c.toNat : Int) := by simp [sumB]
theorem sumB_bd (l : List UInt8) : 0 ≤ sumB l ∧ sumB l ≤ 255 * l.length := by
  induction l with
  | nil => simp [sumB]
  | cons a l ih =>
    have := a.toNat_lt
    simp only [sumB, List.map_cons, List.sum_cons, List.length_cons] at *
    omega

theorem empty_of_size {s : ByteArray} (h : s.size = 0) : s = ByteArray.empty := by
  cases s with | mk d => simp [ByteArray.size] at h; subst h; rfl
theorem isEmpty_of_pos {s : ByteArray} (h : 0 < s.size) : s.toList.isEmpty = false := by
  rw [ByteArray.toList_eq]
  cases hl : s.data.toList with
  | nil =>
    have : s.data.toList.length = 0 := by rw [hl]; rfl
    have h2 : s.data.toList.length = s.size := rfl
    omega
  | cons a l => rfl
theorem u8_and1 (c : UInt8) : bits .and .u8 (c.toNat : Int) 1 = ((c.toNat % 2 : Nat) : Int) := by
  have := u8_and_nat c.toNat 1 c.toNat_lt (by decide)
  simpa [Nat.and_one_is_mod] using this
theorem beq_cast (a b : Nat) : (((a : Nat) : Int) == (b : Int)) = (a == b) := by
  rw [Bool.eq_iff_iff, beq_iff_eq, beq_iff_eq]; omega

theorem div_cast (n i : Nat) : (n : Int) / 2 ^ i = ((n / 2 ^ i : Nat) : Int) := by simp
theorem bit_u8 (c : UInt8) (i : Nat) : bits .and .u8 ((c.toNat : Int) / 2 ^ i) 1 = ((c.toNat / 2 ^ i % 2 : Nat) : Int) := by
  have hc := c.toNat_lt
  have hd : c.toNat / 2 ^ i ≤ c.toNat := Nat.div_le_self _ _
  have h := u8_and_nat (c.toNat / 2 ^ i) 1 (by omega) (by decide)
  rw [Nat.and_one_is_mod] at h
  rw [div_cast, show (1 : Int) = ((1 : Nat) : Int) from rfl, h]
theorem bit_i64 (n : Nat) (hn : n < 9223372036854775808) : bits .and .i64 (n : Int) 1 = ((n % 2 : Nat) : Int) := by
  have h := i64_and_nat n 1 hn (by decide)
  rw [Nat.and_one_is_mod] at h
  rw [show (1 : Int) = ((1 : Nat) : Int) from rfl, h]
theorem and_65535 (n : Nat) (hn : n < 9223372036854775808) : bits .and .i64 (n : Int) 65535 = ((n % 65536 : Nat) : Int) := by
  have h := i64_and_nat n 65535 hn (by decide)
  rw [show (65535 : Nat) = 2 ^ 16 - 1 from rfl, Nat.and_two_pow_sub_one_eq_mod] at h
  exact h

/-- The last bit of the last byte. -/
def lastBitB (s : ByteArray) : Bool := s.data.toList.getLast?.any fun c => c.toNat % 2 == 1
theorem lastBitB_nil {s : ByteArray} (h : s.size = 0) : lastBitB s = false := by
  have : s.data.toList = [] := List.eq_nil_of_length_eq_zero (by simpa using h)
  simp [lastBitB, this]
theorem lastBitB_at {s : ByteArray} (h : 0 < s.size) : lastBitB s = (s[s.size - 1].toNat % 2 == 1) := by
  unfold lastBitB
  rw [List.getLast?_eq_getElem?, List.getElem?_eq_getElem (by simp; omega)]
  simp [ByteArray.getElem_eq_getElem_data]
/-- A clock's five numbers. -/
structure Clk where
  cell : Int
  low : Int
  high : Int
  phase : Int
  speed : Int
def Clk.val (c : Clk) : Value := .agg #[.int .i64 c.cell, .int .i64 c.low, .int .i64 c.high, .int .i64 c.phase, .int .i64 c.speed]
def Clk.wf (c : Clk) : Prop := (Lit.int .i64 c.cell).wf = true ∧ (Lit.int .i64 c.low).wf = true ∧ (Lit.int .i64 c.high).wf = true ∧ (Lit.int .i64 c.phase).wf = true ∧ (Lit.int .i64 c.speed).wf = true
def Clk.valid (c : Clk) : Bool := inB c.cell 4 200 && inB c.low 2 c.cell && inB c.high c.cell 400 && inB c.phase 0 64 && inB c.speed 0 64

end Go.Proofs.YtfdcainjppljhaaDoor
