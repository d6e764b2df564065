/- Plain lemmas on lists, bytes and numbers; no program in sight. Places of ones in a string of cells: plain lemmas. What every walk imports. Nothing is proved here. The contract of impl.within. The contract of spec.l00In. Memory of the call's own: a row of bytes, a row of int64: append, store, conversion to a string. Over this translation's type numbers. Slices of int64: one that came in or was made, read; a row of the call's own, written; append. Flux, plain: lists of numbers, their sums and running sums; no program in sight. Flux: copies, comparisons, sizes; validity. Validity of flux. Marks: a list written over with rising numbers, and looked at again. Two slices of int64 of the call's own side by side: append to one keeps the other. Flux of times, plain. -/
import Derived.WalkKit
import Derived.ProofKit
import Derived.PlainAid
import Derived.Deep.Draws
import Derived.Lib.Bytealg
import Derived.Test.YtfdcainjppljhaaGreatDoorRows
import Derived.WalkSpells
import Derived.WalkLawsBesides
import Derived.BigQuiet
import Derived.Deep.QuietTactic
import Derived.Lib.Hide
import Derived.Lib.UnsafeStr
import Derived.Lib.BufferRead
import Derived.Lib.ConvBytes
import Derived.StillTailTactics
import Derived.Deep.OwnRows
import Derived.Handy
import Derived.Deep.RegionLaw
namespace Go.Proofs.YtfdcainjppljhaaGreatDoor
open Go.RowKit

theorem ret_int {k : IntKind} {a b : Int} (h : a = b) : Ending.returned (.int k a) = .returned (.int k b) := by rw [h]
theorem ret_bool {a b : Bool} (h : a = b) : Ending.returned (.bool a) = .returned (.bool b) := by rw [h]
theorem ret_str {a b : ByteArray} (h : a = b) : Ending.returned (.string a) = .returned (.string b) := by rw [h]
theorem ret_int_bool {k : IntKind} {a b : Int} {x y : Bool} (h : a = b) (h2 : x = y) : Ending.returned (.tuple #[.int k a, .bool x]) = .returned (.tuple #[.int k b, .bool y]) := by rw [h, h2]
theorem ret_str_bool {a b : ByteArray} {x y : Bool} (h : a = b) (h2 : x = y) : Ending.returned (.tuple #[.string a, .bool x]) = .returned (.tuple #[.string b, .bool y]) := by rw [h, h2]
theorem below_drewN {B : Nat} {a w : World} (h : Below B a w) (n : Nat) : Below B a (w.drewN n) := ⟨h.os, h.tape, h.output, h.size, h.block⟩

theorem ofInt_i64 (a : Nat) (ha : a < 9223372036854775808) : (BitVec.ofInt 64 (a : Int)).toNat = a := by
  rw [BitVec.ofInt_natCast, BitVec.toNat_ofNat]; exact Nat.mod_eq_of_lt (by omega)
theorem i64_and_nat (a b : Nat) (ha : a < 9223372036854775808) (hb : b < 9223372036854775808) : bits .and .i64 (a : Int) (b : Int) = ((a &&& b : Nat) : Int) := by
  have hx : a &&& b < 2 ^ 63 := Nat.and_lt_two_pow _ (by omega)
  show IntKind.i64.wrap ((BitVec.ofInt 64 (a : Int) &&& BitVec.ofInt 64 (b : Int)).toNat : Int) = _
  rw [BitVec.toNat_and, ofInt_i64 a ha, ofInt_i64 b hb, IntKind.wrap_i64]
  omega
theorem i64_or_nat (a b : Nat) (ha : a < 9223372036854775808) (hb : b < 9223372036854775808) : bits .or .i64 (a : Int) (b : Int) = ((a ||| b : Nat) : Int) := by
  have hx : a ||| b < 2 ^ 63 := Nat.or_lt_two_pow (by omega) (by omega)
  show IntKind.i64.wrap ((BitVec.ofInt 64 (a : Int) ||| BitVec.ofInt 64 (b : Int)).toNat : Int) = _
  rw [BitVec.toNat_or, ofInt_i64 a ha, ofInt_i64 b hb, IntKind.wrap_i64]
  omega
theorem i64_xor_nat (a b : Nat) (ha : a < 9223372036854775808) (hb : b < 9223372036854775808) : bits .xor .i64 (a : Int) (b : Int) = ((a ^^^ b : Nat) : Int) := by
  have hx : a ^^^ b < 2 ^ 63 := Nat.xor_lt_two_pow (by omega) (by omega)
  show IntKind.i64.wrap ((BitVec.ofInt 64 (a : Int) ^^^ BitVec.ofInt 64 (b : Int)).toNat : Int) = _
  rw [BitVec.toNat_xor, ofInt_i64 a ha, ofInt_i64 b hb, IntKind.wrap_i64]
  omega
theorem wrap64_of {n : Int} (h0 : -9223372036854775808 ≤ n) (h1 : n ≤ 9223372036854775807) : wrap64 n = n := IntWalk.wrap64_in n ⟨h0, h1⟩
theorem word_or (a b : UInt8) : bits .or .i64 (wrap64 (wrap64 (a.toNat : Int) * 256)) (wrap64 (b.toNat : Int)) = (a.toNat : Int) * 256 + (b.toNat : Int) := by
  have ha := a.toNat_lt; have hb := b.toNat_lt
  rw [wrap64_of (n := (a.toNat : Int)) (by omega) (by omega), wrap64_of (n := (b.toNat : Int)) (by omega) (by omega), wrap64_of (by omega) (by omega)]
  have h := i64_or_nat (a.toNat * 256) b.toNat (by omega) (by omega)
  have h2 := Nat.two_pow_add_eq_or_of_lt (i := 8) (b := b.toNat) (by omega) a.toNat
  rw [Int.natCast_mul] at h
  rw [show ((256 : Nat) : Int) = 256 from rfl] at h
  rw [h, Nat.mul_comm, ← h2]
  omega
theorem word_add (a b : UInt8) : wrap64 (wrap64 (wrap64 (a.toNat : Int) * 256) + wrap64 (b.toNat : Int)) = (a.toNat : Int) * 256 + (b.toNat : Int) := by
  have ha := a.toNat_lt; have hb := b.toNat_lt
  rw [wrap64_of (n := (a.toNat : Int)) (by omega) (by omega), wrap64_of (n := (b.toNat : Int)) (by omega) (by omega), wrap64_of (n := (a.toNat : Int) * 256) (by omega) (by omega), wrap64_of (by omega) (by omega)]

/-- lo ≤ x ≤ hi, as a truth value. -/
def inB (x lo hi : Int) : Bool := decide (lo ≤ x) && decide (x ≤ hi)
theorem inB_yes {x lo hi : Int} (h : lo ≤ x ∧ x ≤ hi) : inB x lo hi = true := by simp [inB, h]
theorem inB_no {x lo hi : Int} (h : x < lo ∨ hi < x) : inB x lo hi = false := by simp [inB]; omega
theorem inB_iff {x lo hi : Int} : inB x lo hi = true ↔ lo ≤ x ∧ x ≤ hi := by simp [inB]

theorem take_snoc (s : ByteArray) (k : Nat) (h : k < s.size) : s.data.toList.take (k + 1) = s.data.toList.take k ++ [s[k]] := by
  rw [List.take_succ_eq_append_getElem (by simpa using h)]; rfl

theorem take_all (s : ByteArray) {k : Nat} (h : s.size ≤ k) : s.data.toList.take k = s.data.toList := List.take_of_length_le (by simpa using h)
/-- The sum of bytes. -/
def sumB (l : List UInt8) : Int := (l.map (fun c => (c.toNat : Int))).sum
theorem sumB_snoc (l : List UInt8) (c : UInt8) : sumB (l ++ [c]) = sumB l + (c.toNat : Int) := by simp [sumB]
theorem sumB_bd (l : List UInt8) : 0 ≤ sumB l ∧ sumB l ≤ 255 * l.length := by
  induction l with
  | nil => simp [sumB]
  | cons a l ih =>
    have := a.toNat_lt
    simp only [sumB, List.map_cons, List.sum_cons, List.length_cons] at *
    omega

theorem empty_of_size {s : ByteArray} (h : s.size = 0) : s = ByteArray.empty := by
  cases s with | mk d => simp [ByteArray.size] at h; subst h; rfl
theorem isEmpty_of_pos {s : ByteArray} (h : 0 < s.size) : s.toList.isEmpty = false := by
  rw [ByteArray.toList_eq]
  cases hl : s.data.toList with
  | nil =>
    have : s.data.toList.length = 0 := by rw [hl]; rfl
    have h2 : s.data.toList.length = s.size := rfl
    omega
  | cons a l => rfl
theorem u8_and1 (c : UInt8) : bits .and .u8 (c.toNat : Int) 1 = ((c.toNat % 2 : Nat) : Int) := by
  have := u8_and_nat c.toNat 1 c.toNat_lt (by decide)
  simpa [Nat.and_one_is_mod] using this
theorem beq_cast (a b : Nat) : (((a : Nat) : Int) == (b : Int)) = (a == b) := by
  rw [Bool.eq_iff_iff, beq_iff_eq, beq_iff_eq]; omega

theorem div_cast (n i : Nat) : (n : Int) / 2 ^ i = ((n / 2 ^ i : Nat) : Int) := by simp
theorem bit_u8 (c : UInt8) (i : Nat) : bits .and .u8 ((c.toNat : Int) / 2 ^ i) 1 = ((c.toNat / 2 ^ i % 2 : Nat) : Int) := by
  have hc := c.toNat_lt
  have hd : c.toNat / 2 ^ i ≤ c.toNat := Nat.div_le_self _ _
  have h := u8_and_nat (c.toNat / 2 ^ i) 1 (by omega) (by decide)
  rw [Nat.and_one_is_mod] at h
  rw [div_cast, show (1 : Int) = ((1 : Nat) : Int) from rfl, h]
theorem bit_i64 (n : Nat) (hn : n < 9223372036854775808) : bits .and .i64 (n : Int) 1 = ((n % 2 : Nat) : Int) := by
  have h := i64_and_nat n 1 hn (by decide)
  rw [Nat.and_one_is_mod] at h
  rw [show (1 : Int) = ((1 : Nat) : Int) from rfl, h]
theorem and_65535 (n : Nat) (hn : n < 9223372036854775808) : bits .and .i64 (n : Int) 65535 = ((n % 65536 : Nat) : Int) := by
  have h := i64_and_nat n 65535 hn (by decide)
  rw [show (65535 : Nat) = 2 ^ 16 - 1 from rfl, Nat.and_two_pow_sub_one_eq_mod] at h
  exact h

/-- The last bit of the last byte. -/
def lastBitB (s : ByteArray) : Bool := s.data.toList.getLast?.any fun c => c.toNat % 2 == 1
theorem lastBitB_nil {s : ByteArray} (h : s.size = 0) : lastBitB s = false := by
  have : s.data.toList = [] := List.eq_nil_of_length_eq_zero (by simpa using h)
  simp [lastBitB, this]
theorem lastBitB_at {s : ByteArray} (h : 0 < s.size) : lastBitB s = (s[s.size - 1].toNat % 2 == 1) := by
  unfold lastBitB
  rw [List.getLast?_eq_getElem?, List.getElem?_eq_getElem (by simp; omega)]
  simp [ByteArray.getElem_eq_getElem_data]
/-- A clock's five numbers. -/
structure Clk where
  cell : Int
  low : Int
  high : Int
  phase : Int
  speed : Int
def Clk.val (c : Clk) : Value := .agg #[.int .i64 c.cell, .int .i64 c.low, .int .i64 c.high, .int .i64 c.phase, .int .i64 c.speed]
def Clk.wf (c : Clk) : Prop := (Lit.int .i64 c.cell).wf = true ∧ (Lit.int .i64 c.low).wf = true ∧ (Lit.int .i64 c.high).wf = true ∧ (Lit.int .i64 c.phase).wf = true ∧ (Lit.int .i64 c.speed).wf = true
def Clk.valid (c : Clk) : Bool := inB c.cell 4 200 && inB c.low 2 c.cell && inB c.high c.cell 400 && inB c.phase 0 64 && inB c.speed 0 64

end Go.Proofs.YtfdcainjppljhaaGreatDoor
namespace Go.Proofs.YtfdcainjppljhaaGreatDoor
open Go.RowKit
set_option linter.unusedVariables false
theorem indexByte_is (c : UInt8) : ∀ l : List UInt8, (Lib.indexByte l c = -1 ∧ ∀ i, i < l.length → l.getD i 0 ≠ c) ∨ (∃ n : Nat, Lib.indexByte l c = (n : Int) ∧ n < l.length ∧ l.getD n 0 = c ∧ ∀ i, i < n → l.getD i 0 ≠ c)
  | [] => .inl ⟨rfl, fun i h => absurd h (Nat.not_lt_zero i)⟩
  | b :: l => by
    unfold Lib.indexByte
    cases h : (b == c)
    · have hbc : b ≠ c := by intro e; rw [e] at h; simp at h
      rcases indexByte_is c l with ⟨e, ha⟩ | ⟨n, e, hn, hc, ha⟩
      · rw [e]
        refine .inl ⟨rfl, fun i hi => ?_⟩
        cases i with
        | zero => simpa using hbc
        | succ i => simpa using ha i (by simpa using hi)
      · rw [e]
        refine .inr ⟨n + 1, ?_, by simp; omega, by simpa using hc, fun i hi => ?_⟩
        · have : ((n : Int) == -1) = false := by rw [beq_eq_false_iff_ne]; omega
          rw [if_neg (by simp), this]
          simp
        · cases i with
          | zero => simpa using hbc
          | succ i => simpa using ha i (by omega)
    · have hbc : b = c := by simpa using h
      exact .inr ⟨0, rfl, by simp, by simpa using hbc, fun i hi => absurd hi (Nat.not_lt_zero i)⟩
/-- The places of the ones below k. -/
def onesL (l : List UInt8) (k : Nat) : List Nat := (List.range k).filter fun i => l.getD i 0 == 49
theorem onesL_yes {l : List UInt8} {k : Nat} (h : l.getD k 0 = 49) : onesL l (k + 1) = onesL l k ++ [k] := by
  unfold onesL
  rw [List.range_succ, List.filter_append, List.filter_cons, if_pos (by rw [h]; rfl)]
  rfl
theorem onesL_no {l : List UInt8} {k : Nat} (h : l.getD k 0 ≠ 49) : onesL l (k + 1) = onesL l k := by
  unfold onesL
  rw [List.range_succ, List.filter_append, List.filter_cons, if_neg (by simpa using h)]
  simp
theorem onesL_skip {l : List UInt8} {a : Nat} : ∀ n : Nat, (∀ i, i < n → l.getD (a + i) 0 ≠ 49) → onesL l (a + n) = onesL l a
  | 0, _ => rfl
  | n + 1, h => by
    rw [show a + (n + 1) = a + n + 1 from rfl, onesL_no (h n (by omega)), onesL_skip n fun i hi => h i (by omega)]
theorem onesL_len (l : List UInt8) (k : Nat) : (onesL l k).length ≤ k := by
  unfold onesL
  have := List.length_filter_le (fun i => l.getD i 0 == 49) (List.range k)
  rw [List.length_range] at this
  exact this
/-- The differences of neighbours. -/
def gapL : List Nat → List Int
  | a :: b :: r => ((b : Int) - (a : Int)) :: gapL (b :: r)
  | _ => []
theorem gapL_snoc (x y : Nat) : ∀ p : List Nat, gapL (p ++ [x] ++ [y]) = gapL (p ++ [x]) ++ [(y : Int) - (x : Int)]
  | [] => rfl
  | [a] => rfl
  | a :: b :: p => by
    show _ :: gapL ((b :: p) ++ [x] ++ [y]) = _ :: gapL ((b :: p) ++ [x]) ++ _
    rw [gapL_snoc x y (b :: p)]
    rfl
theorem gapL_len : ∀ p : List Nat, (gapL p).length ≤ p.length
  | [] => by simp [gapL]
  | [a] => by simp [gapL]
  | a :: b :: r => by
    have := gapL_len (b :: r)
    simp only [gapL, List.length_cons] at this ⊢
    omega
theorem getD_at {s : ByteArray} {k : Nat} (h : k < s.size) : s.data.toList.getD k 0 = s[k]'h := by
  rw [List.getD_eq_getElem?_getD, List.getElem?_eq_getElem (by simpa using h)]; rfl
theorem getD_ext {s : ByteArray} {a i : Nat} (h : a + i < s.size) : (s.extract a s.size).data.toList.getD i 0 = s.data.toList.getD (a + i) 0 := by
  rw [getD_at h]
  have h2 : i < (s.extract a s.size).size := by rw [ByteArray.size_extract]; omega
  rw [getD_at h2]
  rw [ByteArray.getElem_extract]
theorem ofNat_49 {c : UInt8} (h : (c.toNat : Int) = 49) : c = 49 := by
  have : c.toNat = 49 := by omega
  exact UInt8.toNat_inj.1 this
theorem ofNat_not49 {c : UInt8} (h : (c.toNat : Int) ≠ 49) : c ≠ 49 := by
  rintro rfl; exact h rfl
end Go.Proofs.YtfdcainjppljhaaGreatDoor
namespace Go.Proofs.YtfdcainjppljhaaGreatDoor
open Go.RowKit

end Go.Proofs.YtfdcainjppljhaaGreatDoor
namespace Go.Proofs.YtfdcainjppljhaaGreatDoor
open Go.RowKit

theorem within_any (x lo hi : Int) (w : World) :
    Calls Tryz.prog 22 #[.int .i64 x, .int .i64 lo, .int .i64 hi] w fun e w' => e = .returned (.bool (inB x lo hi)) ∧ w = w' := by
  go_enter Tryz.func22, Tryz.ntmps22
  go_wp2
  all_goals
    go_ret
    exact ⟨ret_bool (by first | (simp [inB, *]; done) | (simp [inB]; omega)), rfl⟩
end Go.Proofs.YtfdcainjppljhaaGreatDoor
namespace Go.Proofs.YtfdcainjppljhaaGreatDoor
open Go.RowKit

theorem l00In_any (x lo hi : Int) (w : World) :
    Calls Tryz.prog 38 #[.int .i64 x, .int .i64 lo, .int .i64 hi] w fun e w' => e = .returned (.bool (inB x lo hi)) ∧ w = w' := by
  go_enter Tryz.func38, Tryz.ntmps38
  go_wp2
  all_goals
    go_ret
    exact ⟨ret_bool (by first | (simp [inB, *]; done) | (simp [inB]; omega)), rfl⟩

end Go.Proofs.YtfdcainjppljhaaGreatDoor
namespace Go.Proofs.YtfdcainjppljhaaGreatDoor
open Go.RowKit

theorem info_u8 : (Tryz.prog.info? 5).map (fun i => (i.zero, i.size, i.bytes)) = some (some (.int .u8 0), 1, 1) := by kernel_rfl

theorem u8_bd (c : UInt8) : 0 ≤ (c.toNat : Int) ∧ (c.toNat : Int) < 256 := by have := c.toNat_lt; omega
/-- The byte of a number. -/
def b8 (n : Int) : UInt8 := UInt8.ofNat n.toNat
theorem b8_val {n : Int} (h0 : 0 ≤ n) (h1 : n < 256) : ((b8 n).toNat : Int) = n := by
  unfold b8
  have : (UInt8.ofNat n.toNat).toNat = n.toNat := by
    rw [UInt8.toNat_ofNat']
    exact Nat.mod_eq_of_lt (by omega)
  omega
theorem b8_toNat (c : UInt8) : b8 (c.toNat : Int) = c := by unfold b8; rw [Int.toNat_natCast]; exact UInt8.ofNat_toNat

theorem bcell {W w1 : World} (hb : Below W.heap.size W w1) : (∀ b o, b < W.heap.size → w1.cell? ⟨b, o, none⟩ = W.cell? ⟨b, o, none⟩) ∧ (∀ b o, b < W.heap.size → w1.frozen? ⟨b, o, none⟩ = W.frozen? ⟨b, o, none⟩) :=
  ⟨fun b o h => hb.cell (p := ⟨b, o, none⟩) h, fun b o h => hb.frozen (p := ⟨b, o, none⟩) h⟩

/-- Block g is just the cells cs of type t, none of them frozen. -/
def Blk (w : World) (g : Nat) (t : TypeId) (cs : Array Value) : Prop := w.heap[g]? = some (.cells cs t (0, 0))
theorem Blk.lt {w : World} {g : Nat} {t : TypeId} {cs : Array Value} (h : Blk w g t cs) : g < w.heap.size := by
  rcases Nat.lt_or_ge g w.heap.size with hlt | hge
  · exact hlt
  · unfold Blk at h; rw [Array.getElem?_eq_none hge] at h; cases h
theorem Blk.new (w : World) (t : TypeId) (cs : Array Value) : Blk (w.alloc (.cells cs t)) w.heap.size t cs := by
  unfold Blk
  show (w.heap.push _)[w.heap.size]? = _
  simp
theorem Blk.below {w w' : World} {g B : Nat} {t : TypeId} {cs : Array Value} (h : Blk w g t cs) (hb : Below B w w') (hg : g < B) : Blk w' g t cs := (hb.block g hg).trans h
theorem Blk.keep {w w' : World} {g : Nat} {t : TypeId} {cs : Array Value} (h : Blk w g t cs) (hb : Below w.heap.size w w') : Blk w' g t cs := h.below hb h.lt
theorem Blk.cell {w : World} {g : Nat} {t : TypeId} {cs : Array Value} (h : Blk w g t cs) (i : Nat) : w.cell? ⟨g, i, none⟩ = cs[i]? := cell_of_row w g i cs t (0, 0) h
theorem Blk.cell2 {w : World} {g : Nat} {t : TypeId} {a b : Value} (h : Blk w g t #[a, b]) : w.cell? ⟨g, 0, none⟩ = some a ∧ w.cell? ⟨g, 1, none⟩ = some b := ⟨h.cell 0, h.cell 1⟩
theorem Blk.cell3 {w : World} {g : Nat} {t : TypeId} {a b c : Value} (h : Blk w g t #[a, b, c]) : w.cell? ⟨g, 0, none⟩ = some a ∧ w.cell? ⟨g, 1, none⟩ = some b ∧ w.cell? ⟨g, 2, none⟩ = some c := ⟨h.cell 0, h.cell 1, h.cell 2⟩
theorem Blk.cell4 {w : World} {g : Nat} {t : TypeId} {a b c d : Value} (h : Blk w g t #[a, b, c, d]) : w.cell? ⟨g, 0, none⟩ = some a ∧ w.cell? ⟨g, 1, none⟩ = some b ∧ w.cell? ⟨g, 2, none⟩ = some c ∧ w.cell? ⟨g, 3, none⟩ = some d := ⟨h.cell 0, h.cell 1, h.cell 2, h.cell 3⟩
theorem Blk.cell5 {w : World} {g : Nat} {t : TypeId} {a b c d e : Value} (h : Blk w g t #[a, b, c, d, e]) : w.cell? ⟨g, 0, none⟩ = some a ∧ w.cell? ⟨g, 1, none⟩ = some b ∧ w.cell? ⟨g, 2, none⟩ = some c ∧ w.cell? ⟨g, 3, none⟩ = some d ∧ w.cell? ⟨g, 4, none⟩ = some e := ⟨h.cell 0, h.cell 1, h.cell 2, h.cell 3, h.cell 4⟩
theorem Blk.frozen {w : World} {g : Nat} {t : TypeId} {cs : Array Value} (h : Blk w g t cs) (i : Nat) : w.frozen? ⟨g, i, none⟩ = false := by
  unfold Blk at h
  simp [World.frozen?, h]

/-- A slice of bytes of the call's own that holds l. -/
def OwnB (w : World) (base : Nat) (v : Value) (l : List UInt8) : Prop := w.ownsRow base 5 1 v l.length (Lib.byteCells l)

theorem OwnB.below {w w' : World} {base : Nat} {v : Value} {l : List UInt8} (h : OwnB w base v l) (hb : Below w.heap.size w w') : OwnB w' base v l := by
  obtain ⟨h1, h2⟩ := h
  refine ⟨h1, ?_⟩
  rcases h2 with h2 | ⟨g, cap, cur, hv, hg, hh, r⟩
  · exact .inl h2
  · refine .inr ⟨g, cap, cur, hv, hg, ?_, r⟩
    rw [hb.block g]
    · exact hh
    · rcases Nat.lt_or_ge g w.heap.size with hlt | hge
      · exact hlt
      · rw [Array.getElem?_eq_none hge] at hh; cases hh
theorem OwnB.mono {w : World} {base base' : Nat} {v : Value} {l : List UInt8} (h : OwnB w base v l) (hb : base' ≤ base) : OwnB w base' v l := by
  obtain ⟨h1, h2⟩ := h
  refine ⟨h1, ?_⟩
  rcases h2 with h2 | ⟨g, cap, cur, hv, hg, r⟩
  · exact .inl h2
  · exact .inr ⟨g, cap, cur, hv, by omega, r⟩
theorem OwnB.alloc {w : World} {base : Nat} {v : Value} {l : List UInt8} (h : OwnB w base v l) (o : Obj) : OwnB (w.alloc o) base v l :=
  h.below ((Below.refl _ _).alloc (Nat.le_refl _) o)
theorem OwnB.nil0 (w : World) : OwnB (w.alloc (.cells #[] 5)) w.heap.size (.slice (some ⟨w.heap.size, 0, none⟩) 0 0) [] := by
  refine ⟨rfl, .inr ⟨w.heap.size, 0, #[], rfl, Nat.le_refl _, Blk.new _ _ _, Nat.le_refl _, Nat.zero_le _, rfl, rfl⟩⟩
theorem OwnB.drew {w : World} {base : Nat} {v : Value} {l : List UInt8} (h : OwnB w base v l) : OwnB w.drew base v l := h
theorem OwnB.drewN {w : World} {base : Nat} {v : Value} {l : List UInt8} (h : OwnB w base v l) (n : Nat) : OwnB (w.drewN n) base v l := h

/-- 'string(b)' of such a slice. -/
theorem OwnB.str {w : World} {base : Nat} {v : Value} {l : List UInt8} (h : OwnB w base v l) :
    (convert 22 9 v).run Tryz.prog w = .ok (.string ⟨l.toArray⟩) w := by
  rcases h.2 with ⟨rfl, hn⟩ | ⟨g, cap, cur, rfl, _, hh, _, _, _, ht⟩
  · have hl : l = [] := List.eq_nil_of_length_eq_zero hn
    subst hl
    exact Lib.run_convert_nil_bytes w _ _ _ 0 Tryz.underlying22 Tryz.underlying5 Tryz.underlying9
  · have hc := Lib.bytes_of_row (l := l) hh (by simpa using ht)
    exact run_convert_bytes_back w _ _ _ ⟨g, 0, none⟩ cap l Tryz.underlying22 Tryz.underlying5 Tryz.underlying9 hc

/-- 'make([]byte, 0, n)'. -/
theorem make_bytes0 {ops : Array Oper} {rest : List Oper} {o : Oper} {a : Act} {Q : Exit → Act → World → Prop} (w : World) (hg : o.guard = none) (l c : Operand) (hop : o.op = Op.makeSlice 22 l c)
    (C : Int) (n : Nat) (hl : a.eval l = .int .i64 0) (hc : a.eval c = .int .i64 C) (hC : C = (n : Int)) (hn : n ≤ 1099511627776)
    (h : ∀ w', OwnB w' w.heap.size (.slice (some ⟨w.heap.size, 0, none⟩) 0 n) [] → Below w.heap.size w w' → wpList Tryz.prog ops Q rest (a.put o.dst (.slice (some ⟨w.heap.size, 0, none⟩) 0 n)) w') :
    wpList Tryz.prog ops Q (o :: rest) a w := by
  obtain ⟨i, hi, hz, hsz, hby⟩ := info_parts info_u8
  refine wpList_make_own w hg l c 22 hop w.heap.size 5 i (.int .u8 0) 1 Tryz.underlying22 hi hz hsz .i64 .i64 C n hl hc hC (by rw [hby]; omega) (by unfold maxLen; omega) (Nat.le_refl _) ?_
  intro w' h1 h2
  exact h w' h1 ((Below.refl _ _).grown h2 (Nat.le_refl _) (by intro k hk; cases hk))

/-- 'b = append(b, x)'. -/
theorem append_byte {ops : Array Oper} {rest : List Oper} {o : Oper} {a : Act} {Q : Exit → Act → World → Prop} (w : World) (hg : o.guard = none) (s x : Operand)
    (ho : o.op = .call { callee := .builtin .append, args := #[s, x], argTypes := #[22, 22] })
    (base : Nat) (v : Value) (l : List UInt8) (n : Int) (hs : a.eval s = v) (hx : a.eval x = .slice (some ⟨w.heap.size, 0, none⟩) 1 1)
    (hown : OwnB w base v l) (hn : 0 ≤ n ∧ n < 256) (hlen : l.length < 1099511627776) (hbase : base ≤ w.heap.size)
    (h : ∀ v' w', OwnB w' base v' (l ++ [b8 n]) → Below base w w' → wpList Tryz.prog ops Q rest (a.put o.dst v') w') :
    wpList Tryz.prog ops Q (o :: rest) a (w.alloc (.cells #[.int .u8 n] 5)) := by
  obtain ⟨i, hi, hz, hsz, hby⟩ := info_parts info_u8
  refine wpList_append_own _ hg s x 22 ho base 5 i (.int .u8 0) 1 1 Tryz.underlying22 hi hz hsz hby rfl (by decide) v l.length (Lib.byteCells l) hs (hown.alloc _)
    ⟨w.heap.size, 0, none⟩ 1 1 [.int .u8 n] hx rfl ?_ ?_ (by unfold maxLen; omega) (by omega) (by simp; omega) ?_
  · intro j u hj
    match j, hj with
    | 0, hj => simp at hj; subst hj; simp [Addr.add]
  · intro u hu; simp at hu; subst hu; rfl
  · intro v' w' h1 h2 _
    refine h v' w' ?_ ?_
    · unfold OwnB
      have e : Lib.byteCells (l ++ [b8 n]) = Lib.byteCells l ++ [.int .u8 n] := by simp [Lib.byteCells, b8_val hn.1 hn.2]
      rw [e, List.length_append]
      exact h1
    · refine ((Below.refl base w).alloc hbase _).grown h2 (by simp; omega) ?_
      intro k hk
      rcases hown.2 with ⟨rfl, _⟩ | ⟨g, cap, cur, rfl, hbg, _⟩
      · simp [Value.ownBlock] at hk
      · simp [Value.ownBlock] at hk; omega

/-- 'b = append(b, x, y)'. -/
theorem append_byte2 {ops : Array Oper} {rest : List Oper} {o : Oper} {a : Act} {Q : Exit → Act → World → Prop} (w : World) (hg : o.guard = none) (s x : Operand)
    (ho : o.op = .call { callee := .builtin .append, args := #[s, x], argTypes := #[22, 22] })
    (base : Nat) (v : Value) (l : List UInt8) (n m : Int) (hs : a.eval s = v) (hx : a.eval x = .slice (some ⟨w.heap.size, 0, none⟩) 2 2)
    (hown : OwnB w base v l) (hn : 0 ≤ n ∧ n < 256) (hm : 0 ≤ m ∧ m < 256) (hlen : l.length < 1099511627776) (hbase : base ≤ w.heap.size)
    (h : ∀ v' w', OwnB w' base v' (l ++ [b8 n, b8 m]) → Below base w w' → wpList Tryz.prog ops Q rest (a.put o.dst v') w') :
    wpList Tryz.prog ops Q (o :: rest) a (w.alloc (.cells #[.int .u8 n, .int .u8 m] 5)) := by
  obtain ⟨i, hi, hz, hsz, hby⟩ := info_parts info_u8
  refine wpList_append_own _ hg s x 22 ho base 5 i (.int .u8 0) 1 1 Tryz.underlying22 hi hz hsz hby rfl (by decide) v l.length (Lib.byteCells l) hs (hown.alloc _)
    ⟨w.heap.size, 0, none⟩ 2 2 [.int .u8 n, .int .u8 m] hx rfl ?_ ?_ (by unfold maxLen; omega) (by omega) (by simp; omega) ?_
  · intro j u hj
    match j, hj with
    | 0, hj => simp at hj; subst hj; simp [Addr.add]
    | 1, hj => simp at hj; subst hj; simp [Addr.add]
  · intro u hu; simp at hu; rcases hu with rfl | rfl <;> rfl
  · intro v' w' h1 h2 _
    refine h v' w' ?_ ?_
    · unfold OwnB
      have e : Lib.byteCells (l ++ [b8 n, b8 m]) = Lib.byteCells l ++ [.int .u8 n, .int .u8 m] := by simp [Lib.byteCells, b8_val hn.1 hn.2, b8_val hm.1 hm.2]
      rw [e, List.length_append]
      exact h1
    · refine ((Below.refl base w).alloc hbase _).grown h2 (by simp; omega) ?_
      intro k hk
      rcases hown.2 with ⟨rfl, _⟩ | ⟨g, cap, cur, rfl, hbg, _⟩
      · simp [Value.ownBlock] at hk
      · simp [Value.ownBlock] at hk; omega

/-- 'b = append(b, x)' as a step of a region that draws its order. -/
theorem step_append_byte {ops : Array Oper} {o : Oper} {a : Act} {w : World} {K : Act → World → Prop} {Q : Exit → Act → World → Prop} {E : Prop} (hg : o.guard = none) (s x : Operand)
    (ho : o.op = .call { callee := .builtin .append, args := #[s, x], argTypes := #[22, 22] })
    (base : Nat) (v : Value) (l : List UInt8) (n : Int) (g0 : Nat) (hs : a.eval s = v) (hx : a.eval x = .slice (some ⟨g0, 0, none⟩) 1 1)
    (hown : OwnB w base v l) (hcell : w.cell? ⟨g0, 0, none⟩ = some (.int .u8 n)) (hn : 0 ≤ n ∧ n < 256) (hlen : l.length < 1099511627776) (hbase : base ≤ w.heap.size)
    (h : ∀ v' w', OwnB w' base v' (l ++ [b8 n]) → Below base w w' → K (a.put o.dst v') w') :
    if Region.wanted o (yielded ops a.tmps) = true then Oper.wp Tryz.prog o a w K Q else E := by
  have hw : Region.wanted o (yielded ops a.tmps) = true := by simp [Region.wanted, hg]
  rw [if_pos hw]
  obtain ⟨i, hi, hz, hsz, hby⟩ := info_parts info_u8
  refine wp_append_own w s x 22 ho base 5 i (.int .u8 0) 1 1 Tryz.underlying22 hi hz hsz hby rfl (by decide) v l.length (Lib.byteCells l) hs hown
    ⟨g0, 0, none⟩ 1 1 [.int .u8 n] hx rfl ?_ ?_ (by unfold maxLen; omega) (by omega) hbase ?_
  · intro j u hj
    match j, hj with
    | 0, hj => simp at hj; subst hj; simpa [Addr.add] using hcell
  · intro u hu; simp at hu; subst hu; rfl
  · intro v' w' h1 h2 _
    refine h v' w' ?_ ?_
    · unfold OwnB
      have e : Lib.byteCells (l ++ [b8 n]) = Lib.byteCells l ++ [.int .u8 n] := by simp [Lib.byteCells, b8_val hn.1 hn.2]
      rw [e, List.length_append]
      exact h1
    · refine (Below.refl base w).grown h2 hbase ?_
      intro k hk
      rcases hown.2 with ⟨rfl, _⟩ | ⟨g, cap, cur, rfl, hbg, _⟩
      · simp [Value.ownBlock] at hk
      · simp [Value.ownBlock] at hk; omega

/-- 'b = append(b, x, y)' as a step of a region that draws its order. -/
theorem step_append_byte2 {ops : Array Oper} {o : Oper} {a : Act} {w : World} {K : Act → World → Prop} {Q : Exit → Act → World → Prop} {E : Prop} (hg : o.guard = none) (s x : Operand)
    (ho : o.op = .call { callee := .builtin .append, args := #[s, x], argTypes := #[22, 22] })
    (base : Nat) (v : Value) (l : List UInt8) (n m : Int) (g0 : Nat) (hs : a.eval s = v) (hx : a.eval x = .slice (some ⟨g0, 0, none⟩) 2 2)
    (hown : OwnB w base v l) (hcell : w.cell? ⟨g0, 0, none⟩ = some (.int .u8 n)) (hcell2 : w.cell? ⟨g0, 1, none⟩ = some (.int .u8 m)) (hn : 0 ≤ n ∧ n < 256) (hm : 0 ≤ m ∧ m < 256) (hlen : l.length < 1099511627776) (hbase : base ≤ w.heap.size)
    (h : ∀ v' w', OwnB w' base v' (l ++ [b8 n, b8 m]) → Below base w w' → K (a.put o.dst v') w') :
    if Region.wanted o (yielded ops a.tmps) = true then Oper.wp Tryz.prog o a w K Q else E := by
  have hw : Region.wanted o (yielded ops a.tmps) = true := by simp [Region.wanted, hg]
  rw [if_pos hw]
  obtain ⟨i, hi, hz, hsz, hby⟩ := info_parts info_u8
  refine wp_append_own w s x 22 ho base 5 i (.int .u8 0) 1 1 Tryz.underlying22 hi hz hsz hby rfl (by decide) v l.length (Lib.byteCells l) hs hown
    ⟨g0, 0, none⟩ 2 2 [.int .u8 n, .int .u8 m] hx rfl ?_ ?_ (by unfold maxLen; omega) (by omega) hbase ?_
  · intro j u hj
    match j, hj with
    | 0, hj => simp at hj; subst hj; simpa [Addr.add] using hcell
    | 1, hj => simp at hj; subst hj; simpa [Addr.add] using hcell2
  · intro u hu; simp at hu; rcases hu with rfl | rfl <;> rfl
  · intro v' w' h1 h2 _
    refine h v' w' ?_ ?_
    · unfold OwnB
      have e : Lib.byteCells (l ++ [b8 n, b8 m]) = Lib.byteCells l ++ [.int .u8 n, .int .u8 m] := by simp [Lib.byteCells, b8_val hn.1 hn.2, b8_val hm.1 hm.2]
      rw [e, List.length_append]
      exact h1
    · refine (Below.refl base w).grown h2 hbase ?_
      intro k hk
      rcases hown.2 with ⟨rfl, _⟩ | ⟨g, cap, cur, rfl, hbg, _⟩
      · simp [Value.ownBlock] at hk
      · simp [Value.ownBlock] at hk; omega

/-- Block g begins with the bytes l, none of them frozen. -/
def RowB (w : World) (g : Nat) (l : List UInt8) : Prop :=
  g < w.heap.size ∧ ∀ i (h : i < l.length), w.cell? ⟨g, i, none⟩ = some (.int .u8 (l[i].toNat : Int)) ∧ w.frozen? ⟨g, i, none⟩ = false
theorem RowB.set_ {w : World} {g : Nat} {l : List UInt8} (h : RowB w g l) (i : Nat) {n : Int} (hn : 0 ≤ n ∧ n < 256) : RowB (w.setCell ⟨g, i, none⟩ (.int .u8 n)) g (l.set i (b8 n)) := by
  refine ⟨by simpa [World.setCell] using h.1, fun j hj => ?_⟩
  have hj' : j < l.length := by simpa using hj
  obtain ⟨hc, hf⟩ := h.2 j hj'
  constructor
  · by_cases e : i = j
    · subst e
      rw [World.cell?_setCell_same (h := hc)]
      simp [b8_val hn.1 hn.2]
    · rw [World.cell?_setCell_other _ _ _ _ (by intro h'; exact e (by injection h')), hc]
      simp [List.getElem_set_ne e]
  · rw [World.frozen?_setCell]; exact hf
theorem RowB.below {w w' : World} {g : Nat} {l : List UInt8} (h : RowB w g l) (hb : Below w.heap.size w w') : RowB w' g l :=
  ⟨Nat.lt_of_lt_of_le h.1 hb.size, fun i hi => ⟨(hb.cell (p := ⟨g, i, none⟩) h.1).trans (h.2 i hi).1, (hb.frozen (p := ⟨g, i, none⟩) h.1).trans (h.2 i hi).2⟩⟩
theorem RowB.drew {w : World} {g : Nat} {l : List UInt8} (h : RowB w g l) : RowB w.drew g l := h
theorem RowB.str {w : World} {g : Nat} {l : List UInt8} (h : RowB w g l) (cap n : Nat) (hn : n = l.length) :
    (convert 22 9 (.slice (some ⟨g, 0, none⟩) n cap)).run Tryz.prog w = .ok (.string ⟨l.toArray⟩) w := by
  subst hn
  refine run_convert_bytes_back w _ _ _ ⟨g, 0, none⟩ cap l Tryz.underlying22 Tryz.underlying5 Tryz.underlying9 ?_
  intro j hj
  rw [Addr.add_lit, Nat.zero_add]
  exact (h.2 j hj).1
theorem RowB.bytes (w : World) (s : ByteArray) : RowB (Lib.bytesWorld w 5 s) w.heap.size s.data.toList := by
  refine ⟨by rw [Lib.bytesWorld_size]; omega, fun i hi => ?_⟩
  have hs : i < s.size := by simpa using hi
  constructor
  · rw [Lib.bytesWorld_cell _ _ _ _ hs]
    simp [List.getD, hs]
  · have hsz : i < (Lib.bytesCells w 5 s).size := by
      have : s.data.size = s.size := rfl
      simp [Lib.bytesCells]; omega
    simp [World.frozen?, Lib.bytesWorld_at_new]
    omega
theorem bytesWorld_below (w : World) (e : TypeId) (s : ByteArray) : Below w.heap.size w (Lib.bytesWorld w e s) := by
  refine ⟨?_, ?_, ?_, by rw [Lib.bytesWorld_size]; omega, fun k hk => Lib.bytesWorld_at_old w e s k hk⟩ <;> rfl
theorem conv_str (s : ByteArray) (w : World) : (convert 9 22 (.string s)).run Tryz.prog w = .ok (.slice (some ⟨w.heap.size, 0, none⟩) s.size (grownCap w s.size 0 5)) (Lib.bytesWorld w 5 s) :=
  Lib.run_convert_string_bytes w _ _ _ s Tryz.underlying9 Tryz.underlying22 Tryz.underlying5

/-- 'string([]byte{x})'. -/
theorem conv_one (w : World) (n : Int) (hn : 0 ≤ n ∧ n < 256) :
    (convert 22 9 (.slice (some ⟨w.heap.size, 0, none⟩) 1 1)).run Tryz.prog (w.alloc (.cells #[.int .u8 n] 5)) = .ok (.string ⟨#[b8 n]⟩) (w.alloc (.cells #[.int .u8 n] 5)) := by
  refine run_convert_bytes_back _ _ _ _ ⟨w.heap.size, 0, none⟩ 1 [b8 n] Tryz.underlying22 Tryz.underlying5 Tryz.underlying9 ?_
  intro j hj
  match j, hj with
  | 0, _ => simp [Addr.add, b8_val hn.1 hn.2]

/-- 'string([]byte{x, y})'. -/
theorem conv_two (w : World) (n m : Int) (hn : 0 ≤ n ∧ n < 256) (hm : 0 ≤ m ∧ m < 256) :
    (convert 22 9 (.slice (some ⟨w.heap.size, 0, none⟩) 2 2)).run Tryz.prog (w.alloc (.cells #[.int .u8 n, .int .u8 m] 5)) = .ok (.string ⟨#[b8 n, b8 m]⟩) (w.alloc (.cells #[.int .u8 n, .int .u8 m] 5)) := by
  refine run_convert_bytes_back _ _ _ _ ⟨w.heap.size, 0, none⟩ 2 [b8 n, b8 m] Tryz.underlying22 Tryz.underlying5 Tryz.underlying9 ?_
  intro j hj
  match j, hj with
  | 0, _ => simp [Addr.add, b8_val hn.1 hn.2]
  | 1, _ => simp [Addr.add, b8_val hm.1 hm.2]

/-- Steps put together. -/
theorem below_st {B : Nat} {w w1 w2 : World} (h : Below B w w1) (h2 : Below w1.heap.size w1 w2) (hB : B ≤ w.heap.size) : Below B w w2 := h.trans (h2.mono (Nat.le_trans hB h.size))
theorem below_al {B : Nat} {w w1 w2 : World} {o : Obj} (h : Below B w w1) (h2 : Below (w1.alloc o).heap.size (w1.alloc o) w2) (hB : B ≤ w.heap.size) : Below B w w2 := below_st (h.alloc (Nat.le_trans hB h.size) o) h2 hB
theorem cells2_set {w : World} {g : Nat} {a b : Value} (h0 : w.cell? ⟨g, 0, none⟩ = some a) (h1 : w.cell? ⟨g, 1, none⟩ = some b) :
    (∀ x, (w.setCell ⟨g, 0, none⟩ x).cell? ⟨g, 0, none⟩ = some x) ∧ (∀ x y, ((w.setCell ⟨g, 0, none⟩ x).setCell ⟨g, 1, none⟩ y).cell? ⟨g, 1, none⟩ = some y) := by
  refine ⟨fun x => World.cell?_setCell_same _ _ _ h0, fun x y => ?_⟩
  exact World.cell?_setCell_same _ _ _ ((World.cell?_setCell_other w ⟨g, 0, none⟩ ⟨g, 1, none⟩ x (by intro h'; injection h' with _ h2; cases h2)).trans h1)
/-- A region that draws, reads and calls quietly, and ends in a forced tail: walked in a world that is named. -/
theorem still_tail2 {P : Program} {id : Nat} {Q : Exit → Act → World → Prop} {a : Act} {w : World} {l : List Oper} (n : Nat) (hm : P.follows .mixedOrders = true) (hB : Region.lexTailB .any l.toArray n = true)
    (h : ∀ w' : World, Below w.heap.size w w' → w'.heap.size = w.heap.size → (∀ b o, w'.cell? ⟨b, o, none⟩ = w.cell? ⟨b, o, none⟩) → (∀ b o, w'.frozen? ⟨b, o, none⟩ = w.frozen? ⟨b, o, none⟩) →
      wpStill P l.toArray w' (fun a' => wpList P l.toArray Q (l.drop n) a' w') (l.take n) a) : (Code.region id l.toArray true).wp P Q a w :=
  wp_region_still_tail n hm hB (h { w with drawn := w.drawn + 1 } ⟨rfl, rfl, rfl, Nat.le_refl _, fun _ _ => rfl⟩ rfl (fun _ _ => rfl) (fun _ _ => rfl))
theorem cells2_aside {w : World} {g g' : Nat} {a b : Value} (hne : g ≠ g') (h0 : w.cell? ⟨g, 0, none⟩ = some a) (h1 : w.cell? ⟨g, 1, none⟩ = some b) (x y : Value) :
    ((w.setCell ⟨g', 0, none⟩ x).setCell ⟨g', 1, none⟩ y).cell? ⟨g, 0, none⟩ = some a ∧ ((w.setCell ⟨g', 0, none⟩ x).setCell ⟨g', 1, none⟩ y).cell? ⟨g, 1, none⟩ = some b := by
  constructor
  · rw [World.cell?_setCell_other _ _ _ _ (by intro h'; injection h' with h2; exact hne h2.symm), World.cell?_setCell_other _ _ _ _ (by intro h'; injection h' with h2; exact hne h2.symm), h0]
  · rw [World.cell?_setCell_other _ _ _ _ (by intro h'; injection h' with h2; exact hne h2.symm), World.cell?_setCell_other _ _ _ _ (by intro h'; injection h' with h2; exact hne h2.symm), h1]
theorem cells2_set_al {w : World} {g : Nat} {a b : Value} (hg : g < w.heap.size) (h0 : w.cell? ⟨g, 0, none⟩ = some a) (h1 : w.cell? ⟨g, 1, none⟩ = some b) :
    (∀ x y o, (((w.setCell ⟨g, 0, none⟩ x).setCell ⟨g, 1, none⟩ y).alloc o).cell? ⟨g, 0, none⟩ = some x) ∧ (∀ x y o, (((w.setCell ⟨g, 0, none⟩ x).setCell ⟨g, 1, none⟩ y).alloc o).cell? ⟨g, 1, none⟩ = some y) := by
  obtain ⟨e0, e1⟩ := cells2_set h0 h1
  have hs : ∀ x y, g < ((w.setCell ⟨g, 0, none⟩ x).setCell ⟨g, 1, none⟩ y).heap.size := fun x y => by simpa [World.setCell] using hg
  refine ⟨fun x y o => ?_, fun x y o => ?_⟩
  · rw [((Below.refl _ _).alloc (Nat.le_refl _) o).cell (p := ⟨g, 0, none⟩) (hs x y), World.cell?_setCell_other _ _ _ _ (by intro h'; injection h' with _ h2; cases h2)]
    exact e0 x
  · rw [((Below.refl _ _).alloc (Nat.le_refl _) o).cell (p := ⟨g, 1, none⟩) (hs x y)]
    exact e1 x y
end Go.Proofs.YtfdcainjppljhaaGreatDoor
namespace Go.Proofs.YtfdcainjppljhaaGreatDoor
open Go.RowKit
theorem info_i64 : (Tryz.prog.info? 2).map (fun i => (i.zero, i.size, i.bytes)) = some (some (.int .i64 0), 1, 8) := by kernel_rfl
/-- The elements of a slice with the data pointer p are the numbers l. -/
def IntsAt (w : World) (p : Option Addr) (l : List Int) : Prop :=
  l ≠ [] → ∃ a, p = some a ∧ a.block < w.heap.size ∧ ∀ i (h : i < l.length), w.cell? (a.add i) = some (.int .i64 (l[i]))
theorem IntsAt.nil (w : World) (p : Option Addr) : IntsAt w p [] := fun h => absurd rfl h
theorem IntsAt.below {w w' : World} {p : Option Addr} {l : List Int} (h : IntsAt w p l) (hb : Below w.heap.size w w') : IntsAt w' p l := by
  intro hne
  obtain ⟨a, ha, hlt, hc⟩ := h hne
  refine ⟨a, ha, Nat.lt_of_lt_of_le hlt hb.size, fun i hi => ?_⟩
  rw [hb.cell (p := a.add i) (by rw [Go.ChangeShapes.block_add]; exact hlt)]
  exact hc i hi
theorem IntsAt.drew {w : World} {p : Option Addr} {l : List Int} (h : IntsAt w p l) : IntsAt w.drew p l := h
theorem IntsAt.drewN {w : World} {p : Option Addr} {l : List Int} (h : IntsAt w p l) (n : Nat) : IntsAt (w.drewN n) p l := h
theorem IntsAt.alloc {w : World} {p : Option Addr} {l : List Int} (h : IntsAt w p l) (o : Obj) : IntsAt (w.alloc o) p l := h.below ((Below.refl _ _).alloc (Nat.le_refl _) o)
/-- A store aside of it. -/
theorem IntsAt.aside {w : World} {p : Option Addr} {l : List Int} (h : IntsAt w p l) {B : Nat} {w' : World} (hp : ∀ a, p = some a → a.block < B) (hb : Below B w w') : IntsAt w' p l := by
  intro hne
  obtain ⟨a, ha, hlt, hc⟩ := h hne
  refine ⟨a, ha, Nat.lt_of_lt_of_le hlt hb.size, fun i hi => ?_⟩
  rw [hb.cell (p := a.add i) (by rw [Go.ChangeShapes.block_add]; exact hp a ha)]
  exact hc i hi
theorem IntsAt.at_ {w : World} {p : Option Addr} {l : List Int} (h : IntsAt w p l) {k : Nat} (hk : k < l.length) : ∃ a, p = some a ∧ w.cell? (a.add k) = some (.int .i64 (l[k])) := by
  obtain ⟨a, ha, _, hc⟩ := h (by intro e; rw [e] at hk; exact absurd hk (Nat.not_lt_zero k))
  exact ⟨a, ha, hc k hk⟩
/-- Block g begins with the numbers l, none of them frozen. -/
def RowI (w : World) (g : Nat) (l : List Int) : Prop :=
  g < w.heap.size ∧ ∀ i (h : i < l.length), w.cell? ⟨g, i, none⟩ = some (.int .i64 (l[i])) ∧ w.frozen? ⟨g, i, none⟩ = false
theorem RowI.ints {w : World} {g : Nat} {l : List Int} (h : RowI w g l) : IntsAt w (some ⟨g, 0, none⟩) l := by
  intro _
  refine ⟨_, rfl, h.1, fun i hi => ?_⟩
  rw [Addr.add_lit, Nat.zero_add]
  exact (h.2 i hi).1
theorem RowI.cell {w : World} {g : Nat} {l : List Int} (h : RowI w g l) {k : Nat} (hk : k < l.length) : w.cell? ⟨g, k, none⟩ = some (.int .i64 (l[k])) ∧ w.frozen? ⟨g, k, none⟩ = false := h.2 k hk
theorem RowI.below {w w' : World} {g : Nat} {l : List Int} (h : RowI w g l) (hb : Below w.heap.size w w') : RowI w' g l :=
  ⟨Nat.lt_of_lt_of_le h.1 hb.size, fun i hi => ⟨(hb.cell (p := ⟨g, i, none⟩) h.1).trans (h.2 i hi).1, (hb.frozen (p := ⟨g, i, none⟩) h.1).trans (h.2 i hi).2⟩⟩
theorem RowI.aside {w w' : World} {g B : Nat} {l : List Int} (h : RowI w g l) (hg : g < B) (hb : Below B w w') : RowI w' g l :=
  ⟨Nat.lt_of_lt_of_le h.1 hb.size, fun i hi => ⟨(hb.cell (p := ⟨g, i, none⟩) hg).trans (h.2 i hi).1, (hb.frozen (p := ⟨g, i, none⟩) hg).trans (h.2 i hi).2⟩⟩
theorem RowI.drew {w : World} {g : Nat} {l : List Int} (h : RowI w g l) : RowI w.drew g l := h
theorem RowI.drewN {w : World} {g : Nat} {l : List Int} (h : RowI w g l) (n : Nat) : RowI (w.drewN n) g l := h
theorem RowI.alloc {w : World} {g : Nat} {l : List Int} (h : RowI w g l) (o : Obj) : RowI (w.alloc o) g l := h.below ((Below.refl _ _).alloc (Nat.le_refl _) o)
theorem RowI.lt {w : World} {g : Nat} {l : List Int} (h : RowI w g l) : g < w.heap.size := h.1
theorem RowI.set_ {w : World} {g : Nat} {l : List Int} (h : RowI w g l) (i : Nat) (n : Int) : RowI (w.setCell ⟨g, i, none⟩ (.int .i64 n)) g (l.set i n) := by
  refine ⟨by simpa [World.setCell] using h.1, fun j hj => ?_⟩
  have hj' : j < l.length := by simpa using hj
  obtain ⟨hc, hf⟩ := h.2 j hj'
  constructor
  · by_cases e : i = j
    · subst e
      rw [World.cell?_setCell_same (h := hc)]
      simp
    · rw [World.cell?_setCell_other _ _ _ _ (by intro h'; exact e (by injection h')), hc]
      simp [List.getElem_set_ne e]
  · rw [World.frozen?_setCell]; exact hf
/-- A store to a row that is laid behind. -/
theorem RowI.off {w : World} {g g' : Nat} {l : List Int} (h : RowI w g l) (hne : g ≠ g') (i : Nat) (v : Value) : RowI (w.setCell ⟨g', i, none⟩ v) g l := by
  refine ⟨by simpa [World.setCell] using h.1, fun j hj => ?_⟩
  obtain ⟨hc, hf⟩ := h.2 j hj
  exact ⟨(World.cell?_setCell_other _ _ _ _ (by intro h'; injection h' with h2; exact hne h2.symm)).trans hc, by rw [World.frozen?_setCell]; exact hf⟩
theorem IntsAt.off {w : World} {a : Addr} {l : List Int} (h : IntsAt w (some a) l) {g' : Nat} (hne : a.block ≠ g') (i : Nat) (v : Value) : IntsAt (w.setCell ⟨g', i, none⟩ v) (some a) l := by
  intro hl
  obtain ⟨b, hb, hlt, hc⟩ := h hl
  cases hb
  refine ⟨a, rfl, by simpa [World.setCell] using hlt, fun j hj => ?_⟩
  rw [World.cell?_setCell_other _ _ _ _ (by intro h'; have := congrArg Addr.block h'; rw [Go.ChangeShapes.block_add] at this; exact hne this.symm)]
  exact hc j hj
/-- What make lays. -/
theorem RowI.made (w : World) (n : Nat) : RowI (w.alloc (.cells (madeCells #[.int .i64 0] n) 2)) w.heap.size (List.replicate n 0) := by
  have B := Blk.new w 2 (madeCells #[.int .i64 0] n)
  refine ⟨B.lt, fun i hi => ⟨?_, B.frozen i⟩⟩
  rw [B.cell i]
  have hi' : i < n := by simpa using hi
  simp [madeCells, hi', Nat.mod_one]
theorem make_ints (n : Nat) (hn : n ≤ 2097152) (w : World) : (Instr.makeSlice 26 (.int .i64 (n : Int)) (.int .i64 (n : Int))).run Tryz.prog w = .ok (.slice (some ⟨w.heap.size, 0, none⟩) n n) (w.alloc (.cells (madeCells #[.int .i64 0] n) 2)) :=
  run_make_row' (P := Tryz.prog) 26 2 (.int .i64 0) 8 Tryz.underlying26 info_i64 rfl .i64 .i64 n (by omega) (by omega) w

/-- A slice of int64 of the call's own that holds l. -/
def OwnI (w : World) (base : Nat) (v : Value) (l : List Int) : Prop := w.ownsRow base 2 1 v l.length (l.map (Value.int .i64))
theorem OwnI.below {w w' : World} {base : Nat} {v : Value} {l : List Int} (h : OwnI w base v l) (hb : Below w.heap.size w w') : OwnI w' base v l := by
  obtain ⟨h1, h2⟩ := h
  refine ⟨h1, ?_⟩
  rcases h2 with h2 | ⟨g, cap, cur, hv, hg, hh, r⟩
  · exact .inl h2
  · refine .inr ⟨g, cap, cur, hv, hg, ?_, r⟩
    rw [hb.block g]
    · exact hh
    · rcases Nat.lt_or_ge g w.heap.size with hlt | hge
      · exact hlt
      · rw [Array.getElem?_eq_none hge] at hh; cases hh
theorem OwnI.mono {w : World} {base base' : Nat} {v : Value} {l : List Int} (h : OwnI w base v l) (hb : base' ≤ base) : OwnI w base' v l := by
  obtain ⟨h1, h2⟩ := h
  refine ⟨h1, ?_⟩
  rcases h2 with h2 | ⟨g, cap, cur, hv, hg, r⟩
  · exact .inl h2
  · exact .inr ⟨g, cap, cur, hv, by omega, r⟩
theorem OwnI.alloc {w : World} {base : Nat} {v : Value} {l : List Int} (h : OwnI w base v l) (o : Obj) : OwnI (w.alloc o) base v l :=
  h.below ((Below.refl _ _).alloc (Nat.le_refl _) o)
theorem OwnI.nil0 (w : World) : OwnI (w.alloc (.cells #[] 2)) w.heap.size (.slice (some ⟨w.heap.size, 0, none⟩) 0 0) [] := by
  refine ⟨rfl, .inr ⟨w.heap.size, 0, #[], rfl, Nat.le_refl _, Blk.new _ _ _, Nat.le_refl _, Nat.zero_le _, rfl, rfl⟩⟩
theorem OwnI.none_ (w : World) (base : Nat) : OwnI w base (.slice none 0 0) [] := ⟨rfl, .inl ⟨rfl, rfl⟩⟩
theorem OwnI.drew {w : World} {base : Nat} {v : Value} {l : List Int} (h : OwnI w base v l) : OwnI w.drew base v l := h
theorem OwnI.drewN {w : World} {base : Nat} {v : Value} {l : List Int} (h : OwnI w base v l) (n : Nat) : OwnI (w.drewN n) base v l := h
/-- Such a slice, read. -/
def OwnS (w : World) (base : Nat) (p : Option Addr) (l : List Int) : Prop := l ≠ [] → ∃ g, p = some ⟨g, 0, none⟩ ∧ base ≤ g ∧ RowI w g l
theorem OwnI.open_ {w : World} {base : Nat} {v : Value} {l : List Int} (h : OwnI w base v l) : ∃ p cap, v = .slice p l.length cap ∧ OwnS w base p l := by
  rcases h.2 with ⟨rfl, hn⟩ | ⟨g, cap, cur, rfl, hbg, hh, _, hsz, _, ht⟩
  · have hl : l = [] := List.eq_nil_of_length_eq_zero hn
    subst hl
    exact ⟨none, 0, rfl, fun h => absurd rfl h⟩
  · refine ⟨_, cap, rfl, fun _ => ⟨g, rfl, hbg, ?_⟩⟩
    have B : Blk w g 2 cur := hh
    refine ⟨B.lt, fun i hi => ⟨?_, B.frozen i⟩⟩
    rw [B.cell i]
    have h1 := congrArg (fun (x : List Value) => x[i]?) ht
    simp only [Nat.mul_one] at h1
    rw [List.getElem?_take_of_lt hi] at h1
    rw [← Array.getElem?_toList, h1]
    simp [hi]
theorem OwnS.ints {w : World} {base : Nat} {p : Option Addr} {l : List Int} (h : OwnS w base p l) : IntsAt w p l := by
  intro hl
  obtain ⟨g, rfl, _, hr⟩ := h hl
  exact hr.ints hl
theorem OwnS.below {w w' : World} {base : Nat} {p : Option Addr} {l : List Int} (h : OwnS w base p l) (hb : Below w.heap.size w w') : OwnS w' base p l := by
  intro hl
  obtain ⟨g, rfl, hg, hr⟩ := h hl
  exact ⟨g, rfl, hg, hr.below hb⟩
theorem OwnS.mono {w : World} {base base' : Nat} {p : Option Addr} {l : List Int} (h : OwnS w base p l) (hb : base' ≤ base) : OwnS w base' p l := by
  intro hl
  obtain ⟨g, hp, hg, hr⟩ := h hl
  exact ⟨g, hp, Nat.le_trans hb hg, hr⟩
theorem OwnS.of_row {w : World} {base g : Nat} {l : List Int} (h : RowI w g l) (hg : base ≤ g) : OwnS w base (some ⟨g, 0, none⟩) l := fun _ => ⟨g, rfl, hg, h⟩
theorem OwnS.nil_ (w : World) (base : Nat) (p : Option Addr) : OwnS w base p [] := fun h => absurd rfl h

/-- 'b = append(b, x)'. -/
theorem append_int {ops : Array Oper} {rest : List Oper} {o : Oper} {a : Act} {Q : Exit → Act → World → Prop} (w : World) (hg : o.guard = none) (s x : Operand)
    (ho : o.op = .call { callee := .builtin .append, args := #[s, x], argTypes := #[26, 26] })
    (base : Nat) (v : Value) (l : List Int) (n : Int) (hs : a.eval s = v) (hx : a.eval x = .slice (some ⟨w.heap.size, 0, none⟩) 1 1)
    (hown : OwnI w base v l) (hlen : l.length < 10000000) (hbase : base ≤ w.heap.size)
    (h : ∀ v' w', OwnI w' base v' (l ++ [n]) → Below base w w' → wpList Tryz.prog ops Q rest (a.put o.dst v') w') :
    wpList Tryz.prog ops Q (o :: rest) a (w.alloc (.cells #[.int .i64 n] 2)) := by
  obtain ⟨i, hi, hz, hsz, hby⟩ := info_parts info_i64
  refine wpList_append_own _ hg s x 26 ho base 2 i (.int .i64 0) 1 8 Tryz.underlying26 hi hz hsz hby rfl (by decide) v l.length (l.map (Value.int .i64)) hs (hown.alloc _)
    ⟨w.heap.size, 0, none⟩ 1 1 [.int .i64 n] hx rfl ?_ ?_ (by unfold maxLen; omega) (by omega) (by simp; omega) ?_
  · intro j u hj
    match j, hj with
    | 0, hj => simp at hj; subst hj; simp [Addr.add]
  · intro u hu; simp at hu; subst hu; rfl
  · intro v' w' h1 h2 _
    refine h v' w' ?_ ?_
    · unfold OwnI
      rw [List.map_append, List.length_append]
      exact h1
    · refine ((Below.refl base w).alloc hbase _).grown h2 (by simp; omega) ?_
      intro k hk
      rcases hown.2 with ⟨rfl, _⟩ | ⟨g, cap, cur, rfl, hbg, _⟩
      · simp [Value.ownBlock] at hk
      · simp [Value.ownBlock] at hk; omega
/-- The same as a step of a region that draws its order. -/
theorem step_append_int {ops : Array Oper} {o : Oper} {a : Act} {w : World} {K : Act → World → Prop} {Q : Exit → Act → World → Prop} {E : Prop} (hg : o.guard = none) (s x : Operand)
    (ho : o.op = .call { callee := .builtin .append, args := #[s, x], argTypes := #[26, 26] })
    (base : Nat) (v : Value) (l : List Int) (n : Int) (g0 : Nat) (hs : a.eval s = v) (hx : a.eval x = .slice (some ⟨g0, 0, none⟩) 1 1)
    (hown : OwnI w base v l) (hcell : w.cell? ⟨g0, 0, none⟩ = some (.int .i64 n)) (hlen : l.length < 10000000) (hbase : base ≤ w.heap.size)
    (h : ∀ v' w', OwnI w' base v' (l ++ [n]) → Below base w w' → K (a.put o.dst v') w') :
    if Region.wanted o (yielded ops a.tmps) = true then Oper.wp Tryz.prog o a w K Q else E := by
  have hw : Region.wanted o (yielded ops a.tmps) = true := by simp [Region.wanted, hg]
  rw [if_pos hw]
  obtain ⟨i, hi, hz, hsz, hby⟩ := info_parts info_i64
  refine wp_append_own w s x 26 ho base 2 i (.int .i64 0) 1 8 Tryz.underlying26 hi hz hsz hby rfl (by decide) v l.length (l.map (Value.int .i64)) hs hown
    ⟨g0, 0, none⟩ 1 1 [.int .i64 n] hx rfl ?_ ?_ (by unfold maxLen; omega) (by omega) hbase ?_
  · intro j u hj
    match j, hj with
    | 0, hj => simp at hj; subst hj; simpa [Addr.add] using hcell
  · intro u hu; simp at hu; subst hu; rfl
  · intro v' w' h1 h2 _
    refine h v' w' ?_ ?_
    · unfold OwnI
      rw [List.map_append, List.length_append]
      exact h1
    · refine (Below.refl base w).grown h2 hbase ?_
      intro k hk
      rcases hown.2 with ⟨rfl, _⟩ | ⟨g, cap, cur, rfl, hbg, _⟩
      · simp [Value.ownBlock] at hk
      · simp [Value.ownBlock] at hk; omega
end Go.Proofs.YtfdcainjppljhaaGreatDoor
namespace Go.Proofs.YtfdcainjppljhaaGreatDoor
theorem sumI_snoc (l : List Int) (x : Int) : (l ++ [x]).sum = l.sum + x := by simp
theorem takeI_snoc {l : List Int} {k : Nat} (h : k < l.length) : l.take (k + 1) = l.take k ++ [l[k]] := List.take_succ_eq_append_getElem h
theorem sumI_take {l : List Int} {k : Nat} (h : k < l.length) : (l.take (k + 1)).sum = (l.take k).sum + l[k] := by rw [takeI_snoc h, sumI_snoc]
theorem sumI_bd {l : List Int} {lo hi : Int} (h : ∀ x ∈ l, lo ≤ x ∧ x ≤ hi) : lo * l.length ≤ l.sum ∧ l.sum ≤ hi * l.length := by
  induction l with
  | nil => simp
  | cons a l ih =>
    have h1 := h a (by simp)
    have h2 := ih (fun x hx => h x (by simp [hx]))
    rw [List.sum_cons, List.length_cons, show ((l.length + 1 : Nat) : Int) = (l.length : Int) + 1 from rfl, Int.mul_add, Int.mul_add]
    omega
/-- A row that is filled from the left. -/
def fillP (m : List Int) (k : Nat) : List Int := m.take k ++ List.replicate (m.length - k) 0
theorem fillP_len {m : List Int} {k : Nat} (h : k ≤ m.length) : (fillP m k).length = m.length := by simp [fillP]; omega
theorem fillP_zero (m : List Int) : fillP m 0 = List.replicate m.length 0 := by simp [fillP]
theorem fillP_all {m : List Int} {k : Nat} (h : m.length ≤ k) : fillP m k = m := by simp [fillP, List.take_of_length_le h]; omega
theorem fillP_set {m : List Int} {k : Nat} (h : k < m.length) : (fillP m k).set k (m[k]) = fillP m (k + 1) := by
  have hl : (m.take k).length = k := by simp; omega
  unfold fillP
  rw [List.set_append_right _ _ (by omega), hl, Nat.sub_self, show m.length - k = (m.length - (k + 1)) + 1 by omega, List.replicate_succ, List.set_cons_zero, takeI_snoc h, List.append_assoc]
  rfl
/-- Running sums that begin with t. -/
def chgL (t : Int) : List Int → List Int
  | [] => []
  | x :: l => t :: chgL (t + x) l
theorem chgL_len (t : Int) (l : List Int) : (chgL t l).length = l.length := by
  induction l generalizing t with
  | nil => rfl
  | cons a l ih => simp [chgL, ih]
theorem chgL_at (t : Int) (l : List Int) (k : Nat) (h : k < (chgL t l).length) : (chgL t l)[k] = t + (l.take k).sum := by
  induction l generalizing t k with
  | nil => simp [chgL] at h
  | cons a l ih =>
    cases k with
    | zero => simp [chgL]
    | succ k =>
      simp only [chgL, List.getElem_cons_succ, List.take_succ_cons, List.sum_cons]
      rw [ih]
      omega
theorem chgL_take (t : Int) (l : List Int) (k : Nat) : chgL t (l.take k) = (chgL t l).take k := by
  induction l generalizing t k with
  | nil => simp [chgL]
  | cons a l ih =>
    cases k with
    | zero => simp [chgL]
    | succ k => simp [chgL, ih]
theorem chgL_snoc (t : Int) (l : List Int) (x : Int) : chgL t (l ++ [x]) = chgL t l ++ [t + l.sum] := by
  induction l generalizing t with
  | nil => simp [chgL]
  | cons a l ih =>
    simp only [chgL, List.cons_append, List.sum_cons]
    rw [ih]
    simp [Int.add_assoc]
/-- Every gap is in its bounds. -/
def gapsIn (l : List Int) : Bool := l.all fun x => inB x 1 2000000
theorem gapsIn_snoc (l : List Int) (x : Int) : gapsIn (l ++ [x]) = (gapsIn l && inB x 1 2000000) := by simp [gapsIn]
theorem gapsIn_mem {l : List Int} (h : gapsIn l = true) : ∀ x ∈ l, 1 ≤ x ∧ x ≤ 2000000 := by
  intro x hx
  have := List.all_eq_true.1 h x hx
  exact inB_iff.1 this
theorem gapsIn_take {l : List Int} (h : gapsIn l = true) (k : Nat) : gapsIn (l.take k) = true := by
  unfold gapsIn at *
  rw [List.all_eq_true] at *
  exact fun x hx => h x (List.mem_of_mem_take hx)
theorem gapsIn_no {l : List Int} {k : Nat} (hk : k < l.length) (h : inB (l[k]) 1 2000000 = false) : gapsIn l = false := by
  cases hg : gapsIn l
  · rfl
  · rw [inB_yes (gapsIn_mem hg _ (List.getElem_mem hk))] at h; cases h
theorem gapsIn_sum {l : List Int} (h : gapsIn l = true) : 0 ≤ l.sum ∧ l.sum ≤ 2000000 * l.length ∧ l.length ≤ l.sum := by
  have := sumI_bd (gapsIn_mem h)
  omega
/-- The flux is valid. -/
def fluxOk (c f : Int) (l : List Int) : Bool := inB c 4 200 && (decide (1 ≤ l.length) && (decide (l.length ≤ 4000) && (gapsIn l && (decide (l.sum ≤ 2000000) && inB f 0 (l.getLastD 0 - 1)))))
theorem fluxOk_iff {c f : Int} {l : List Int} : fluxOk c f l = true ↔ (4 ≤ c ∧ c ≤ 200) ∧ 1 ≤ l.length ∧ l.length ≤ 4000 ∧ gapsIn l = true ∧ l.sum ≤ 2000000 ∧ 0 ≤ f ∧ f ≤ l.getLastD 0 - 1 := by
  simp [fluxOk, inB]
theorem lastD_at {l : List Int} {n : Nat} (hn : n + 1 = l.length) : l[n] = l.getLastD 0 := by
  have hne : l ≠ [] := by intro e; rw [e] at hn; simp at hn
  rw [List.getLastD_eq_getLast?, List.getLast?_eq_some_getLast hne, Option.getD_some, List.getLast_eq_getElem]
  congr 1
  omega
theorem lastD_mem {l : List Int} (h : 1 ≤ l.length) : l.getLastD 0 ∈ l := by
  have := lastD_at (l := l) (n := l.length - 1) (by omega)
  rw [← this]
  exact List.getElem_mem _
/-- Bounds of valid flux. -/
theorem fluxOk_bd {c f : Int} {l : List Int} (h : fluxOk c f l = true) : (4 ≤ c ∧ c ≤ 200) ∧ (1 ≤ l.length ∧ l.length ≤ 4000) ∧ (∀ x ∈ l, 1 ≤ x ∧ x ≤ 2000000) ∧ (∀ k, 0 ≤ (l.take k).sum ∧ (l.take k).sum ≤ 2000000) ∧ (0 ≤ f ∧ f ≤ 1999999) ∧ (0 ≤ l.sum ∧ l.sum ≤ 2000000) := by
  obtain ⟨h1, h2, h3, h4, h5, h6, h7⟩ := fluxOk_iff.1 h
  have hm := gapsIn_mem h4
  have hl := hm _ (lastD_mem h2)
  have h8 := (gapsIn_sum h4)
  refine ⟨h1, ⟨h2, h3⟩, hm, fun k => ?_, ⟨h6, by omega⟩, h8.1, h5⟩
  have ha := gapsIn_sum (gapsIn_take h4 k)
  have hd : 0 ≤ (l.drop k).sum := by
    have := sumI_bd (l := l.drop k) (lo := 0) (hi := 2000000) (fun x hx => by have := hm x (List.mem_of_mem_drop hx); omega)
    omega
  have hs : l.sum = (l.take k).sum + (l.drop k).sum := by rw [← List.sum_append, List.take_append_drop]
  omega
end Go.Proofs.YtfdcainjppljhaaGreatDoor
namespace Go.Proofs.YtfdcainjppljhaaGreatDoor
open Go.RowKit
/-- A struct of three cells stored whole, behind a store elsewhere. -/
theorem cells3_after {w : World} {g : Nat} {a b c : Value} (h0 : w.cell? ⟨g, 0, none⟩ = some a) (h1 : w.cell? ⟨g, 1, none⟩ = some b) (h2 : w.cell? ⟨g, 2, none⟩ = some c) (k : Nat) (hk : k ≠ g) :
    (∀ o u x y z, ((((w.setCell ⟨k, o, none⟩ u).setCell ⟨g, 0, none⟩ x).setCell ⟨g, 1, none⟩ y).setCell ⟨g, 2, none⟩ z).cell? ⟨g, 0, none⟩ = some x) ∧
    (∀ o u x y z, ((((w.setCell ⟨k, o, none⟩ u).setCell ⟨g, 0, none⟩ x).setCell ⟨g, 1, none⟩ y).setCell ⟨g, 2, none⟩ z).cell? ⟨g, 1, none⟩ = some y) ∧
    (∀ o u x y z, ((((w.setCell ⟨k, o, none⟩ u).setCell ⟨g, 0, none⟩ x).setCell ⟨g, 1, none⟩ y).setCell ⟨g, 2, none⟩ z).cell? ⟨g, 2, none⟩ = some z) := by
  have n1 : ∀ o m, (⟨k, o, none⟩ : Addr) ≠ ⟨g, m, none⟩ := fun o m h => hk (by injection h)
  have n2 : ∀ m n, m ≠ n → (⟨g, m, none⟩ : Addr) ≠ ⟨g, n, none⟩ := fun m n hmn h => hmn (by injection h)
  refine ⟨fun o u x y z => ?_, fun o u x y z => ?_, fun o u x y z => ?_⟩
  · rw [World.cell?_setCell_other _ _ _ _ (n2 2 0 (by decide)), World.cell?_setCell_other _ _ _ _ (n2 1 0 (by decide))]
    exact World.cell?_setCell_same _ _ _ ((World.cell?_setCell_other _ _ _ _ (n1 o 0)).trans h0)
  · rw [World.cell?_setCell_other _ _ _ _ (n2 2 1 (by decide))]
    exact World.cell?_setCell_same _ _ _ ((World.cell?_setCell_other _ _ _ _ (n2 0 1 (by decide))).trans ((World.cell?_setCell_other _ _ _ _ (n1 o 1)).trans h1))
  · exact World.cell?_setCell_same _ _ _ ((World.cell?_setCell_other _ _ _ _ (n2 1 2 (by decide))).trans ((World.cell?_setCell_other _ _ _ _ (n2 0 2 (by decide))).trans ((World.cell?_setCell_other _ _ _ _ (n1 o 2)).trans h2)))
/-- What is left of a size. -/
def szL (left : Int) (n : Nat) : Int := if left < n then -1 else left - n
/-- What is kept while a copy is compared with a new copy. -/
theorem keepF {b k : Nat} {c f c' f' : Value} {p : Option Addr} {q : Option Addr} {l : List Int} {v v' : Value} {w w' : World}
    (h : (b < w.heap.size ∧ w.cell? ⟨b, 0, none⟩ = some c ∧ w.cell? ⟨b, 1, none⟩ = some f ∧ w.cell? ⟨b, 2, none⟩ = some v) ∧ (k < w.heap.size ∧ w.cell? ⟨k, 0, none⟩ = some c' ∧ w.cell? ⟨k, 1, none⟩ = some f' ∧ w.cell? ⟨k, 2, none⟩ = some v') ∧ IntsAt w p l ∧ IntsAt w q l) (hb : Below w.heap.size w w') :
    (b < w'.heap.size ∧ w'.cell? ⟨b, 0, none⟩ = some c ∧ w'.cell? ⟨b, 1, none⟩ = some f ∧ w'.cell? ⟨b, 2, none⟩ = some v) ∧ (k < w'.heap.size ∧ w'.cell? ⟨k, 0, none⟩ = some c' ∧ w'.cell? ⟨k, 1, none⟩ = some f' ∧ w'.cell? ⟨k, 2, none⟩ = some v') ∧ IntsAt w' p l ∧ IntsAt w' q l := by
  obtain ⟨⟨h0, h1, h2, h3⟩, ⟨g0, g1, g2, g3⟩, hp, hq⟩ := h
  obtain ⟨hc, -⟩ := bcell hb
  have := hb.size
  exact ⟨⟨by omega, (hc b 0 h0).trans h1, (hc b 1 h0).trans h2, (hc b 2 h0).trans h3⟩, ⟨by omega, (hc k 0 g0).trans g1, (hc k 1 g0).trans g2, (hc k 2 g0).trans g3⟩, hp.below hb, hq.below hb⟩
end Go.Proofs.YtfdcainjppljhaaGreatDoor
namespace Go.Proofs.YtfdcainjppljhaaGreatDoor
open Go.RowKit
theorem within_q (x lo hi : Int) (w : World) (n : Nat) :
    Calls Tryz.prog 22 #[.int .i64 x, .int .i64 lo, .int .i64 hi] (w.drewN n) fun e w'' => e = .returned (.bool (inB x lo hi)) ∧ ∃ m, w'' = w.drewN m :=
  (within_any x lo hi _).mono fun _ _ ⟨he, hw⟩ => ⟨he, n, hw.symm⟩
theorem l00In_q (x lo hi : Int) (w : World) (n : Nat) :
    Calls Tryz.prog 38 #[.int .i64 x, .int .i64 lo, .int .i64 hi] (w.drewN n) fun e w'' => e = .returned (.bool (inB x lo hi)) ∧ ∃ m, w'' = w.drewN m :=
  (l00In_any x lo hi _).mono fun _ _ ⟨he, hw⟩ => ⟨he, n, hw.symm⟩
set_option maxHeartbeats 1000000 in
set_option maxRecDepth 20000 in
theorem impl_ValidFlux (c f : Int) (p : Option Addr) (l : List Int) (cap : Nat) (w : World) (hI : IntsAt w p l) (hl : l.length ≤ 1048576) :
    Calls Tryz.prog 24 #[.agg #[.int .i64 c, .int .i64 f, .slice p l.length cap]] w fun e w' => e = .returned (.bool (fluxOk c f l)) ∧ Below w.heap.size w w' := by
  by_cases hg : inB c 4 200 = true ∧ 1 ≤ l.length ∧ l.length ≤ 4000
  · obtain ⟨hc, h1, h2⟩ := hg
    have hd1 : decide ((l.length : Int) < 1) = false := by simp; omega
    have hd2 : decide (4000 < (l.length : Int)) = false := by simp; omega
    have HC := Lib.hid hc
    have H1 := Lib.hid h1
    have H2 := Lib.hid h2
    clear hc h1 h2
    go_enter Tryz.func24, Tryz.ntmps24
    go_wp2_with (go_at_call 22; refine (within_any _ _ _ _).mono ?_; rintro e w' ⟨rfl, rfl⟩; try rw [HC.out])
    have hJ : IntsAt (w.alloc (.cells #[.int .i64 c, .int .i64 f, .slice p l.length cap] 28)) p l := hI.alloc _
    have hbw : Below w.heap.size w (w.alloc (.cells #[.int .i64 c, .int .i64 f, .slice p l.length cap] 28)) := (Below.refl _ _).alloc (Nat.le_refl _) _
    go_loopw [4, 25] (fun s i wr => ∃ k : Nat, k ≤ l.length ∧ i = .int .i64 k ∧ s = .int .i64 (l.take k).sum ∧ gapsIn (l.take k) = true ∧ wr = w.alloc (.cells #[.int .i64 c, .int .i64 f, .slice p l.length cap] 28)) (fun _ i _ => l.length - (intOf i).toNat)
    case atStart => exact ⟨0, Nat.zero_le _, rfl, by simp, rfl, rfl⟩
    case round =>
      obtain ⟨k, hk, rfl, rfl, hgi, rfl⟩ := hrel
      by_cases hlt : k < l.length
      · obtain ⟨a, rfl, hx⟩ := hJ.at_ hlt
        have hb := gapsIn_sum hgi
        have hl2 : (l.take k).length ≤ 4000 := by have := H2.out; simp; omega
        have hsum := sumI_take hlt
        have hgs := gapsIn_snoc (l.take k) (l[k])
        rw [← takeI_snoc hlt, hgi] at hgs
        have hno := @gapsIn_no l k hlt
        obtain ⟨x, ex⟩ : ∃ x, l[k] = x := ⟨_, rfl⟩
        rw [ex] at hx hsum hgs hno
        obtain ⟨s, es⟩ : ∃ s, (l.take k).sum = s := ⟨_, rfl⟩
        rw [es] at hb hsum
        simp only [es]
        have HS := Lib.hid hsum
        have HG := Lib.hid hgs
        have HN := Lib.hid hno
        clear hsum hgs hno es ex hgi
        cases hin : inB x 1 2000000
        · go_wp2_with (go_at_call 22; refine (within_any _ _ _ _).mono ?_; rintro e w' ⟨rfl, rfl⟩)
          go_ret
          exact ⟨ret_bool (by simp [fluxOk, HN.out hin]), hbw⟩
        · have hx2 := inB_iff.1 hin
          go_wp2_with (go_at_call 22; refine (within_any _ _ _ _).mono ?_; rintro e w' ⟨rfl, rfl⟩)
          refine ⟨⟨k + 1, by omega, by go_num, ?_, ?_, trivial⟩, by simp [intOf]; omega⟩
          · rw [HS.out]
          · rw [HG.out, hin]; rfl
      · rw [List.take_of_length_le (by omega)]
        rw [List.take_of_length_le (by omega)] at hgi
        obtain ⟨a, rfl, hx⟩ := hJ.at_ (k := l.length - 1) (by have := H1.out; omega)
        have hlast := lastD_at (l := l) (n := l.length - 1) (by have := H1.out; omega)
        rw [hlast] at hx
        have i0 : 0 ≤ (l.length : Int) - 1 := by have := H1.out; omega
        have i2 : 1 ≤ (l.length : Int) := by omega
        have i1 : (l.length : Int) - 1 < (l.length : Int) := by omega
        have hb := gapsIn_mem hgi _ (lastD_mem H1.out)
        clear hlast
        obtain ⟨y, ey⟩ : ∃ y, l.getLastD 0 = y := ⟨_, rfl⟩
        rw [ey] at hx hb
        have HY := Lib.hid ey
        clear ey
        have q1 : IntKind.i64.wrap ((l.length : Int) - 1) = (l.length : Int) - 1 := IntWalk.i64_in _ (by omega)
        have q2 : IntKind.i64.wrap (y - 1) = y - 1 := IntWalk.i64_in _ (by omega)
        have HF : Hid (fluxOk c f l = (decide (l.sum ≤ 2000000) && inB f 0 (y - 1))) := by
          apply Lib.hid
          unfold fluxOk
          rw [HY.out, HC.out, hgi, decide_eq_true H1.out, decide_eq_true H2.out]
          rfl
        cases hsum : decide (l.sum ≤ 2000000)
        · have HS := Lib.hid hsum
          go_wp2_with fail
          go_quiet (fail)
          go_wp2
          go_ret
          exact ⟨ret_bool (by rw [HF.out, HS.out]; rfl), below_drewN hbw _⟩
        · have HS := Lib.hid hsum
          go_wp2_with fail
          go_quiet (exact within_q _ _ _ _ _)
          go_wp2
          go_ret
          exact ⟨ret_bool (by rw [HF.out, HS.out]; rfl), below_drewN hbw _⟩
  · have HF : Hid (fluxOk c f l = false) := by
      apply Lib.hid
      cases h : fluxOk c f l
      · rfl
      · have := fluxOk_iff.1 h
        exact absurd ⟨inB_yes this.1, this.2.1, this.2.2.1⟩ hg
    cases hc : inB c 4 200
    · go_enter Tryz.func24, Tryz.ntmps24
      go_wp2_with (go_at_call 22; refine (within_any _ _ _ _).mono ?_; rintro e w' ⟨rfl, rfl⟩; try rw [hc])
      go_ret
      exact ⟨ret_bool HF.out.symm, (Below.refl _ _).alloc (Nat.le_refl _) _⟩
    · have hd : decide ((l.length : Int) < 1) = true ∨ (decide ((l.length : Int) < 1) = false ∧ decide (4000 < (l.length : Int)) = true) := by
        simp only [hc, true_and] at hg
        simp
        omega
      have HC := Lib.hid hc
      clear hg hc
      rcases hd with hd | ⟨hd1, hd2⟩
      all_goals
        go_enter Tryz.func24, Tryz.ntmps24
        go_wp2_with (go_at_call 22; refine (within_any _ _ _ _).mono ?_; rintro e w' ⟨rfl, rfl⟩; try rw [HC.out])
        go_ret
        exact ⟨ret_bool HF.out.symm, (Below.refl _ _).alloc (Nat.le_refl _) _⟩
set_option maxHeartbeats 1000000 in
set_option maxRecDepth 20000 in
theorem spec_l02Ok (c f : Int) (p : Option Addr) (l : List Int) (cap g : Nat) (w : World) (hI : IntsAt w p l) (hl : l.length ≤ 1048576) (hB : Blk w g 28 #[.int .i64 c, .int .i64 f, .slice p l.length cap]) :
    Calls Tryz.prog 27 #[.pointer (some ⟨g, 0, none⟩)] w fun e w' => e = .returned (.bool (fluxOk c f l)) ∧ Below w.heap.size w w' := by
  obtain ⟨b0, b1, b2⟩ := hB.cell3
  by_cases hg : inB c 4 200 = true ∧ 1 ≤ l.length ∧ l.length ≤ 4000
  · obtain ⟨hc, h1, h2⟩ := hg
    have hd1 : decide ((l.length : Int) < 1) = false := by simp; omega
    have hd2 : decide (4000 < (l.length : Int)) = false := by simp; omega
    have HC := Lib.hid hc
    have H1 := Lib.hid h1
    have H2 := Lib.hid h2
    clear hc h1 h2
    go_enter Tryz.func27, Tryz.ntmps27
    go_wp2_with (go_at_call 38; refine (l00In_any _ _ _ _).mono ?_; rintro e w' ⟨rfl, rfl⟩; try rw [HC.out])
    have hJ : IntsAt w p l := hI
    have hbw : Below w.heap.size w w := Below.refl _ _
    go_loopw [4, 5] (fun s i wr => ∃ k : Nat, k ≤ l.length ∧ i = .int .i64 k ∧ s = .int .i64 (l.take k).sum ∧ gapsIn (l.take k) = true ∧ wr = w) (fun _ i _ => l.length - (intOf i).toNat)
    case atStart => exact ⟨0, Nat.zero_le _, rfl, by simp, rfl, rfl⟩
    case round =>
      obtain ⟨k, hk, rfl, rfl, hgi, rfl⟩ := hrel
      by_cases hlt : k < l.length
      · obtain ⟨a, rfl, hx⟩ := hJ.at_ hlt
        have hb := gapsIn_sum hgi
        have hl2 : (l.take k).length ≤ 4000 := by have := H2.out; simp; omega
        have hsum := sumI_take hlt
        have hgs := gapsIn_snoc (l.take k) (l[k])
        rw [← takeI_snoc hlt, hgi] at hgs
        have hno := @gapsIn_no l k hlt
        obtain ⟨x, ex⟩ : ∃ x, l[k] = x := ⟨_, rfl⟩
        rw [ex] at hx hsum hgs hno
        obtain ⟨s, es⟩ : ∃ s, (l.take k).sum = s := ⟨_, rfl⟩
        rw [es] at hb hsum
        simp only [es]
        have HS := Lib.hid hsum
        have HG := Lib.hid hgs
        have HN := Lib.hid hno
        clear hsum hgs hno es ex hgi
        cases hin : inB x 1 2000000
        · go_wp2_with (go_at_call 38; refine (l00In_any _ _ _ _).mono ?_; rintro e w' ⟨rfl, rfl⟩)
          go_ret
          exact ⟨ret_bool (by simp [fluxOk, HN.out hin]), hbw⟩
        · have hx2 := inB_iff.1 hin
          go_wp2_with (go_at_call 38; refine (l00In_any _ _ _ _).mono ?_; rintro e w' ⟨rfl, rfl⟩)
          refine ⟨⟨k + 1, by omega, by go_num, ?_, ?_, trivial⟩, by simp [intOf]; omega⟩
          · rw [HS.out]
          · rw [HG.out, hin]; rfl
      · rw [List.take_of_length_le (by omega)]
        rw [List.take_of_length_le (by omega)] at hgi
        obtain ⟨a, rfl, hx⟩ := hJ.at_ (k := l.length - 1) (by have := H1.out; omega)
        have hlast := lastD_at (l := l) (n := l.length - 1) (by have := H1.out; omega)
        rw [hlast] at hx
        have i0 : 0 ≤ (l.length : Int) - 1 := by have := H1.out; omega
        have i2 : 1 ≤ (l.length : Int) := by omega
        have i1 : (l.length : Int) - 1 < (l.length : Int) := by omega
        have hb := gapsIn_mem hgi _ (lastD_mem H1.out)
        clear hlast
        obtain ⟨y, ey⟩ : ∃ y, l.getLastD 0 = y := ⟨_, rfl⟩
        rw [ey] at hx hb
        have HY := Lib.hid ey
        clear ey
        have q1 : IntKind.i64.wrap ((l.length : Int) - 1) = (l.length : Int) - 1 := IntWalk.i64_in _ (by omega)
        have q2 : IntKind.i64.wrap (y - 1) = y - 1 := IntWalk.i64_in _ (by omega)
        have HF : Hid (fluxOk c f l = (decide (l.sum ≤ 2000000) && inB f 0 (y - 1))) := by
          apply Lib.hid
          unfold fluxOk
          rw [HY.out, HC.out, hgi, decide_eq_true H1.out, decide_eq_true H2.out]
          rfl
        cases hsum : decide (l.sum ≤ 2000000)
        · have HS := Lib.hid hsum
          go_wp2_with fail
          go_quiet (fail)
          go_wp2
          go_ret
          exact ⟨ret_bool (by rw [HF.out, HS.out]; rfl), below_drewN hbw _⟩
        · have HS := Lib.hid hsum
          go_wp2_with fail
          go_quiet (exact l00In_q _ _ _ _ _)
          go_wp2
          go_ret
          exact ⟨ret_bool (by rw [HF.out, HS.out]; rfl), below_drewN hbw _⟩
  · have HF : Hid (fluxOk c f l = false) := by
      apply Lib.hid
      cases h : fluxOk c f l
      · rfl
      · have := fluxOk_iff.1 h
        exact absurd ⟨inB_yes this.1, this.2.1, this.2.2.1⟩ hg
    cases hc : inB c 4 200
    · go_enter Tryz.func27, Tryz.ntmps27
      go_wp2_with (go_at_call 38; refine (l00In_any _ _ _ _).mono ?_; rintro e w' ⟨rfl, rfl⟩; try rw [hc])
      go_ret
      exact ⟨ret_bool HF.out.symm, Below.refl _ _⟩
    · have hd : decide ((l.length : Int) < 1) = true ∨ (decide ((l.length : Int) < 1) = false ∧ decide (4000 < (l.length : Int)) = true) := by
        simp only [hc, true_and] at hg
        simp
        omega
      have HC := Lib.hid hc
      clear hg hc
      rcases hd with hd | ⟨hd1, hd2⟩
      all_goals
        go_enter Tryz.func27, Tryz.ntmps27
        go_wp2_with (go_at_call 38; refine (l00In_any _ _ _ _).mono ?_; rintro e w' ⟨rfl, rfl⟩; try rw [HC.out])
        go_ret
        exact ⟨ret_bool HF.out.symm, Below.refl _ _⟩
set_option maxHeartbeats 1000000 in
set_option maxRecDepth 20000 in
theorem spec_ValidFlux (c f : Int) (p : Option Addr) (l : List Int) (cap : Nat) (w : World) (hI : IntsAt w p l) (hl : l.length ≤ 1048576) :
    Calls Tryz.prog 9 #[.agg #[.int .i64 c, .int .i64 f, .slice p l.length cap]] w fun e w' => e = .returned (.bool (fluxOk c f l)) ∧ Below w.heap.size w w' := by
  go_enter Tryz.func9, Tryz.ntmps9
  go_wp2_with (go_at_call 27; refine (spec_l02Ok c f p l cap _ _ (hI.alloc _) hl (Blk.new _ _ _)).mono ?_; rintro e w1 ⟨rfl, hb1⟩)
  go_ret
  exact ⟨rfl, below_al (Below.refl _ _) hb1 (Nat.le_refl _)⟩
end Go.Proofs.YtfdcainjppljhaaGreatDoor
namespace Go.Proofs.YtfdcainjppljhaaGreatDoor
open Go.RowKit
/-- Every old block but one is as it was. -/
structure Aside (o : Option Nat) (w w' : World) : Prop where
  os : w'.os = w.os
  tape : w'.tape = w.tape
  output : w'.output = w.output
  size : w.heap.size ≤ w'.heap.size
  block : ∀ k, k < w.heap.size → o ≠ some k → w'.heap[k]? = w.heap[k]?
theorem Aside.refl (o : Option Nat) (w : World) : Aside o w w := ⟨rfl, rfl, rfl, Nat.le_refl _, fun _ _ _ => rfl⟩
theorem Aside.trans {o : Option Nat} {a b c : World} (h : Aside o a b) (k : Aside o b c) : Aside o a c :=
  ⟨k.os.trans h.os, k.tape.trans h.tape, k.output.trans h.output, Nat.le_trans h.size k.size, fun i hi ho => (k.block i (Nat.lt_of_lt_of_le hi h.size) ho).trans (h.block i hi ho)⟩
theorem Aside.of_below {o : Option Nat} {w w' : World} (h : Below w.heap.size w w') : Aside o w w' := ⟨h.os, h.tape, h.output, h.size, fun k hk _ => h.block k hk⟩
theorem Aside.below {o : Option Nat} {w w' : World} (h : Aside o w w') {B : Nat} (hB : B ≤ w.heap.size) (ho : ∀ g, o = some g → B ≤ g) : Below B w w' :=
  ⟨h.os, h.tape, h.output, h.size, fun k hk => h.block k (by omega) (fun e => by have := ho k e; omega)⟩
theorem Aside.setCell {w : World} (g i : Nat) (v : Value) : Aside (some g) w (w.setCell ⟨g, i, none⟩ v) :=
  ⟨rfl, rfl, rfl, by simp [World.setCell], fun k _ hk => Below.heap_setCell _ _ _ _ (fun e => hk (by rw [e]))⟩
theorem Blk.asides {o : Option Nat} {w w' : World} {b : Nat} {t : TypeId} {cs : Array Value} (h : Blk w b t cs) (ha : Aside o w w') (hne : o ≠ some b) : Blk w' b t cs := (ha.block b h.lt hne).trans h
theorem RowI.asides {o : Option Nat} {w w' : World} {g : Nat} {l : List Int} (h : RowI w g l) (ha : Aside o w w') (hne : o ≠ some g) : RowI w' g l := by
  have e := ha.block g h.1 hne
  refine ⟨Nat.lt_of_lt_of_le h.1 ha.size, fun i hi => ?_⟩
  obtain ⟨h1, h2⟩ := h.2 i hi
  constructor
  · rw [← h1]; simp only [World.cell?, e]
  · rw [← h2]; simp only [World.frozen?, e]
theorem OwnS.asides {o : Option Nat} {w w' : World} {base : Nat} {p : Option Addr} {l : List Int} (h : OwnS w base p l) (ha : Aside o w w') (hne : l ≠ [] → ∀ g, p = some ⟨g, 0, none⟩ → o ≠ some g) : OwnS w' base p l := by
  intro hl
  obtain ⟨g, rfl, hg, hr⟩ := h hl
  exact ⟨g, rfl, hg, hr.asides ha (hne hl g rfl)⟩
/-- The block that a mark writes. -/
def ownOf (p : Option Addr) (l : List Int) : Option Nat := if l = [] then none else p.map (fun a => a.block)
theorem ownOf_at {w : World} {base : Nat} {p : Option Addr} {l : List Int} (h : OwnS w base p l) {g : Nat} (hg : ownOf p l = some g) : base ≤ g ∧ g < w.heap.size := by
  unfold ownOf at hg
  split at hg
  · cases hg
  · rename_i hl
    obtain ⟨g', rfl, hb, hr⟩ := h hl
    simp at hg
    subst hg
    exact ⟨hb, hr.1⟩
theorem OwnS.lt {w : World} {base : Nat} {p : Option Addr} {l : List Int} (h : OwnS w base p l) (hl : l ≠ []) {g : Nat} (hp : p = some ⟨g, 0, none⟩) : base ≤ g ∧ g < w.heap.size := by
  obtain ⟨g', hp', hb, hr⟩ := h hl
  rw [hp] at hp'
  cases hp'
  exact ⟨hb, hr.1⟩
/-- Rising numbers. -/
def mkL (k : Int) (n : Nat) : List Int := (List.range n).map fun (i : Nat) => k + (i : Int)
theorem mkL_len (k : Int) (n : Nat) : (mkL k n).length = n := by simp [mkL]
theorem mkL_at (k : Int) (n i : Nat) (h : i < (mkL k n).length) : (mkL k n)[i] = k + (i : Int) := by simp [mkL]
theorem mkL_set {k : Int} {l : List Int} {j : Nat} (h : j < l.length) : (mkL k j ++ l.drop j).set j (k + (j : Int)) = mkL k (j + 1) ++ l.drop (j + 1) := by
  rw [List.set_append_right _ _ (by rw [mkL_len]; omega), mkL_len, Nat.sub_self, List.drop_eq_getElem_cons h, List.set_cons_zero]
  simp [mkL, List.range_succ]
end Go.Proofs.YtfdcainjppljhaaGreatDoor
namespace Go.Proofs.YtfdcainjppljhaaGreatDoor
open Go.RowKit
theorem Aside.of_grown {w w' : World} {o : Option Nat} (h : w.grownBy w' o) : Aside o w w' := ⟨h.os, h.tape, h.output, h.size, fun k hk ho => h.block k hk (fun e => ho e.symm)⟩
theorem OwnI.asides {o : Option Nat} {w w' : World} {base : Nat} {v : Value} {l : List Int} (h : OwnI w base v l) (ha : Aside o w w') (hne : ∀ g, v.ownBlock = some g → o ≠ some g) : OwnI w' base v l := by
  obtain ⟨h1, h2⟩ := h
  refine ⟨h1, ?_⟩
  rcases h2 with h2 | ⟨g, cap, cur, hv, hg, hh, r⟩
  · exact .inl h2
  · have hlt : g < w.heap.size := by
      rcases Nat.lt_or_ge g w.heap.size with hlt | hge
      · exact hlt
      · rw [Array.getElem?_eq_none hge] at hh; cases hh
    exact .inr ⟨g, cap, cur, hv, hg, (ha.block g hlt (hne g (by rw [hv]; rfl))).trans hh, r⟩
theorem OwnI.blk {w : World} {base : Nat} {v : Value} {l : List Int} (h : OwnI w base v l) {g : Nat} (hg : v.ownBlock = some g) : base ≤ g ∧ g < w.heap.size := by
  rcases h.2 with ⟨rfl, _⟩ | ⟨g', cap, cur, rfl, hb, hh, _⟩
  · cases hg
  · simp [Value.ownBlock] at hg
    subst hg
    refine ⟨hb, ?_⟩
    rcases Nat.lt_or_ge g' w.heap.size with hlt | hge
    · exact hlt
    · rw [Array.getElem?_eq_none hge] at hh; cases hh
theorem append_run (w : World) (ty : TypeId) (base : Nat) (v : Value) (l : List Int) (n : Int) (g0 : Nat) (hown : OwnI w base v l) (hcell : w.cell? ⟨g0, 0, none⟩ = some (.int .i64 n)) (hlen : l.length < 10000000) (hbase : base ≤ w.heap.size) :
    ∃ v' w', (Builtin.append_ #[26, 26] ty #[v, .slice (some ⟨g0, 0, none⟩) 1 1]).run Tryz.prog w = .ok v' w' ∧ OwnI w' base v' (l ++ [n]) ∧ Below base w w' ∧ Aside v.ownBlock w w' ∧ (∀ g, v'.ownBlock = some g → v.ownBlock = some g ∨ w.heap.size ≤ g) := by
  obtain ⟨i, hi, hz, hsz, hby⟩ := info_parts info_i64
  have hnews : ∀ (j : Nat) u, [Value.int .i64 n][j]? = some u → w.cell? ((⟨g0, 0, none⟩ : Addr).add j) = some u := by
    intro j u hj
    match j, hj with
    | 0, hj => simp at hj; subst hj; simpa [Addr.add] using hcell
  have h1 : ∀ u ∈ [Value.int .i64 n], u.oneCell' = true := by intro u hu; simp at hu; subst hu; rfl
  obtain ⟨v', w', hr, h2, h3, _⟩ := run_append_own (P := Tryz.prog) w base 26 ty 2 i (.int .i64 0) 1 8 Tryz.underlying26 hi hz hsz hby rfl (by decide) v l.length (l.map (Value.int .i64)) hown ⟨g0, 0, none⟩ 1 1 [.int .i64 n] rfl hnews h1 (by unfold maxLen; omega) (by omega) hbase
  refine ⟨v', w', hr, ?_, ?_, Aside.of_grown h3, ?_⟩
  · unfold OwnI
    rw [List.map_append, List.length_append]
    exact h2
  · refine (Below.refl base w).grown h3 hbase ?_
    intro k hk
    exact (hown.blk hk).1
  · intro g hg
    rcases hown.2 with ⟨rfl, hn⟩ | ⟨g', cap, cur, rfl, hbg, hh, hnc, hcm, hcs, htake⟩
    · have hl : l = [] := List.eq_nil_of_length_eq_zero hn
      subst hl
      have := run_append_nil (P := Tryz.prog) w 26 ty 2 i (.int .i64 0) Tryz.underlying26 hi hz ⟨g0, 0, none⟩ 1 1 [.int .i64 n] (by rw [hsz]; rfl) hnews (by omega) (by omega) (by rw [hby]; omega)
      rw [hr] at this
      injection this with hv _
      rw [hv] at hg
      simp [Value.ownBlock] at hg
      exact .inr (by omega)
    · by_cases hroom : l.length + 1 ≤ cap
      · have := run_append_room (P := Tryz.prog) w 26 ty 2 i Tryz.underlying26 hi g' l.length cap cur hh ⟨g0, 0, none⟩ 1 1 [.int .i64 n] (by rw [hsz]; rfl) hnews h1 hroom (by rw [hsz, hcs]; simp; omega)
        rw [hr] at this
        injection this with hv _
        rw [hv] at hg
        exact .inl hg
      · have holds : ∀ j u, (l.map (Value.int .i64))[j]? = some u → w.cell? ((⟨g', 0, none⟩ : Addr).add j) = some u := World.ownsRow.cells (g := g') hown rfl
        have := run_append_grow (P := Tryz.prog) w 26 ty 2 i (.int .i64 0) Tryz.underlying26 hi hz ⟨g', 0, none⟩ l.length cap (l.map (Value.int .i64)) (by rw [hsz]; simp) holds ⟨g0, 0, none⟩ 1 1 [.int .i64 n] (by rw [hsz]; rfl) hnews (by omega) (by omega) (growslice_fits (by omega) (by rw [hby]; omega))
        rw [hr] at this
        injection this with hv _
        rw [hv] at hg
        simp [Value.ownBlock] at hg
        exact .inr (by omega)
/-- 'b = append(b, x)', with what it leaves alone. -/
theorem append_int2 {ops : Array Oper} {rest : List Oper} {o : Oper} {a : Act} {Q : Exit → Act → World → Prop} (w : World) (hg : o.guard = none) (s x : Operand)
    (ho : o.op = .call { callee := .builtin .append, args := #[s, x], argTypes := #[26, 26] })
    (base : Nat) (v : Value) (l : List Int) (n : Int) (hs : a.eval s = v) (hx : a.eval x = .slice (some ⟨w.heap.size, 0, none⟩) 1 1)
    (hown : OwnI w base v l) (hlen : l.length < 10000000) (hbase : base ≤ w.heap.size)
    (h : ∀ v' w', OwnI w' base v' (l ++ [n]) → Below base w w' → Aside v.ownBlock w w' → (∀ g, v'.ownBlock = some g → v.ownBlock = some g ∨ w.heap.size ≤ g) → wpList Tryz.prog ops Q rest (a.put o.dst v') w') :
    wpList Tryz.prog ops Q (o :: rest) a (w.alloc (.cells #[.int .i64 n] 2)) := by
  refine wpList_plain hg fun _ hK => ?_
  obtain ⟨v', w', hr, h2, h3, h4, h5⟩ := append_run (w.alloc (.cells #[.int .i64 n] 2)) o.type base v l n w.heap.size (hown.alloc _) ((Blk.new w 2 #[.int .i64 n]).cell 0) hlen (by simp; omega)
  unfold Oper.wp execOp
  simp only [ho, resolve, invoke, builtin, Sem.run_bind, Sem.run_pure, Result.andThen_ok, List.map_toArray, List.map_cons, List.map_nil, hs, hx, hr]
  refine hK _ _ (h v' w' h2 (((Below.refl base w).alloc hbase _).trans h3) ((Aside.of_below ((Below.refl _ _).alloc (Nat.le_refl _) _)).trans h4) ?_)
  intro g hg
  rcases h5 g hg with h6 | h6
  · exact .inl h6
  · simp at h6
    exact .inr (by omega)
theorem append_int3 {ops : Array Oper} {rest : List Oper} {o : Oper} {a : Act} {Q : Exit → Act → World → Prop} (w : World) (hg : o.guard = none) (s x : Operand)
    (ho : o.op = .call { callee := .builtin .append, args := #[s, x], argTypes := #[26, 26] })
    (base : Nat) (v : Value) (l : List Int) (n : Int) (g1 : Nat) (hs : a.eval s = v) (hx : a.eval x = .slice (some ⟨g1, 0, none⟩) 1 1) (hg1 : g1 = w.heap.size)
    (hown : OwnI w base v l) (hlen : l.length < 10000000) (hbase : base ≤ w.heap.size)
    (h : ∀ v' w', OwnI w' base v' (l ++ [n]) → Below base w w' → Aside v.ownBlock w w' → (∀ g, v'.ownBlock = some g → v.ownBlock = some g ∨ w.heap.size ≤ g) → wpList Tryz.prog ops Q rest (a.put o.dst v') w') :
    wpList Tryz.prog ops Q (o :: rest) a (w.alloc (.cells #[.int .i64 n] 2)) := by
  subst hg1
  exact append_int2 w hg s x ho base v l n hs hx hown hlen hbase h
end Go.Proofs.YtfdcainjppljhaaGreatDoor
namespace Go.Proofs.YtfdcainjppljhaaGreatDoor
/-- The differences of neighbours. -/
def diffW : List Int → List Int
  | a :: b :: l => IntKind.i64.wrap (b - a) :: diffW (b :: l)
  | _ => []
theorem diffW_snoc : ∀ (l : List Int) (x y : Int), diffW (l ++ [x, y]) = diffW (l ++ [x]) ++ [IntKind.i64.wrap (y - x)]
  | [], x, y => rfl
  | [a], x, y => by simp [diffW]
  | a :: b :: l, x, y => by
    have := diffW_snoc (b :: l) x y
    simp only [List.cons_append, diffW] at this ⊢
    rw [this]
theorem diffW_len : ∀ l : List Int, (diffW l).length = l.length - 1
  | [] => rfl
  | [_] => rfl
  | _ :: b :: l => by simp only [diffW, List.length_cons]; rw [diffW_len (b :: l)]; simp
theorem diffW_take {l : List Int} {k : Nat} (h1 : 1 ≤ k) (h : k < l.length) : diffW (l.take (k + 1)) = diffW (l.take k) ++ [IntKind.i64.wrap (l[k] - l[k - 1])] := by
  obtain ⟨j, rfl⟩ : ∃ j, k = j + 1 := ⟨k - 1, by omega⟩
  rw [takeI_snoc h, takeI_snoc (by omega : j < l.length), List.append_assoc]
  exact diffW_snoc _ _ _
theorem diffW_one (l : List Int) : diffW (l.take 1) = [] := by
  cases l with
  | nil => rfl
  | cons a l => simp [diffW]
/-- The gaps of times in a revolution. -/
def gapsT (l : List Int) (rev : Int) : List Int := diffW l ++ [IntKind.i64.wrap (IntKind.i64.wrap (rev - l.getLastD 0) + l.headD 0)]
theorem gapsT_len (l : List Int) (rev : Int) (h : 1 ≤ l.length) : (gapsT l rev).length = l.length := by simp [gapsT, diffW_len]; omega
theorem headD_at {l : List Int} (h : 0 < l.length) : l[0] = l.headD 0 := by
  cases l with
  | nil => simp at h
  | cons a l => rfl
/-- Numbers rise within bounds. -/
def risesB (l : List Int) (lo hi : Int) : Bool := (l.all fun x => inB x lo hi) && decide (l.Pairwise (· < ·)) 
def risesK (l : List Int) (lo hi : Int) (k : Nat) : Prop := ∀ i (h : i < l.length), i < k → inB (l[i]) lo hi = true ∧ (∀ h0 : 0 < i, l[i - 1]'(by omega) < l[i])
theorem risesK_all {l : List Int} {lo hi : Int} : risesB l lo hi = true ↔ risesK l lo hi l.length := by
  unfold risesB risesK
  rw [Bool.and_eq_true, decide_eq_true_eq, List.all_eq_true]
  constructor
  · rintro ⟨h1, h2⟩ i hi _
    refine ⟨h1 _ (List.getElem_mem hi), fun h0 => ?_⟩
    exact List.pairwise_iff_getElem.1 h2 (i - 1) i (by omega) hi (by omega)
  · intro h
    refine ⟨fun x hx => ?_, ?_⟩
    · obtain ⟨i, hi, rfl⟩ := List.getElem_of_mem hx
      exact (h i hi hi).1
    · rw [List.pairwise_iff_getElem]
      intro i j hi hj hij
      have key : ∀ d, ∀ j (hj : j < l.length), j = i + d + 1 → l[i] < l[j] := by
        intro d
        induction d with
        | zero =>
          intro j hj e
          subst e
          have := (h (i + 0 + 1) hj hj).2 (by omega)
          simpa using this
        | succ d ih =>
          intro j hj e
          subst e
          have h1 := ih (i + d + 1) (by omega) rfl
          have h2 := (h (i + (d + 1) + 1) hj hj).2 (by omega)
          simp only [show i + (d + 1) + 1 - 1 = i + d + 1 by omega] at h2
          omega
      exact key (j - i - 1) j hj (by omega)
theorem risesB_no {l : List Int} {lo hi : Int} {k : Nat} (hk : k < l.length) (h : inB (l[k]) lo hi = false ∨ ∃ h0 : 0 < k, l[k] ≤ l[k - 1]'(by omega)) : risesB l lo hi = false := by
  cases hr : risesB l lo hi
  · rfl
  · have := risesK_all.1 hr k hk hk
    rcases h with h | ⟨h0, h⟩
    · rw [this.1] at h; cases h
    · have := this.2 h0; omega
/-- Times become flux. -/
def timesOk (t : List Int) (rev cell : Int) : Bool := inB rev 1 2000000 && (risesB t 0 (rev - 1) && fluxOk cell (t.headD 0) (gapsT t rev))
end Go.Proofs.YtfdcainjppljhaaGreatDoor
