/- The check value, in plain Lean: a step for a bit, what feeding bits gives, and its laws. -/
import Derived.Test.YtgaemcpfhmaplaaPlain
namespace Go.Proofs.Ytgaemcpfhmaplaa
open Go.RowKit

/-- One bit b fed into the register v. -/
def crcStep (v b : Nat) : Nat := if v / 32768 % 2 = b then v * 2 % 65536 else (v * 2 % 65536) ^^^ 4129
def crcFeed (v : Nat) (bs : List Nat) : Nat := bs.foldl crcStep v
/-- The bits of a byte, the highest first. -/
def byteBits (c : UInt8) : List Nat := (List.range 8).map fun j => c.toNat / 2 ^ (7 - j) % 2
def bitsN (l : List UInt8) : List Nat := l.flatMap byteBits
def crcL (v : Nat) (l : List UInt8) : Nat := crcFeed v (bitsN l)

theorem crcStep_lt (v b : Nat) : crcStep v b < 65536 := by
  unfold crcStep
  have h : v * 2 % 65536 < 2 ^ 16 := Nat.mod_lt _ (by decide)
  split
  · exact h
  · exact Nat.xor_lt_two_pow h (by decide)
theorem crcFeed_lt {v : Nat} (h : v < 65536) (bs : List Nat) : crcFeed v bs < 65536 := by
  unfold crcFeed
  induction bs generalizing v with
  | nil => exact h
  | cons b bs ih => exact ih (crcStep_lt _ _)
theorem byteBits_len (c : UInt8) : (byteBits c).length = 8 := by simp [byteBits]
theorem byteBits_all (c : UInt8) : (byteBits c).take 8 = byteBits c := List.take_of_length_le (by rw [byteBits_len]; omega)
theorem crcFeed_append (v : Nat) (a b : List Nat) : crcFeed v (a ++ b) = crcFeed (crcFeed v a) b := by simp [crcFeed]
theorem crcFeed_step (v : Nat) (c : UInt8) {j : Nat} (hj : j < 8) : crcFeed v ((byteBits c).take (j + 1)) = crcStep (crcFeed v ((byteBits c).take j)) (c.toNat / 2 ^ (7 - j) % 2) := by
  rw [List.take_succ_eq_append_getElem (by rw [byteBits_len]; exact hj), crcFeed_append]
  simp [crcFeed, byteBits]
theorem crcL_snoc (v : Nat) (l : List UInt8) (c : UInt8) : crcL v (l ++ [c]) = crcFeed (crcL v l) (byteBits c) := by
  simp [crcL, bitsN, crcFeed]
theorem crcL_append (v : Nat) (l m : List UInt8) : crcL v (l ++ m) = crcL (crcL v l) m := by
  simp [crcL, bitsN, crcFeed]
theorem crcL_lt {v : Nat} (h : v < 65536) (l : List UInt8) : crcL v l < 65536 := crcFeed_lt h _

/-- What the Go text reckons for a bit. -/
theorem crcStep_eq {v b : Nat} (h : v / 32768 % 2 = b) : ((crcStep v b : Nat) : Int) = ((v * 2 % 65536 : Nat) : Int) := by unfold crcStep; rw [if_pos h]
theorem crcStep_ne {v b : Nat} (h : ¬ v / 32768 % 2 = b) : ((crcStep v b : Nat) : Int) = (((v * 2 % 65536) ^^^ 4129 : Nat) : Int) := by unfold crcStep; rw [if_neg h]

theorem crc_shl {x : Nat} (hx : x < 65536) : bits .and .i64 ((x : Int) * 2) 65535 = ((x * 2 % 65536 : Nat) : Int) := by
  have h := and_65535 (x * 2) (by omega)
  rw [Int.natCast_mul] at h
  exact h
theorem crc_xor {x : Nat} (hx : x < 65536) : bits .xor .i64 ((x : Nat) : Int) 4129 = ((x ^^^ 4129 : Nat) : Int) := i64_xor_nat x 4129 (by omega) (by decide)
theorem crc_ne {x b : Nat} (hx : x < 65536) (h : ¬ x / 32768 % 2 = b) : bits .xor .i64 (bits .and .i64 ((x : Int) * 2) 65535) 4129 = ((crcStep x b : Nat) : Int) := by
  rw [crcStep_ne h, crc_shl hx, crc_xor (Nat.mod_lt _ (by decide))]
theorem crc_eq {x b : Nat} (hx : x < 65536) (h : x / 32768 % 2 = b) : bits .and .i64 ((x : Int) * 2) 65535 = ((crcStep x b : Nat) : Int) := by
  rw [crcStep_eq h, crc_shl hx]
theorem div15 (x : Nat) : (x : Int) / 32768 = ((x / 32768 : Nat) : Int) := by simp
theorem test_impl {x : Nat} (hx : x < 65536) (c : UInt8) (i : Nat) : ((x : Int) / 32768 != wrap64 (bits .and .u8 ((c.toNat : Int) / 2 ^ i) 1)) = decide (¬ x / 32768 % 2 = c.toNat / 2 ^ i % 2) := by
  rw [bit_u8, div15, wrap64_of (by omega) (by omega), Bool.eq_iff_iff, bne_iff_ne, decide_eq_true_iff]
  omega
theorem test_spec {x : Nat} (hx : x < 65536) (c : UInt8) (i : Nat) : (bits .and .i64 ((x : Int) / 32768) 1 != bits .and .i64 (wrap64 ((c.toNat : Int) / 2 ^ i)) 1) = decide (¬ x / 32768 % 2 = c.toNat / 2 ^ i % 2) := by
  have hc := c.toNat_lt
  have hd : c.toNat / 2 ^ i ≤ c.toNat := Nat.div_le_self _ _
  rw [div_cast]
  generalize c.toNat / 2 ^ i = d at *
  rw [wrap64_of (by omega) (by omega), div15, bit_i64 _ (by omega), bit_i64 _ (by omega), Bool.eq_iff_iff, bne_iff_ne, decide_eq_true_iff]
  omega

/-! Linearity. -/
theorem crcStep_testBit (v : Nat) {b : Nat} (hb : b < 2) (i : Nat) :
    (crcStep v b).testBit i = ((decide (i < 16) && (decide (0 < i) && v.testBit (i - 1))) ^^ (Nat.testBit 4129 i && (v.testBit 15 ^^ decide (b = 1)))) := by
  have h15 : v.testBit 15 = decide (v / 32768 % 2 = 1) := by
    rw [Nat.testBit_eq_decide_div_mod_eq]
  have hsh : (v * 2 % 65536).testBit i = (decide (i < 16) && (decide (0 < i) && v.testBit (i - 1))) := by
    rw [show (65536 : Nat) = 2 ^ 16 from rfl, Nat.testBit_mod_two_pow, show v * 2 = v <<< 1 from by rw [Nat.shiftLeft_eq], Nat.testBit_shiftLeft]
    rcases Nat.eq_zero_or_pos i with rfl | h
    · simp
    · have h1 : 1 ≤ i := h
      have h2 : decide (0 < i) = true := by simpa using h
      simp [h1, h2]
  have hm : v / 32768 % 2 < 2 := Nat.mod_lt _ (by decide)
  unfold crcStep
  split
  · rename_i h
    rw [hsh, h15, h]
    simp
  · rename_i h
    rw [Nat.testBit_xor, hsh, h15]
    have e : (decide (v / 32768 % 2 = 1) ^^ decide (b = 1)) = true := by
      rcases (by omega : (v / 32768 % 2 = 0 ∧ b = 1) ∨ (v / 32768 % 2 = 1 ∧ b = 0)) with ⟨h1, h2⟩ | ⟨h1, h2⟩ <;> simp [h1, h2]
    rw [e, Bool.and_true]
theorem xor_lt2 {a b : Nat} (ha : a < 2) (hb : b < 2) : a ^^^ b < 2 := Nat.xor_lt_two_pow (n := 1) ha hb
theorem crcStep_xor {v u b c : Nat} (hb : b < 2) (hc : c < 2) : crcStep (v ^^^ u) (b ^^^ c) = crcStep v b ^^^ crcStep u c := by
  apply Nat.eq_of_testBit_eq
  intro i
  have e : decide (b ^^^ c = 1) = (decide (b = 1) ^^ decide (c = 1)) := by
    rcases (by omega : b = 0 ∨ b = 1) with rfl | rfl <;> rcases (by omega : c = 0 ∨ c = 1) with rfl | rfl <;> decide
  rw [Nat.testBit_xor (crcStep v b), crcStep_testBit _ (xor_lt2 hb hc), crcStep_testBit v hb, crcStep_testBit u hc, Nat.testBit_xor, Nat.testBit_xor, e]
  cases decide (i < 16) <;> cases decide (0 < i) <;> cases v.testBit (i - 1) <;> cases u.testBit (i - 1) <;> cases Nat.testBit 4129 i <;> cases v.testBit 15 <;> cases u.testBit 15 <;> cases decide (b = 1) <;> cases decide (c = 1) <;> rfl
theorem crcFeed_xor : ∀ (as bs : List Nat) (v u : Nat), as.length = bs.length → (∀ x ∈ as, x < 2) → (∀ x ∈ bs, x < 2) →
    crcFeed (v ^^^ u) (List.zipWith (fun x y => x ^^^ y) as bs) = crcFeed v as ^^^ crcFeed u bs
  | [], [], _, _, _, _, _ => rfl
  | a :: as, b :: bs, v, u, h, ha, hb => by
    have h1 := ha a (by simp)
    have h2 := hb b (by simp)
    show crcFeed (crcStep (v ^^^ u) (a ^^^ b)) _ = crcFeed (crcStep v a) as ^^^ crcFeed (crcStep u b) bs
    rw [crcStep_xor h1 h2]
    exact crcFeed_xor as bs _ _ (by simpa using h) (fun x hx => ha x (by simp [hx])) (fun x hx => hb x (by simp [hx]))
theorem byteBits_lt (c : UInt8) : ∀ x ∈ byteBits c, x < 2 := by
  intro x hx
  simp only [byteBits, List.mem_map] at hx
  obtain ⟨j, _, rfl⟩ := hx
  exact Nat.mod_lt _ (by decide)
theorem bitsN_lt (l : List UInt8) : ∀ x ∈ bitsN l, x < 2 := by
  intro x hx
  simp only [bitsN, List.mem_flatMap] at hx
  obtain ⟨c, _, hc⟩ := hx
  exact byteBits_lt c x hc
theorem div_xor (a b i : Nat) : (a ^^^ b) / 2 ^ i % 2 = (a / 2 ^ i % 2) ^^^ (b / 2 ^ i % 2) := by
  have h := Nat.testBit_xor a b i
  rw [Nat.testBit_eq_decide_div_mod_eq, Nat.testBit_eq_decide_div_mod_eq, Nat.testBit_eq_decide_div_mod_eq] at h
  have h1 := Nat.mod_two_eq_zero_or_one (a / 2 ^ i)
  have h2 := Nat.mod_two_eq_zero_or_one (b / 2 ^ i)
  have h3 := Nat.mod_two_eq_zero_or_one ((a ^^^ b) / 2 ^ i)
  rcases h1 with h1 | h1 <;> rcases h2 with h2 | h2 <;> rcases h3 with h3 | h3 <;> simp [h1, h2, h3] at h ⊢
theorem byteBits_xor (a b : UInt8) : byteBits (a ^^^ b) = List.zipWith (fun x y => x ^^^ y) (byteBits a) (byteBits b) := by
  unfold byteBits
  rw [List.zipWith_map, List.zipWith_self]
  apply List.map_congr_left
  intro j _
  rw [UInt8.toNat_xor, div_xor]
theorem bitsN_xor : ∀ (a b : List UInt8), a.length = b.length → bitsN (List.zipWith (fun x y => x ^^^ y) a b) = List.zipWith (fun x y => x ^^^ y) (bitsN a) (bitsN b)
  | [], [], _ => rfl
  | x :: a, y :: b, h => by
    show byteBits (x ^^^ y) ++ bitsN _ = List.zipWith _ (byteBits x ++ bitsN a) (byteBits y ++ bitsN b)
    rw [List.zipWith_append (by rw [byteBits_len, byteBits_len]), byteBits_xor, bitsN_xor a b (by simpa using h)]
theorem bitsN_len (l : List UInt8) : (bitsN l).length = 8 * l.length := by
  induction l with
  | nil => rfl
  | cons a l ih =>
    show (byteBits a ++ bitsN l).length = _
    rw [List.length_append, byteBits_len, ih, List.length_cons]; omega
theorem crcL_xor (v u : Nat) (a b : List UInt8) (h : a.length = b.length) : crcL (v ^^^ u) (List.zipWith (fun x y => x ^^^ y) a b) = crcL v a ^^^ crcL u b := by
  unfold crcL
  rw [bitsN_xor a b h]
  exact crcFeed_xor _ _ _ _ (by rw [bitsN_len, bitsN_len, h]) (bitsN_lt a) (bitsN_lt b)
end Go.Proofs.Ytgaemcpfhmaplaa
