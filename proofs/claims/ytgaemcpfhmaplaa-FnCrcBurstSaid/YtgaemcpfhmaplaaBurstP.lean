/- A burst of sixteen bits changes the check value, plain. -/
import Derived.Test.YtgaemcpfhmaplaaCrcP
namespace Go.Proofs.Ytgaemcpfhmaplaa
abbrev xorN : Nat → Nat → Nat := fun x y => x ^^^ y
theorem crcStep_zero : crcStep 0 0 = 0 := by decide
theorem crcFeed_zeros (n : Nat) : crcFeed 0 (List.replicate n 0) = 0 := by
  induction n with
  | zero => rfl
  | succ n ih => simp only [List.replicate_succ, crcFeed, List.foldl_cons, crcStep_zero]; exact ih
theorem odd_fb (x : Nat) : ((x * 2 % 65536) ^^^ 4129) % 2 = 1 := by
  have h := Nat.testBit_xor (x * 2 % 65536) 4129 0
  have e : x * 2 % 65536 % 2 = 0 := by omega
  simp only [Nat.testBit_zero, e] at h
  have h2 : decide (((x * 2 % 65536) ^^^ 4129) % 2 = 1) = true := h
  exact of_decide_eq_true h2
theorem crcStep_nz {v : Nat} (h : v < 65536) (hv : v ≠ 0) : crcStep v 0 ≠ 0 := by
  unfold crcStep
  split
  · omega
  · intro e
    have := odd_fb v
    omega
theorem crcFeed_nz {v : Nat} (h : v < 65536) (hv : v ≠ 0) (n : Nat) : crcFeed v (List.replicate n 0) ≠ 0 := by
  induction n generalizing v with
  | zero => exact hv
  | succ n ih =>
    simp only [List.replicate_succ, crcFeed, List.foldl_cons]
    exact ih (crcStep_lt v 0) (crcStep_nz h hv)
theorem crcFeed_snoc (v : Nat) (l : List Nat) (d : Nat) : crcFeed v (l ++ [d]) = crcStep (crcFeed v l) d := by simp [crcFeed]
/-- Sixteen bits at most: a value that is divisible by that power of two has come of zeros. -/
theorem burst_div : ∀ (n : Nat) (ds : List Nat), ds.length = n → n ≤ 16 → (∀ x ∈ ds, x < 2) → crcFeed 0 ds % 2 ^ n = 0 → ∀ x ∈ ds, x = 0 := by
  intro n
  induction n with
  | zero =>
    intro ds hl _ _ _ x hx
    rw [List.eq_nil_of_length_eq_zero hl] at hx
    simp at hx
  | succ n ih =>
    intro ds hl hn hb hd
    have hne : ds ≠ [] := by intro e; rw [e] at hl; simp at hl
    obtain ⟨es, d, rfl⟩ : ∃ es d, ds = es ++ [d] := ⟨ds.dropLast, ds.getLast hne, (List.dropLast_concat_getLast hne).symm⟩
    have hle : es.length = n := by simpa using hl
    have hd2 : d < 2 := hb d (by simp)
    have hes : ∀ x ∈ es, x < 2 := fun x hx => hb x (by simp [hx])
    rw [crcFeed_snoc] at hd
    have hv := crcFeed_lt (v := 0) (by decide) es
    have hpow : 2 ^ (n + 1) = 2 * 2 ^ n := by rw [Nat.pow_succ, Nat.mul_comm]
    have hpos : 0 < 2 ^ n := Nat.pos_of_ne_zero (by simp)
    have hdvd : 2 ^ n ∣ 32768 := by
      have : (32768 : Nat) = 2 ^ 15 := by decide
      rw [this]
      exact Nat.pow_dvd_pow 2 (by omega)
    obtain ⟨q, hq⟩ := hdvd
    have hz : ∀ x ∈ es, x = 0 := by
      apply ih es hle (by omega) hes
      unfold crcStep at hd
      split at hd
      · have h3 : 65536 = 2 * 2 ^ n * q := by rw [Nat.mul_assoc, ← hq]
        rw [hpow] at hd
        have h4 : crcFeed 0 es * 2 % 65536 % (2 * 2 ^ n) = crcFeed 0 es * 2 % (2 * 2 ^ n) := by
          rw [h3]
          exact Nat.mod_mul_right_mod _ _ _
        rw [h4, Nat.mul_comm (crcFeed 0 es) 2, Nat.mul_mod_mul_left] at hd
        omega
      · exfalso
        have h5 := odd_fb (crcFeed 0 es)
        have h6 : ((crcFeed 0 es * 2 % 65536) ^^^ 4129) % 2 = 0 := by
          have := Nat.mod_mul_right_mod ((crcFeed 0 es * 2 % 65536) ^^^ 4129) 2 (2 ^ n)
          rw [← hpow, hd] at this
          omega
        omega
    have hv0 : crcFeed 0 es = 0 := by
      have : es = List.replicate es.length 0 := List.eq_replicate_of_mem hz
      rw [this]
      exact crcFeed_zeros _
    rw [hv0] at hd
    intro x hx
    rw [List.mem_append] at hx
    rcases hx with hx | hx
    · exact hz x hx
    · simp at hx
      subst hx
      rcases Nat.lt_or_ge x 1 with h1 | h1
      · omega
      · have : x = 1 := by omega
        subst this
        exfalso
        have h7 : crcStep 0 1 = 4129 := by decide
        have h8 := Nat.mod_mul_right_mod 4129 2 (2 ^ n)
        rw [h7, hpow] at hd
        rw [hd] at h8
        omega
theorem xor_self_feed (v : Nat) (a b : List UInt8) (h : a.length = b.length) : crcFeed 0 (List.zipWith xorN (bitsN a) (bitsN b)) = crcL v a ^^^ crcL v b := by
  have := crcL_xor v v a b h
  rw [Nat.xor_self] at this
  rw [← this]
  unfold crcL
  rw [bitsN_xor a b h]
theorem xor_eq_zero' {a b : Nat} (h : a ^^^ b = 0) : a = b := by
  apply Nat.eq_of_testBit_eq
  intro i
  have := congrArg (fun x => x.testBit i) h
  simp only [Nat.testBit_xor, Nat.zero_testBit] at this
  cases h1 : a.testBit i <;> cases h2 : b.testBit i <;> simp_all
/-- The check values agree just if no bit has turned. -/
theorem burst {v : Nat} {s t : List UInt8} (h : s.length = t.length) {p q : Nat} {ds : List Nat} (hds : ds.length = 16) (hb : ∀ x ∈ ds, x < 2)
    (hz : List.zipWith xorN (bitsN s) (bitsN t) = List.replicate p 0 ++ ds ++ List.replicate q 0) : crcL v t = crcL v s ↔ ¬ 1 ∈ ds := by
  have hx := xor_self_feed v s t h
  rw [hz, crcFeed_append, crcFeed_append, crcFeed_zeros] at hx
  constructor
  · intro e h1
    rw [e, Nat.xor_self] at hx
    have hne : crcFeed 0 ds ≠ 0 := by
      intro e0
      have := burst_div 16 ds hds (Nat.le_refl _) hb (by rw [e0]) 1 h1
      omega
    exact crcFeed_nz (crcFeed_lt (by decide) ds) hne q hx
  · intro h1
    have hz0 : ∀ x ∈ ds, x = 0 := by
      intro x hx
      have h2 := hb x hx
      rcases Nat.lt_or_ge x 1 with h3 | h3
      · omega
      · exact absurd (by rw [show x = 1 by omega] at hx; exact hx) h1
    rw [List.eq_replicate_of_mem hz0, crcFeed_zeros, crcFeed_zeros] at hx
    exact (xor_eq_zero' hx.symm).symm
/-- The byte with one bit, counted from the left. -/
def unitB (r : Nat) : UInt8 := UInt8.ofNat (128 / 2 ^ r)
theorem byteBits_unit : ∀ r : Fin 8, byteBits (unitB r.val) = List.replicate r.val 0 ++ ([1] ++ List.replicate (7 - r.val) 0) := by decide
theorem zipX_zeros (l : List Nat) (n : Nat) (h : n = l.length) : List.zipWith xorN l (List.replicate n 0) = l := by
  subst h
  induction l with
  | nil => rfl
  | cons x l ih => simp [List.replicate_succ, ih]
theorem zipB_zeros (l : List UInt8) (n : Nat) (h : n = l.length) : List.zipWith (fun x y => x ^^^ y) l (List.replicate n 0) = l := by
  subst h
  induction l with
  | nil => rfl
  | cons x l ih => simp [List.replicate_succ, ih]
theorem zipX_assoc : ∀ a b c : List Nat, List.zipWith xorN a (List.zipWith xorN b c) = List.zipWith xorN (List.zipWith xorN a b) c
  | [], _, _ => by simp
  | _ :: _, [], _ => by simp
  | _ :: _, _ :: _, [] => by simp
  | x :: a, y :: b, z :: c => by simp only [List.zipWith_cons_cons, xorN, Nat.xor_assoc]; rw [← zipX_assoc a b c]
theorem set_xor (t : List UInt8) {i : Nat} (hi : i < t.length) (c : UInt8) : t.set i (t[i] ^^^ c) = List.zipWith (fun x y => x ^^^ y) t (List.replicate i 0 ++ ([c] ++ List.replicate (t.length - (i + 1)) 0)) := by
  rw [List.set_eq_take_append_cons_drop, if_pos hi]
  have e : t = t.take i ++ ([t[i]] ++ t.drop (i + 1)) := by simp
  have h2 : List.zipWith (fun x y => x ^^^ y) t (List.replicate i 0 ++ ([c] ++ List.replicate (t.length - (i + 1)) 0)) = List.zipWith (fun x y => x ^^^ y) (t.take i ++ ([t[i]] ++ t.drop (i + 1))) (List.replicate i 0 ++ ([c] ++ List.replicate (t.length - (i + 1)) 0)) := by rw [← e]
  rw [h2, List.zipWith_append (by simp; omega), List.zipWith_append (by simp), zipB_zeros _ _ (by simp; omega), zipB_zeros _ _ (by simp)]
  simp
theorem bitsN_app (a b : List UInt8) : bitsN (a ++ b) = bitsN a ++ bitsN b := by simp [bitsN]
theorem bitsN_zeros (n : Nat) : bitsN (List.replicate n 0) = List.replicate (8 * n) 0 := by
  induction n with
  | zero => rfl
  | succ n ih =>
    rw [List.replicate_succ, show (0 : UInt8) :: List.replicate n 0 = [0] ++ List.replicate n 0 from rfl, bitsN_app, ih, show bitsN [0] = List.replicate 8 0 by decide, List.replicate_append_replicate]
    congr 1
    omega
theorem flip {s t : List UInt8} (h : s.length = t.length) {p M : Nat} {A : List Nat} (hA : A.length = p) (hp : p / 8 < t.length)
    (hz : List.zipWith xorN (bitsN s) (bitsN t) = A ++ List.replicate (M + 1) 0) :
    List.zipWith xorN (bitsN s) (bitsN (t.set (p / 8) (t[p / 8] ^^^ unitB (p % 8)))) = A ++ ([1] ++ List.replicate M 0) := by
  have hl := congrArg List.length hz
  simp [bitsN_len, hA, h] at hl
  have hu := byteBits_unit ⟨p % 8, Nat.mod_lt _ (by decide)⟩
  simp only at hu
  have e8 : bitsN [unitB (p % 8)] = byteBits (unitB (p % 8)) := by simp [bitsN]
  rw [set_xor t hp, bitsN_xor _ _ (by simp; omega), bitsN_app, bitsN_app, bitsN_zeros, bitsN_zeros, e8, hu]
  have hU : List.replicate (8 * (p / 8)) 0 ++ (List.replicate (p % 8) 0 ++ ([1] ++ List.replicate (7 - p % 8) 0) ++ List.replicate (8 * (t.length - (p / 8 + 1))) 0) = List.replicate p 0 ++ ([1] ++ List.replicate M 0) := by
    rw [List.append_assoc, List.append_assoc, ← List.append_assoc, List.replicate_append_replicate, List.replicate_append_replicate]
    congr 2
    · omega
    · congr 2
      omega
  rw [hU, zipX_assoc, hz, List.zipWith_append (by simp [hA]), zipX_zeros _ _ hA.symm, List.replicate_succ]
  show A ++ List.zipWith xorN ([0] ++ List.replicate M 0) ([1] ++ List.replicate M 0) = _
  rw [List.zipWith_append (by simp), zipX_zeros _ _ (by simp)]
  rfl
theorem zipX_self (l : List Nat) : List.zipWith xorN l l = List.replicate l.length 0 := by
  induction l with
  | nil => rfl
  | cons x l ih =>
    rw [List.zipWith_cons_cons, ih, List.length_cons, List.replicate_succ, show xorN x x = 0 from Nat.xor_self x]
theorem unitB_val : ∀ r : Fin 8, ((128 : Int) / 2 ^ r.val) = ((unitB r.val).toNat : Int) := by decide
end Go.Proofs.Ytgaemcpfhmaplaa
