/- A text cut at blanks; its pieces as decimal numbers; plain: no program in sight. -/
import Derived.Test.YtfdcainjppljhaaDoorTxVW
import Derived.Lib.SplitLaws
import Derived.Lib.ParseIntBTie
import Derived.Lib.AtoiAllCases
namespace Go.Proofs.YtfdcainjppljhaaDoor
open Go.RowKit
set_option linter.unusedVariables false
def cutL : List UInt8 → List (List UInt8)
  | [] => [[]]
  | b :: r => if b = 32 then [] :: cutL r else
    match cutL r with
    | [] => [[b]]
    | h :: t => (b :: h) :: t
theorem cutL_ne (l : List UInt8) : cutL l ≠ [] := by
  cases l with
  | nil => simp [cutL]
  | cons b r =>
    unfold cutL
    split
    · simp
    · split <;> simp
theorem cutL_blank (r : List UInt8) : cutL (32 :: r) = [] :: cutL r := by simp [cutL]
theorem cutL_other {b : UInt8} {r : List UInt8} (hb : b ≠ 32) {h : List UInt8} {t : List (List UInt8)} (e : cutL r = h :: t) : cutL (b :: r) = (b :: h) :: t := by
  rw [cutL, if_neg hb, e]
theorem cutL_snoc (b : UInt8) : ∀ l : List UInt8, cutL (l ++ [b]) = if b = 32 then cutL l ++ [[]] else (cutL l).dropLast ++ [(cutL l).getLastD [] ++ [b]]
  | [] => by
    by_cases hb : b = 32
    · subst hb; simp [cutL]
    · simp [cutL, hb]
  | a :: r => by
    have ih := cutL_snoc b r
    rw [List.cons_append]
    obtain ⟨h, t, e⟩ : ∃ h t, cutL r = h :: t := by
      cases hx : cutL r with
      | nil => exact absurd hx (cutL_ne r)
      | cons h t => exact ⟨h, t, rfl⟩
    rw [e] at ih
    by_cases ha : a = 32
    · subst ha
      rw [cutL_blank, cutL_blank, ih, e]
      by_cases hb : b = 32
      · rw [if_pos hb, if_pos hb]; rfl
      · rw [if_neg hb, if_neg hb]; simp
    · rw [cutL_other ha e]
      by_cases hb : b = 32
      · rw [if_pos hb] at ih ⊢
        rw [cutL_other ha ih]; rfl
      · rw [if_neg hb] at ih ⊢
        cases t with
        | nil =>
          rw [cutL_other ha (h := h ++ [b]) (t := []) (by rw [ih]; simp)]
          simp
        | cons t0 t =>
          rw [cutL_other ha (h := h) (t := (t0 :: t).dropLast ++ [(t0 :: t).getLastD [] ++ [b]]) (by rw [ih]; simp)]
          simp
theorem cut_len : ∀ l : List UInt8, ((cutL l).map List.length).sum + (cutL l).length = l.length + 1
  | [] => by simp [cutL]
  | b :: r => by
    have ih := cut_len r
    obtain ⟨h, t, e⟩ : ∃ h t, cutL r = h :: t := by
      cases hx : cutL r with
      | nil => exact absurd hx (cutL_ne r)
      | cons h t => exact ⟨h, t, rfl⟩
    by_cases hb : b = 32
    · subst hb
      rw [cutL_blank]
      simp only [List.map_cons, List.sum_cons, List.length_cons, List.length_nil]
      omega
    · rw [cutL_other hb e]
      rw [e] at ih
      simp only [List.map_cons, List.sum_cons, List.length_cons] at ih ⊢
      omega
/-- The library's cut at all blanks. -/
theorem split_cut : ∀ l : List UInt8, Lib.splitK [32] 0 (Lib.count l [32]) l = cutL l
  | [] => by
    rw [Lib.count_miss (by simp [Lib.index])]
    rfl
  | b :: r => by
    have ih := split_cut r
    by_cases hb : b = 32
    · subst hb
      rw [Lib.count_cons_eq, Nat.add_comm, cutL_blank, ← ih]
      have hix : Lib.index (32 :: r) [32] = 0 := by rw [Lib.index]; simp [List.isPrefixOf]
      rw [Lib.splitK, hix]
      simp
    · rw [Lib.count_cons_ne b 32 r hb]
      have hp : ([32] : List UInt8).isPrefixOf (b :: r) = false := by simp [List.isPrefixOf, Ne.symm hb]
      have hix : Lib.index (b :: r) [32] = if Lib.index r [32] == -1 then -1 else Lib.index r [32] + 1 := by rw [Lib.index, hp]; simp
      cases hn : Lib.count r [32] with
      | zero =>
        rw [hn] at ih
        rw [cutL_other hb (h := r) (t := []) (by rw [← ih]; rfl)]
        rfl
      | succ n =>
        rw [hn] at ih
        have hm : Lib.index r [32] ≠ -1 := fun e => by rw [Lib.count_miss e] at hn; omega
        have hge := Lib.index_ge r [32]
        obtain ⟨j, hj⟩ : ∃ j : Nat, Lib.index r [32] = j := ⟨(Lib.index r [32]).toNat, by omega⟩
        have hix' : Lib.index (b :: r) [32] = ((j + 1 : Nat) : Int) := by rw [hix, if_neg (fun e => hm (beq_iff_eq.1 e)), hj]; omega
        have h1 : ¬ (Lib.index r [32] == -1) = true := fun e => hm (beq_iff_eq.1 e)
        have h2 : ¬ (Lib.index (b :: r) [32] == -1) = true := fun e => by have := beq_iff_eq.1 e; omega
        rw [Lib.splitK, if_neg h1] at ih
        rw [cutL_other hb ih.symm, Lib.splitK, if_neg h2, hix', hj]
        simp
def isDig (b : UInt8) : Bool := decide (48 ≤ b.toNat ∧ b.toNat ≤ 57)
def natOf : Nat → List UInt8 → Nat
  | a, [] => a
  | a, b :: r => natOf (a * 10 + (b.toNat - 48)) r
theorem natOf_snoc (b : UInt8) : ∀ (q : List UInt8) (a : Nat), natOf a (q ++ [b]) = natOf a q * 10 + (b.toNat - 48)
  | [], _ => rfl
  | c :: q, a => natOf_snoc b q _
theorem natOf_ge : ∀ (q : List UInt8) (a : Nat), a ≤ natOf a q
  | [], a => Nat.le_refl _
  | c :: q, a => Nat.le_trans (by omega) (natOf_ge q _)
/-- What the model reads a piece as. -/
def numV (p : List UInt8) : Int := if p = [] ∨ 7 < p.length ∨ (p.headD 0 = 48 ∧ 1 < p.length) then -1 else if p.all isDig then (natOf 0 p : Int) else -1
theorem u8_of {b : UInt8} (h : isDig b = true) : UInt8.ofNat (48 + (b.toNat - 48)) = b := by
  have h1 := of_decide_eq_true h
  rw [show 48 + (b.toNat - 48) = b.toNat by omega]
  simp
theorem dec_of : ∀ (n : Nat) (p : List UInt8), p.length = n → p ≠ [] → p.all isDig = true → ¬ (p.headD 0 = 48 ∧ 1 < p.length) → Lib.decDigits (natOf 0 p) = p
  | n, p, hn, hne, hd, hz => by
    obtain ⟨q, b, rfl⟩ : ∃ q b, p = q ++ [b] := ⟨p.dropLast, p.getLast hne, (List.dropLast_concat_getLast hne).symm⟩
    rw [List.all_append, Bool.and_eq_true] at hd
    obtain ⟨hq, hb⟩ := hd
    have hb : isDig b = true := by simpa using hb
    have hb2 := of_decide_eq_true hb
    rw [natOf_snoc]
    cases q with
    | nil =>
      show Lib.decDigits (natOf 0 [] * 10 + (b.toNat - 48)) = [b]
      rw [show natOf 0 [] = 0 from rfl, Lib.decDigits_one (by omega)]
      rw [show 48 + (0 * 10 + (b.toNat - 48)) = 48 + (b.toNat - 48) by omega, u8_of hb]
    | cons c q =>
      have hc : c ≠ 48 := fun e => hz ⟨by simp [e], by simp⟩
      have hcd : isDig c = true := by rw [List.all_cons, Bool.and_eq_true] at hq; exact hq.1
      have hc2 := of_decide_eq_true hcd
      have hc3 : c.toNat ≠ 48 := fun e => hc (by rw [← UInt8.toNat_inj]; exact e)
      have hpos : 1 ≤ natOf 0 (c :: q) := Nat.le_trans (by omega : 1 ≤ 0 * 10 + (c.toNat - 48)) (natOf_ge q _)
      have ih := dec_of (c :: q).length (c :: q) rfl (by simp) hq (fun h => hc (by simpa using h.1))
      rw [Lib.decDigits, dif_neg (by omega)]
      rw [show (natOf 0 (c :: q) * 10 + (b.toNat - 48)) / 10 = natOf 0 (c :: q) by omega, ih]
      rw [show (natOf 0 (c :: q) * 10 + (b.toNat - 48)) % 10 = b.toNat - 48 by omega, u8_of hb]
  termination_by n => n
  decreasing_by simp at hn ⊢; omega
theorem dec_is : ∀ (n : Nat), Lib.decDigits n ≠ [] ∧ (Lib.decDigits n).all isDig = true ∧ natOf 0 (Lib.decDigits n) = n ∧ (1 ≤ n → (Lib.decDigits n).headD 0 ≠ 48)
  | n => by
    have hof : ∀ k, k < 10 → isDig (UInt8.ofNat (48 + k)) = true ∧ (UInt8.ofNat (48 + k)).toNat = 48 + k := by
      intro k hk
      have : (UInt8.ofNat (48 + k)).toNat = 48 + k := by simp; omega
      exact ⟨decide_eq_true (by omega), this⟩
    by_cases h : n < 10
    · rw [Lib.decDigits_one h]
      obtain ⟨h1, h2⟩ := hof n h
      refine ⟨by simp, by rw [List.all_cons, h1]; rfl, ?_, fun h3 => ?_⟩
      · show 0 * 10 + ((UInt8.ofNat (48 + n)).toNat - 48) = n
        omega
      · intro e
        have e2 : UInt8.ofNat (48 + n) = 48 := e
        rw [e2] at h2
        have : (48 : UInt8).toNat = 48 := rfl
        omega
    · have hlt : n / 10 < n := by omega
      obtain ⟨i1, i2, i3, i4⟩ := dec_is (n / 10)
      obtain ⟨h1, h2⟩ := hof (n % 10) (by omega)
      rw [Lib.decDigits, dif_neg h]
      refine ⟨by simp, by rw [List.all_append, i2, List.all_cons, h1]; rfl, ?_, fun _ => ?_⟩
      · rw [natOf_snoc, i3, h2]; omega
      · have := i4 (by omega)
        cases hx : Lib.decDigits (n / 10) with
        | nil => exact absurd hx i1
        | cons c q => rw [hx] at this; simpa using this
theorem numV_dec {n : Nat} (h : n < 10000000) : numV (Lib.decDigits n) = n := by
  obtain ⟨h1, h2, h3, h4⟩ := dec_is n
  have hl : (Lib.decDigits n).length ≤ 7 := by
    rw [Lib.decDigits_length]
    rcases Nat.lt_or_ge 7 (Lib.nDigits n) with h5 | h5
    · exfalso
      have h6 : ∀ k u, k < Lib.nDigits u → 10 ^ k ≤ u ∨ k = 0 := by
        intro k
        induction k with
        | zero => intro u _; exact .inr rfl
        | succ k ih =>
          intro u hu
          left
          by_cases hu10 : u < 10
          · rw [Lib.nDigits_small hu10] at hu; omega
          · rw [Lib.nDigits_big hu10] at hu
            have := ih (u / 10) (by omega)
            rw [Nat.pow_succ]
            rcases this with h7 | h7
            · omega
            · subst h7; simp; omega
      have := h6 7 n h5
      have e7 : (10 : Nat) ^ 7 = 10000000 := by decide
      rw [e7] at this
      omega
    · exact h5
  unfold numV
  rw [if_neg, if_pos h2, h3]
  rintro (h5 | h5 | ⟨h5, h6⟩)
  · exact h1 h5
  · omega
  · rcases Nat.lt_or_ge n 1 with h7 | h7
    · have : n = 0 := by omega
      subst this
      rw [Lib.decDigits_one (by omega)] at h6
      simp at h6
    · exact h4 h7 h5
theorem numV_ok {p : List UInt8} (h : 0 ≤ numV p) : p = Lib.decDigits (numV p).toNat ∧ (numV p).toNat < 10000000 := by
  unfold numV at h ⊢
  split at h
  · omega
  · rename_i hx
    rw [if_neg hx]
    split at h
    · rename_i hd
      rw [if_pos hd]
      have h1 : p ≠ [] := fun e => hx (.inl e)
      have h2 : ¬ 7 < p.length := fun e => hx (.inr (.inl e))
      have e := dec_of p.length p rfl h1 hd (fun e => hx (.inr (.inr e)))
      rw [Int.toNat_natCast]
      refine ⟨e.symm, ?_⟩
      have hb : ∀ (q : List UInt8) (a : Nat), q.all isDig = true → natOf a q < (a + 1) * 10 ^ q.length := by
        intro q
        induction q with
        | nil => intro a _; show a < (a + 1) * 10 ^ 0; rw [Nat.pow_zero]; omega
        | cons c q ih =>
          intro a hq
          rw [List.all_cons, Bool.and_eq_true] at hq
          have hc := of_decide_eq_true hq.1
          have := ih (a * 10 + (c.toNat - 48)) hq.2
          have h3 : (a * 10 + (c.toNat - 48) + 1) * 10 ^ q.length ≤ ((a + 1) * 10) * 10 ^ q.length := Nat.mul_le_mul_right _ (by omega)
          show natOf (a * 10 + (c.toNat - 48)) q < (a + 1) * 10 ^ (q.length + 1)
          rw [Nat.pow_succ, Nat.mul_comm (10 ^ q.length) 10, ← Nat.mul_assoc]
          omega
      have h3 := hb p 0 hd
      have h4 : 10 ^ p.length ≤ 10 ^ 7 := Nat.pow_le_pow_right (by omega) (by omega)
      have e7 : (10 : Nat) ^ 7 = 10000000 := by decide
      omega
    · omega
/-- What the program reads a piece as. -/
def decV (p : List UInt8) : Option Int :=
  match Lib.parseIntB 64 p with
  | .ok v => if Lib.itoa v = p then some v else none
  | _ => none
theorem decV_is {p : List UInt8} {v : Int} (h : decV p = some v) : p = Lib.itoa v := by
  unfold decV at h
  split at h
  · split at h
    · rename_i e; injection h with h; subst h; exact e.symm
    · cases h
  · cases h
theorem decV_dec {n : Nat} (h : n < 10000000) : decV (Lib.decDigits n) = some (n : Int) := by
  obtain ⟨h1, h2, h3, h4⟩ := dec_is n
  have hp : ∀ (q : List UInt8) (a : Nat), q.all isDig = true → natOf a q < 10000000 → Lib.parseUint10 a q = .ok (natOf a q) := by
    intro q
    induction q with
    | nil => intro a _ _; rfl
    | cons c q ih =>
      intro a hq hlt
      rw [List.all_cons, Bool.and_eq_true] at hq
      have hc := of_decide_eq_true hq.1
      have hge : a * 10 + (c.toNat - 48) ≤ natOf a (c :: q) := natOf_ge q _
      rw [Lib.parseUint10, if_pos hc, if_neg (by omega), if_neg (by omega)]
      exact ih _ hq.2 hlt
  have hpn := hp _ 0 h2 (by omega)
  rw [h3] at hpn
  have hpar : Lib.parseIntB 64 (Lib.decDigits n) = .ok (n : Int) := by
    rw [Lib.parseIntB_64]
    cases hx : Lib.decDigits n with
    | nil => exact absurd hx h1
    | cons c r =>
      rw [hx] at h2 hpn
      rw [List.all_cons, Bool.and_eq_true] at h2
      have hc := of_decide_eq_true h2.1
      rw [Lib.atoiAll_plain c r (by omega) (by omega)]
      unfold Lib.parseMag
      rw [if_neg (by simp), hpn]
      show (if 9223372036854775808 ≤ n then Lib.NumEnd.range else Lib.NumEnd.ok (n : Int)) = Lib.NumEnd.ok (n : Int)
      rw [if_neg (by omega)]
  unfold decV
  rw [hpar]
  simp only
  rw [if_pos (Lib.itoa_nonneg n)]
/-- All pieces are numbers; the numbers. -/
def decAll (ps : List (List UInt8)) : Bool := ps.all fun p => (decV p).isSome
def decL (ps : List (List UInt8)) : List Int := ps.map fun p => (decV p).getD 0
def numL (ps : List (List UInt8)) : List Int := ps.map numV
def rfB (s : List UInt8) : Bool := decide (s.length ≤ 32016) && (decide (3 ≤ (cutL s).length) && fluxOk ((numL (cutL s)).getD 0 0) ((numL (cutL s)).getD 1 0) ((numL (cutL s)).drop 2))
def rfI (s : List UInt8) : Bool := decAll (cutL s) && (decide (3 ≤ (cutL s).length) && fluxOk ((decL (cutL s)).getD 0 0) ((decL (cutL s)).getD 1 0) ((decL (cutL s)).drop 2))
theorem ok_mem {X : List Int} (h3 : 3 ≤ X.length) (h : fluxOk (X.getD 0 0) (X.getD 1 0) (X.drop 2) = true) : ∀ x ∈ X, 0 ≤ x ∧ x ≤ 2000000 := by
  obtain ⟨hc, -, hm, -, hf, -⟩ := fluxOk_bd h
  match X, h3 with
  | a :: b :: r, _ =>
    intro x hx
    simp at hc hf hm hx
    rcases hx with rfl | rfl | hx
    · omega
    · omega
    · have := hm x hx; omega
theorem rf_eq (s : List UInt8) : rfI s = rfB s ∧ (rfB s = true → decL (cutL s) = numL (cutL s)) := by
  have key1 : rfI s = true → rfB s = true := by
    intro h
    unfold rfI at h
    rw [Bool.and_eq_true, Bool.and_eq_true, decide_eq_true_eq] at h
    obtain ⟨ha, h3, hf⟩ := h
    have hm := ok_mem (by unfold decL; simpa using h3) hf
    have ha := List.all_eq_true.1 ha
    have hp : ∀ p ∈ cutL s, numV p = (decV p).getD 0 ∧ p.length ≤ 7 := by
      intro p hp
      have h1 := ha p hp
      obtain ⟨v, hv⟩ := Option.isSome_iff_exists.1 h1
      have h2 := hm _ (List.mem_map_of_mem hp)
      rw [hv] at h2 ⊢
      simp only [Option.getD_some] at h2 ⊢
      have e := decV_is hv
      have e2 : p = Lib.decDigits v.toNat := by rw [e]; unfold Lib.itoa; rw [if_neg (by omega)]
      have e3 := numV_dec (n := v.toNat) (by omega)
      rw [← e2] at e3
      refine ⟨by omega, ?_⟩
      rcases Nat.lt_or_ge 7 p.length with h5 | h5
      · exfalso
        unfold numV at e3
        rw [if_pos (.inr (.inl h5))] at e3
        omega
      · exact h5
    have e : decL (cutL s) = numL (cutL s) := List.map_congr_left fun p hp' => (hp p hp').1.symm
    rw [e] at hf
    have hlen : s.length ≤ 32016 := by
      have h1 := cut_len s
      obtain ⟨-, hl, -⟩ := fluxOk_bd hf
      have h2 : (cutL s).length ≤ 4002 := by
        rw [List.length_drop] at hl
        unfold numL at hl
        rw [List.length_map] at hl
        omega
      have h5 : ∀ ps : List (List UInt8), (∀ p ∈ ps, p.length ≤ 7) → (ps.map List.length).sum ≤ 7 * ps.length := by
        intro ps
        induction ps with
        | nil => intro _; simp
        | cons a r ih =>
          intro h6
          have h7 := h6 a (by simp)
          have h8 := ih fun p hp => h6 p (by simp [hp])
          simp only [List.map_cons, List.sum_cons, List.length_cons]
          omega
      have h6 := h5 _ fun p hp' => (hp p hp').2
      omega
    unfold rfB
    rw [decide_eq_true hlen, decide_eq_true h3, hf]; rfl
  have key2 : rfB s = true → rfI s = true ∧ decL (cutL s) = numL (cutL s) := by
    intro h
    unfold rfB at h
    rw [Bool.and_eq_true, Bool.and_eq_true, decide_eq_true_eq, decide_eq_true_eq] at h
    obtain ⟨hlen, h3, hf⟩ := h
    have hm := ok_mem (by unfold numL; simpa using h3) hf
    have hp : ∀ p ∈ cutL s, decV p = some (numV p) := by
      intro p hp
      have h2 := hm _ (List.mem_map_of_mem hp)
      obtain ⟨e, e2⟩ := numV_ok h2.1
      have e3 := decV_dec e2
      rw [← e] at e3
      rw [e3]
      congr 1
      omega
    have e : decL (cutL s) = numL (cutL s) := List.map_congr_left fun p hp' => by rw [hp p hp']; rfl
    refine ⟨?_, e⟩
    unfold rfI
    rw [e, decide_eq_true h3, hf]
    have : decAll (cutL s) = true := List.all_eq_true.2 fun p hp' => by rw [hp p hp']; rfl
    rw [this]; rfl
  refine ⟨?_, fun h => (key2 h).2⟩
  cases h1 : rfI s
  · cases h2 : rfB s
    · rfl
    · rw [(key2 h2).1] at h1; exact absurd h1 (by decide)
  · rw [key1 h1]
end Go.Proofs.YtfdcainjppljhaaDoor
