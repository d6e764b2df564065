/- A text cut at blanks; its pieces as decimal numbers; plain: no program in sight. Slices of strings of the call's own. The model reads a piece: l01Number. The model cuts a text at a blank: l01Split. slices.Clone at []int64. ReadFlux: readDecimal, splitNumbers, strings.Split at a blank. ReadFlux, the program's and the model's. ReadFlux, the model's. Flux whose index is later; weak areas: what sorting gives, plain. slices.Sort at int64 and modulo: contracts. Flux of times, its four callers. Printed by makegen.py. The revolution and the changes of flux. What the changes of times have in common. Printed by opgen.py. slices.BinarySearch at []int64; l00Has. -/
import Derived.Test.YtfdcainjppljhaaGreatDoorMgFnFlux1
import Derived.Test.YtfdcainjppljhaaGreatDoorMgFnFlux2
import Derived.Lib.SplitLaws
import Derived.Lib.ParseIntBTie
import Derived.Lib.AtoiAllCases
import Derived.Lib.SliceRun
import Derived.Shelf.Strings.SplitCore
import Derived.Deep.RegionHeld3
import Derived.Deep.DeepCutAuto
import Derived.Deep.RegionLaw
import Derived.Test.YtfdcainjppljhaaGreatDoorShelf
import Derived.Sort.Grow
namespace Go.Proofs.YtfdcainjppljhaaGreatDoor
open Go.RowKit
set_option linter.unusedVariables false
def cutL : List UInt8 → List (List UInt8)
  | [] => [[]]
  | b :: r => if b = 32 then [] :: cutL r else
    match cutL r with
    | [] => [[b]]
    | h :: t => (b :: h) :: t
theorem cutL_ne (l : List UInt8) : cutL l ≠ [] := by
  cases l with
  | nil => simp [cutL]
  | cons b r =>
    unfold cutL
    split
    · simp
    · split <;> simp
theorem cutL_blank (r : List UInt8) : cutL (32 :: r) = [] :: cutL r := by simp [cutL]
theorem cutL_other {b : UInt8} {r : List UInt8} (hb : b ≠ 32) {h : List UInt8} {t : List (List UInt8)} (e : cutL r = h :: t) : cutL (b :: r) = (b :: h) :: t := by
  rw [cutL, if_neg hb, e]
theorem cutL_snoc (b : UInt8) : ∀ l : List UInt8, cutL (l ++ [b]) = if b = 32 then cutL l ++ [[]] else (cutL l).dropLast ++ [(cutL l).getLastD [] ++ [b]]
  | [] => by
    by_cases hb : b = 32
    · subst hb; simp [cutL]
    · simp [cutL, hb]
  | a :: r => by
    have ih := cutL_snoc b r
    rw [List.cons_append]
    obtain ⟨h, t, e⟩ : ∃ h t, cutL r = h :: t := by
      cases hx : cutL r with
      | nil => exact absurd hx (cutL_ne r)
      | cons h t => exact ⟨h, t, rfl⟩
    rw [e] at ih
    by_cases ha : a = 32
    · subst ha
      rw [cutL_blank, cutL_blank, ih, e]
      by_cases hb : b = 32
      · rw [if_pos hb, if_pos hb]; rfl
      · rw [if_neg hb, if_neg hb]; simp
    · rw [cutL_other ha e]
      by_cases hb : b = 32
      · rw [if_pos hb] at ih ⊢
        rw [cutL_other ha ih]; rfl
      · rw [if_neg hb] at ih ⊢
        cases t with
        | nil =>
          rw [cutL_other ha (h := h ++ [b]) (t := []) (by rw [ih]; simp)]
          simp
        | cons t0 t =>
          rw [cutL_other ha (h := h) (t := (t0 :: t).dropLast ++ [(t0 :: t).getLastD [] ++ [b]]) (by rw [ih]; simp)]
          simp
theorem cut_len : ∀ l : List UInt8, ((cutL l).map List.length).sum + (cutL l).length = l.length + 1
  | [] => by simp [cutL]
  | b :: r => by
    have ih := cut_len r
    obtain ⟨h, t, e⟩ : ∃ h t, cutL r = h :: t := by
      cases hx : cutL r with
      | nil => exact absurd hx (cutL_ne r)
      | cons h t => exact ⟨h, t, rfl⟩
    by_cases hb : b = 32
    · subst hb
      rw [cutL_blank]
      simp only [List.map_cons, List.sum_cons, List.length_cons, List.length_nil]
      omega
    · rw [cutL_other hb e]
      rw [e] at ih
      simp only [List.map_cons, List.sum_cons, List.length_cons] at ih ⊢
      omega
/-- The library's cut at all blanks. -/
theorem split_cut : ∀ l : List UInt8, Lib.splitK [32] 0 (Lib.count l [32]) l = cutL l
  | [] => by
    rw [Lib.count_miss (by simp [Lib.index])]
    rfl
  | b :: r => by
    have ih := split_cut r
    by_cases hb : b = 32
    · subst hb
      rw [Lib.count_cons_eq, Nat.add_comm, cutL_blank, ← ih]
      have hix : Lib.index (32 :: r) [32] = 0 := by rw [Lib.index]; simp [List.isPrefixOf]
      rw [Lib.splitK, hix]
      simp
    · rw [Lib.count_cons_ne b 32 r hb]
      have hp : ([32] : List UInt8).isPrefixOf (b :: r) = false := by simp [List.isPrefixOf, Ne.symm hb]
      have hix : Lib.index (b :: r) [32] = if Lib.index r [32] == -1 then -1 else Lib.index r [32] + 1 := by rw [Lib.index, hp]; simp
      cases hn : Lib.count r [32] with
      | zero =>
        rw [hn] at ih
        rw [cutL_other hb (h := r) (t := []) (by rw [← ih]; rfl)]
        rfl
      | succ n =>
        rw [hn] at ih
        have hm : Lib.index r [32] ≠ -1 := fun e => by rw [Lib.count_miss e] at hn; omega
        have hge := Lib.index_ge r [32]
        obtain ⟨j, hj⟩ : ∃ j : Nat, Lib.index r [32] = j := ⟨(Lib.index r [32]).toNat, by omega⟩
        have hix' : Lib.index (b :: r) [32] = ((j + 1 : Nat) : Int) := by rw [hix, if_neg (fun e => hm (beq_iff_eq.1 e)), hj]; omega
        have h1 : ¬ (Lib.index r [32] == -1) = true := fun e => hm (beq_iff_eq.1 e)
        have h2 : ¬ (Lib.index (b :: r) [32] == -1) = true := fun e => by have := beq_iff_eq.1 e; omega
        rw [Lib.splitK, if_neg h1] at ih
        rw [cutL_other hb ih.symm, Lib.splitK, if_neg h2, hix', hj]
        simp
def isDig (b : UInt8) : Bool := decide (48 ≤ b.toNat ∧ b.toNat ≤ 57)
def natOf : Nat → List UInt8 → Nat
  | a, [] => a
  | a, b :: r => natOf (a * 10 + (b.toNat - 48)) r
theorem natOf_snoc (b : UInt8) : ∀ (q : List UInt8) (a : Nat), natOf a (q ++ [b]) = natOf a q * 10 + (b.toNat - 48)
  | [], _ => rfl
  | c :: q, a => natOf_snoc b q _
theorem natOf_ge : ∀ (q : List UInt8) (a : Nat), a ≤ natOf a q
  | [], a => Nat.le_refl _
  | c :: q, a => Nat.le_trans (by omega) (natOf_ge q _)
/-- What the model reads a piece as. -/
def numV (p : List UInt8) : Int := if p = [] ∨ 7 < p.length ∨ (p.headD 0 = 48 ∧ 1 < p.length) then -1 else if p.all isDig then (natOf 0 p : Int) else -1
theorem u8_of {b : UInt8} (h : isDig b = true) : UInt8.ofNat (48 + (b.toNat - 48)) = b := by
  have h1 := of_decide_eq_true h
  rw [show 48 + (b.toNat - 48) = b.toNat by omega]
  simp
theorem dec_of : ∀ (n : Nat) (p : List UInt8), p.length = n → p ≠ [] → p.all isDig = true → ¬ (p.headD 0 = 48 ∧ 1 < p.length) → Lib.decDigits (natOf 0 p) = p
  | n, p, hn, hne, hd, hz => by
    obtain ⟨q, b, rfl⟩ : ∃ q b, p = q ++ [b] := ⟨p.dropLast, p.getLast hne, (List.dropLast_concat_getLast hne).symm⟩
    rw [List.all_append, Bool.and_eq_true] at hd
    obtain ⟨hq, hb⟩ := hd
    have hb : isDig b = true := by simpa using hb
    have hb2 := of_decide_eq_true hb
    rw [natOf_snoc]
    cases q with
    | nil =>
      show Lib.decDigits (natOf 0 [] * 10 + (b.toNat - 48)) = [b]
      rw [show natOf 0 [] = 0 from rfl, Lib.decDigits_one (by omega)]
      rw [show 48 + (0 * 10 + (b.toNat - 48)) = 48 + (b.toNat - 48) by omega, u8_of hb]
    | cons c q =>
      have hc : c ≠ 48 := fun e => hz ⟨by simp [e], by simp⟩
      have hcd : isDig c = true := by rw [List.all_cons, Bool.and_eq_true] at hq; exact hq.1
      have hc2 := of_decide_eq_true hcd
      have hc3 : c.toNat ≠ 48 := fun e => hc (by rw [← UInt8.toNat_inj]; exact e)
      have hpos : 1 ≤ natOf 0 (c :: q) := Nat.le_trans (by omega : 1 ≤ 0 * 10 + (c.toNat - 48)) (natOf_ge q _)
      have ih := dec_of (c :: q).length (c :: q) rfl (by simp) hq (fun h => hc (by simpa using h.1))
      rw [Lib.decDigits, dif_neg (by omega)]
      rw [show (natOf 0 (c :: q) * 10 + (b.toNat - 48)) / 10 = natOf 0 (c :: q) by omega, ih]
      rw [show (natOf 0 (c :: q) * 10 + (b.toNat - 48)) % 10 = b.toNat - 48 by omega, u8_of hb]
  termination_by n => n
  decreasing_by simp at hn ⊢; omega
theorem dec_is : ∀ (n : Nat), Lib.decDigits n ≠ [] ∧ (Lib.decDigits n).all isDig = true ∧ natOf 0 (Lib.decDigits n) = n ∧ (1 ≤ n → (Lib.decDigits n).headD 0 ≠ 48)
  | n => by
    have hof : ∀ k, k < 10 → isDig (UInt8.ofNat (48 + k)) = true ∧ (UInt8.ofNat (48 + k)).toNat = 48 + k := by
      intro k hk
      have : (UInt8.ofNat (48 + k)).toNat = 48 + k := by simp; omega
      exact ⟨decide_eq_true (by omega), this⟩
    by_cases h : n < 10
    · rw [Lib.decDigits_one h]
      obtain ⟨h1, h2⟩ := hof n h
      refine ⟨by simp, by rw [List.all_cons, h1]; rfl, ?_, fun h3 => ?_⟩
      · show 0 * 10 + ((UInt8.ofNat (48 + n)).toNat - 48) = n
        omega
      · intro e
        have e2 : UInt8.ofNat (48 + n) = 48 := e
        rw [e2] at h2
        have : (48 : UInt8).toNat = 48 := rfl
        omega
    · have hlt : n / 10 < n := by omega
      obtain ⟨i1, i2, i3, i4⟩ := dec_is (n / 10)
      obtain ⟨h1, h2⟩ := hof (n % 10) (by omega)
      rw [Lib.decDigits, dif_neg h]
      refine ⟨by simp, by rw [List.all_append, i2, List.all_cons, h1]; rfl, ?_, fun _ => ?_⟩
      · rw [natOf_snoc, i3, h2]; omega
      · have := i4 (by omega)
        cases hx : Lib.decDigits (n / 10) with
        | nil => exact absurd hx i1
        | cons c q => rw [hx] at this; simpa using this
theorem numV_dec {n : Nat} (h : n < 10000000) : numV (Lib.decDigits n) = n := by
  obtain ⟨h1, h2, h3, h4⟩ := dec_is n
  have hl : (Lib.decDigits n).length ≤ 7 := by
    rw [Lib.decDigits_length]
    rcases Nat.lt_or_ge 7 (Lib.nDigits n) with h5 | h5
    · exfalso
      have h6 : ∀ k u, k < Lib.nDigits u → 10 ^ k ≤ u ∨ k = 0 := by
        intro k
        induction k with
        | zero => intro u _; exact .inr rfl
        | succ k ih =>
          intro u hu
          left
          by_cases hu10 : u < 10
          · rw [Lib.nDigits_small hu10] at hu; omega
          · rw [Lib.nDigits_big hu10] at hu
            have := ih (u / 10) (by omega)
            rw [Nat.pow_succ]
            rcases this with h7 | h7
            · omega
            · subst h7; simp; omega
      have := h6 7 n h5
      have e7 : (10 : Nat) ^ 7 = 10000000 := by decide
      rw [e7] at this
      omega
    · exact h5
  unfold numV
  rw [if_neg, if_pos h2, h3]
  rintro (h5 | h5 | ⟨h5, h6⟩)
  · exact h1 h5
  · omega
  · rcases Nat.lt_or_ge n 1 with h7 | h7
    · have : n = 0 := by omega
      subst this
      rw [Lib.decDigits_one (by omega)] at h6
      simp at h6
    · exact h4 h7 h5
theorem numV_ok {p : List UInt8} (h : 0 ≤ numV p) : p = Lib.decDigits (numV p).toNat ∧ (numV p).toNat < 10000000 := by
  unfold numV at h ⊢
  split at h
  · omega
  · rename_i hx
    rw [if_neg hx]
    split at h
    · rename_i hd
      rw [if_pos hd]
      have h1 : p ≠ [] := fun e => hx (.inl e)
      have h2 : ¬ 7 < p.length := fun e => hx (.inr (.inl e))
      have e := dec_of p.length p rfl h1 hd (fun e => hx (.inr (.inr e)))
      rw [Int.toNat_natCast]
      refine ⟨e.symm, ?_⟩
      have hb : ∀ (q : List UInt8) (a : Nat), q.all isDig = true → natOf a q < (a + 1) * 10 ^ q.length := by
        intro q
        induction q with
        | nil => intro a _; show a < (a + 1) * 10 ^ 0; rw [Nat.pow_zero]; omega
        | cons c q ih =>
          intro a hq
          rw [List.all_cons, Bool.and_eq_true] at hq
          have hc := of_decide_eq_true hq.1
          have := ih (a * 10 + (c.toNat - 48)) hq.2
          have h3 : (a * 10 + (c.toNat - 48) + 1) * 10 ^ q.length ≤ ((a + 1) * 10) * 10 ^ q.length := Nat.mul_le_mul_right _ (by omega)
          show natOf (a * 10 + (c.toNat - 48)) q < (a + 1) * 10 ^ (q.length + 1)
          rw [Nat.pow_succ, Nat.mul_comm (10 ^ q.length) 10, ← Nat.mul_assoc]
          omega
      have h3 := hb p 0 hd
      have h4 : 10 ^ p.length ≤ 10 ^ 7 := Nat.pow_le_pow_right (by omega) (by omega)
      have e7 : (10 : Nat) ^ 7 = 10000000 := by decide
      omega
    · omega
/-- What the program reads a piece as. -/
def decV (p : List UInt8) : Option Int :=
  match Lib.parseIntB 64 p with
  | .ok v => if Lib.itoa v = p then some v else none
  | _ => none
theorem decV_is {p : List UInt8} {v : Int} (h : decV p = some v) : p = Lib.itoa v := by
  unfold decV at h
  split at h
  · split at h
    · rename_i e; injection h with h; subst h; exact e.symm
    · cases h
  · cases h
theorem decV_dec {n : Nat} (h : n < 10000000) : decV (Lib.decDigits n) = some (n : Int) := by
  obtain ⟨h1, h2, h3, h4⟩ := dec_is n
  have hp : ∀ (q : List UInt8) (a : Nat), q.all isDig = true → natOf a q < 10000000 → Lib.parseUint10 a q = .ok (natOf a q) := by
    intro q
    induction q with
    | nil => intro a _ _; rfl
    | cons c q ih =>
      intro a hq hlt
      rw [List.all_cons, Bool.and_eq_true] at hq
      have hc := of_decide_eq_true hq.1
      have hge : a * 10 + (c.toNat - 48) ≤ natOf a (c :: q) := natOf_ge q _
      rw [Lib.parseUint10, if_pos hc, if_neg (by omega), if_neg (by omega)]
      exact ih _ hq.2 hlt
  have hpn := hp _ 0 h2 (by omega)
  rw [h3] at hpn
  have hpar : Lib.parseIntB 64 (Lib.decDigits n) = .ok (n : Int) := by
    rw [Lib.parseIntB_64]
    cases hx : Lib.decDigits n with
    | nil => exact absurd hx h1
    | cons c r =>
      rw [hx] at h2 hpn
      rw [List.all_cons, Bool.and_eq_true] at h2
      have hc := of_decide_eq_true h2.1
      rw [Lib.atoiAll_plain c r (by omega) (by omega)]
      unfold Lib.parseMag
      rw [if_neg (by simp), hpn]
      show (if 9223372036854775808 ≤ n then Lib.NumEnd.range else Lib.NumEnd.ok (n : Int)) = Lib.NumEnd.ok (n : Int)
      rw [if_neg (by omega)]
  unfold decV
  rw [hpar]
  simp only
  rw [if_pos (Lib.itoa_nonneg n)]
/-- All pieces are numbers; the numbers. -/
def decAll (ps : List (List UInt8)) : Bool := ps.all fun p => (decV p).isSome
def decL (ps : List (List UInt8)) : List Int := ps.map fun p => (decV p).getD 0
def numL (ps : List (List UInt8)) : List Int := ps.map numV
def rfB (s : List UInt8) : Bool := decide (s.length ≤ 32016) && (decide (3 ≤ (cutL s).length) && fluxOk ((numL (cutL s)).getD 0 0) ((numL (cutL s)).getD 1 0) ((numL (cutL s)).drop 2))
def rfI (s : List UInt8) : Bool := decAll (cutL s) && (decide (3 ≤ (cutL s).length) && fluxOk ((decL (cutL s)).getD 0 0) ((decL (cutL s)).getD 1 0) ((decL (cutL s)).drop 2))
theorem ok_mem {X : List Int} (h3 : 3 ≤ X.length) (h : fluxOk (X.getD 0 0) (X.getD 1 0) (X.drop 2) = true) : ∀ x ∈ X, 0 ≤ x ∧ x ≤ 2000000 := by
  obtain ⟨hc, -, hm, -, hf, -⟩ := fluxOk_bd h
  match X, h3 with
  | a :: b :: r, _ =>
    intro x hx
    simp at hc hf hm hx
    rcases hx with rfl | rfl | hx
    · omega
    · omega
    · have := hm x hx; omega
theorem rf_eq (s : List UInt8) : rfI s = rfB s ∧ (rfB s = true → decL (cutL s) = numL (cutL s)) := by
  have key1 : rfI s = true → rfB s = true := by
    intro h
    unfold rfI at h
    rw [Bool.and_eq_true, Bool.and_eq_true, decide_eq_true_eq] at h
    obtain ⟨ha, h3, hf⟩ := h
    have hm := ok_mem (by unfold decL; simpa using h3) hf
    have ha := List.all_eq_true.1 ha
    have hp : ∀ p ∈ cutL s, numV p = (decV p).getD 0 ∧ p.length ≤ 7 := by
      intro p hp
      have h1 := ha p hp
      obtain ⟨v, hv⟩ := Option.isSome_iff_exists.1 h1
      have h2 := hm _ (List.mem_map_of_mem hp)
      rw [hv] at h2 ⊢
      simp only [Option.getD_some] at h2 ⊢
      have e := decV_is hv
      have e2 : p = Lib.decDigits v.toNat := by rw [e]; unfold Lib.itoa; rw [if_neg (by omega)]
      have e3 := numV_dec (n := v.toNat) (by omega)
      rw [← e2] at e3
      refine ⟨by omega, ?_⟩
      rcases Nat.lt_or_ge 7 p.length with h5 | h5
      · exfalso
        unfold numV at e3
        rw [if_pos (.inr (.inl h5))] at e3
        omega
      · exact h5
    have e : decL (cutL s) = numL (cutL s) := List.map_congr_left fun p hp' => (hp p hp').1.symm
    rw [e] at hf
    have hlen : s.length ≤ 32016 := by
      have h1 := cut_len s
      obtain ⟨-, hl, -⟩ := fluxOk_bd hf
      have h2 : (cutL s).length ≤ 4002 := by
        rw [List.length_drop] at hl
        unfold numL at hl
        rw [List.length_map] at hl
        omega
      have h5 : ∀ ps : List (List UInt8), (∀ p ∈ ps, p.length ≤ 7) → (ps.map List.length).sum ≤ 7 * ps.length := by
        intro ps
        induction ps with
        | nil => intro _; simp
        | cons a r ih =>
          intro h6
          have h7 := h6 a (by simp)
          have h8 := ih fun p hp => h6 p (by simp [hp])
          simp only [List.map_cons, List.sum_cons, List.length_cons]
          omega
      have h6 := h5 _ fun p hp' => (hp p hp').2
      omega
    unfold rfB
    rw [decide_eq_true hlen, decide_eq_true h3, hf]; rfl
  have key2 : rfB s = true → rfI s = true ∧ decL (cutL s) = numL (cutL s) := by
    intro h
    unfold rfB at h
    rw [Bool.and_eq_true, Bool.and_eq_true, decide_eq_true_eq, decide_eq_true_eq] at h
    obtain ⟨hlen, h3, hf⟩ := h
    have hm := ok_mem (by unfold numL; simpa using h3) hf
    have hp : ∀ p ∈ cutL s, decV p = some (numV p) := by
      intro p hp
      have h2 := hm _ (List.mem_map_of_mem hp)
      obtain ⟨e, e2⟩ := numV_ok h2.1
      have e3 := decV_dec e2
      rw [← e] at e3
      rw [e3]
      congr 1
      omega
    have e : decL (cutL s) = numL (cutL s) := List.map_congr_left fun p hp' => by rw [hp p hp']; rfl
    refine ⟨?_, e⟩
    unfold rfI
    rw [e, decide_eq_true h3, hf]
    have : decAll (cutL s) = true := List.all_eq_true.2 fun p hp' => by rw [hp p hp']; rfl
    rw [this]; rfl
  refine ⟨?_, fun h => (key2 h).2⟩
  cases h1 : rfI s
  · cases h2 : rfB s
    · rfl
    · rw [(key2 h2).1] at h1; exact absurd h1 (by decide)
  · rw [key1 h1]
end Go.Proofs.YtfdcainjppljhaaGreatDoor
namespace Go.Proofs.YtfdcainjppljhaaGreatDoor
open Go.RowKit
set_option linter.unusedVariables false
/-- A slice of strings of the call's own that holds l. -/
def OwnT (w : World) (base : Nat) (v : Value) (l : List ByteArray) : Prop := w.ownsRow base 9 1 v l.length (l.map (Value.string))
theorem OwnT.below {w w' : World} {base : Nat} {v : Value} {l : List ByteArray} (h : OwnT w base v l) (hb : Below w.heap.size w w') : OwnT w' base v l := by
  obtain ⟨h1, h2⟩ := h
  refine ⟨h1, ?_⟩
  rcases h2 with h2 | ⟨g, cap, cur, hv, hg, hh, r⟩
  · exact .inl h2
  · refine .inr ⟨g, cap, cur, hv, hg, ?_, r⟩
    rw [hb.block g]
    · exact hh
    · rcases Nat.lt_or_ge g w.heap.size with hlt | hge
      · exact hlt
      · rw [Array.getElem?_eq_none hge] at hh; cases hh
theorem OwnT.mono {w : World} {base base' : Nat} {v : Value} {l : List ByteArray} (h : OwnT w base v l) (hb : base' ≤ base) : OwnT w base' v l := by
  obtain ⟨h1, h2⟩ := h
  refine ⟨h1, ?_⟩
  rcases h2 with h2 | ⟨g, cap, cur, hv, hg, r⟩
  · exact .inl h2
  · exact .inr ⟨g, cap, cur, hv, by omega, r⟩
theorem OwnT.alloc {w : World} {base : Nat} {v : Value} {l : List ByteArray} (h : OwnT w base v l) (o : Obj) : OwnT (w.alloc o) base v l :=
  h.below ((Below.refl _ _).alloc (Nat.le_refl _) o)
theorem OwnT.nil0 (w : World) : OwnT (w.alloc (.cells #[] 9)) w.heap.size (.slice (some ⟨w.heap.size, 0, none⟩) 0 0) [] := by
  refine ⟨rfl, .inr ⟨w.heap.size, 0, #[], rfl, Nat.le_refl _, Blk.new _ _ _, Nat.le_refl _, Nat.zero_le _, rfl, rfl⟩⟩
theorem OwnT.none_ (w : World) (base : Nat) : OwnT w base (.slice none 0 0) [] := ⟨rfl, .inl ⟨rfl, rfl⟩⟩
theorem OwnT.drew {w : World} {base : Nat} {v : Value} {l : List ByteArray} (h : OwnT w base v l) : OwnT w.drew base v l := h
theorem OwnT.drewN {w : World} {base : Nat} {v : Value} {l : List ByteArray} (h : OwnT w base v l) (n : Nat) : OwnT (w.drewN n) base v l := h
/-- 'b = append(b, x)'. -/
theorem append_txt {ops : Array Oper} {rest : List Oper} {o : Oper} {a : Act} {Q : Exit → Act → World → Prop} (w : World) (hg : o.guard = none) (s x : Operand)
    (ho : o.op = .call { callee := .builtin .append, args := #[s, x], argTypes := #[67, 67] })
    (base : Nat) (v : Value) (l : List ByteArray) (n : ByteArray) (hs : a.eval s = v) (hx : a.eval x = .slice (some ⟨w.heap.size, 0, none⟩) 1 1)
    (hown : OwnT w base v l) (hlen : l.length < 10000000) (hbase : base ≤ w.heap.size)
    (h : ∀ v' w', OwnT w' base v' (l ++ [n]) → Below base w w' → wpList Tryz.prog ops Q rest (a.put o.dst v') w') :
    wpList Tryz.prog ops Q (o :: rest) a (w.alloc (.cells #[Value.string n] 9)) := by
  obtain ⟨i, hi, hz, hsz, hby⟩ := info_parts info_str
  refine wpList_append_own _ hg s x 67 ho base 9 i (Value.string ByteArray.empty) 1 16 Tryz.underlying67 hi hz hsz hby rfl (by decide) v l.length (l.map (Value.string)) hs (hown.alloc _)
    ⟨w.heap.size, 0, none⟩ 1 1 [Value.string n] hx rfl ?_ ?_ (by unfold maxLen; omega) (by omega) (by simp; omega) ?_
  · intro j u hj
    match j, hj with
    | 0, hj => simp at hj; subst hj; simp [Addr.add]
  · intro u hu; simp at hu; subst hu; rfl
  · intro v' w' h1 h2 _
    refine h v' w' ?_ ?_
    · unfold OwnT
      rw [List.map_append, List.length_append]
      exact h1
    · refine ((Below.refl base w).alloc hbase _).grown h2 (by simp; omega) ?_
      intro k hk
      rcases hown.2 with ⟨rfl, _⟩ | ⟨g, cap, cur, rfl, hbg, _⟩
      · simp [Value.ownBlock] at hk
      · simp [Value.ownBlock] at hk; omega
theorem OwnT.open_ {w : World} {base : Nat} {v : Value} {l : List ByteArray} (h : OwnT w base v l) : ∃ p cap, v = .slice p l.length cap ∧ (l ≠ [] → ∃ g, p = some ⟨g, 0, none⟩ ∧ base ≤ g ∧ g < w.heap.size ∧ ∀ j x, l[j]? = some x → w.cell? ⟨g, j, none⟩ = some (.string x)) := by
  rcases h.2 with ⟨rfl, hn⟩ | ⟨g, cap, cur, rfl, hbg, hh, _, hsz, _, ht⟩
  · have hl : l = [] := List.eq_nil_of_length_eq_zero hn
    subst hl
    exact ⟨none, 0, rfl, fun h => absurd rfl h⟩
  · refine ⟨_, cap, rfl, fun _ => ⟨g, rfl, hbg, ?_⟩⟩
    have B : Blk w g 9 cur := hh
    refine ⟨B.lt, fun i x hx => ?_⟩
    have hi : i < l.length := by
      rcases Nat.lt_or_ge i l.length with h | h
      · exact h
      · rw [List.getElem?_eq_none h] at hx; cases hx
    rw [B.cell i]
    have h1 := congrArg (fun (x : List Value) => x[i]?) ht
    simp only [Nat.mul_one] at h1
    rw [List.getElem?_take_of_lt hi] at h1
    rw [← Array.getElem?_toList, h1]
    simp [hx]
/-- Strings that lie in a row. -/
def TxtAt (w : World) (p : Option Addr) (l : List ByteArray) : Prop := l ≠ [] → ∃ g, p = some ⟨g, 0, none⟩ ∧ g < w.heap.size ∧ ∀ j x, l[j]? = some x → w.cell? ⟨g, j, none⟩ = some (.string x)
theorem TxtAt.below {w w' : World} {p : Option Addr} {l : List ByteArray} (h : TxtAt w p l) (hb : Below w.heap.size w w') : TxtAt w' p l := by
  intro hl
  obtain ⟨g, rfl, hg, hc⟩ := h hl
  exact ⟨g, rfl, Nat.lt_of_lt_of_le hg hb.size, fun j x hx => (hb.cell (p := ⟨g, j, none⟩) hg).trans (hc j x hx)⟩
theorem TxtAt.at_ {w : World} {p : Option Addr} {l : List ByteArray} (h : TxtAt w p l) {k : Nat} (hk : k < l.length) : ∃ g, p = some ⟨g, 0, none⟩ ∧ g < w.heap.size ∧ w.cell? ⟨g, k, none⟩ = some (.string l[k]) := by
  obtain ⟨g, rfl, hg, hc⟩ := h (by intro e; rw [e] at hk; simp at hk)
  exact ⟨g, rfl, hg, hc k _ (by simp [hk])⟩
end Go.Proofs.YtfdcainjppljhaaGreatDoor
namespace Go.Proofs.YtfdcainjppljhaaGreatDoor
open Go.RowKit
set_option linter.unusedVariables false
theorem numV_bad {p : List UInt8} (h : p = [] ∨ 7 < p.length ∨ (p.headD 0 = 48 ∧ 1 < p.length)) : numV p = -1 := by
  unfold numV
  rw [if_pos h]
theorem numV_no {p : List UInt8} {k : Nat} (hk : k < p.length) (h : isDig p[k] = false) : numV p = -1 := by
  unfold numV
  split
  · rfl
  · have : p.all isDig = false := List.all_eq_false.2 ⟨_, List.getElem_mem hk, by rw [h]; decide⟩
    rw [this]; rfl
theorem numV_yes {p : List UInt8} (h : ¬ (p = [] ∨ 7 < p.length ∨ (p.headD 0 = 48 ∧ 1 < p.length))) (ha : p.all isDig = true) : numV p = (natOf 0 p : Int) := by
  unfold numV
  rw [if_neg h, ha]; rfl
theorem natOf_lt : ∀ (q : List UInt8) (a : Nat), q.all isDig = true → natOf a q < (a + 1) * 10 ^ q.length := by
  intro q
  induction q with
  | nil => intro a _; show a < (a + 1) * 10 ^ 0; rw [Nat.pow_zero]; omega
  | cons c q ih =>
    intro a hq
    rw [List.all_cons, Bool.and_eq_true] at hq
    have hc := of_decide_eq_true hq.1
    have := ih (a * 10 + (c.toNat - 48)) hq.2
    have h3 : (a * 10 + (c.toNat - 48) + 1) * 10 ^ q.length ≤ ((a + 1) * 10) * 10 ^ q.length := Nat.mul_le_mul_right _ (by omega)
    show natOf (a * 10 + (c.toNat - 48)) q < (a + 1) * 10 ^ (q.length + 1)
    rw [Nat.pow_succ, Nat.mul_comm (10 ^ q.length) 10, ← Nat.mul_assoc]
    omega
theorem dig_iff (b : UInt8) : isDig b = (decide (48 ≤ (b.toNat : Int)) && decide ((b.toNat : Int) ≤ 57)) := by
  unfold isDig
  rw [Bool.eq_iff_iff]
  simp
  omega
end Go.Proofs.YtfdcainjppljhaaGreatDoor
namespace Go.Proofs.YtfdcainjppljhaaGreatDoor
open Go.RowKit
set_option linter.unusedVariables false
/-- The pieces of a text, as strings. -/
def cutB (s : ByteArray) : List ByteArray := (cutL s.data.toList).map fun p => ⟨p.toArray⟩
theorem cutB_data (s : ByteArray) : (cutB s).map (·.data.toList) = cutL s.data.toList := by
  unfold cutB
  rw [List.map_map]
  exact (List.map_congr_left (fun p _ => rfl)).trans (List.map_id _)
theorem cutB_len (s : ByteArray) : (cutB s).length = (cutL s.data.toList).length := by unfold cutB; rw [List.length_map]
theorem cut_le (l : List UInt8) : (cutL l).length ≤ l.length + 1 := by have := cut_len l; omega
theorem eq_of_data {xs ys : List ByteArray} (h : xs.map (·.data.toList) = ys.map (·.data.toList)) : xs = ys := by
  induction xs generalizing ys with
  | nil => cases ys with
    | nil => rfl
    | cons y ys => simp at h
  | cons x xs ih =>
    cases ys with
    | nil => simp at h
    | cons y ys =>
      simp only [List.map_cons, List.cons.injEq] at h
      rw [ih h.2]
      congr 1
      apply ByteArray.ext
      exact Array.toList_inj.1 h.1
/-- The loop's state: the pieces so far, and where the next one begins. -/
structure CutK (s : ByteArray) (k fr : Nat) (xs : List ByteArray) : Prop where
  le : fr ≤ k
  out : xs.map (·.data.toList) = (cutL (s.data.toList.take k)).dropLast
  last : (cutL (s.data.toList.take k)).getLastD [] = (s.data.toList.drop fr).take (k - fr)
theorem CutK.zero (s : ByteArray) : CutK s 0 0 [] := ⟨Nat.le_refl _, by simp [cutL], by simp [cutL]⟩
theorem dropLast_last {α : Type} {l : List α} {d : α} (h : l ≠ []) : l = l.dropLast ++ [l.getLastD d] := by
  have e := List.dropLast_concat_getLast h
  have e2 : l.getLastD d = l.getLast h := by rw [List.getLastD_eq_getLast?, List.getLast?_eq_some_getLast h]; rfl
  rw [e2, e]
theorem ext_data (s : ByteArray) (a b : Nat) : (s.extract a b).data.toList = (s.data.toList.drop a).take (b - a) := by
  rw [Lib.extract_data]
theorem CutK.cut {s : ByteArray} {k fr : Nat} {xs : List ByteArray} (h : CutK s k fr xs) (hk : k < s.size) (hb : s.data.toList[k]'hk = 32) : CutK s (k + 1) (k + 1) (xs ++ [s.extract fr k]) := by
  have hsn := cutL_snoc 32 (s.data.toList.take k)
  rw [if_pos rfl] at hsn
  have et : s.data.toList.take (k + 1) = s.data.toList.take k ++ [32] := by rw [List.take_succ_eq_append_getElem hk, hb]
  refine ⟨Nat.le_refl _, ?_, ?_⟩
  · rw [et, hsn, List.dropLast_concat, List.map_append, h.out, List.map_cons, List.map_nil, ext_data, ← h.last]
    exact (dropLast_last (cutL_ne _)).symm
  · rw [et, hsn]
    simp
theorem CutK.on {s : ByteArray} {k fr : Nat} {xs : List ByteArray} (h : CutK s k fr xs) (hk : k < s.size) (hb : s.data.toList[k]'hk ≠ 32) : CutK s (k + 1) fr xs := by
  have hsn := cutL_snoc (s.data.toList[k]'hk) (s.data.toList.take k)
  rw [if_neg hb] at hsn
  have et : s.data.toList.take (k + 1) = s.data.toList.take k ++ [s.data.toList[k]'hk] := List.take_succ_eq_append_getElem hk
  have hle := h.le
  refine ⟨by omega, ?_, ?_⟩
  · rw [et, hsn, List.dropLast_concat, h.out]
  · rw [et, hsn, h.last]
    have hk2 : k - fr < (s.data.toList.drop fr).length := by
      rw [List.length_drop]
      have : s.data.toList.length = s.size := rfl
      omega
    rw [show k + 1 - fr = (k - fr) + 1 by omega, List.take_succ_eq_append_getElem hk2]
    simp [show fr + (k - fr) = k by omega]
theorem CutK.all {s : ByteArray} {fr : Nat} {xs : List ByteArray} (h : CutK s s.size fr xs) : xs ++ [s.extract fr s.size] = cutB s := by
  apply eq_of_data
  have ek : s.data.toList.take s.size = s.data.toList := List.take_of_length_le (Nat.le_refl _)
  have h1 := h.out
  have h2 := h.last
  rw [ek] at h1 h2
  rw [List.map_append, h1, List.map_cons, List.map_nil, ext_data, ← h2, cutB_data]
  exact (dropLast_last (cutL_ne _)).symm
theorem CutK.len {s : ByteArray} {k fr : Nat} {xs : List ByteArray} (h : CutK s k fr xs) (hs : s.size ≤ 1048576) : xs.length ≤ 1048576 := by
  have h1 := congrArg List.length h.out
  rw [List.length_map, List.length_dropLast] at h1
  have h2 := cut_le (s.data.toList.take k)
  rw [List.length_take] at h2
  have : s.data.toList.length = s.size := rfl
  omega
end Go.Proofs.YtfdcainjppljhaaGreatDoor
namespace Go.Proofs.YtfdcainjppljhaaGreatDoor
open Go.RowKit
set_option linter.unusedVariables false
theorem append_ints {ops : Array Oper} {rest : List Oper} {o : Oper} {a : Act} {Q : Exit → Act → World → Prop} (w : World) (hg : o.guard = none) (s x : Operand)
    (ho : o.op = .call { callee := .builtin .append, args := #[s, x], argTypes := #[26, 26] })
    (base : Nat) (v : Value) (l M : List Int) (ad : Addr) (m c : Nat) (hs : a.eval s = v) (hx : a.eval x = .slice (some ad) m c) (hm : M.length = m)
    (hM : ∀ j (h : j < M.length), w.cell? (ad.add j) = some (.int .i64 M[j]))
    (hown : OwnI w base v l) (hlen : l.length + m ≤ 10000000) (hbase : base ≤ w.heap.size)
    (h : ∀ v' w', OwnI w' base v' (l ++ M) → Below base w w' → wpList Tryz.prog ops Q rest (a.put o.dst v') w') :
    wpList Tryz.prog ops Q (o :: rest) a w := by
  obtain ⟨i, hi, hz, hsz, hby⟩ := info_parts info_i64
  refine wpList_append_own _ hg s x 26 ho base 2 i (.int .i64 0) 1 8 Tryz.underlying26 hi hz hsz hby rfl (by decide) v l.length (l.map (Value.int .i64)) hs hown
    ad m c (M.map (Value.int .i64)) hx (by simp [hm]) ?_ ?_ (by unfold maxLen; omega) (by omega) hbase ?_
  · intro j u hj
    rw [List.getElem?_map] at hj
    rcases Nat.lt_or_ge j M.length with hlt | hge
    · rw [List.getElem?_eq_getElem hlt] at hj
      simp at hj
      subst hj
      exact hM j hlt
    · rw [List.getElem?_eq_none hge] at hj; simp at hj
  · intro u hu
    simp at hu
    obtain ⟨y, -, rfl⟩ := hu
    rfl
  · intro v' w' h1 h2 _
    refine h v' w' ?_ ?_
    · unfold OwnI
      rw [List.map_append, List.length_append, hm]
      exact h1
    · refine (Below.refl base w).grown h2 hbase ?_
      intro k hk
      rcases hown.2 with ⟨rfl, _⟩ | ⟨g, cap, cur, rfl, hbg, _⟩
      · simp [Value.ownBlock] at hk
      · simp [Value.ownBlock] at hk; omega
set_option maxRecDepth 20000 in
/-- slices.Clone. -/
theorem slices_CloneI (p : Option Addr) (t : List Int) (cap : Nat) (w : World) (hI : IntsAt w p t) (hl : t.length ≤ 1048576) :
    Calls Tryz.prog 29 #[.slice p t.length cap] w fun e w' => ∃ v, e = .returned v ∧ OwnI w' w.heap.size v t ∧ Below w.heap.size w w' := by
  have q22 : ∀ (w : World) (a : Option Addr) (n c n' c' : Nat), (binOp .eql 26 (.slice a n c) (.slice none n' c')).run Tryz.prog w = .ok (.bool a.isNone) w := fun w a n c n' c' => Lib.run_eql_slice_nil w _ _ a n c n' c' Tryz.underlying26
  cases p with
  | none =>
    have ht : t = [] := by
      cases t with
      | nil => rfl
      | cons x t => obtain ⟨a, h, -⟩ := hI (by simp); cases h
    subst ht
    go_enter Tryz.func29, Tryz.ntmps29
    go_wp2_with fail
    go_ret
    exact ⟨_, rfl, OwnI.none_ _ _, Below.refl _ _⟩
  | some a =>
    have hM : ∀ j (h : j < t.length), (w.alloc (.cells #[] 2)).cell? (a.add j) = some (.int .i64 t[j]) := fun j h => by
      obtain ⟨ad, had, hc⟩ := (hI.alloc (.cells #[] 2)).at_ h
      injection had with had
      subst had
      exact hc
    have h0 := OwnI.nil0 w
    go_enter Tryz.func29, Tryz.ntmps29
    go_wp2_with (at_builtin; refine append_ints _ rfl (.tmp 5) (.tmp 6) rfl w.heap.size _ [] t a t.length cap rfl rfl rfl hM h0 (by simp; omega) (by simp) ?_; intro v w2 hZ hb2)
    go_ret
    exact ⟨_, rfl, hZ, ((Below.refl _ _).alloc (Nat.le_refl _) _).trans hb2⟩
end Go.Proofs.YtfdcainjppljhaaGreatDoor
namespace Go.Proofs.YtfdcainjppljhaaGreatDoor
open Go.RowKit Go.Sort
set_option linter.unusedVariables false
/-- The library's variables that the road reads. -/
def Vrs (w : World) : Prop := Tab w ∧ (∃ te pe, w.cell? ⟨2, 0, none⟩ = some (.iface te pe)) ∧ (∃ te pe, w.cell? ⟨3, 0, none⟩ = some (.iface te pe))
theorem Vrs.below {w w' : World} (h : Vrs w) (hb : Below w.heap.size w w') : Vrs w' := by
  obtain ⟨h1, ⟨te, pe, h2⟩, te', pe', h3⟩ := h
  exact ⟨h1.below hb, ⟨te, pe, (hb.cell (p := ⟨2, 0, none⟩) (World.block_lt_of_cell? _ _ h2)).trans h2⟩, te', pe', (hb.cell (p := ⟨3, 0, none⟩) (World.block_lt_of_cell? _ _ h3)).trans h3⟩
theorem decV_ok {p : List UInt8} {v : Int} (h : Lib.parseIntB 64 p = .ok v) : decV p = if Lib.itoa v = p then some v else none := by unfold decV; rw [h]
theorem decV_not {p : List UInt8} (h : ∀ v, Lib.parseIntB 64 p ≠ .ok v) : decV p = none := by
  unfold decV
  split
  · rename_i v e
    exact absurd e (h v)
  · rfl
set_option maxHeartbeats 1000000 in
theorem impl_readDecimal (s : ByteArray) (w : World) (hs : s.size ≤ 1048576) (hV : Vrs w) :
    Calls Tryz.prog 40 #[.string s] w fun e w' => e = .returned (.tuple #[.int .i64 ((decV s.data.toList).getD 0), .bool (decV s.data.toList).isSome]) ∧ Below w.heap.size w w' := by
  obtain ⟨hT, ⟨te, pe, hE⟩, te', pe', hR⟩ := hV
  cases hp : Lib.parseIntB 64 s.data.toList
  · rename_i v
    have c := Tryz.strconv_ParseInt_10_at64_ok s (by omega) v hp w
    have hb0 := Lib.parseIntB_bounds hp
    have e63 : (2 : Nat) ^ (64 - 1) = 9223372036854775808 := by decide
    rw [e63] at hb0
    have hdc := impl_decimal v (by omega) (by omega)
    have hdv := decV_ok hp
    clear hp e63
    by_cases he : Lib.itoa v = s.data.toList
    · have hse : (⟨(Lib.itoa v).toArray⟩ : ByteArray) = s := by rw [he]
      rw [if_pos he] at hdv
      have H := Lib.hid hdv
      rw [hse] at hdc
      clear hdv he hse
      go_enter Tryz.func40, Tryz.ntmps40
      go_wp2_with fail
      refine c.mono ?_
      rintro e w1 ⟨rfl, hw⟩
      have hb : Below w.heap.size w w1 := by
        rcases hw with rfl | ⟨t, rfl⟩
        · exact Below.refl _ _
        · exact bytesWorld_below w _ t
      clear hw
      go_wp2_with fail
      refine (hdc _ (hT.below hb)).mono ?_
      rintro e w2 ⟨rfl, hb2⟩
      go_wp2_with fail
      go_returns
      exact ⟨by rw [H.out]; rfl, below_st hb hb2 (Nat.le_refl _)⟩
    · rw [if_neg he] at hdv
      have H := Lib.hid hdv
      obtain ⟨D, eD⟩ : ∃ D : ByteArray, (⟨(Lib.itoa v).toArray⟩ : ByteArray) = D := ⟨_, rfl⟩
      have hne : D ≠ s := fun e => he (by rw [← e, ← eD])
      have hbq : (D.toList == s.toList) = false := by
        rw [Lib.toList_data, Lib.toList_data]
        simp only [beq_eq_false_iff_ne, ne_eq]
        intro e
        exact hne (ByteArray.ext (Array.toList_inj.1 e))
      rw [eD] at hdc
      clear hdv he eD
      go_enter Tryz.func40, Tryz.ntmps40
      go_wp2_with fail
      refine c.mono ?_
      rintro e w1 ⟨rfl, hw⟩
      have hb : Below w.heap.size w w1 := by
        rcases hw with rfl | ⟨t, rfl⟩
        · exact Below.refl _ _
        · exact bytesWorld_below w _ t
      clear hw
      go_wp2_with fail
      refine (hdc _ (hT.below hb)).mono ?_
      rintro e w2 ⟨rfl, hb2⟩
      go_wp2_with fail
      go_returns
      exact ⟨by rw [H.out]; rfl, below_st hb hb2 (Nat.le_refl _)⟩
  · have H := Lib.hid (decV_not (p := s.data.toList) (fun v e => by rw [hp] at e; cases e))
    have c : Calls Tryz.prog 48 #[.string s, .int .i64 10, .int .i64 64] w fun e w' => ∃ N, e = .returned (.tuple #[.int .i64 0, .iface 131 (.pointer (some ⟨N, 0, none⟩))]) ∧ Below w.heap.size w w' :=
      (Any.strconv_ParseInt_10_at64_syntax Tryz.laysC174 s (by omega) hp (.iface te pe) w hE (.inr ⟨te, pe, rfl⟩)).mono fun e w' ⟨N, h1, h2, h3, h4⟩ => ⟨N, h1, h4⟩
    clear hp
    go_enter Tryz.func40, Tryz.ntmps40
    go_wp2_with fail
    refine c.mono ?_
    rintro e w1 ⟨N, rfl, hb⟩
    go_wp2_with fail
    go_returns
    exact ⟨by rw [H.out]; rfl, hb⟩
  · have H := Lib.hid (decV_not (p := s.data.toList) (fun v e => by rw [hp] at e; cases e))
    have c := Tryz.strconv_ParseInt_10_at64_range s (by omega) hp (.iface te' pe') w hR (.inr ⟨te', pe', rfl⟩)
    clear hp
    go_enter Tryz.func40, Tryz.ntmps40
    go_wp2_with fail
    refine c.mono ?_
    rintro e w1 ⟨N, rfl, -, -, hb⟩
    go_wp2_with fail
    go_returns
    exact ⟨by rw [H.out]; rfl, hb⟩
/-- strings.Split at a blank. -/
theorem split_cutB (s : ByteArray) : Lib.splitB ⟨#[32]⟩ 0 (Lib.countB s ⟨#[32]⟩) s = cutB s := by
  apply eq_of_data
  rw [Lib.splitB_data, cutB_data]
  exact split_cut _
set_option maxRecDepth 20000 in
theorem strings_Split1 (s : ByteArray) (w : World) (hs : s.size ≤ 1048576) :
    Calls Tryz.prog 39 #[.string s, .string ⟨#[32]⟩] w fun e w' => e = .returned (.slice (some ⟨w.heap.size, 0, none⟩) (cutB s).length (cutB s).length) ∧ w' = w.alloc (.cells ((cutB s).map Value.string).toArray 9) := by
  have h1 : 1 ≤ (⟨#[32]⟩ : ByteArray).size := by decide
  have hle := Lib.countB_le ⟨#[32]⟩ h1 s.size s (Nat.le_refl _)
  have hlen := Lib.splitB_all ⟨#[32]⟩ h1 0 _ s rfl
  have hcl := split_cutB s
  have c : Calls Tryz.prog 47 #[.string s, .string ⟨#[32]⟩, .int .i64 0, .int .i64 (-1)] w fun e w' => e = .returned (.slice (some ⟨w.heap.size, 0, none⟩) (Lib.splitB ⟨#[32]⟩ 0 (Lib.countB s ⟨#[32]⟩ + 1 - 1) s).length (Lib.countB s ⟨#[32]⟩ + 1)) ∧ w' = w.alloc (.cells (Lib.cellsOf (Lib.splitB ⟨#[32]⟩ 0 (Lib.countB s ⟨#[32]⟩ + 1 - 1) s) (Lib.countB s ⟨#[32]⟩ + 1)) 9) :=
    Any.strings_genSplit_core Tryz.lays221 (by kernel_rfl) s ⟨#[32]⟩ 0 (-1) (Lib.countB s ⟨#[32]⟩ + 1) w (by omega) h1 (Nat.zero_le _)
      (fun x cs hx => by have h := Tryz.strings_Index_one x 32 (w.alloc (.cells cs 9)); rw [← Lib.index_one] at h; exact h) (by have h := Tryz.strings_Count_one s 32 w; rw [show Lib.countByte s.data.toList 32 = Lib.count s.data.toList [32] from (Lib.count_one 32 _).symm] at h; exact h) (by decide) (by decide) (by rw [if_pos (by decide)]; omega)
  rw [show Lib.countB s ⟨#[32]⟩ + 1 - 1 = Lib.countB s ⟨#[32]⟩ by omega, ← hlen, Lib.cellsOf_full, hcl] at c
  clear hlen hle hcl
  go_enter Tryz.func39, Tryz.ntmps39
  go_wp2_with fail
  refine c.mono ?_
  rintro e w' ⟨rfl, rfl⟩
  go_wp2_with fail
  go_ret
  exact ⟨rfl, rfl⟩
theorem OwnI.open2 {w : World} {base : Nat} {v : Value} {l : List Int} (h : OwnI w base v l) : ∃ p cap, v = .slice p l.length cap ∧ OwnS w base p l ∧ l.length ≤ cap := by
  rcases h.2 with ⟨hv, hn⟩ | ⟨g, cap, cur, hv, hbg, hh, hle, hsz, _, ht⟩
  · have hl : l = [] := List.eq_nil_of_length_eq_zero hn
    subst hl
    exact ⟨none, 0, hv, fun h => absurd rfl h, Nat.le_refl _⟩
  · obtain ⟨p, c, hv2, hS⟩ := h.open_
    rw [hv] at hv2
    injection hv2 with e1 e2 e3
    subst e3
    exact ⟨p, cap, by rw [hv, e1], hS, hle⟩
theorem piece_le {l p : List UInt8} (h : p ∈ cutL l) : p.length ≤ l.length := by
  have h1 := cut_len l
  have h2 : ∀ ps : List (List UInt8), p ∈ ps → p.length ≤ (ps.map List.length).sum := by
    intro ps
    induction ps with
    | nil => intro h; cases h
    | cons a r ih =>
      intro h
      simp only [List.map_cons, List.sum_cons]
      rcases List.mem_cons.1 h with rfl | h
      · omega
      · have := ih h; omega
  have h3 := h2 _ h
  have h4 : 1 ≤ (cutL l).length := List.length_pos_iff.2 (cutL_ne l)
  omega
/-- The numbers, if all pieces are. -/
def spL (s : ByteArray) : List Int := if decAll (cutL s.data.toList) then decL (cutL s.data.toList) else []
theorem decL_len (ps : List (List UInt8)) : (decL ps).length = ps.length := by unfold decL; rw [List.length_map]
set_option maxHeartbeats 2000000 in
set_option maxRecDepth 20000 in
theorem impl_splitNumbers (s : ByteArray) (w : World) (hs : s.size ≤ 1048576) (hV : Vrs w) :
    Calls Tryz.prog 28 #[.string s, .string ⟨#[32]⟩] w fun e w' => ∃ (q : Option Addr) (d : Nat), e = .returned (.tuple #[.slice q (spL s).length d, .bool (decAll (cutL s.data.toList))]) ∧ OwnS w' w.heap.size q (spL s) ∧ (spL s).length ≤ d ∧ Below w.heap.size w w' := by
  obtain ⟨xs, exs⟩ : ∃ xs, cutB s = xs := ⟨_, rfl⟩
  have hxd : xs.map (·.data.toList) = cutL s.data.toList := by rw [← exs]; exact cutB_data s
  have hxl : xs.length = (cutL s.data.toList).length := by rw [← hxd, List.length_map]
  have hxk : ∀ k (h : k < xs.length), xs[k].data.toList = (cutL s.data.toList)[k]'(by omega) := fun k h => by
    have : (xs.map (·.data.toList))[k]'(by simpa using h) = (cutL s.data.toList)[k]'(by omega) := by congr 1
    rw [← this, List.getElem_map]
  have hcl := cut_le s.data.toList
  have hLs : s.data.toList.length = s.size := rfl
  have hsz : ∀ k (h : k < xs.length), xs[k].size ≤ 1048576 := fun k h => by
    have h1 : xs[k].data.toList ∈ cutL s.data.toList := by rw [hxk k h]; exact List.getElem_mem _
    have h2 := piece_le h1
    have h3 : xs[k].data.toList.length = xs[k].size := rfl
    omega
  have hSp := strings_Split1 s w hs
  rw [exs] at hSp
  have BT := Blk.new w 9 (xs.map Value.string).toArray
  have W1 : Below w.heap.size w (w.alloc (.cells (xs.map Value.string).toArray 9)) := (Below.refl _ _).alloc (Nat.le_refl _) _
  have z1 : (w.alloc (.cells (xs.map Value.string).toArray 9)).heap.size = w.heap.size + 1 := by simp
  clear exs
  obtain ⟨ps, eps⟩ : ∃ ps, cutL s.data.toList = ps := ⟨_, rfl⟩
  have hspl : spL s = if decAll ps then decL ps else [] := by unfold spL; rw [eps]
  rw [eps] at hxl hcl ⊢
  have hxk2 : ∀ k (h : k < xs.length) (h2 : k < ps.length), xs[k].data.toList = ps[k] := fun k h h2 => by subst eps; exact hxk k h
  have HXK := Lib.hid hxk2
  have HSZ := Lib.hid hsz
  have HSP := Lib.hid hspl
  clear hxk hxk2 hsz hspl eps hxd
  go_enter Tryz.func28, Tryz.ntmps28
  go_wp2_with fail
  refine hSp.mono ?_
  rintro e w1 ⟨rfl, rfl⟩
  generalize w.alloc (.cells (xs.map Value.string).toArray 9) = w1 at BT W1 z1 ⊢
  clear hSp
  have hn0 : OwnI w1 w1.heap.size (.slice none 0 0) [] := OwnI.none_ _ _
  go_wp2_with fail
  go_loopw [6, 15] (fun v iv wr => ∃ k : Nat, k ≤ xs.length ∧ iv = .int .i64 k ∧ OwnI wr w1.heap.size v ((decL ps).take k) ∧ Hid (∀ j (h : j < ps.length), j < k → (decV ps[j]).isSome = true) ∧ Below w1.heap.size w1 wr) (fun _ iv _ => xs.length - (intOf iv).toNat)
  case atStart => exact ⟨0, Nat.zero_le _, rfl, by simpa using hn0, Lib.hid (fun j _ h => absurd h (by omega)), Below.refl _ _⟩
  case round =>
    clear hn0
    obtain ⟨k, hk, rfl, hown, HA, hbel⟩ := hrel
    have hbw : Below w.heap.size w wr := W1.trans (hbel.mono (by omega))
    have hdl := decL_len ps
    by_cases hlt : k < xs.length
    · have hcw : wr.cell? ⟨w.heap.size, k, none⟩ = some (.string xs[k]) := by
        rw [(BT.below hbel (by omega)).cell k]
        simp [hlt]
      have hps : xs[k].data.toList = ps[k]'(by omega) := HXK.out k hlt (by omega)
      have hrd := fun wy h => impl_readDecimal xs[k] wy (HSZ.out k hlt) h
      rw [hps] at hrd
      obtain ⟨x, ex⟩ : ∃ x, xs[k] = x := ⟨_, rfl⟩
      rw [ex] at hcw hrd
      have hVr := hV.below hbw
      have htk : Hid ((decL ps).take (k + 1) = (decL ps).take k ++ [(decV (ps[k]'(by omega))).getD 0]) := Lib.hid (by
        rw [List.take_succ_eq_append_getElem (by omega)]
        unfold decL
        rw [List.getElem_map])
      have hdk := Lib.hid (rfl : (decV (ps[k]'(by omega))).isSome = (decV (ps[k]'(by omega))).isSome)
      obtain ⟨y, ey⟩ : ∃ y, decV (ps[k]'(by omega)) = y := ⟨_, rfl⟩
      have hey := Lib.hid ey
      rw [ey] at hrd htk
      clear hps ex ey hdk
      go_wp2_with fail
      refine (hrd _ hVr).mono ?_
      rintro e w2 ⟨rfl, hb2⟩
      have hbw2 := below_st hbw hb2 (Nat.le_refl _)
      have hbel2 := below_st hbel hb2 (Nat.le_refl _)
      have hown2 := hown.below hb2
      have hz2 : w1.heap.size ≤ w2.heap.size := hbel2.size
      clear hrd hcw
      cases y with
      | none =>
        have hno : Hid (decAll ps = false) := Lib.hid (by
          unfold decAll
          exact List.all_eq_false.2 ⟨_, List.getElem_mem (show k < ps.length by omega), by rw [hey.out]; decide⟩)
        have hsp : Hid (spL s = []) := Lib.hid (by rw [HSP.out, hno.out]; rfl)
        go_wp2_with fail
        go_returns
        refine ⟨none, 0, ?_, by rw [hsp.out]; exact OwnS.nil_ _ _ _, by rw [hsp.out]; exact Nat.le_refl _, hbw2⟩
        rw [hno.out, hsp.out]; rfl
      | some x0 =>
        have hA2 : Hid (∀ j (h : j < ps.length), j < k + 1 → (decV ps[j]).isSome = true) := Lib.hid (fun j h h2 => by
          by_cases e : j = k
          · subst e; rw [hey.out]; rfl
          · exact HA.out j h (by omega))
        have q1 : IntKind.i64.wrap ((k : Int) + 1) = (k : Int) + 1 := IntWalk.i64_in _ (by omega)
        have hll : ((decL ps).take k).length ≤ 2000000 := by rw [List.length_take]; omega
        obtain ⟨T, eT⟩ : ∃ T, (decL ps).take k = T := ⟨_, rfl⟩
        rw [eT] at hown2 hll htk
        go_wp2_with (at_builtin; refine append_int _ rfl (.tmp 26) (.tmp 28) rfl w1.heap.size u6 T x0 rfl rfl hown2 (by omega) hz2 ?_; intro v3 w3 hown3 hb3)
        exact ⟨⟨k + 1, by omega, by go_num, by rw [htk.out]; exact hown3, hA2, hbel2.trans hb3⟩, by simp [intOf]; omega⟩
    · have hke : (decL ps).take k = decL ps := List.take_of_length_le (by omega)
      rw [hke] at hown
      have hyes : Hid (decAll ps = true) := Lib.hid (by
        unfold decAll
        refine List.all_eq_true.2 fun p hp => ?_
        obtain ⟨j, hj, rfl⟩ := List.getElem_of_mem hp
        exact HA.out j hj (by omega))
      have hsp : Hid (spL s = decL ps) := Lib.hid (by rw [HSP.out, hyes.out]; rfl)
      obtain ⟨q, d, rfl, hS, hle⟩ := hown.open2
      clear hke
      go_wp2_with fail
      go_returns
      refine ⟨q, d, ?_, by rw [hsp.out]; exact hS.mono (by omega), by rw [hsp.out]; exact hle, hbw⟩
      rw [hyes.out, hsp.out]; rfl
end Go.Proofs.YtfdcainjppljhaaGreatDoor
namespace Go.Proofs.YtfdcainjppljhaaGreatDoor
open Go.RowKit Go.Sort
set_option linter.unusedVariables false
/-- What is read. -/
def rfC (s : ByteArray) : Int := if rfB s.data.toList then (numL (cutL s.data.toList)).getD 0 0 else 0
def rfF (s : ByteArray) : Int := if rfB s.data.toList then (numL (cutL s.data.toList)).getD 1 0 else 0
def rfL (s : ByteArray) : List Int := if rfB s.data.toList then (numL (cutL s.data.toList)).drop 2 else []
theorem rf_no {s : ByteArray} (h : rfB s.data.toList = false) : rfC s = 0 ∧ rfF s = 0 ∧ rfL s = [] := by
  unfold rfC rfF rfL
  rw [h]
  exact ⟨rfl, rfl, rfl⟩
theorem rf_yes {s : ByteArray} (h : rfB s.data.toList = true) : rfC s = (numL (cutL s.data.toList)).getD 0 0 ∧ rfF s = (numL (cutL s.data.toList)).getD 1 0 ∧ rfL s = (numL (cutL s.data.toList)).drop 2 := by
  unfold rfC rfF rfL
  rw [h]
  exact ⟨rfl, rfl, rfl⟩
theorem rfI_eq {s : ByteArray} : rfB s.data.toList = (decAll (cutL s.data.toList) && (decide (3 ≤ (cutL s.data.toList).length) && fluxOk ((decL (cutL s.data.toList)).getD 0 0) ((decL (cutL s.data.toList)).getD 1 0) ((decL (cutL s.data.toList)).drop 2))) := (rf_eq s.data.toList).1.symm
theorem Blk.ret3 {w : World} {g : Nat} {t : TypeId} {a b c : Value} (h : Blk w g t #[a, b, c]) (x y z : Value) : Blk (((w.setCell ⟨g, 0, none⟩ x).setCell ⟨g, 1, none⟩ y).setCell ⟨g, 2, none⟩ z) g t #[x, y, z] := by
  simpa using ((h.setS 0 x).setS 1 y).setS 2 z
theorem below_ret3 {B g : Nat} {w w' : World} (h : Below B w w') (hg : B ≤ g) (x y z : Value) : Below B w (((w'.setCell ⟨g, 0, none⟩ x).setCell ⟨g, 1, none⟩ y).setCell ⟨g, 2, none⟩ z) :=
  ((h.setCell (p := ⟨g, 0, none⟩) hg x).setCell (p := ⟨g, 1, none⟩) hg y).setCell (p := ⟨g, 2, none⟩) hg z
theorem own_ret3 {w : World} {base g : Nat} {p : Option Addr} {l : List Int} (h : OwnS w base p l) (hg : g < base) (x y z : Value) : OwnS (((w.setCell ⟨g, 0, none⟩ x).setCell ⟨g, 1, none⟩ y).setCell ⟨g, 2, none⟩ z) base p l := by
  have k : ∀ {w : World} (i : Nat) (v : Value), OwnS w base p l → OwnS (w.setCell ⟨g, i, none⟩ v) base p l := fun i v h => h.asides (Aside.setCell g i v) (fun hl g' hp e => by have := (OwnS.lt h hl hp).1; injection e with e; omega)
  exact k _ _ (k _ _ (k _ _ h))
theorem three {l : List Int} (h : 3 ≤ l.length) : ∃ a b r, l = a :: b :: r ∧ 1 ≤ r.length := by
  match l, h with
  | a :: b :: r, h => exact ⟨a, b, r, rfl, by simp at h; omega⟩
set_option maxHeartbeats 2000000 in
set_option maxRecDepth 20000 in
theorem impl_ReadFlux (s : ByteArray) (w : World) (hs : s.size ≤ 1048576) (hV : Vrs w) :
    Calls Tryz.prog 10 #[.string s] w fun e w' => ∃ (q : Option Addr) (d : Nat), e = .returned (.tuple #[.agg #[.int .i64 (rfC s), .int .i64 (rfF s), .slice q (rfL s).length d], .bool (rfB s.data.toList)]) ∧ OwnS w' w.heap.size q (rfL s) ∧ Below w.heap.size w w' := by
  have R0 := Blk.new w 28 #[.int .i64 0, .int .i64 0, .slice none 0 0]
  have W0 : Below w.heap.size w (w.alloc (.cells #[.int .i64 0, .int .i64 0, .slice none 0 0] 28)) := (Below.refl _ _).alloc (Nat.le_refl _) _
  have z0 : (w.alloc (.cells #[.int .i64 0, .int .i64 0, .slice none 0 0] 28)).heap.size = w.heap.size + 1 := by simp
  have HRI := Lib.hid (rfI_eq (s := s))
  have hcl := cut_le s.data.toList
  have hLs : s.data.toList.length = s.size := rfl
  go_enter Tryz.func10, Tryz.ntmps10
  go_wp2_with fail
  have hV0 := hV.below W0
  generalize w.alloc (.cells #[.int .i64 0, .int .i64 0, .slice none 0 0] 28) = w0 at R0 W0 z0 hV0 ⊢
  refine (impl_splitNumbers s w0 hs hV0).mono ?_
  rintro e w1 ⟨q, d, rfl, S1, hd, hb1⟩
  have R1 := R0.keep hb1
  have W1 := below_st W0 hb1 (Nat.le_refl _)
  have z1 := hb1.size
  replace S1 : OwnS w1 (w.heap.size + 1) q (spL s) := S1.mono (by omega)
  clear R0 W0 hV0 hb1
  obtain ⟨r0, r1', r2⟩ := R1.cell3
  have rf := R1.frozen
  have rl := R1.lt
  by_cases hgo : decAll (cutL s.data.toList) = true ∧ 3 ≤ (cutL s.data.toList).length
  rotate_left
  · have hno : rfB s.data.toList = false := by
      rw [HRI.out]
      cases hx : decAll (cutL s.data.toList)
      · rfl
      · rw [decide_eq_false (fun h => hgo ⟨hx, h⟩)]; rfl
    obtain ⟨n0, n1, n2⟩ := rf_no hno
    have HN := Lib.hid (show rfC s = 0 ∧ rfF s = 0 ∧ rfL s = [] ∧ rfB s.data.toList = false from ⟨n0, n1, n2, hno⟩)
    have hdisj : decAll (cutL s.data.toList) = false ∨ (decAll (cutL s.data.toList) = true ∧ decide (((spL s).length : Int) < 3) = true) := by
      cases hx : decAll (cutL s.data.toList)
      · exact .inl rfl
      · refine .inr ⟨rfl, decide_eq_true ?_⟩
        unfold spL
        rw [hx, if_pos rfl, decL_len]
        have : ¬ 3 ≤ (cutL s.data.toList).length := fun h => hgo ⟨hx, h⟩
        omega
    obtain ⟨e0, e1, e2⟩ := (R1.ret3 (.int .i64 0) (.int .i64 0) (.slice none 0 0)).cell3
    have W2 := below_ret3 W1 (Nat.le_refl _) (.int .i64 0) (.int .i64 0) (.slice none 0 0)
    obtain ⟨bv, ebv⟩ : ∃ bv, decAll (cutL s.data.toList) = bv := ⟨_, rfl⟩
    rw [ebv] at hdisj ⊢
    obtain ⟨N, eN⟩ : ∃ N, (spL s).length = N := ⟨_, rfl⟩
    rw [eN] at hdisj ⊢
    clear hgo hno n0 n1 n2 ebv eN
    rcases hdisj with rfl | ⟨rfl, d1⟩
    all_goals
      go_wp2_with fail
      refine bodyPost_ret (v := .tuple #[.agg #[.int .i64 0, .int .i64 0, .slice none 0 0], .bool false]) (by simp [results, Tryz.results10, go_sem, e0, e1, e2]) rfl ?_
      rw [HN.out.1, HN.out.2.1, HN.out.2.2.1, HN.out.2.2.2]
      exact ⟨none, 0, rfl, OwnS.nil_ _ _ _, W2⟩
  · obtain ⟨hall, h3⟩ := hgo
    have hsp : spL s = decL (cutL s.data.toList) := by unfold spL; rw [hall]; rfl
    rw [hall] at HRI ⊢
    rw [hsp] at S1 hd ⊢
    have hdl := decL_len (cutL s.data.toList)
    have hrb : Hid (rfB s.data.toList = fluxOk ((decL (cutL s.data.toList)).getD 0 0) ((decL (cutL s.data.toList)).getD 1 0) ((decL (cutL s.data.toList)).drop 2)) := Lib.hid (by rw [HRI.out, decide_eq_true h3]; simp)
    have hrf : Hid (rfB s.data.toList = true → rfC s = (decL (cutL s.data.toList)).getD 0 0 ∧ rfF s = (decL (cutL s.data.toList)).getD 1 0 ∧ rfL s = (decL (cutL s.data.toList)).drop 2) := Lib.hid (fun h => by
      have h2 := rf_yes h
      rw [(rf_eq s.data.toList).2 h]
      exact h2)
    generalize decL (cutL s.data.toList) = D at *
    obtain ⟨a, b, r, rfl, hr1⟩ := three (l := D) (by omega)
    obtain ⟨g, rfl, hg, hrow⟩ := S1 (by simp)
    have hrb2 : Hid (rfB s.data.toList = fluxOk a b r) := hrb
    have hrf2 : Hid (rfB s.data.toList = true → rfC s = a ∧ rfF s = b ∧ rfL s = r) := hrf
    have hlen : (a :: b :: r).length = r.length + 2 := rfl
    rw [hlen] at hd hdl ⊢
    have ca := (hrow.cell (k := 0) (by simp)).1
    have cb := (hrow.cell (k := 1) (by simp)).1
    have ca : w1.cell? ⟨g, 0, none⟩ = some (.int .i64 a) := ca
    have cb : w1.cell? ⟨g, 1, none⟩ = some (.int .i64 b) := cb
    have hdr : IntsAt w1 (some ⟨g, 2, none⟩) r := by
      intro _
      refine ⟨_, rfl, hrow.lt, fun i hi => ?_⟩
      rw [Addr.add_lit, Nat.add_comm]
      exact (hrow.cell (k := i + 2) (by simp; omega)).1
    have hgl := hrow.lt
    have hrl : r.length ≤ 1048576 := by omega
    have d1 : decide (((r.length + 2 : Nat) : Int) < 3) = false := decide_eq_false (by omega)
    have d2 : decide ((r.length : Int) + 2 < 3) = false := decide_eq_false (by omega)
    have hd3 : ¬ d = 2 := by omega
    have hd4 : (2 : Int) ≤ (d : Int) := by omega
    have hd5 : 2 < d := by omega
    have hi0 : (0 : Int) < (r.length : Int) + 2 := by omega
    have hi1 : (1 : Int) < (r.length : Int) + 2 := by omega
    have hi2 : (2 : Int) ≤ (r.length : Int) + 2 := by omega
    have hi3 : (r.length : Int) + 2 ≤ (d : Int) := by omega
    have hi4 : 0 < r.length + 2 := by omega
    have hi5 : 1 < r.length + 2 := by omega
    have hi6 : 2 ≤ r.length + 2 := by omega
    clear hrb hrf HRI hall hsp S1 hlen hrow hdl h3 hcl
    go_upto_region 4 with (fail)
    have KS : ∀ w' w'' : World, ((w'.cell? ⟨g, 0, none⟩ = some (.int .i64 a) ∧ w'.cell? ⟨g, 1, none⟩ = some (.int .i64 b)) ∧ g < w'.heap.size ∧ IntsAt w' (some ⟨g, 2, none⟩) r ∧ Below w1.heap.size w1 w') → Below w'.heap.size w' w'' → ((w''.cell? ⟨g, 0, none⟩ = some (.int .i64 a) ∧ w''.cell? ⟨g, 1, none⟩ = some (.int .i64 b)) ∧ g < w''.heap.size ∧ IntsAt w'' (some ⟨g, 2, none⟩) r ∧ Below w1.heap.size w1 w'') := fun w' w'' h hb =>
      ⟨⟨(hb.cell (p := ⟨g, 0, none⟩) h.2.1).trans h.1.1, (hb.cell (p := ⟨g, 1, none⟩) h.2.1).trans h.1.2⟩, Nat.lt_of_lt_of_le h.2.1 hb.size, h.2.2.1.below hb, below_st h.2.2.2 hb (Nat.le_refl _)⟩
    have KW : ∀ (y : World) (bb : Nat) (v0 v1 v2 : Value), w1.heap.size ≤ bb → ((y.cell? ⟨g, 0, none⟩ = some (.int .i64 a) ∧ y.cell? ⟨g, 1, none⟩ = some (.int .i64 b)) ∧ g < y.heap.size ∧ IntsAt y (some ⟨g, 2, none⟩) r ∧ Below w1.heap.size w1 y) → (((((y.setCell ⟨bb, 0, none⟩ v0).setCell ⟨bb, 1, none⟩ v1).setCell ⟨bb, 2, none⟩ v2).cell? ⟨g, 0, none⟩ = some (.int .i64 a) ∧ (((y.setCell ⟨bb, 0, none⟩ v0).setCell ⟨bb, 1, none⟩ v1).setCell ⟨bb, 2, none⟩ v2).cell? ⟨g, 1, none⟩ = some (.int .i64 b)) ∧ g < (((y.setCell ⟨bb, 0, none⟩ v0).setCell ⟨bb, 1, none⟩ v1).setCell ⟨bb, 2, none⟩ v2).heap.size ∧ IntsAt (((y.setCell ⟨bb, 0, none⟩ v0).setCell ⟨bb, 1, none⟩ v1).setCell ⟨bb, 2, none⟩ v2) (some ⟨g, 2, none⟩) r ∧ Below w1.heap.size w1 (((y.setCell ⟨bb, 0, none⟩ v0).setCell ⟨bb, 1, none⟩ v1).setCell ⟨bb, 2, none⟩ v2)) := fun y bb v0 v1 v2 hbb h => by
      have hb := below_ret3 (Below.refl w1.heap.size y) hbb v0 v1 v2
      exact ⟨⟨(hb.cell (p := ⟨g, 0, none⟩) hgl).trans h.1.1, (hb.cell (p := ⟨g, 1, none⟩) hgl).trans h.1.2⟩, Nat.lt_of_lt_of_le h.2.1 hb.size, h.2.2.1.aside (fun a e => by injection e with e; subst e; exact hgl) hb, h.2.2.2.trans hb⟩
    have S0 : ((w1.drew.cell? ⟨g, 0, none⟩ = some (.int .i64 a) ∧ w1.drew.cell? ⟨g, 1, none⟩ = some (.int .i64 b)) ∧ g < w1.drew.heap.size ∧ IntsAt w1.drew (some ⟨g, 2, none⟩) r ∧ Below w1.heap.size w1 w1.drew) := ⟨⟨ca, cb⟩, hgl, hdr, (Below.refl _ _).drew⟩
    have SA : (((w1.alloc (.cells #[.int .i64 0, .int .i64 0, .slice none 0 0] 28)).drew.cell? ⟨g, 0, none⟩ = some (.int .i64 a) ∧ (w1.alloc (.cells #[.int .i64 0, .int .i64 0, .slice none 0 0] 28)).drew.cell? ⟨g, 1, none⟩ = some (.int .i64 b)) ∧ g < (w1.alloc (.cells #[.int .i64 0, .int .i64 0, .slice none 0 0] 28)).drew.heap.size ∧ IntsAt (w1.alloc (.cells #[.int .i64 0, .int .i64 0, .slice none 0 0] 28)).drew (some ⟨g, 2, none⟩) r ∧ Below w1.heap.size w1 (w1.alloc (.cells #[.int .i64 0, .int .i64 0, .slice none 0 0] 28)).drew) := KS w1 _ ⟨⟨ca, cb⟩, hgl, hdr, Below.refl _ _⟩ ((Below.refl _ _).alloc (Nat.le_refl _) _).drew
    have BA : Blk (w1.alloc (.cells #[.int .i64 0, .int .i64 0, .slice none 0 0] 28)).drew w1.heap.size 28 #[.int .i64 0, .int .i64 0, .slice none 0 0] := Blk.new w1 28 #[.int .i64 0, .int .i64 0, .slice none 0 0]
    go_cut [6] (fun pv wx => ∃ (bb : Nat) (q2 : Option Addr) (d2 : Nat), pv = .pointer (some ⟨bb, 0, none⟩) ∧ Blk wx bb 28 #[.int .i64 a, .int .i64 b, .slice q2 r.length d2] ∧ OwnS wx w1.heap.size q2 r ∧ Below w1.heap.size w1 wx)
    case first =>
      go_region_held3 (fun w' => (w'.cell? ⟨g, 0, none⟩ = some (.int .i64 a) ∧ w'.cell? ⟨g, 1, none⟩ = some (.int .i64 b)) ∧ g < w'.heap.size ∧ IntsAt w' (some ⟨g, 2, none⟩) r ∧ Below w1.heap.size w1 w')
        (first | with_reducible exact S0 | with_reducible exact SA | with_reducible exact S4 | (refine KS _ _ S4 ?_; exact (Below.refl _ _).alloc (Nat.le_refl _) _) | exact KW _ _ _ _ _ (Nat.le_refl _) S4 | go_keep)
        (first | (go_at_call 29; (refine (slices_CloneI (some ⟨g, 2, none⟩) r (d - 2) _ (by first | exact S0.2.2.1 | exact SA.2.2.1) hrl).mono ?_); rintro e y ⟨v, rfl, hvo, hby⟩; obtain ⟨q2, d2, rfl, hS2, -⟩ := hvo.open2; (first | have S4 := KS _ _ S0 hby | have S4 := KS _ _ SA hby); (try (have BY := BA.keep hby; obtain ⟨y0, y1, y2⟩ := BY.cell3; have yf := BY.frozen; have yl := BY.lt))))
      all_goals
        go_wp2_with fail
        go_meet
        first
          | exact ⟨y.heap.size, q2, d2, rfl, Blk.new y 28 #[.int .i64 a, .int .i64 b, .slice q2 r.length d2], (hS2.below ((Below.refl _ y).alloc (Nat.le_refl _) _)).mono (Nat.le_refl _), S4.2.2.2.alloc S4.2.2.2.size _⟩
          | exact ⟨w1.heap.size, q2, d2, rfl, BY.ret3 _ _ _, (own_ret3 hS2 (show w1.heap.size < (w1.alloc (.cells #[.int .i64 0, .int .i64 0, .slice none 0 0] 28)).heap.size by simp) _ _ _).mono (show w1.heap.size ≤ (w1.alloc (.cells #[.int .i64 0, .int .i64 0, .slice none 0 0] 28)).heap.size by simp), below_ret3 S4.2.2.2 (Nat.le_refl _) _ _ _⟩
    case rest =>
      obtain ⟨bb, q2, d2, rfl, B2, S2, hb2⟩ := hcut
      obtain ⟨w2, hwc⟩ : ∃ w2, w2 = wc := ⟨_, rfl⟩
      subst hwc
      have R2 := R1.keep hb2
      have W2 := below_st W1 hb2 (Nat.le_refl _)
      have hwz : w.heap.size < w1.heap.size := rl
      clear KS KW S0 SA BA ca cb hdr r0 r1' r2 rf rl hi0 hi1 hi2 hi3 hi4 hi5 hi6 hd3 hd4 hd5 R1 W1 hb2
      obtain ⟨c0, c1, c2⟩ := B2.cell3
      have bl := B2.lt
      go_wp2_with fail
      refine (impl_ValidFlux a b q2 r d2 _ S2.ints hrl).mono ?_
      rintro e w3 ⟨rfl, hb3⟩
      have R3 := R2.keep hb3
      have W3 := below_st W2 hb3 (Nat.le_refl _)
      have B3 := B2.keep hb3
      have S3 := S2.below hb3
      clear c0 c1 c2 bl R2 W2 B2 S2 hb3
      obtain ⟨c0, c1, c2⟩ := B3.cell3
      have bl := B3.lt
      obtain ⟨r0, r1', r2⟩ := R3.cell3
      have rf := R3.frozen
      have rl := R3.lt
      cases hfx : fluxOk a b r
      · have hno : rfB s.data.toList = false := by rw [hrb2.out, hfx]
        have HN := Lib.hid (show rfC s = 0 ∧ rfF s = 0 ∧ rfL s = [] ∧ rfB s.data.toList = false from ⟨(rf_no hno).1, (rf_no hno).2.1, (rf_no hno).2.2, hno⟩)
        obtain ⟨e0, e1, e2⟩ := (R3.ret3 (.int .i64 0) (.int .i64 0) (.slice none 0 0)).cell3
        have W4 := below_ret3 W3 (Nat.le_refl _) (.int .i64 0) (.int .i64 0) (.slice none 0 0)
        clear hno hfx
        go_wp2_with fail
        refine bodyPost_ret (v := .tuple #[.agg #[.int .i64 0, .int .i64 0, .slice none 0 0], .bool false]) (by simp [results, Tryz.results10, go_sem, e0, e1, e2]) rfl ?_
        rw [HN.out.1, HN.out.2.1, HN.out.2.2.1, HN.out.2.2.2]
        exact ⟨none, 0, rfl, OwnS.nil_ _ _ _, W4⟩
      · have hyes : rfB s.data.toList = true := by rw [hrb2.out, hfx]
        have hv := hrf2.out hyes
        have HN := Lib.hid (show rfC s = a ∧ rfF s = b ∧ rfL s = r ∧ rfB s.data.toList = true from ⟨hv.1, hv.2.1, hv.2.2, hyes⟩)
        obtain ⟨e0, e1, e2⟩ := (R3.ret3 (.int .i64 a) (.int .i64 b) (.slice q2 r.length d2)).cell3
        have W4 := below_ret3 W3 (Nat.le_refl _) (.int .i64 a) (.int .i64 b) (.slice q2 r.length d2)
        have S4 := own_ret3 S3 hwz (.int .i64 a) (.int .i64 b) (.slice q2 r.length d2)
        clear hyes hv hfx
        go_wp2_with fail
        refine bodyPost_ret (v := .tuple #[.agg #[.int .i64 a, .int .i64 b, .slice q2 r.length d2], .bool true]) (by simp [results, Tryz.results10, go_sem, e0, e1, e2]) rfl ?_
        rw [HN.out.1, HN.out.2.1, HN.out.2.2.1, HN.out.2.2.2]
        exact ⟨q2, d2, rfl, S4.mono (Nat.le_of_lt hwz), W4⟩
end Go.Proofs.YtfdcainjppljhaaGreatDoor
namespace Go.Proofs.YtfdcainjppljhaaGreatDoor
open Go.RowKit Go.Sort
set_option linter.unusedVariables false
theorem numL_take {ps : List (List UInt8)} {k : Nat} (h2 : 2 ≤ k) (h : k < ps.length) : ((numL ps).drop 2).take (k + 1 - 2) = ((numL ps).drop 2).take (k - 2) ++ [numV ps[k]] := by
  rw [show k + 1 - 2 = (k - 2) + 1 by omega, List.take_succ_eq_append_getElem (by rw [List.length_drop]; unfold numL; rw [List.length_map]; omega)]
  congr 2
  rw [List.getElem_drop]
  unfold numL
  rw [List.getElem_map]
  simp only [show 2 + (k - 2) = k by omega]
theorem rf_push {w5 wr w6 : World} {bf : Nat} {a b v v1 : Value} {l1 : List Int} (hB : Blk wr bf 28 #[a, b, v]) (ho : OwnI w6 (bf + 1) v1 l1) (hb : Below (bf + 1) wr w6) (hbel : Below bf w5 wr) :
    Blk (w6.setCell ⟨bf, 2, none⟩ v1) bf 28 #[a, b, v1] ∧ OwnI (w6.setCell ⟨bf, 2, none⟩ v1) (bf + 1) v1 l1 ∧ Below bf w5 (w6.setCell ⟨bf, 2, none⟩ v1) := by
  refine ⟨by simpa using (hB.below hb (Nat.lt_succ_self _)).setS 2 v1, ho.asides (Aside.setCell bf 2 v1) (fun g hg e => ?_), hbel.trans ((hb.mono (Nat.le_succ bf)).setCell (p := ⟨bf, 2, none⟩) (Nat.le_refl _) v1)⟩
  have := (ho.blk hg).1
  injection e with e
  omega
theorem rfL_len (s : ByteArray) : (rfL s).length ≤ 4000 := by
  cases h : rfB s.data.toList
  · rw [(rf_no h).2.2]; simp
  · rw [(rf_yes h).2.2]
    unfold rfB at h
    simp only [Bool.and_eq_true] at h
    exact (fluxOk_bd h.2.2).2.1.2
end Go.Proofs.YtfdcainjppljhaaGreatDoor
namespace Go.Proofs.YtfdcainjppljhaaGreatDoor
theorem sort_is {l l' : List Int} (h : l.Perm l') (hs : l'.Pairwise (· < ·)) : (l.mergeSort fun x y => decide (x ≤ y)) = l' := by
  have tr : ∀ a b c : Int, (decide (a ≤ b)) = true → (decide (b ≤ c)) = true → (decide (a ≤ c)) = true := fun a b c h1 h2 => by simp only [decide_eq_true_eq] at *; omega
  have tot : ∀ a b : Int, ((decide (a ≤ b)) || (decide (b ≤ a))) = true := fun a b => by simp only [Bool.or_eq_true, decide_eq_true_eq]; omega
  refine List.Perm.eq_of_pairwise (le := fun a b => decide (a ≤ b) = true) (fun a b _ _ h1 h2 => ?_) (List.pairwise_mergeSort tr tot l) (hs.imp fun {a b} h => ?_) ((List.mergeSort_perm l _).trans h)
  · simp only [decide_eq_true_eq] at h1 h2
    omega
  · simp only [decide_eq_true_eq]; omega
/-- The times seen from a later index. -/
def rotT (b rev : Int) (l : List Int) : List Int := (l.filter fun t => decide (b ≤ t)).map (fun t => t - b) ++ (l.filter fun t => decide (t < b)).map (fun t => t - b + rev)
def rotM (b rev : Int) (l : List Int) : List Int := l.map fun t => (t - b) % rev
theorem rot_mod {b rev t : Int} (hb : 0 ≤ b ∧ b ≤ rev - 1) (ht : 0 ≤ t ∧ t ≤ rev - 1) : (t - b) % rev = if b ≤ t then t - b else t - b + rev := by
  split
  · exact Int.emod_eq_of_lt (by omega) (by omega)
  · rw [← Int.add_emod_right]
    exact Int.emod_eq_of_lt (by omega) (by omega)
theorem rot_perm {b rev : Int} (hb : 0 ≤ b ∧ b ≤ rev - 1) : ∀ {l : List Int}, (∀ t ∈ l, 0 ≤ t ∧ t ≤ rev - 1) → (rotM b rev l).Perm (rotT b rev l)
  | [], _ => .refl _
  | t :: l, h => by
    have ht := h t (by simp)
    have ih := rot_perm hb (l := l) fun x hx => h x (List.mem_cons_of_mem _ hx)
    unfold rotM rotT at ih ⊢
    rw [List.map_cons, rot_mod hb ht]
    by_cases hc : b ≤ t
    · rw [if_pos hc, List.filter_cons, if_pos (decide_eq_true hc), List.filter_cons, if_neg (by simp; omega), List.map_cons, List.cons_append]
      exact ih.cons _
    · rw [if_neg hc, List.filter_cons, if_neg (by simp; omega), List.filter_cons, if_pos (by simp; omega), List.map_cons]
      exact (ih.cons _).trans List.perm_middle.symm
theorem rot_up {b rev : Int} (hb : 0 ≤ b ∧ b ≤ rev - 1) {l : List Int} (h : ∀ t ∈ l, 0 ≤ t ∧ t ≤ rev - 1) (hs : l.Pairwise (· < ·)) : (rotT b rev l).Pairwise (· < ·) := by
  unfold rotT
  rw [List.pairwise_append]
  refine ⟨?_, ?_, ?_⟩
  · rw [List.pairwise_map]
    exact (hs.filter _).imp fun h => by omega
  · rw [List.pairwise_map]
    exact (hs.filter _).imp fun h => by omega
  · intro x hx y hy
    obtain ⟨u, hu, rfl⟩ := List.mem_map.1 hx
    obtain ⟨v, hv, rfl⟩ := List.mem_map.1 hy
    have h1 := h u (List.mem_filter.1 hu).1
    have h2 := h v (List.mem_filter.1 hv).1
    omega
theorem rot_sort {b rev : Int} (hb : 0 ≤ b ∧ b ≤ rev - 1) {l : List Int} (h : ∀ t ∈ l, 0 ≤ t ∧ t ≤ rev - 1) (hs : l.Pairwise (· < ·)) : ((rotM b rev l).mergeSort fun x y => decide (x ≤ y)) = rotT b rev l := sort_is (rot_perm hb h) (rot_up hb h hs)
theorem filter_split {l : List Int} {k : Nat} {b : Int} (hs : l.Pairwise (· < ·)) (h1 : ∀ j (h : j < l.length), j < k → l[j] < b) (h2 : ∀ h : k < l.length, b ≤ l[k]) :
    (l.filter fun t => decide (b ≤ t)) = l.drop k ∧ (l.filter fun t => decide (t < b)) = l.take k := by
  have ha : ∀ x ∈ l.take k, x < b := fun x hx => by
    obtain ⟨i, hi, rfl⟩ := List.getElem_of_mem hx
    rw [List.length_take] at hi
    rw [List.getElem_take]
    exact h1 i (by omega) (by omega)
  have hb : ∀ x ∈ l.drop k, b ≤ x := fun x hx => by
    obtain ⟨i, hi, rfl⟩ := List.getElem_of_mem hx
    rw [List.length_drop] at hi
    rw [List.getElem_drop]
    have h3 := h2 (by omega)
    rcases Nat.eq_zero_or_pos i with e | e
    · subst e; simpa using h3
    · have := List.pairwise_iff_getElem.1 hs k (k + i) (by omega) (by omega) (by omega)
      omega
  have e := List.take_append_drop k l
  constructor
  · conv => lhs; rw [← e]
    rw [List.filter_append, List.filter_eq_nil_iff.2 (fun x hx => by have := ha x hx; simp; omega), List.filter_eq_self.2 (fun x hx => by have := hb x hx; simpa using this), List.nil_append]
  · conv => lhs; rw [← e]
    rw [List.filter_append, List.filter_eq_self.2 (fun x hx => by have := ha x hx; simpa using this), List.filter_eq_nil_iff.2 (fun x hx => by have := hb x hx; simp; omega), List.append_nil]
theorem rotT_at {l : List Int} {k : Nat} {b rev : Int} (hk : k ≤ l.length) (hs : l.Pairwise (· < ·)) (h1 : ∀ j (h : j < l.length), j < k → l[j] < b) (h2 : ∀ h : k < l.length, b ≤ l[k]) (i : Nat) (hi : i < l.length)
    (hm : (k + i) % l.length < l.length := Nat.mod_lt _ (by omega)) :
    (rotT b rev l).length = l.length ∧ (rotT b rev l)[i]? = some (if l[(k + i) % l.length] - b < 0 then l[(k + i) % l.length] - b + rev else l[(k + i) % l.length] - b) := by
  obtain ⟨e1, e2⟩ := filter_split hs h1 h2
  unfold rotT
  rw [e1, e2]
  refine ⟨by simp; omega, ?_⟩
  by_cases hlt : k + i < l.length
  · have e : (k + i) % l.length = k + i := Nat.mod_eq_of_lt hlt
    rw [List.getElem?_append_left (by simp; omega), List.getElem?_map, List.getElem?_drop, List.getElem?_eq_getElem hlt]
    simp only [e, Option.map_some]
    have hge : b ≤ l[k + i] := by
      rcases Nat.eq_zero_or_pos i with e | e
      · subst e; exact h2 hlt
      · have := List.pairwise_iff_getElem.1 hs k (k + i) (by omega) hlt (by omega)
        have := h2 (by omega)
        omega
    rw [if_neg (by omega)]
  · have e : (k + i) % l.length = k + i - l.length := by
      rw [Nat.mod_eq_sub_mod (by omega)]
      exact Nat.mod_eq_of_lt (by omega)
    have hj : k + i - l.length < k := by omega
    have hl : k + i - l.length < l.length := by omega
    rw [List.getElem?_append_right (by simp; omega), List.getElem?_map, List.length_map, List.length_drop, show i - (l.length - k) = k + i - l.length by omega, List.getElem?_take_of_lt hj, List.getElem?_eq_getElem hl]
    simp only [e, Option.map_some]
    have := h1 _ hl hj
    rw [if_pos (by omega)]
theorem rotT_len {l : List Int} (b rev : Int) : (rotT b rev l).length = l.length := by
  unfold rotT
  rw [List.length_append, List.length_map, List.length_map]
  induction l with
  | nil => rfl
  | cons t l ih =>
    rw [List.filter_cons, List.filter_cons]
    by_cases hc : b ≤ t
    · rw [if_pos (decide_eq_true hc), if_neg (by simp; omega), List.length_cons, List.length_cons]; omega
    · rw [if_neg (by simp; omega), if_pos (by simp; omega), List.length_cons, List.length_cons]; omega
/-- Times with a weak area. -/
def weakT (a b : Int) (t l : List Int) : List Int := (l.filter fun x => decide (x < a)) ++ t ++ (l.filter fun x => decide (b ≤ x))
def weakM (a b : Int) (t l : List Int) : List Int := t ++ l.filter fun x => decide (x < a) || decide (b ≤ x)
theorem weak_perm {a b : Int} (hab : a ≤ b) (t : List Int) : ∀ l : List Int, (weakM a b t l).Perm (weakT a b t l)
  | [] => by simp [weakM, weakT]
  | x :: l => by
    have ih := weak_perm hab t l
    unfold weakM weakT at ih ⊢
    rw [List.filter_cons, List.filter_cons, List.filter_cons]
    by_cases h1 : x < a
    · rw [if_pos (by simp; omega), if_pos (by simpa using h1), if_neg (by simp; omega)]
      exact List.perm_middle.trans (ih.cons _)
    · by_cases h2 : b ≤ x
      · rw [if_pos (by simp; omega), if_neg (by simpa using h1), if_pos (by simpa using h2)]
        exact (List.perm_middle.trans (ih.cons _)).trans List.perm_middle.symm
      · rw [if_neg (by simp; omega), if_neg (by simpa using h1), if_neg (by simpa using h2)]
        exact ih
theorem weak_up {a b : Int} (hab : a ≤ b) {t l : List Int} (ht : risesB t a (b - 1) = true) (hs : l.Pairwise (· < ·)) : (weakT a b t l).Pairwise (· < ·) := by
  have hm := risesB_mem ht
  unfold risesB at ht
  rw [Bool.and_eq_true, decide_eq_true_eq] at ht
  unfold weakT
  rw [List.append_assoc, List.pairwise_append, List.pairwise_append]
  refine ⟨hs.filter _, ⟨ht.2, hs.filter _, ?_⟩, ?_⟩
  · intro x hx y hy
    have h1 := hm x hx
    have h2 := (List.mem_filter.1 hy).2
    simp at h2
    omega
  · intro x hx y hy
    have h1 := (List.mem_filter.1 hx).2
    simp at h1
    rcases List.mem_append.1 hy with h | h
    · have := hm y h; omega
    · have h2 := (List.mem_filter.1 h).2
      simp at h2
      omega
theorem weak_sort {a b : Int} (hab : a ≤ b) {t l : List Int} (ht : risesB t a (b - 1) = true) (hs : l.Pairwise (· < ·)) : ((weakM a b t l).mergeSort fun x y => decide (x ≤ y)) = weakT a b t l := sort_is (weak_perm hab t l) (weak_up hab ht hs)
end Go.Proofs.YtfdcainjppljhaaGreatDoor
namespace Go.Proofs.YtfdcainjppljhaaGreatDoor
open Go.RowKit Go.Sort
set_option linter.unusedVariables false
theorem sort_row {w : World} {g : Nat} {l : List Int} (cap : Nat) (h : RowI w g l) (hl : l.length ≤ 1048576) :
    Calls Tryz.prog 33 #[.slice (some ⟨g, 0, none⟩) l.length cap] w fun e w' => e = .returned (.tuple #[]) ∧ RowI w' g (l.mergeSort fun x y => decide (x ≤ y)) ∧ Aside (some g) w w' := by
  have hH : Holds (Value.int .i64) w g 0 l.toArray := fun j hj => by
    have hj' : j < l.length := by simpa using hj
    obtain ⟨h1, h2⟩ := h.2 j hj'
    rw [Nat.zero_add]
    exact ⟨by rw [h1]; simp [hj'], h2⟩
  have hsz : (l.mergeSort fun x y => decide (x ≤ y)).toArray.size = l.toArray.size := by simp
  refine (Tryz.slices_Sort_int g 0 cap l w hH h.1 (by omega)).mono ?_
  rintro e w' ⟨rfl, n, os, rfl⟩
  have hH2 : Holds (Value.int .i64) (Sort.ahead w n) g 0 l.toArray := hH
  refine ⟨rfl, ⟨by have := h.1; simp; show g < w.heap.size + _; omega, fun j hj => ?_⟩, ⟨rfl, rfl, rfl, by simp, fun k hk hne => ?_⟩⟩
  · have hj2 : j < (l.mergeSort fun x y => decide (x ≤ y)).toArray.size := by simpa using hj
    have hc := cell?_putRow (Value.int .i64) (Sort.ahead w n) g 0 l.toArray (l.mergeSort fun x y => decide (x ≤ y)).toArray hH2 hsz j hj2
    rw [Nat.zero_add] at hc
    have hf : (putRow (Value.int .i64) (Sort.ahead w n) g 0 (l.mergeSort fun x y => decide (x ≤ y)).toArray).frozen? ⟨g, j, none⟩ = w.frozen? ⟨g, j, none⟩ := frozen?_putRow _ _ _ _ _ _
    have hl' : j < l.length := by simpa using hj
    refine ⟨?_, ?_⟩
    · rw [cell?_grow _ _ _ (by simpa using h.1), hc]
      simp [hl']
    · rw [frozen?_grow _ _ _ (by simpa using h.1), hf]
      exact (h.2 j hl').2
  · rw [heap_grow_old _ _ (by simpa using hk)]
    have : g ≠ k := fun e => hne (by rw [e])
    simp [putRow, mapBlock, Sort.ahead, Array.getElem?_modify, this]
theorem sort_row' {w : World} {g : Nat} {l : List Int} (cap : Nat) (h : RowI w g l) (hl : l.length ≤ 2200000) :
    Calls Tryz.prog 33 #[.slice (some ⟨g, 0, none⟩) l.length cap] w fun e w' => e = .returned (.tuple #[]) ∧ RowI w' g (l.mergeSort fun x y => decide (x ≤ y)) ∧ Aside (some g) w w' := by
  have hH : Holds (Value.int .i64) w g 0 l.toArray := fun j hj => by
    have hj' : j < l.length := by simpa using hj
    obtain ⟨h1, h2⟩ := h.2 j hj'
    rw [Nat.zero_add]
    exact ⟨by rw [h1]; simp [hj'], h2⟩
  have hsz : (l.mergeSort fun x y => decide (x ≤ y)).toArray.size = l.toArray.size := by simp
  refine (Tryz.slices_Sort_int g 0 cap l w hH h.1 (by omega)).mono ?_
  rintro e w' ⟨rfl, n, os, rfl⟩
  have hH2 : Holds (Value.int .i64) (Sort.ahead w n) g 0 l.toArray := hH
  refine ⟨rfl, ⟨by have := h.1; simp; show g < w.heap.size + _; omega, fun j hj => ?_⟩, ⟨rfl, rfl, rfl, by simp, fun k hk hne => ?_⟩⟩
  · have hj2 : j < (l.mergeSort fun x y => decide (x ≤ y)).toArray.size := by simpa using hj
    have hc := cell?_putRow (Value.int .i64) (Sort.ahead w n) g 0 l.toArray (l.mergeSort fun x y => decide (x ≤ y)).toArray hH2 hsz j hj2
    rw [Nat.zero_add] at hc
    have hf : (putRow (Value.int .i64) (Sort.ahead w n) g 0 (l.mergeSort fun x y => decide (x ≤ y)).toArray).frozen? ⟨g, j, none⟩ = w.frozen? ⟨g, j, none⟩ := frozen?_putRow _ _ _ _ _ _
    have hl' : j < l.length := by simpa using hj
    refine ⟨?_, ?_⟩
    · rw [cell?_grow _ _ _ (by simpa using h.1), hc]
      simp [hl']
    · rw [frozen?_grow _ _ _ (by simpa using h.1), hf]
      exact (h.2 j hl').2
  · rw [heap_grow_old _ _ (by simpa using hk)]
    have : g ≠ k := fun e => hne (by rw [e])
    simp [putRow, mapBlock, Sort.ahead, Array.getElem?_modify, this]
theorem rot_num (x n : Int) (hn : 0 < n) : (x.tmod n + n).tmod n = x % n := by
  have h1 := Int.tmod_lt_of_pos x hn
  have h2 : -n < x.tmod n := by
    have := Int.lt_tmod_of_pos x hn
    omega
  rw [Int.tmod_eq_emod_of_nonneg (by omega), Int.add_emod_right]
  rw [Int.emod_eq_emod_iff_emod_sub_eq_zero]
  have h3 := Int.tmod_add_mul_tdiv x n
  have : x.tmod n - x = n * (-(x.tdiv n)) := by rw [Int.mul_neg]; omega
  rw [this]
  exact Int.mul_emod_right _ _
theorem modulo_any (x n : Int) (w : World) (hn : 0 < n ∧ n ≤ 4000000000000000000) (hx : -9223372036854775808 ≤ x ∧ x ≤ 9223372036854775807) :
    Calls Tryz.prog 32 #[.int .i64 x, .int .i64 n] w fun e w' => e = .returned (.int .i64 (x % n)) ∧ w = w' := by
  have h1 := Int.tmod_lt_of_pos x hn.1
  have h2 := Int.lt_tmod_of_pos x hn.1
  have hr := rot_num x n hn.1
  have h3 := Int.emod_nonneg x (show n ≠ 0 by omega)
  have h4 := Int.emod_lt_of_pos x hn.1
  obtain ⟨k, hk⟩ : ∃ k : Int, x % n = k := ⟨_, rfl⟩
  rw [hk] at hr h3 h4
  have HK := Lib.hid hk
  clear hk
  have q0 : ¬ (n = 0) := by omega
  have q1 : IntKind.i64.wrap (x.tmod n) = x.tmod n := IntWalk.i64_in _ (by omega)
  have q2 : IntKind.i64.wrap (x.tmod n + n) = x.tmod n + n := IntWalk.i64_in _ (by omega)
  have q4 : wrap64 (x.tmod n + n) = x.tmod n + n := wrap64_of (by omega) (by omega)
  have q3 : IntKind.i64.wrap k = k := IntWalk.i64_in _ (by omega)
  go_enter Tryz.func32, Tryz.ntmps32
  go_wp2_with fail
  go_ret
  exact ⟨ret_int (by rw [HK.out]), rfl⟩
end Go.Proofs.YtfdcainjppljhaaGreatDoor
namespace Go.Proofs.YtfdcainjppljhaaGreatDoor
open Go.RowKit
set_option linter.unusedVariables false
/-- What times become. -/
def tmB (l : List Int) (rev cell : Int) : Bool := !l.isEmpty && timesOk l rev cell
def tmC (l : List Int) (rev cell : Int) : Int := if tmB l rev cell then cell else 0
def tmF (l : List Int) (rev cell : Int) : Int := if tmB l rev cell then l.headD 0 else 0
def tmL (l : List Int) (rev cell : Int) : List Int := if tmB l rev cell then gapsT l rev else []
def tmE (err : Int) (l : List Int) (rev cell : Int) : Int := if l.isEmpty then 6 else if timesOk l rev cell then 0 else err
theorem tmL_len (l : List Int) (rev cell : Int) : (tmL l rev cell).length ≤ l.length := by
  unfold tmL tmB
  split
  · rename_i h
    cases l with
    | nil => simp at h
    | cons a l => rw [gapsT_len _ _ (by simp)]; omega
  · simp
end Go.Proofs.YtfdcainjppljhaaGreatDoor
namespace Go.Proofs.YtfdcainjppljhaaGreatDoor
open Go.RowKit
set_option maxHeartbeats 1000000 in
set_option maxRecDepth 20000 in
theorem impl_total (p : Option Addr) (l : List Int) (cap : Nat) (w : World) (hI : IntsAt w p l) (hl : l.length ≤ 1048576) (hs : ∀ k, -4000000000000000000 ≤ (l.take k).sum ∧ (l.take k).sum ≤ 4000000000000000000) :
    Calls Tryz.prog 26 #[.slice p l.length cap] w fun e w' => e = .returned (.int .i64 l.sum) ∧ w' = w := by
  have HS := Lib.hid hs
  clear hs
  go_enter Tryz.func26, Tryz.ntmps26
  go_wp2
  go_loopw [3, 8] (fun s i wr => ∃ k : Nat, k ≤ l.length ∧ i = .int .i64 k ∧ s = .int .i64 (l.take k).sum ∧ wr = w) (fun _ i _ => l.length - (intOf i).toNat)
  case atStart => exact ⟨0, Nat.zero_le _, rfl, by simp, rfl⟩
  case round =>
    obtain ⟨k, hk, rfl, rfl, rfl⟩ := hrel
    by_cases hlt : k < l.length
    · obtain ⟨a, rfl, hx⟩ := hI.at_ hlt
      have hs1 := HS.out k
      have hs2 := HS.out (k + 1)
      have hsum := sumI_take hlt
      obtain ⟨x, ex⟩ : ∃ x, l[k] = x := ⟨_, rfl⟩
      rw [ex] at hx hsum
      obtain ⟨s, es⟩ : ∃ s, (l.take k).sum = s := ⟨_, rfl⟩
      rw [es] at hs1 hsum
      rw [hsum] at hs2
      simp only [es]
      have H := Lib.hid hsum
      clear hsum es ex
      go_wp2
      exact ⟨⟨k + 1, by omega, by go_num, by rw [H.out], trivial⟩, by simp [intOf]; omega⟩
    · rw [List.take_of_length_le (by omega)]
      go_wp2
      go_ret
      exact ⟨rfl, rfl⟩
set_option maxHeartbeats 1000000 in
set_option maxRecDepth 20000 in
theorem impl_changes (c f : Int) (p : Option Addr) (l : List Int) (cap : Nat) (w : World) (hI : IntsAt w p l) (hl : l.length ≤ 1048576) (hs : ∀ k, -4000000000000000000 ≤ f + (l.take k).sum ∧ f + (l.take k).sum ≤ 4000000000000000000) :
    Calls Tryz.prog 25 #[.agg #[.int .i64 c, .int .i64 f, .slice p l.length cap]] w fun e w' => ∃ q dap, e = .returned (.slice q (chgL f l).length dap) ∧ OwnS w' w.heap.size q (chgL f l) ∧ Below w.heap.size w w' := by
  have HS := Lib.hid hs
  clear hs
  have hmk := make_ints l.length (by omega)
  have hcl := chgL_len f l
  go_enter Tryz.func25, Tryz.ntmps25
  go_wp2
  clear hmk
  go_loopw [4, 16] (fun s i wr => ∃ k : Nat, k ≤ l.length ∧ i = .int .i64 k ∧ s = .int .i64 (f + (l.take k).sum) ∧ RowI wr (w.heap.size + 1) (fillP (chgL f l) k) ∧ Below (w.heap.size + 1) (w.alloc (.cells #[.int .i64 c, .int .i64 f, .slice p l.length cap] 28)) wr) (fun _ i _ => l.length - (intOf i).toNat)
  case atStart =>
    refine ⟨0, Nat.zero_le _, rfl, by simp, ?_, ?_⟩
    · rw [fillP_zero, hcl]
      have := RowI.made (w.alloc (.cells #[.int .i64 c, .int .i64 f, .slice p l.length cap] 28)) l.length
      simpa using this
    · exact (Below.refl _ _).alloc (by simp) _
  case round =>
    obtain ⟨k, hk, rfl, rfl, hrow, hbel⟩ := hrel
    have hbw : Below w.heap.size w wr := ((Below.refl w.heap.size w).alloc (Nat.le_refl _) _).trans (hbel.mono (by omega))
    by_cases hlt : k < l.length
    · have hs1 := HS.out k
      have hs2 := HS.out (k + 1)
      have hsum := sumI_take hlt
      have hat := chgL_at f l k (by omega)
      have hf := (hrow.cell (k := k) (by rw [fillP_len (by omega)]; omega))
      have hn := hrow.set_ k (f + (l.take k).sum)
      rw [← hat, fillP_set (by omega)] at hn
      rw [hat] at hn
      obtain ⟨a, rfl, hx⟩ := (hI.below hbw).at_ hlt
      obtain ⟨x, ex⟩ : ∃ x, l[k] = x := ⟨_, rfl⟩
      rw [ex] at hx hsum
      obtain ⟨s, es⟩ : ∃ s, f + (l.take k).sum = s := ⟨_, rfl⟩
      have hsum2 : f + (l.take (k + 1)).sum = s + x := by rw [hsum, ← es]; omega
      rw [es] at hs1 hn
      rw [hsum2] at hs2
      simp only [es]
      have H := Lib.hid hsum2
      clear hsum hsum2 hat es ex
      go_wp2
      exact ⟨⟨k + 1, by omega, by go_num, by rw [H.out], hn, hbel.setCell (Nat.le_refl _) _⟩, by simp [intOf]; omega⟩
    · rw [fillP_all (by omega)] at hrow
      have HC := Lib.hid hcl
      clear hcl
      go_wp2
      go_ret
      exact ⟨some ⟨w.heap.size + 1, 0, none⟩, l.length, by rw [HC.out]; rfl, OwnS.of_row hrow (by omega), hbw⟩
/-- Prefix sums of valid flux are small. -/
theorem fluxOk_sums {c f : Int} {l : List Int} (h : fluxOk c f l = true) : (∀ k, -4000000000000000000 ≤ (l.take k).sum ∧ (l.take k).sum ≤ 4000000000000000000) ∧ (∀ k, -4000000000000000000 ≤ f + (l.take k).sum ∧ f + (l.take k).sum ≤ 4000000000000000000) := by
  obtain ⟨-, -, -, h4, h5, -⟩ := fluxOk_bd h
  exact ⟨fun k => by have := h4 k; omega, fun k => by have := h4 k; omega⟩
def revV (c f : Int) (l : List Int) : Int := if fluxOk c f l then l.sum else -1
set_option maxHeartbeats 1000000 in
set_option maxRecDepth 20000 in
theorem impl_RevolutionOf (c f : Int) (p : Option Addr) (l : List Int) (cap : Nat) (w : World) (hI : IntsAt w p l) (hl : l.length ≤ 1048576) :
    Calls Tryz.prog 8 #[.agg #[.int .i64 c, .int .i64 f, .slice p l.length cap]] w fun e w' => e = .returned (.int .i64 (revV c f l)) ∧ Below w.heap.size w w' := by
  have B0 := Blk.new w 28 #[.int .i64 c, .int .i64 f, .slice p l.length cap]
  cases hok : fluxOk c f l
  · have H := Lib.hid hok
    clear hok
    go_enter Tryz.func8, Tryz.ntmps8
    go_wp2_with (go_at_call 24; refine (impl_ValidFlux c f p l cap _ (hI.alloc _) hl).mono ?_; rintro e w1 ⟨rfl, hb1⟩; rw [H.out])
    go_ret
    exact ⟨ret_int (by unfold revV; rw [H.out]; rfl), below_al (Below.refl _ _) hb1 (Nat.le_refl _)⟩
  · have H := Lib.hid hok
    clear hok
    go_enter Tryz.func8, Tryz.ntmps8
    go_wp2_with (first | (go_at_call 24; refine (impl_ValidFlux c f p l cap _ (hI.alloc _) hl).mono ?_; rintro e w1 ⟨rfl, hb1⟩; rw [H.out]; obtain ⟨b0, b1, b2⟩ := (B0.keep hb1).cell3; have J1 := (hI.alloc _).below hb1) | (go_at_call 26; refine (impl_total _ _ _ _ J1 hl (fluxOk_sums H.out).1).mono ?_; rintro e w2 ⟨rfl, rfl⟩))
    go_ret
    exact ⟨ret_int (by unfold revV; rw [H.out]; rfl), below_al (Below.refl _ _) hb1 (Nat.le_refl _)⟩
def chV (c f : Int) (l : List Int) : List Int := if fluxOk c f l then chgL f l else []
theorem chV_len (c f : Int) (l : List Int) : (chV c f l).length ≤ l.length := by unfold chV; split <;> simp [chgL_len]
set_option maxHeartbeats 1000000 in
set_option maxRecDepth 20000 in
theorem impl_ChangesOf (c f : Int) (p : Option Addr) (l : List Int) (cap : Nat) (w : World) (hI : IntsAt w p l) (hl : l.length ≤ 1048576) :
    Calls Tryz.prog 7 #[.agg #[.int .i64 c, .int .i64 f, .slice p l.length cap]] w fun e w' => ∃ q dap, e = .returned (.slice q (chV c f l).length dap) ∧ OwnS w' w.heap.size q (chV c f l) ∧ Below w.heap.size w w' := by
  have B0 := Blk.new w 28 #[.int .i64 c, .int .i64 f, .slice p l.length cap]
  cases hok : fluxOk c f l
  · have H := Lib.hid hok
    clear hok
    go_enter Tryz.func7, Tryz.ntmps7
    go_wp2_with (go_at_call 24; refine (impl_ValidFlux c f p l cap _ (hI.alloc _) hl).mono ?_; rintro e w1 ⟨rfl, hb1⟩; rw [H.out])
    go_ret
    have E : chV c f l = [] := by unfold chV; rw [H.out]; rfl
    exact ⟨none, 0, by rw [E]; rfl, by rw [E]; exact OwnS.nil_ _ _ _, below_al (Below.refl _ _) hb1 (Nat.le_refl _)⟩
  · have H := Lib.hid hok
    clear hok
    go_enter Tryz.func7, Tryz.ntmps7
    go_wp2_with (first | (go_at_call 24; refine (impl_ValidFlux c f p l cap _ (hI.alloc _) hl).mono ?_; rintro e w1 ⟨rfl, hb1⟩; rw [H.out]; obtain ⟨b0, b1, b2⟩ := (B0.keep hb1).cell3; have J1 := (hI.alloc _).below hb1) | (go_at_call 25; refine (impl_changes _ _ _ _ _ _ J1 hl (fluxOk_sums H.out).2).mono ?_; rintro e w2 ⟨q, dap, rfl, hS, hb2⟩))
    go_ret
    have E : chV c f l = chgL f l := by unfold chV; rw [H.out]; rfl
    have hz := hb1.size
    simp at hz
    exact ⟨q, dap, by rw [E]; rfl, by rw [E]; exact hS.mono (by omega), below_st (below_al (Below.refl _ _) hb1 (Nat.le_refl _)) hb2 (Nat.le_refl _)⟩
end Go.Proofs.YtfdcainjppljhaaGreatDoor
namespace Go.Proofs.YtfdcainjppljhaaGreatDoor
open Go.RowKit
/-- A result: flux of times if the arguments are valid. -/
def fxC (v : Bool) (t : List Int) (rev cell : Int) : Int := if v then tmC t rev cell else 0
def fxF (v : Bool) (t : List Int) (rev cell : Int) : Int := if v then tmF t rev cell else 0
def fxL (v : Bool) (t : List Int) (rev cell : Int) : List Int := if v then tmL t rev cell else []
def fxE (v : Bool) (t : List Int) (rev cell : Int) : Int := if v then tmE 2 t rev cell else 1
theorem fxL_len (v : Bool) (t : List Int) (rev cell : Int) : (fxL v t rev cell).length ≤ t.length := by
  unfold fxL
  split
  · exact tmL_len _ _ _
  · simp
theorem mix_at {T X : List Int} (h : T.length = X.length) {k : Nat} (hk : k < X.length) {h2 : k < (T.take k ++ X.drop k).length} : (T.take k ++ X.drop k)[k] = X[k] := by
  rw [List.getElem_append_right (by rw [List.length_take]; omega)]
  simp [show min k T.length = k by omega]
theorem mix_set {T X : List Int} (h : T.length = X.length) {k : Nat} (hk : k < X.length) : (T.take k ++ X.drop k).set k (T[k]'(by omega)) = T.take (k + 1) ++ X.drop (k + 1) := by
  rw [List.set_append_right _ _ (by rw [List.length_take]; omega), takeI_snoc (by omega : k < T.length), List.append_assoc]
  congr 1
  rw [show k - (T.take k).length = 0 by simp; omega, List.drop_eq_getElem_cons hk, List.set_cons_zero]
  rfl
theorem chg_bd {c f : Int} {l : List Int} (h : fluxOk c f l = true) (k : Nat) (hk : k < (chgL f l).length) : 0 ≤ (chgL f l)[k] ∧ (chgL f l)[k] ≤ 4000000 := by
  obtain ⟨-, -, -, h4, h5, -⟩ := fluxOk_bd h
  rw [chgL_at]
  have := h4 k
  omega
end Go.Proofs.YtfdcainjppljhaaGreatDoor
namespace Go.Proofs.YtfdcainjppljhaaGreatDoor
open Go.RowKit
set_option linter.unusedVariables false
theorem isNaN_cmp (x : Int) (w : World) : Calls Tryz.prog 81 #[.int .i64 x] w fun e w' => e = .returned (.bool false) ∧ w = w' := by
  go_enter Tryz.func81, Tryz.ntmps81
  go_wp2_with fail
  go_ret
  exact ⟨rfl, rfl⟩
theorem less_cmp (x y : Int) (w : World) : Calls Tryz.prog 59 #[.int .i64 x, .int .i64 y] w fun e w' => e = .returned (.bool (decide (x < y))) ∧ w = w' := by
  go_enter Tryz.func59, Tryz.ntmps59
  go_wp2_with (go_at_call 81; refine (isNaN_cmp _ _).mono ?_; rintro e w' ⟨rfl, rfl⟩)
  go_ret
  exact ⟨rfl, rfl⟩
theorem bs_end {l : List Int} {t : Int} (hs : l.Pairwise (· ≤ ·)) {i : Nat} (h1 : ∀ x (hx : x < l.length), x < i → l[x] < t) (h2 : ∀ x (hx : x < l.length), i ≤ x → t ≤ l[x]) :
    decide (t ∈ l) = if h : i < l.length then decide (l[i] = t) else false := by
  split
  · rename_i h
    rw [Bool.eq_iff_iff, decide_eq_true_iff, decide_eq_true_iff]
    constructor
    · intro hm
      obtain ⟨x, hx, rfl⟩ := List.getElem_of_mem hm
      have hix : i ≤ x := by
        rcases Nat.lt_or_ge x i with h3 | h3
        · have := h1 x hx h3; omega
        · exact h3
      have h4 := h2 i h (Nat.le_refl _)
      rcases Nat.lt_or_ge i x with h5 | h5
      · have := List.pairwise_iff_getElem.1 hs i x h hx h5
        omega
      · have : i = x := by omega
        subst this; rfl
    · intro e; rw [← e]; exact List.getElem_mem h
  · rename_i h
    rw [decide_eq_false_iff_not]
    intro hm
    obtain ⟨x, hx, rfl⟩ := List.getElem_of_mem hm
    have := h1 x hx (by omega)
    omega
theorem bs_low {l : List Int} {t : Int} (hs : l.Pairwise (· ≤ ·)) {h : Nat} (hh : h < l.length) (hlt : l[h] < t) : ∀ x (hx : x < l.length), x < h + 1 → l[x] < t := by
  intro x hx hxh
  rcases Nat.lt_or_ge x h with h5 | h5
  · have := List.pairwise_iff_getElem.1 hs x h hx hh h5
    omega
  · have : x = h := by omega
    subst this; exact hlt
theorem bs_high {l : List Int} {t : Int} (hs : l.Pairwise (· ≤ ·)) {h : Nat} (hh : h < l.length) (hge : t ≤ l[h]) : ∀ x (hx : x < l.length), h ≤ x → t ≤ l[x] := by
  intro x hx hxh
  rcases Nat.lt_or_ge h x with h5 | h5
  · have := List.pairwise_iff_getElem.1 hs h x hh hx h5
    omega
  · have : x = h := by omega
    subst this; exact hge
theorem has_no {l : List Int} {t : Int} (h : ∀ x (hx : x < l.length), l[x] ≠ t) : decide (t ∈ l) = false := by
  rw [decide_eq_false_iff_not]
  intro hm
  obtain ⟨x, hx, e⟩ := List.getElem_of_mem hm
  exact h x hx e
end Go.Proofs.YtfdcainjppljhaaGreatDoor
