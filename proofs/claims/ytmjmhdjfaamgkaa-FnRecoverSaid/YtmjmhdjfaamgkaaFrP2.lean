/- A plain clock recovers cells: the two calls, plain. -/
import Derived.Test.YtmjmhdjfaamgkaaFrP
import Derived.Test.YtmjmhdjfaamgkaaFoSW
namespace Go.Proofs.Ytmjmhdjfaamgkaa
open Go.RowKit
set_option linter.unusedVariables false
theorem fo_zero {s : ByteArray} {cell : Int} (h : foE s cell = 0) : foGood s cell = true := by
  unfold foE at h
  unfold foGood
  cases h1 : foOk s cell
  · rw [h1] at h; simp at h
  · rw [h1] at h
    simp only [if_true] at h
    by_cases h2 : foN s = 0
    · rw [if_pos h2] at h; omega
    · rw [if_neg h2] at h
      by_cases h3 : 4000 < foN s
      · rw [if_pos h3] at h; omega
      · simp; omega
theorem bits_49 {s : ByteArray} (h : cellsB s = true) : ∀ x ∈ s.data.toList, x = 48 ∨ x = 49 := by
  intro x hx
  unfold cellsB cellStr bitsAll at h
  simp only [Bool.and_eq_true, List.all_eq_true] at h
  have := h.2.2 x hx
  unfold bitB at this
  simpa using this
theorem fo_parts {s : ByteArray} {cell : Int} (h : foGood s cell = true) : (4 ≤ cell ∧ cell ≤ 200) ∧ (∀ x ∈ s.data.toList, x = 48 ∨ x = 49) ∧ s.size ≤ 8000 ∧ onesL s.data.toList s.size ≠ [] ∧ (onesL s.data.toList s.size).length ≤ 4000 := by
  unfold foGood foOk at h
  simp only [Bool.and_eq_true, decide_eq_true_eq] at h
  obtain ⟨⟨h1, h2⟩, h3, h4⟩ := h
  refine ⟨inB_iff.1 h2, bits_49 h1, (cellStr_bd'' h1).2, ?_, h4⟩
  intro e
  unfold foN at h3
  rw [e] at h3
  simp at h3
theorem chg_diff (g : Int) : ∀ (l : List Int) (a : Int), (∀ x ∈ a :: l, 0 ≤ x ∧ x ≤ 100000000) → chgL a (diffW (a :: l) ++ [g]) = a :: l
  | [], a, _ => rfl
  | b :: l, a, h => by
    have h1 := h a (by simp)
    have h2 := h b (by simp)
    show a :: chgL (a + IntKind.i64.wrap (b - a)) (diffW (b :: l) ++ [g]) = _
    rw [frw (by omega), show a + (b - a) = b by omega, chg_diff g l b fun x hx => h x (List.mem_cons_of_mem _ hx)]
theorem chg_gaps {T : List Int} (hne : T ≠ []) (h : ∀ x ∈ T, 0 ≤ x ∧ x ≤ 100000000) (rev : Int) : chgL (T.headD 0) (gapsT T rev) = T := by
  cases T with
  | nil => exact absurd rfl hne
  | cons a l => exact chg_diff _ l a h
theorem times_bd {s : List UInt8} {c : Int} {N : Nat} (hc : 4 ≤ c ∧ c ≤ 200) (hN : N ≤ 8000) : ∀ x ∈ timesZ s c N, 0 ≤ x ∧ x ≤ 100000000 := by
  intro x hx
  unfold timesZ at hx
  obtain ⟨i, hi, rfl⟩ := List.mem_map.1 hx
  have := onesL_lt hi
  have := mul_bd (p := i) (c := c) (by omega) hc
  omega
theorem counts_le {s : ByteArray} {c : Int} (hc : 4 ≤ c ∧ c ≤ 200) (hN : s.size ≤ 8000) (hg : ∀ x ∈ gapsT (timesZ s.data.toList c s.size) ((s.size : Int) * c), x ≤ 99 * c) {l : List Nat} (hl : onesL s.data.toList s.size = l) (hne : l ≠ []) :
    ∀ n ∈ gapL l ++ [(s.size : Int) - ((l.getLastD 0 : Nat) : Int) + ((l.headD 0 : Nat) : Int)], n ≤ 99 := by
  rw [← exZ_T, hl] at hg
  have hlt : ∀ x ∈ l, x < s.size := fun x hx => onesL_lt (hl ▸ hx)
  obtain ⟨p, l, rfl⟩ : ∃ p l', l = p :: l' := by
    cases l with
    | nil => exact absurd rfl hne
    | cons a l => exact ⟨a, l, rfl⟩
  rw [gaps_ex hc (by omega) (fun x hx => by have := hlt x hx; omega)] at hg
  intro n hn
  have := hg _ (List.mem_map_of_mem hn)
  exact Int.le_of_mul_le_mul_right this (by omega)
theorem exact_recover {s : ByteArray} {c : Int} (hc : 4 ≤ c ∧ c ≤ 200) (hb : ∀ x ∈ s.data.toList, x = 48 ∨ x = 49) (hN : s.size ≤ 8000) (hne : onesL s.data.toList s.size ≠ []) (h4 : (onesL s.data.toList s.size).length ≤ 4000)
    (hg : ∀ x ∈ gapsT (timesZ s.data.toList c s.size) ((s.size : Int) * c), x ≤ 99 * c) :
    rcE (plainC c) c ((timesZ s.data.toList c s.size).headD 0) (gapsT (timesZ s.data.toList c s.size) ((s.size : Int) * c)) = 0 ∧ rcS (plainC c) c ((timesZ s.data.toList c s.size).headD 0) (gapsT (timesZ s.data.toList c s.size) ((s.size : Int) * c)) = s := by
  have hok := (exact_ok hc hN hne h4).1
  have hk := counts_le hc hN hg rfl hne
  rw [← exZ_T] at hok ⊢
  have hne2 : exZ (onesL s.data.toList s.size) ≠ [] := by intro e; apply hne; have := exZ_P (onesL s.data.toList s.size); rw [e] at this; exact this.symm
  refine recover_cells hc hb hN (exZ_P _) hne2 (fun x hx => ?_) ?_ hok
  · unfold exZ at hx
    obtain ⟨y, hy, rfl⟩ := List.mem_map.1 hx
    show -((c - 1) / 2) ≤ 0 ∧ 0 ≤ (c - 1) / 2
    omega
  · rw [← mvP_last hne2, exZ_P]
    exact hk
/-- Places with the moves of their times. -/
def mvZ (c : Int) (l : List Nat) (T : List Int) : List (Nat × Int) := List.zipWith (fun p t => (p, t - ((p : Int) * c + c / 2))) l T
theorem mvZ_P (c : Int) : ∀ (l : List Nat) (T : List Int), T.length = l.length → mvP (mvZ c l T) = l
  | [], [], _ => rfl
  | p :: l, t :: T, h => by
    have ih := mvZ_P c l T (by simpa using h)
    show p :: mvP (mvZ c l T) = _
    rw [ih]
  | [], _ :: _, h => by simp at h
  | _ :: _, [], h => by simp at h
theorem mvZ_T (c : Int) : ∀ (l : List Nat) (T : List Int), T.length = l.length → mvT c (mvZ c l T) = T
  | [], [], _ => rfl
  | p :: l, t :: T, h => by
    have ih := mvZ_T c l T (by simpa using h)
    show ((p : Int) * c + c / 2 + (t - ((p : Int) * c + c / 2))) :: mvT c (mvZ c l T) = _
    rw [ih]
    congr 1
    omega
  | [], _ :: _, h => by simp at h
  | _ :: _, [], h => by simp at h
theorem moved_recover {s : ByteArray} {c : Int} (hc : 4 ≤ c ∧ c ≤ 200) (hb : ∀ x ∈ s.data.toList, x = 48 ∨ x = 49) (hN : s.size ≤ 8000) (hne : onesL s.data.toList s.size ≠ [])
    (hg : ∀ x ∈ gapsT (timesZ s.data.toList c s.size) ((s.size : Int) * c), x ≤ 99 * c) {T : List Int} (hT : T.length = (timesZ s.data.toList c s.size).length)
    (hd : ∀ i (h : i < T.length) (h2 : i < (timesZ s.data.toList c s.size).length), -((c - 1) / 2) ≤ T[i] - (timesZ s.data.toList c s.size)[i] ∧ T[i] - (timesZ s.data.toList c s.size)[i] ≤ (c - 1) / 2)
    (hok : fluxOk c (T.headD 0) (gapsT T ((s.size : Int) * c)) = true) :
    rcE (plainC c) c (T.headD 0) (gapsT T ((s.size : Int) * c)) = 0 ∧ rcS (plainC c) c (T.headD 0) (gapsT T ((s.size : Int) * c)) = s := by
  have hk := counts_le hc hN hg rfl hne
  have hTl : T.length = (onesL s.data.toList s.size).length := by rw [hT, timesZ_len]
  have e1 := mvZ_P c _ T hTl
  have e2 := mvZ_T c _ T hTl
  have hne2 : mvZ c (onesL s.data.toList s.size) T ≠ [] := by intro e; apply hne; rw [e] at e1; exact e1.symm
  have hR := recover_cells (z := mvZ c (onesL s.data.toList s.size) T) hc hb hN e1 hne2 (fun x hx => ?_) (by rw [← mvP_last hne2, e1]; exact hk) (by rw [e2]; exact hok)
  · rw [e2] at hR
    exact hR
  · obtain ⟨i, hi, rfl⟩ := List.getElem_of_mem hx
    unfold mvZ at hi ⊢
    rw [List.length_zipWith] at hi
    rw [List.getElem_zipWith]
    have hi2 : i < (timesZ s.data.toList c s.size).length := by rw [timesZ_len]; omega
    have h := hd i (by omega) hi2
    have e3 : (timesZ s.data.toList c s.size)[i] = (((onesL s.data.toList s.size)[i]'(by omega) : Nat) : Int) * c + c / 2 := by simp only [timesZ, List.getElem_map]
    rw [e3] at h
    exact h
end Go.Proofs.Ytmjmhdjfaamgkaa
