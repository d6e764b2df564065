/- Flux comes back from the times of its changes, plain. -/
import Derived.Test.YtmjmhdjfaamgkaaMake2W
import Derived.Test.YtmjmhdjfaamgkaaJitW
import Derived.Test.YtmjmhdjfaamgkaaComW
import Derived.Test.YtmjmhdjfaamgkaaSameW
namespace Go.Proofs.Ytmjmhdjfaamgkaa
open Go.RowKit
set_option linter.unusedVariables false
theorem wrap_in {x : Int} (h : -9223372036854775808 ≤ x ∧ x ≤ 9223372036854775807) : IntKind.i64.wrap x = x := IntWalk.i64_in _ h
theorem diff_chg : ∀ (l : List Int) (f : Int), (∀ x ∈ l, 1 ≤ x ∧ x ≤ 2000000) → diffW (chgL f l) = l.dropLast
  | [], f, _ => rfl
  | [a], f, _ => rfl
  | a :: b :: l, f, h => by
    have ha := h a (by simp)
    show IntKind.i64.wrap (f + a - f) :: diffW (chgL (f + a) (b :: l)) = a :: (b :: l).dropLast
    rw [diff_chg (b :: l) (f + a) (fun x hx => h x (List.mem_cons_of_mem _ hx)), show f + a - f = a by omega, wrap_in (by omega)]
theorem last_chg : ∀ (l : List Int) (f : Int), l ≠ [] → (chgL f l).getLastD 0 = f + l.dropLast.sum
  | [], _, h => absurd rfl h
  | [a], f, _ => by simp [chgL]
  | a :: b :: l, f, _ => by
    have h := last_chg (b :: l) (f + a) (by simp)
    have e : (chgL f (a :: b :: l)).getLastD 0 = (chgL (f + a) (b :: l)).getLastD 0 := rfl
    rw [e, h]
    show f + a + (b :: l).dropLast.sum = f + (a :: (b :: l).dropLast).sum
    rw [List.sum_cons]
    omega
theorem drop_sum {l : List Int} (h : l ≠ []) : l.dropLast.sum + l.getLastD 0 = l.sum := by
  have e := List.dropLast_concat_getLast h
  have e2 : l.getLastD 0 = l.getLast h := by rw [List.getLastD_eq_getLast?, List.getLast?_eq_some_getLast h]; rfl
  rw [e2]
  have := congrArg List.sum e
  rw [List.sum_append] at this
  simpa using this
theorem chg_head (f : Int) {l : List Int} (h : l ≠ []) : (chgL f l).headD 0 = f := by
  cases l with
  | nil => exact absurd rfl h
  | cons a l => rfl
theorem gaps_chg {c f : Int} {l : List Int} (h : fluxOk c f l = true) : gapsT (chgL f l) l.sum = l := by
  obtain ⟨-, hl, hm, -, hf, hs⟩ := fluxOk_bd h
  have hne : l ≠ [] := by intro e; rw [e] at hl; simp at hl
  have hd := drop_sum hne
  have hlast := hm _ (lastD_mem hl.1)
  unfold gapsT
  rw [diff_chg l f hm, last_chg l f hne, chg_head f hne]
  have e1 : l.sum - (f + l.dropLast.sum) = l.getLastD 0 - f := by omega
  rw [e1, wrap_in (x := l.getLastD 0 - f) (by omega), show l.getLastD 0 - f + f = l.getLastD 0 by omega, wrap_in (by omega)]
  have e := List.dropLast_concat_getLast hne
  have e2 : l.getLastD 0 = l.getLast hne := by rw [List.getLastD_eq_getLast?, List.getLast?_eq_some_getLast hne]; rfl
  rw [e2]
  exact e
theorem chg_hi {c f : Int} {l : List Int} (h : fluxOk c f l = true) : ∀ x ∈ chgL f l, 0 ≤ x ∧ x ≤ l.sum - 1 := by
  obtain ⟨-, hl, hm, hp, hf, hs⟩ := fluxOk_bd h
  obtain ⟨-, -, -, -, -, -, h7⟩ := fluxOk_iff.1 h
  have hne : l ≠ [] := by intro e; rw [e] at hl; simp at hl
  have hd := drop_sum hne
  intro x hx
  obtain ⟨i, hi, rfl⟩ := List.getElem_of_mem hx
  have hcl := chgL_len f l
  have hrise := chg_rises h
  have hat := chgL_at f l i hi
  have h1 := hp i
  have hlastv : (chgL f l)[l.length - 1]'(by omega) = f + l.dropLast.sum := by
    rw [chgL_at, List.dropLast_eq_take]
  have h2 : (chgL f l)[i] ≤ (chgL f l)[l.length - 1]'(by omega) := by
    rcases Nat.lt_or_ge i (l.length - 1) with h3 | h3
    · have := List.pairwise_iff_getElem.1 hrise i (l.length - 1) hi (by omega) h3
      omega
    · have : i = l.length - 1 := by omega
      subst this; exact Int.le_refl _
  omega
theorem times_chg {c f : Int} {l : List Int} (h : fluxOk c f l = true) : timesOk (chgL f l) l.sum c = true := by
  obtain ⟨-, hl, hm, -, hf, hs⟩ := fluxOk_bd h
  obtain ⟨-, -, -, h4, -⟩ := fluxOk_iff.1 h
  have hne : l ≠ [] := by intro e; rw [e] at hl; simp at hl
  have hgs := gapsIn_sum h4
  unfold timesOk
  rw [gaps_chg h, chg_head f hne, h, Bool.and_true]
  have a1 : inB l.sum 1 2000000 = true := inB_iff.2 (by omega)
  have a2 : risesB (chgL f l) 0 (l.sum - 1) = true := by
    unfold risesB
    rw [Bool.and_eq_true, decide_eq_true_eq, List.all_eq_true]
    exact ⟨fun x hx => inB_iff.2 (chg_hi h x hx), chg_rises h⟩
  rw [a1, a2]; rfl
theorem tm_chg {c f : Int} {l : List Int} (h : fluxOk c f l = true) : tmC (chgL f l) l.sum c = c ∧ tmF (chgL f l) l.sum c = f ∧ tmL (chgL f l) l.sum c = l ∧ tmE 1 (chgL f l) l.sum c = 0 := by
  obtain ⟨-, hl, -⟩ := fluxOk_bd h
  have hne : l ≠ [] := by intro e; rw [e] at hl; simp at hl
  have he : (chgL f l).isEmpty = false := by
    cases l with
    | nil => exact absurd rfl hne
    | cons a l => rfl
  have hb : tmB (chgL f l) l.sum c = true := by unfold tmB; rw [he, times_chg h]; rfl
  unfold tmC tmF tmL tmE
  rw [hb, he, times_chg h]
  exact ⟨rfl, chg_head f hne, gaps_chg h, rfl⟩
theorem jitP_self (x : List Int) : ∀ k, k ≤ x.length → jitP x x k = 0
  | 0, _ => by simp [jitP]
  | k + 1, h => by
    have hk : k < x.length := by omega
    rw [jitP_succ hk hk, jitP_self x k (by omega)]
    omega
theorem jit_self {c f : Int} {l : List Int} (h : fluxOk c f l = true) : jitB c f l c f l = true ∧ jitV c f l c f l = 0 := by
  have hb : jitB c f l c f l = true := by unfold jitB; rw [h]; simp
  refine ⟨hb, ?_⟩
  unfold jitV
  rw [hb]
  exact jitP_self _ _ (by rw [chgL_len]; exact Nat.le_refl _)
theorem com_self {c f : Int} {l : List Int} (h : fluxOk c f l = true) : comV c f l c f l = (l.length : Int) := by
  unfold comV
  rw [h]
  show comP (chgL f l) (chgL f l) l.length = _
  unfold comP
  rw [List.take_of_length_le (by rw [chgL_len]; exact Nat.le_refl _), List.filter_eq_self.2 (fun a ha => decide_eq_true ha), chgL_len]
theorem same_self (c f : Int) (l : List Int) : sameV c f l c f l = true := by unfold sameV; simp
theorem rev_ok {c f : Int} {l : List Int} (h : fluxOk c f l = true) : revV c f l = l.sum ∧ chV c f l = chgL f l := by
  unfold revV chV
  rw [h]; exact ⟨rfl, rfl⟩
end Go.Proofs.Ytmjmhdjfaamgkaa
