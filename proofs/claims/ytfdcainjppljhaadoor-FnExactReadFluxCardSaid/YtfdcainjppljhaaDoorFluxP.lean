/- Flux, plain: lists of numbers, their sums and running sums; no program in sight. -/
import Derived.Test.YtfdcainjppljhaaDoorPlain
namespace Go.Proofs.YtfdcainjppljhaaDoor
theorem sumI_snoc (l : List Int) (x : Int) : (l ++ [x]).sum = l.sum + x := by simp
theorem takeI_snoc {l : List Int} {k : Nat} (h : k < l.length) : l.take (k + 1) = l.take k ++ [l[k]] := List.take_succ_eq_append_getElem h
theorem sumI_take {l : List Int} {k : Nat} (h : k < l.length) : (l.take (k + 1)).sum = (l.take k).sum + l[k] := by rw [takeI_snoc h, sumI_snoc]
theorem sumI_bd {l : List Int} {lo hi : Int} (h : ∀ x ∈ l, lo ≤ x ∧ x ≤ hi) : lo * l.length ≤ l.sum ∧ l.sum ≤ hi * l.length := by
  induction l with
  | nil => simp
  | cons a l ih =>
    have h1 := h a (by simp)
    have h2 := ih (fun x hx => h x (by simp [hx]))
    rw [List.sum_cons, List.length_cons, show ((l.length + 1 : Nat) : Int) = (l.length : Int) + 1 from rfl, Int.mul_add, Int.mul_add]
    omega
/-- A row that is filled from the left. -/
def fillP (m : List Int) (k : Nat) : List Int := m.take k ++ List.replicate (m.length - k) 0
theorem fillP_len {m : List Int} {k : Nat} (h : k ≤ m.length) : (fillP m k).length = m.length := by simp [fillP]; omega
theorem fillP_zero (m : List Int) : fillP m 0 = List.replicate m.length 0 := by simp [fillP]
theorem fillP_all {m : List Int} {k : Nat} (h : m.length ≤ k) : fillP m k = m := by simp [fillP, List.take_of_length_le h]; omega
theorem fillP_set {m : List Int} {k : Nat} (h : k < m.length) : (fillP m k).set k (m[k]) = fillP m (k + 1) := by
  have hl : (m.take k).length = k := by simp; omega
  unfold fillP
  rw [List.set_append_right _ _ (by omega), hl, Nat.sub_self, show m.length - k = (m.length - (k + 1)) + 1 by omega, List.replicate_succ, List.set_cons_zero, takeI_snoc h, List.append_assoc]
  rfl
/-- Running sums that begin with t. -/
def chgL (t : Int) : List Int → List Int
  | [] => []
  | x :: l => t :: chgL (t + x) l
theorem chgL_len (t : Int) (l : List Int) : (chgL t l).length = l.length := by
  induction l generalizing t with
  | nil => rfl
  | cons a l ih => simp [chgL, ih]
theorem chgL_at (t : Int) (l : List Int) (k : Nat) (h : k < (chgL t l).length) : (chgL t l)[k] = t + (l.take k).sum := by
  induction l generalizing t k with
  | nil => simp [chgL] at h
  | cons a l ih =>
    cases k with
    | zero => simp [chgL]
    | succ k =>
      simp only [chgL, List.getElem_cons_succ, List.take_succ_cons, List.sum_cons]
      rw [ih]
      omega
theorem chgL_take (t : Int) (l : List Int) (k : Nat) : chgL t (l.take k) = (chgL t l).take k := by
  induction l generalizing t k with
  | nil => simp [chgL]
  | cons a l ih =>
    cases k with
    | zero => simp [chgL]
    | succ k => simp [chgL, ih]
theorem chgL_snoc (t : Int) (l : List Int) (x : Int) : chgL t (l ++ [x]) = chgL t l ++ [t + l.sum] := by
  induction l generalizing t with
  | nil => simp [chgL]
  | cons a l ih =>
    simp only [chgL, List.cons_append, List.sum_cons]
    rw [ih]
    simp [Int.add_assoc]
/-- Every gap is in its bounds. -/
def gapsIn (l : List Int) : Bool := l.all fun x => inB x 1 2000000
theorem gapsIn_snoc (l : List Int) (x : Int) : gapsIn (l ++ [x]) = (gapsIn l && inB x 1 2000000) := by simp [gapsIn]
theorem gapsIn_mem {l : List Int} (h : gapsIn l = true) : ∀ x ∈ l, 1 ≤ x ∧ x ≤ 2000000 := by
  intro x hx
  have := List.all_eq_true.1 h x hx
  exact inB_iff.1 this
theorem gapsIn_take {l : List Int} (h : gapsIn l = true) (k : Nat) : gapsIn (l.take k) = true := by
  unfold gapsIn at *
  rw [List.all_eq_true] at *
  exact fun x hx => h x (List.mem_of_mem_take hx)
theorem gapsIn_no {l : List Int} {k : Nat} (hk : k < l.length) (h : inB (l[k]) 1 2000000 = false) : gapsIn l = false := by
  cases hg : gapsIn l
  · rfl
  · rw [inB_yes (gapsIn_mem hg _ (List.getElem_mem hk))] at h; cases h
theorem gapsIn_sum {l : List Int} (h : gapsIn l = true) : 0 ≤ l.sum ∧ l.sum ≤ 2000000 * l.length ∧ l.length ≤ l.sum := by
  have := sumI_bd (gapsIn_mem h)
  omega
/-- The flux is valid. -/
def fluxOk (c f : Int) (l : List Int) : Bool := inB c 4 200 && (decide (1 ≤ l.length) && (decide (l.length ≤ 4000) && (gapsIn l && (decide (l.sum ≤ 2000000) && inB f 0 (l.getLastD 0 - 1)))))
theorem fluxOk_iff {c f : Int} {l : List Int} : fluxOk c f l = true ↔ (4 ≤ c ∧ c ≤ 200) ∧ 1 ≤ l.length ∧ l.length ≤ 4000 ∧ gapsIn l = true ∧ l.sum ≤ 2000000 ∧ 0 ≤ f ∧ f ≤ l.getLastD 0 - 1 := by
  simp [fluxOk, inB]
theorem lastD_at {l : List Int} {n : Nat} (hn : n + 1 = l.length) : l[n] = l.getLastD 0 := by
  have hne : l ≠ [] := by intro e; rw [e] at hn; simp at hn
  rw [List.getLastD_eq_getLast?, List.getLast?_eq_some_getLast hne, Option.getD_some, List.getLast_eq_getElem]
  congr 1
  omega
theorem lastD_mem {l : List Int} (h : 1 ≤ l.length) : l.getLastD 0 ∈ l := by
  have := lastD_at (l := l) (n := l.length - 1) (by omega)
  rw [← this]
  exact List.getElem_mem _
/-- Bounds of valid flux. -/
theorem fluxOk_bd {c f : Int} {l : List Int} (h : fluxOk c f l = true) : (4 ≤ c ∧ c ≤ 200) ∧ (1 ≤ l.length ∧ l.length ≤ 4000) ∧ (∀ x ∈ l, 1 ≤ x ∧ x ≤ 2000000) ∧ (∀ k, 0 ≤ (l.take k).sum ∧ (l.take k).sum ≤ 2000000) ∧ (0 ≤ f ∧ f ≤ 1999999) ∧ (0 ≤ l.sum ∧ l.sum ≤ 2000000) := by
  obtain ⟨h1, h2, h3, h4, h5, h6, h7⟩ := fluxOk_iff.1 h
  have hm := gapsIn_mem h4
  have hl := hm _ (lastD_mem h2)
  have h8 := (gapsIn_sum h4)
  refine ⟨h1, ⟨h2, h3⟩, hm, fun k => ?_, ⟨h6, by omega⟩, h8.1, h5⟩
  have ha := gapsIn_sum (gapsIn_take h4 k)
  have hd : 0 ≤ (l.drop k).sum := by
    have := sumI_bd (l := l.drop k) (lo := 0) (hi := 2000000) (fun x hx => by have := hm x (List.mem_of_mem_drop hx); omega)
    omega
  have hs : l.sum = (l.take k).sum + (l.drop k).sum := by rw [← List.sum_append, List.take_append_drop]
  omega
end Go.Proofs.YtfdcainjppljhaaDoor
