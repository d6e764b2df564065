/- Flux whose index is later; weak areas: what sorting gives, plain. -/
import Derived.Test.YtfdcainjppljhaaMakeP
namespace Go.Proofs.Ytfdcainjppljhaa
theorem sort_is {l l' : List Int} (h : l.Perm l') (hs : l'.Pairwise (· < ·)) : (l.mergeSort fun x y => decide (x ≤ y)) = l' := by
  have tr : ∀ a b c : Int, (decide (a ≤ b)) = true → (decide (b ≤ c)) = true → (decide (a ≤ c)) = true := fun a b c h1 h2 => by simp only [decide_eq_true_eq] at *; omega
  have to : ∀ a b : Int, ((decide (a ≤ b)) || (decide (b ≤ a))) = true := fun a b => by simp only [Bool.or_eq_true, decide_eq_true_eq]; omega
  refine List.Perm.eq_of_pairwise (le := fun a b => decide (a ≤ b) = true) (fun a b _ _ h1 h2 => ?_) (List.pairwise_mergeSort tr to l) (hs.imp fun {a b} h => ?_) ((List.mergeSort_perm l _).trans h)
  · simp only [decide_eq_true_eq] at h1 h2
    omega
  · simp only [decide_eq_true_eq]; omega
/-- The times seen from a later index. -/
def rotT (b rev : Int) (l : List Int) : List Int := (l.filter fun t => decide (b ≤ t)).map (fun t => t - b) ++ (l.filter fun t => decide (t < b)).map (fun t => t - b + rev)
def rotM (b rev : Int) (l : List Int) : List Int := l.map fun t => (t - b) % rev
theorem rot_mod {b rev t : Int} (hb : 0 ≤ b ∧ b ≤ rev - 1) (ht : 0 ≤ t ∧ t ≤ rev - 1) : (t - b) % rev = if b ≤ t then t - b else t - b + rev := by
  split
  · exact Int.emod_eq_of_lt (by omega) (by omega)
  · rw [← Int.add_emod_right]
    exact Int.emod_eq_of_lt (by omega) (by omega)
theorem rot_perm {b rev : Int} (hb : 0 ≤ b ∧ b ≤ rev - 1) : ∀ {l : List Int}, (∀ t ∈ l, 0 ≤ t ∧ t ≤ rev - 1) → (rotM b rev l).Perm (rotT b rev l)
  | [], _ => .refl _
  | t :: l, h => by
    have ht := h t (by simp)
    have ih := rot_perm hb (l := l) fun x hx => h x (List.mem_cons_of_mem _ hx)
    unfold rotM rotT at ih ⊢
    rw [List.map_cons, rot_mod hb ht]
    by_cases hc : b ≤ t
    · rw [if_pos hc, List.filter_cons, if_pos (decide_eq_true hc), List.filter_cons, if_neg (by simp; omega), List.map_cons, List.cons_append]
      exact ih.cons _
    · rw [if_neg hc, List.filter_cons, if_neg (by simp; omega), List.filter_cons, if_pos (by simp; omega), List.map_cons]
      exact (ih.cons _).trans List.perm_middle.symm
theorem rot_up {b rev : Int} (hb : 0 ≤ b ∧ b ≤ rev - 1) {l : List Int} (h : ∀ t ∈ l, 0 ≤ t ∧ t ≤ rev - 1) (hs : l.Pairwise (· < ·)) : (rotT b rev l).Pairwise (· < ·) := by
  unfold rotT
  rw [List.pairwise_append]
  refine ⟨?_, ?_, ?_⟩
  · rw [List.pairwise_map]
    exact (hs.filter _).imp fun h => by omega
  · rw [List.pairwise_map]
    exact (hs.filter _).imp fun h => by omega
  · intro x hx y hy
    obtain ⟨u, hu, rfl⟩ := List.mem_map.1 hx
    obtain ⟨v, hv, rfl⟩ := List.mem_map.1 hy
    have h1 := h u (List.mem_filter.1 hu).1
    have h2 := h v (List.mem_filter.1 hv).1
    omega
theorem rot_sort {b rev : Int} (hb : 0 ≤ b ∧ b ≤ rev - 1) {l : List Int} (h : ∀ t ∈ l, 0 ≤ t ∧ t ≤ rev - 1) (hs : l.Pairwise (· < ·)) : ((rotM b rev l).mergeSort fun x y => decide (x ≤ y)) = rotT b rev l := sort_is (rot_perm hb h) (rot_up hb h hs)
theorem filter_split {l : List Int} {k : Nat} {b : Int} (hs : l.Pairwise (· < ·)) (h1 : ∀ j (h : j < l.length), j < k → l[j] < b) (h2 : ∀ h : k < l.length, b ≤ l[k]) :
    (l.filter fun t => decide (b ≤ t)) = l.drop k ∧ (l.filter fun t => decide (t < b)) = l.take k := by
  have ha : ∀ x ∈ l.take k, x < b := fun x hx => by
    obtain ⟨i, hi, rfl⟩ := List.getElem_of_mem hx
    rw [List.length_take] at hi
    rw [List.getElem_take]
    exact h1 i (by omega) (by omega)
  have hb : ∀ x ∈ l.drop k, b ≤ x := fun x hx => by
    obtain ⟨i, hi, rfl⟩ := List.getElem_of_mem hx
    rw [List.length_drop] at hi
    rw [List.getElem_drop]
    have h3 := h2 (by omega)
    rcases Nat.eq_zero_or_pos i with e | e
    · subst e; simpa using h3
    · have := List.pairwise_iff_getElem.1 hs k (k + i) (by omega) (by omega) (by omega)
      omega
  have e := List.take_append_drop k l
  constructor
  · conv => lhs; rw [← e]
    rw [List.filter_append, List.filter_eq_nil_iff.2 (fun x hx => by have := ha x hx; simp; omega), List.filter_eq_self.2 (fun x hx => by have := hb x hx; simpa using this), List.nil_append]
  · conv => lhs; rw [← e]
    rw [List.filter_append, List.filter_eq_self.2 (fun x hx => by have := ha x hx; simpa using this), List.filter_eq_nil_iff.2 (fun x hx => by have := hb x hx; simp; omega), List.append_nil]
theorem rotT_at {l : List Int} {k : Nat} {b rev : Int} (hk : k ≤ l.length) (hs : l.Pairwise (· < ·)) (h1 : ∀ j (h : j < l.length), j < k → l[j] < b) (h2 : ∀ h : k < l.length, b ≤ l[k]) (i : Nat) (hi : i < l.length)
    (hm : (k + i) % l.length < l.length := Nat.mod_lt _ (by omega)) :
    (rotT b rev l).length = l.length ∧ (rotT b rev l)[i]? = some (if l[(k + i) % l.length] - b < 0 then l[(k + i) % l.length] - b + rev else l[(k + i) % l.length] - b) := by
  obtain ⟨e1, e2⟩ := filter_split hs h1 h2
  unfold rotT
  rw [e1, e2]
  refine ⟨by simp; omega, ?_⟩
  by_cases hlt : k + i < l.length
  · have e : (k + i) % l.length = k + i := Nat.mod_eq_of_lt hlt
    rw [List.getElem?_append_left (by simp; omega), List.getElem?_map, List.getElem?_drop, List.getElem?_eq_getElem hlt]
    simp only [e, Option.map_some]
    have hge : b ≤ l[k + i] := by
      rcases Nat.eq_zero_or_pos i with e | e
      · subst e; exact h2 hlt
      · have := List.pairwise_iff_getElem.1 hs k (k + i) (by omega) hlt (by omega)
        have := h2 (by omega)
        omega
    rw [if_neg (by omega)]
  · have e : (k + i) % l.length = k + i - l.length := by
      rw [Nat.mod_eq_sub_mod (by omega)]
      exact Nat.mod_eq_of_lt (by omega)
    have hj : k + i - l.length < k := by omega
    have hl : k + i - l.length < l.length := by omega
    rw [List.getElem?_append_right (by simp; omega), List.getElem?_map, List.length_map, List.length_drop, show i - (l.length - k) = k + i - l.length by omega, List.getElem?_take_of_lt hj, List.getElem?_eq_getElem hl]
    simp only [e, Option.map_some]
    have := h1 _ hl hj
    rw [if_pos (by omega)]
theorem rotT_len {l : List Int} (b rev : Int) : (rotT b rev l).length = l.length := by
  unfold rotT
  rw [List.length_append, List.length_map, List.length_map]
  induction l with
  | nil => rfl
  | cons t l ih =>
    rw [List.filter_cons, List.filter_cons]
    by_cases hc : b ≤ t
    · rw [if_pos (decide_eq_true hc), if_neg (by simp; omega), List.length_cons, List.length_cons]; omega
    · rw [if_neg (by simp; omega), if_pos (by simp; omega), List.length_cons, List.length_cons]; omega
/-- Times with a weak area. -/
def weakT (a b : Int) (t l : List Int) : List Int := (l.filter fun x => decide (x < a)) ++ t ++ (l.filter fun x => decide (b ≤ x))
def weakM (a b : Int) (t l : List Int) : List Int := t ++ l.filter fun x => decide (x < a) || decide (b ≤ x)
theorem weak_perm {a b : Int} (hab : a ≤ b) (t : List Int) : ∀ l : List Int, (weakM a b t l).Perm (weakT a b t l)
  | [] => by simp [weakM, weakT]
  | x :: l => by
    have ih := weak_perm hab t l
    unfold weakM weakT at ih ⊢
    rw [List.filter_cons, List.filter_cons, List.filter_cons]
    by_cases h1 : x < a
    · rw [if_pos (by simp; omega), if_pos (by simpa using h1), if_neg (by simp; omega)]
      exact List.perm_middle.trans (ih.cons _)
    · by_cases h2 : b ≤ x
      · rw [if_pos (by simp; omega), if_neg (by simpa using h1), if_pos (by simpa using h2)]
        exact (List.perm_middle.trans (ih.cons _)).trans List.perm_middle.symm
      · rw [if_neg (by simp; omega), if_neg (by simpa using h1), if_neg (by simpa using h2)]
        exact ih
theorem weak_up {a b : Int} (hab : a ≤ b) {t l : List Int} (ht : risesB t a (b - 1) = true) (hs : l.Pairwise (· < ·)) : (weakT a b t l).Pairwise (· < ·) := by
  have hm := risesB_mem ht
  unfold risesB at ht
  rw [Bool.and_eq_true, decide_eq_true_eq] at ht
  unfold weakT
  rw [List.append_assoc, List.pairwise_append, List.pairwise_append]
  refine ⟨hs.filter _, ⟨ht.2, hs.filter _, ?_⟩, ?_⟩
  · intro x hx y hy
    have h1 := hm x hx
    have h2 := (List.mem_filter.1 hy).2
    simp at h2
    omega
  · intro x hx y hy
    have h1 := (List.mem_filter.1 hx).2
    simp at h1
    rcases List.mem_append.1 hy with h | h
    · have := hm y h; omega
    · have h2 := (List.mem_filter.1 h).2
      simp at h2
      omega
theorem weak_sort {a b : Int} (hab : a ≤ b) {t l : List Int} (ht : risesB t a (b - 1) = true) (hs : l.Pairwise (· < ·)) : ((weakM a b t l).mergeSort fun x y => decide (x ≤ y)) = weakT a b t l := sort_is (weak_perm hab t l) (weak_up hab ht hs)
end Go.Proofs.Ytfdcainjppljhaa
