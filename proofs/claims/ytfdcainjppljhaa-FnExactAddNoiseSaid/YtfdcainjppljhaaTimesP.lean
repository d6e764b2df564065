/- Flux of times, plain. -/
import Derived.Test.YtfdcainjppljhaaFluxP
namespace Go.Proofs.Ytfdcainjppljhaa
/-- The differences of neighbours. -/
def diffW : List Int → List Int
  | a :: b :: l => IntKind.i64.wrap (b - a) :: diffW (b :: l)
  | _ => []
theorem diffW_snoc : ∀ (l : List Int) (x y : Int), diffW (l ++ [x, y]) = diffW (l ++ [x]) ++ [IntKind.i64.wrap (y - x)]
  | [], x, y => rfl
  | [a], x, y => by simp [diffW]
  | a :: b :: l, x, y => by
    have := diffW_snoc (b :: l) x y
    simp only [List.cons_append, diffW] at this ⊢
    rw [this]
theorem diffW_len : ∀ l : List Int, (diffW l).length = l.length - 1
  | [] => rfl
  | [_] => rfl
  | _ :: b :: l => by simp only [diffW, List.length_cons]; rw [diffW_len (b :: l)]; simp
theorem diffW_take {l : List Int} {k : Nat} (h1 : 1 ≤ k) (h : k < l.length) : diffW (l.take (k + 1)) = diffW (l.take k) ++ [IntKind.i64.wrap (l[k] - l[k - 1])] := by
  obtain ⟨j, rfl⟩ : ∃ j, k = j + 1 := ⟨k - 1, by omega⟩
  rw [takeI_snoc h, takeI_snoc (by omega : j < l.length), List.append_assoc]
  exact diffW_snoc _ _ _
theorem diffW_one (l : List Int) : diffW (l.take 1) = [] := by
  cases l with
  | nil => rfl
  | cons a l => simp [diffW]
/-- The gaps of times in a revolution. -/
def gapsT (l : List Int) (rev : Int) : List Int := diffW l ++ [IntKind.i64.wrap (IntKind.i64.wrap (rev - l.getLastD 0) + l.headD 0)]
theorem gapsT_len (l : List Int) (rev : Int) (h : 1 ≤ l.length) : (gapsT l rev).length = l.length := by simp [gapsT, diffW_len]; omega
theorem headD_at {l : List Int} (h : 0 < l.length) : l[0] = l.headD 0 := by
  cases l with
  | nil => simp at h
  | cons a l => rfl
/-- Numbers rise within bounds. -/
def risesB (l : List Int) (lo hi : Int) : Bool := (l.all fun x => inB x lo hi) && decide (l.Pairwise (· < ·)) 
def risesK (l : List Int) (lo hi : Int) (k : Nat) : Prop := ∀ i (h : i < l.length), i < k → inB (l[i]) lo hi = true ∧ (∀ h0 : 0 < i, l[i - 1]'(by omega) < l[i])
theorem risesK_all {l : List Int} {lo hi : Int} : risesB l lo hi = true ↔ risesK l lo hi l.length := by
  unfold risesB risesK
  rw [Bool.and_eq_true, decide_eq_true_eq, List.all_eq_true]
  constructor
  · rintro ⟨h1, h2⟩ i hi _
    refine ⟨h1 _ (List.getElem_mem hi), fun h0 => ?_⟩
    exact List.pairwise_iff_getElem.1 h2 (i - 1) i (by omega) hi (by omega)
  · intro h
    refine ⟨fun x hx => ?_, ?_⟩
    · obtain ⟨i, hi, rfl⟩ := List.getElem_of_mem hx
      exact (h i hi hi).1
    · rw [List.pairwise_iff_getElem]
      intro i j hi hj hij
      have key : ∀ d, ∀ j (hj : j < l.length), j = i + d + 1 → l[i] < l[j] := by
        intro d
        induction d with
        | zero =>
          intro j hj e
          subst e
          have := (h (i + 0 + 1) hj hj).2 (by omega)
          simpa using this
        | succ d ih =>
          intro j hj e
          subst e
          have h1 := ih (i + d + 1) (by omega) rfl
          have h2 := (h (i + (d + 1) + 1) hj hj).2 (by omega)
          simp only [show i + (d + 1) + 1 - 1 = i + d + 1 by omega] at h2
          omega
      exact key (j - i - 1) j hj (by omega)
theorem risesB_no {l : List Int} {lo hi : Int} {k : Nat} (hk : k < l.length) (h : inB (l[k]) lo hi = false ∨ ∃ h0 : 0 < k, l[k] ≤ l[k - 1]'(by omega)) : risesB l lo hi = false := by
  cases hr : risesB l lo hi
  · rfl
  · have := risesK_all.1 hr k hk hk
    rcases h with h | ⟨h0, h⟩
    · rw [this.1] at h; cases h
    · have := this.2 h0; omega
/-- Times become flux. -/
def timesOk (t : List Int) (rev cell : Int) : Bool := inB rev 1 2000000 && (risesB t 0 (rev - 1) && fluxOk cell (t.headD 0) (gapsT t rev))
end Go.Proofs.Ytfdcainjppljhaa
