/- ClockErrors, GapCounts. -/
import Derived.Test.YtmjmhdjfaamgkaaRunW
import Derived.Test.YtmjmhdjfaamgkaaRun2W
namespace Go.Proofs.Ytmjmhdjfaamgkaa
open Go.RowKit
/-- One more in its bin. -/
def bumpL (r : List Int) (n : Int) : List Int := r.set (if 8 < n then 0 else n.toNat) (r.getD (if 8 < n then 0 else n.toNat) 0 + 1)
def binL (l : List Int) : List Int := l.foldl bumpL (List.replicate 9 0)
theorem binL_snoc (l : List Int) (n : Int) : binL (l ++ [n]) = bumpL (binL l) n := by simp [binL]
theorem foldB_len (l : List Int) (r : List Int) : (l.foldl bumpL r).length = r.length := by
  induction l generalizing r with
  | nil => rfl
  | cons a l ih => rw [List.foldl_cons, ih]; simp [bumpL]
theorem binL_len (l : List Int) : (binL l).length = 9 := by unfold binL; rw [foldB_len]; rfl
theorem foldB_bd (l : List Int) : ∀ (r : List Int) (B : Int), (∀ i, 0 ≤ r.getD i 0 ∧ r.getD i 0 ≤ B) → ∀ i, 0 ≤ (l.foldl bumpL r).getD i 0 ∧ (l.foldl bumpL r).getD i 0 ≤ B + l.length := by
  induction l with
  | nil => intro r B h i; simpa using h i
  | cons a l ih =>
    intro r B h i
    rw [List.foldl_cons, List.length_cons]
    have := ih (bumpL r a) (B + 1) (fun j => by
      unfold bumpL
      have hj := h j
      have hk := h (if 8 < a then 0 else a.toNat)
      generalize (if 8 < a then 0 else a.toNat) = k at hk ⊢
      simp only [List.getD_eq_getElem?_getD] at hj hk ⊢
      rw [List.getElem?_set]
      split
      · split
        · simp; omega
        · simp; omega
      · omega) i
    omega
theorem binL_bd (l : List Int) (i : Nat) : 0 ≤ (binL l).getD i 0 ∧ (binL l).getD i 0 ≤ l.length := by
  have := foldB_bd l (List.replicate 9 0) 0 (fun j => by
    rw [List.getD_eq_getElem?_getD, List.getElem?_replicate]
    split <;> simp) i
  unfold binL
  omega
theorem runN_bd {c : Clk} (hc : c.valid = true) : ∀ (l : List Int) (P O : Int), (c.low * 64 ≤ P ∧ P ≤ c.high * 64) → (-P ≤ O ∧ O ≤ P) → (∀ x ∈ l, 1 ≤ x ∧ x ≤ 2000000) → ∀ n ∈ runN c P O l, 1 ≤ n := by
  intro l
  induction l with
  | nil => intro P O _ _ _ n hn; simp [runN] at hn
  | cons g l ih =>
    intro P O hP hO hl n hn
    have hb := Clk.valid_bd hc
    rw [runN, List.mem_cons] at hn
    rcases hn with rfl | hn
    · exact (stN_bd (P := P) (O := O) (gap := g) (by omega) hO (hl g (by simp))).1.1
    · have h1 := stP_bd (O := O) (gap := g) hc hP
      exact ih _ _ h1 (clampI_bd (by omega)) (fun x hx => hl x (by simp [hx])) n hn
theorem runNs_bd {c : Clk} {cf f : Int} {l : List Int} (hok : fluxOk cf f l = true) (hc : c.valid = true) : ∀ n ∈ runNs c f l, 1 ≤ n ∧ n ≤ 100 := by
  intro n hn
  unfold runNs at hn
  split at hn
  · rename_i hr
    have hb := Clk.valid_bd hc
    refine ⟨runN_bd hc l _ _ ?_ (off0_bd hc f) (fluxOk_bd hok).2.2.1 n hn, ?_⟩
    · omega
    · have := List.all_eq_true.1 hr n hn
      simpa using this
  · simp at hn
/-- What GapCounts answers. -/
def gapV (c : Clk) (cf f : Int) (l : List Int) : List Int := if fluxOk cf f l && c.valid then (if runOk c f l then binL (runNs c f l) else []) else []
theorem gapV_len (c : Clk) (cf f : Int) (l : List Int) : (gapV c cf f l).length ≤ 9 := by unfold gapV; split <;> (try split) <;> simp [binL_len]
theorem make9 (w : World) : (Instr.makeSlice 22 (.int .i64 9) (.int .i64 9)).run Try.prog w = .ok (.slice (some ⟨w.heap.size, 0, none⟩) 9 9) (w.alloc (.cells (madeCells #[.int .i64 0] 9) 2)) := make_ints 9 (by omega) w
theorem bump_set {l : List Int} {n : Int} {i : Nat} (hi : (if 8 < n then 0 else n.toNat) = i) (hlt : i < (binL l).length) : (binL l).set i ((binL l)[i] + 1) = binL (l ++ [n]) := by
  rw [binL_snoc, bumpL, hi, List.getD_eq_getElem?_getD, List.getElem?_eq_getElem hlt, Option.getD_some]
end Go.Proofs.Ytmjmhdjfaamgkaa
