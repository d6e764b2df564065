/- A clock that runs over gaps, plain. -/
import Derived.Test.YtmjmhdjfaamgkaaFluxP
import Derived.Test.YtmjmhdjfaamgkaaStepW
namespace Go.Proofs.Ytmjmhdjfaamgkaa
/-- The state behind gaps. -/
def stS (c : Clk) (P O : Int) : List Int → Int × Int
  | [] => (P, O)
  | g :: l => stS c (stP c P O g) (stO c P O g) l
def runN (c : Clk) (P O : Int) : List Int → List Int
  | [] => []
  | g :: l => stN P O g :: runN c (stP c P O g) (stO c P O g) l
def runE (c : Clk) (P O : Int) : List Int → List Int
  | [] => []
  | g :: l => stE P O g :: runE c (stP c P O g) (stO c P O g) l
theorem stS_snoc (c : Clk) (P O : Int) (l : List Int) (g : Int) : stS c P O (l ++ [g]) = (stP c (stS c P O l).1 (stS c P O l).2 g, stO c (stS c P O l).1 (stS c P O l).2 g) := by
  induction l generalizing P O with
  | nil => rfl
  | cons a l ih => simp only [List.cons_append, stS]; exact ih _ _
theorem runN_snoc (c : Clk) (P O : Int) (l : List Int) (g : Int) : runN c P O (l ++ [g]) = runN c P O l ++ [stN (stS c P O l).1 (stS c P O l).2 g] := by
  induction l generalizing P O with
  | nil => rfl
  | cons a l ih => simp only [List.cons_append, runN, stS]; rw [ih]
theorem runE_snoc (c : Clk) (P O : Int) (l : List Int) (g : Int) : runE c P O (l ++ [g]) = runE c P O l ++ [stE (stS c P O l).1 (stS c P O l).2 g] := by
  induction l generalizing P O with
  | nil => rfl
  | cons a l ih => simp only [List.cons_append, runE, stS]; rw [ih]
theorem runN_len (c : Clk) (P O : Int) (l : List Int) : (runN c P O l).length = l.length := by
  induction l generalizing P O with
  | nil => rfl
  | cons a l ih => simp [runN, ih]
theorem runE_len (c : Clk) (P O : Int) (l : List Int) : (runE c P O l).length = l.length := by
  induction l generalizing P O with
  | nil => rfl
  | cons a l ih => simp [runE, ih]
theorem runN_take (c : Clk) (P O : Int) (l : List Int) (k : Nat) : runN c P O (l.take k) = (runN c P O l).take k := by
  induction l generalizing P O k with
  | nil => simp [runN]
  | cons a l ih =>
    cases k with
    | zero => simp [runN]
    | succ k => simp [runN, ih]
theorem stS_bd {c : Clk} (hc : c.valid = true) {P O : Int} (hP : c.low * 64 ≤ P ∧ P ≤ c.high * 64) (hO : -P ≤ O ∧ O ≤ P) (l : List Int) :
    (c.low * 64 ≤ (stS c P O l).1 ∧ (stS c P O l).1 ≤ c.high * 64) ∧ (-(stS c P O l).1 ≤ (stS c P O l).2 ∧ (stS c P O l).2 ≤ (stS c P O l).1) := by
  induction l generalizing P O with
  | nil => exact ⟨hP, hO⟩
  | cons g l ih =>
    have h1 := stP_bd (O := O) (gap := g) hc hP
    have hl : 2 ≤ c.low := by
      simp only [Clk.valid, Bool.and_eq_true, inB_iff] at hc
      omega
    exact ih h1 (clampI_bd (by omega))
/-- The offset at the beginning. -/
def off0 (c : Clk) (f : Int) : Int := if c.phase = 0 then (f % c.cell - c.cell / 2) * 64 else 0
theorem off0_bd {c : Clk} (hc : c.valid = true) (f : Int) : -(c.cell * 64) ≤ off0 c f ∧ off0 c f ≤ c.cell * 64 := by
  simp only [Clk.valid, Bool.and_eq_true, inB_iff] at hc
  have h1 := Int.emod_nonneg f (b := c.cell) (by omega)
  have h2 := Int.emod_lt_of_pos f (b := c.cell) (by omega)
  unfold off0
  split <;> omega
def runOk (c : Clk) (f : Int) (l : List Int) : Bool := (runN c (c.cell * 64) (off0 c f) l).all fun n => decide (n ≤ 100)
def runNs (c : Clk) (f : Int) (l : List Int) : List Int := if runOk c f l then runN c (c.cell * 64) (off0 c f) l else []
def runEs (c : Clk) (f : Int) (l : List Int) : List Int := if runOk c f l then runE c (c.cell * 64) (off0 c f) l else []
theorem runNs_len (c : Clk) (f : Int) (l : List Int) : (runNs c f l).length ≤ l.length := by unfold runNs; split <;> simp [runN_len]
theorem runEs_len (c : Clk) (f : Int) (l : List Int) : (runEs c f l).length ≤ l.length := by unfold runEs; split <;> simp [runE_len]
theorem runOk_no {c : Clk} {f : Int} {l : List Int} {k : Nat} (hk : k < l.length) (h : 100 < stN (stS c (c.cell * 64) (off0 c f) (l.take k)).1 (stS c (c.cell * 64) (off0 c f) (l.take k)).2 (l[k])) : runOk c f l = false := by
  cases hr : runOk c f l
  · rfl
  · have h1 := runN_take c (c.cell * 64) (off0 c f) l (k + 1)
    rw [takeI_snoc hk, runN_snoc] at h1
    have hm : stN (stS c (c.cell * 64) (off0 c f) (l.take k)).1 (stS c (c.cell * 64) (off0 c f) (l.take k)).2 (l[k]) ∈ runN c (c.cell * 64) (off0 c f) l := by
      apply List.mem_of_mem_take (i := k + 1)
      rw [← h1]
      simp
    have := List.all_eq_true.1 hr _ hm
    simp at this
    omega
theorem runOk_yes {c : Clk} {f : Int} {l : List Int} (h : ∀ k (hk : k < l.length), stN (stS c (c.cell * 64) (off0 c f) (l.take k)).1 (stS c (c.cell * 64) (off0 c f) (l.take k)).2 (l[k]) ≤ 100) : runOk c f l = true := by
  unfold runOk
  rw [List.all_eq_true]
  intro n hn
  obtain ⟨k, hk, rfl⟩ := List.getElem_of_mem hn
  rw [runN_len] at hk
  have h1 := runN_take c (c.cell * 64) (off0 c f) l (k + 1)
  rw [takeI_snoc hk, runN_snoc] at h1
  have h2 := congrArg (fun x => x[k]?) h1
  simp only [List.getElem?_take_of_lt (Nat.lt_succ_self k)] at h2
  rw [List.getElem?_append_right (by rw [runN_len, List.length_take]; omega)] at h2
  rw [runN_len] at h2
  simp [Nat.min_eq_left (Nat.le_of_lt hk)] at h2
  have h3 := h k hk
  rw [List.getElem?_eq_getElem (by rw [runN_len]; exact hk)] at h2
  simp at h2
  simp only [decide_eq_true_eq]
  omega
end Go.Proofs.Ytmjmhdjfaamgkaa
