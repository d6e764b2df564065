/- The steps of the clock and the counts of gaps, plain. -/
import Derived.Test.YtdoaoeenmfnjhaaClkErrW
import Derived.Test.YtdoaoeenmfnjhaaStepCW
import Derived.Test.YtdoaoeenmfnjhaaClk2W
namespace Go.Proofs.Ytdoaoeenmfnjhaa
open Go.RowKit
theorem set_sum : ∀ (l : List Int) (i : Nat) (x : Int), i < l.length → (l.set i x).sum = l.sum + (x - l.getD i 0)
  | a :: l, 0, x, _ => by simp; omega
  | a :: l, i + 1, x, h => by
    have := set_sum l i x (by simpa using h)
    simp only [List.set_cons_succ, List.sum_cons, List.getD_cons_succ, this]
    omega
  | [], i, x, h => by simp at h
theorem bump_sum {r : List Int} {n : Int} (h : (if 8 < n then 0 else n.toNat) < r.length) : (bumpL r n).sum = r.sum + 1 := by
  unfold bumpL
  rw [set_sum _ _ _ h]
  omega
theorem foldB_sum : ∀ (l : List Int) (r : List Int), r.length = 9 → (l.foldl bumpL r).sum = r.sum + l.length
  | [], r, _ => by simp
  | n :: l, r, h => by
    have h2 : (bumpL r n).length = 9 := by simp [bumpL, h]
    rw [List.foldl_cons, foldB_sum l _ h2, bump_sum (by rw [h]; split <;> omega)]
    simp
    omega
theorem binL_sum (l : List Int) : (binL l).sum = l.length := by
  unfold binL
  rw [foldB_sum _ _ (by simp)]
  simp
theorem runCode_ok {c : Clk} {cf f : Int} {l : List Int} (h : runCode c cf f l = 0) : fluxOk cf f l = true ∧ c.valid = true ∧ runOk c f l = true := by
  unfold runCode at h
  cases h1 : fluxOk cf f l
  · rw [h1] at h; simp at h
  cases h2 : c.valid
  · rw [h1, h2] at h; simp at h
  cases h3 : runOk c f l
  · rw [h1, h2, h3] at h; simp at h
  exact ⟨rfl, rfl, rfl⟩
theorem cEs_is {c : Clk} {cf f : Int} {l : List Int} (h : runCode c cf f l = 0) : cEs c cf f l = runE c (c.cell * 64) (off0 c f) l := by
  obtain ⟨h1, h2, h3⟩ := runCode_ok h
  unfold cEs runEs
  rw [h1, h2, h3]; rfl
theorem gapV_is {c : Clk} {cf f : Int} {l : List Int} (h : runCode c cf f l = 0) : (gapV c cf f l).sum = l.length ∧ (gapV c cf f l).length = 9 := by
  obtain ⟨h1, h2, h3⟩ := runCode_ok h
  unfold gapV runNs
  rw [h1, h2, h3]
  show (binL (runN c (c.cell * 64) (off0 c f) l)).sum = _ ∧ (binL _).length = 9
  rw [binL_sum, runN_len, binL_len]
  exact ⟨rfl, rfl⟩
/-- The k-th step. -/
theorem steps_at {c : Clk} {cf f : Int} {l : List Int} (h : runCode c cf f l = 0) {k : Nat} (hk : k < l.length) {P O : Int} (hP : (stS c (c.cell * 64) (off0 c f) (l.take k)).1 = P) (hO : (stS c (c.cell * 64) (off0 c f) (l.take k)).2 = O) :
    stepV c P O l[k] = .tuple #[.int .i64 (stN P O l[k]), .agg #[.int .i64 (stP c P O l[k]), .int .i64 (stO c P O l[k])], .int .i64 0] ∧
    (runE c (c.cell * 64) (off0 c f) l)[k]'(by rw [runE_len]; exact hk) = l[k] * 64 + O - stN P O l[k] * P ∧
    (stS c (c.cell * 64) (off0 c f) (l.take (k + 1))).1 = stP c P O l[k] ∧ (stS c (c.cell * 64) (off0 c f) (l.take (k + 1))).2 = stO c P O l[k] ∧
    (128 ≤ P ∧ P ≤ 25600) ∧ (-P ≤ O ∧ O ≤ P) ∧ (1 ≤ l[k] ∧ l[k] ≤ 2000000) ∧ (1 ≤ stN P O l[k] ∧ stN P O l[k] ≤ 100) := by
  obtain ⟨h1, h2, h3⟩ := runCode_ok h
  obtain ⟨k1, k2, k3, k4, k5⟩ := Clk.valid_bd h2
  have ho := off0_bd h2 f
  have hbd := stS_bd h2 (P := c.cell * 64) (O := off0 c f) (by omega) (by omega) (l.take k)
  rw [hP, hO] at hbd
  obtain ⟨-, -, hm, -⟩ := fluxOk_bd h1
  have hg := hm l[k] (List.getElem_mem hk)
  have hle : stN P O l[k] ≤ 100 := by
    by_cases e : stN P O l[k] ≤ 100
    · exact e
    · have := runOk_no (c := c) (f := f) hk (by rw [hP, hO]; omega)
      rw [h3] at this; cases this
  have hge := (stN_bd (P := P) (O := O) (gap := l[k]) (by omega) hbd.2 hg).1.1
  refine ⟨?_, ?_, ?_, ?_, by omega, hbd.2, hg, hge, hle⟩
  · have hs : stepOk c P O l[k] = true := by
      unfold stepOk
      rw [h2]
      have a1 : inB P (c.low * 64) (c.high * 64) = true := inB_iff.2 hbd.1
      have a2 : inB O (-P) P = true := inB_iff.2 hbd.2
      have a3 : inB l[k] 1 2000000 = true := inB_iff.2 hg
      rw [a1, a2, a3]; rfl
    unfold stepV
    rw [hs, if_pos rfl, if_neg (by omega)]
  · have hs : runE c (c.cell * 64) (off0 c f) (l.take (k + 1)) = runE c (c.cell * 64) (off0 c f) (l.take k) ++ [stE P O l[k]] := by
      rw [takeI_snoc hk, runE_snoc, hP, hO]
    have hpre : ∀ j, j ≤ l.length → runE c (c.cell * 64) (off0 c f) (l.take j) = (runE c (c.cell * 64) (off0 c f) l).take j := fun j _ => by
      have e : ∀ (l : List Int) (P O : Int) (j : Nat), runE c P O (l.take j) = (runE c P O l).take j := by
        intro l
        induction l with
        | nil => intro P O j; simp [runE]
        | cons a l ih =>
          intro P O j
          cases j with
          | zero => simp [runE]
          | succ j => simp [runE, ih]
      exact e _ _ _ _
    have h4 := congrArg (fun x => x[k]?) hs
    rw [hpre (k + 1) (by omega), List.getElem?_take_of_lt (Nat.lt_succ_self k), List.getElem?_append_right (by rw [runE_len, List.length_take]; omega), List.getElem?_eq_getElem (by rw [runE_len]; exact hk)] at h4
    have hlen : (runE c (c.cell * 64) (off0 c f) (l.take k)).length = k := by rw [runE_len, List.length_take]; omega
    rw [hlen, Nat.sub_self] at h4
    simp at h4
    rw [h4]; rfl
  · rw [takeI_snoc hk, stS_snoc, hP, hO]
  · rw [takeI_snoc hk, stS_snoc, hP, hO]
end Go.Proofs.Ytdoaoeenmfnjhaa
