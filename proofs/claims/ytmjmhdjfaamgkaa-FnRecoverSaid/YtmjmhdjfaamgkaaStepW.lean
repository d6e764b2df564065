/- The clock's step. -/
import Derived.Test.YtmjmhdjfaamgkaaClockW
import Derived.Test.YtmjmhdjfaamgkaaClk2W
import Derived.StillTailTactics
namespace Go.Proofs.Ytmjmhdjfaamgkaa
open Go.RowKit
/-- The number of cells of a gap, its error, the next period and offset. -/
def clampI (x lo hi : Int) : Int := max lo (min x hi)
def stN (P O gap : Int) : Int := if P ≤ gap * 64 + O + P / 2 then (gap * 64 + O + P / 2) / P else 1
def stE (P O gap : Int) : Int := gap * 64 + O - stN P O gap * P
def stP (c : Clk) (P O gap : Int) : Int := if 0 < c.speed then clampI (P + (stE P O gap).tdiv (stN P O gap * c.speed)) (c.low * 64) (c.high * 64) else P
def stO (c : Clk) (P O gap : Int) : Int := clampI (if 0 < c.phase then stE P O gap - (stE P O gap).tdiv c.phase else stE P O gap) (-stP c P O gap) (stP c P O gap)
theorem tdiv_bd (x y : Int) (B : Int) (h : -B ≤ x ∧ x ≤ B) (_hy : 0 < y) : -B ≤ x.tdiv y ∧ x.tdiv y ≤ B := by
  have hl : (x.tdiv y).natAbs ≤ x.natAbs := by
    rw [Int.natAbs_tdiv]
    exact Nat.div_le_self _ _
  omega
theorem stN_bd {P O gap : Int} (hP : 128 ≤ P ∧ P ≤ 25600) (hO : -P ≤ O ∧ O ≤ P) (hg : 1 ≤ gap ∧ gap ≤ 2000000) :
    (1 ≤ stN P O gap ∧ stN P O gap ≤ 200000000) ∧ (0 < stN P O gap * P ∧ stN P O gap * P ≤ 200000000) := by
  unfold stN
  split
  · rename_i h
    have h1 : 1 ≤ (gap * 64 + O + P / 2) / P := by
      rw [Int.le_ediv_iff_mul_le (by omega)]; omega
    have h2 := Int.ediv_mul_le (gap * 64 + O + P / 2) (b := P) (by omega)
    have h3 : (gap * 64 + O + P / 2) / P ≤ (gap * 64 + O + P / 2) := Int.ediv_le_self _ (by omega)
    refine ⟨⟨h1, by omega⟩, ?_, by omega⟩
    exact Int.mul_pos (by omega) (by omega)
  · omega
set_option maxHeartbeats 400000 in
theorem spec_l00Min (x y : Int) (w : World) :
    Calls Try.prog 135 #[.int .i64 x, .int .i64 y] w fun e w' => e = .returned (.int .i64 (min x y)) ∧ w' = w := by
  go_enter Try.func135, Try.ntmps135
  go_wp2
  all_goals
    go_ret
    exact ⟨ret_int (by omega), rfl⟩
set_option maxHeartbeats 400000 in
theorem spec_l00Max (x y : Int) (w : World) :
    Calls Try.prog 113 #[.int .i64 x, .int .i64 y] w fun e w' => e = .returned (.int .i64 (max x y)) ∧ w' = w := by
  go_enter Try.func113, Try.ntmps113
  go_wp2
  all_goals
    go_ret
    exact ⟨ret_int (by omega), rfl⟩
set_option maxHeartbeats 400000 in
theorem spec_l03Clamp (x lo hi : Int) (w : World) :
    Calls Try.prog 133 #[.int .i64 x, .int .i64 lo, .int .i64 hi] w fun e w' => e = .returned (.int .i64 (clampI x lo hi)) ∧ w' = w := by
  go_enter Try.func133, Try.ntmps133
  go_wp2_with (first | (go_at_call 135; refine (spec_l00Min _ _ _).mono ?_; rintro e w' ⟨rfl, rfl⟩) | (go_at_call 113; refine (spec_l00Max _ _ _).mono ?_; rintro e w' ⟨rfl, rfl⟩))
  go_ret
  exact ⟨rfl, rfl⟩
set_option maxHeartbeats 400000 in
theorem impl_between (x lo hi : Int) (w : World) (h : lo ≤ hi) :
    Calls Try.prog 127 #[.int .i64 x, .int .i64 lo, .int .i64 hi] w fun e w' => e = .returned (.int .i64 (clampI x lo hi)) ∧ w' = w := by
  go_enter Try.func127, Try.ntmps127
  go_wp2
  all_goals
    go_ret
    exact ⟨ret_int (by unfold clampI; first | omega | (split at * <;> omega)), rfl⟩
theorem floor_tdiv {x y : Int} (hy : 0 < y) : (0 ≤ x.tmod y → x.tdiv y = x / y) ∧ (x.tmod y < 0 → x.tdiv y - 1 = x / y) := by
  have h1 := Int.mul_tdiv_add_tmod x y
  have h2 := Int.mul_ediv_add_emod x y
  have h3 := Int.emod_nonneg x (by omega : y ≠ 0)
  have h4 := Int.emod_lt_of_pos x hy
  have h5 : x.tmod y < y := Int.tmod_lt_of_pos x hy
  have h6 : -y < x.tmod y := Int.lt_tmod_of_pos x hy
  constructor
  · intro h
    rcases Int.lt_trichotomy (x.tdiv y) (x / y) with h7 | h7 | h7
    · have := Int.mul_le_mul_of_nonneg_left (show x.tdiv y + 1 ≤ x / y by omega) (Int.le_of_lt hy)
      rw [Int.mul_add] at this
      omega
    · exact h7
    · have := Int.mul_le_mul_of_nonneg_left (show x / y + 1 ≤ x.tdiv y by omega) (Int.le_of_lt hy)
      rw [Int.mul_add] at this
      omega
  · intro h
    rcases Int.lt_trichotomy (x.tdiv y - 1) (x / y) with h7 | h7 | h7
    · have := Int.mul_le_mul_of_nonneg_left (show x.tdiv y ≤ x / y by omega) (Int.le_of_lt hy)
      omega
    · exact h7
    · have := Int.mul_le_mul_of_nonneg_left (show x / y + 2 ≤ x.tdiv y by omega) (Int.le_of_lt hy)
      rw [Int.mul_add] at this
      omega
set_option maxHeartbeats 400000 in
theorem impl_floorDiv (x y : Int) (w : World) (h : 0 < y) (hx : -4611686018427387904 ≤ x ∧ x ≤ 4611686018427387904) :
    Calls Try.prog 126 #[.int .i64 x, .int .i64 y] w fun e w' => e = .returned (.int .i64 (x / y)) ∧ w' = w := by
  have hd := tdiv_bd x y _ hx h
  have hf := Lib.hid (floor_tdiv (x := x) h)
  have hm1 : x.tmod y < y := Int.tmod_lt_of_pos x h
  have hm2 : -y < x.tmod y := Int.lt_tmod_of_pos x h
  go_enter Try.func126, Try.ntmps126
  go_wp2
  · go_ret
    exact ⟨ret_int (by have := hf.out.2 (by assumption); omega), rfl⟩
  · go_ret
    exact ⟨ret_int (by have := hf.out.1 (by assumption); omega), rfl⟩
/-- The step, its inner numbers named: q cells of length P (m in all), the error e. -/
theorem step_names {c : Clk} {P O gap q : Int} (hq : stN P O gap = q) : stE P O gap = gap * 64 + O - q * P ∧
    (0 < c.speed → stP c P O gap = clampI (P + (gap * 64 + O - q * P).tdiv (q * c.speed)) (c.low * 64) (c.high * 64)) ∧ (¬ 0 < c.speed → stP c P O gap = P) ∧
    (0 < c.phase → stO c P O gap = clampI (gap * 64 + O - q * P - (gap * 64 + O - q * P).tdiv c.phase) (-stP c P O gap) (stP c P O gap)) ∧ (¬ 0 < c.phase → stO c P O gap = clampI (gap * 64 + O - q * P) (-stP c P O gap) (stP c P O gap)) := by
  have hE : stE P O gap = gap * 64 + O - q * P := by unfold stE; rw [hq]
  refine ⟨hE, ?_, ?_, ?_, ?_⟩
  · intro h; unfold stP; rw [if_pos h, hE, hq]
  · intro h; unfold stP; rw [if_neg h]
  · intro h; unfold stO; rw [if_pos h, hE]
  · intro h; unfold stO; rw [if_neg h, hE]
theorem clampI_bd {x lo hi : Int} (h : lo ≤ hi) : lo ≤ clampI x lo hi ∧ clampI x lo hi ≤ hi := by unfold clampI; omega
theorem stP_bd {c : Clk} {P O gap : Int} (hc : c.valid = true) (hP : c.low * 64 ≤ P ∧ P ≤ c.high * 64) : c.low * 64 ≤ stP c P O gap ∧ stP c P O gap ≤ c.high * 64 := by
  simp only [Clk.valid, Bool.and_eq_true, inB_iff] at hc
  obtain ⟨⟨⟨⟨ha, hb⟩, hh⟩, _⟩, _⟩ := hc
  unfold stP
  split
  · exact clampI_bd (by omega)
  · exact hP
set_option maxHeartbeats 1000000 in
set_option maxRecDepth 20000 in
theorem spec_l03Step (c : Clk) (P O gap : Int) (w : World) (hc : c.valid = true) (hP : c.low * 64 ≤ P ∧ P ≤ c.high * 64) (hO : -P ≤ O ∧ O ≤ P) (hg : 1 ≤ gap ∧ gap ≤ 2000000) :
    Calls Try.prog 125 #[c.val, .agg #[.int .i64 P, .int .i64 O], .int .i64 gap] w fun e w' => e = .returned (.tuple #[.int .i64 (stN P O gap), .int .i64 (stE P O gap), .agg #[.int .i64 (stP c P O gap), .int .i64 (stO c P O gap)]]) ∧ Below w.heap.size w w' := by
  obtain ⟨a, b, h, ph, sp⟩ := c
  unfold Clk.val
  simp only [Clk.valid, Bool.and_eq_true, inB_iff] at hc
  obtain ⟨⟨⟨⟨ha, hb⟩, hh⟩, hph⟩, hsp⟩ := hc
  simp only at hP
  have hN := stN_bd (P := P) (O := O) (gap := gap) (by omega) hO hg
  obtain ⟨q, hq⟩ : ∃ q, stN P O gap = q := ⟨_, rfl⟩
  obtain ⟨hE, hS1, hS0, hO1, hO0⟩ := step_names (c := ⟨a, b, h, ph, sp⟩) hq
  simp only at hS1 hS0 hO1 hO0
  rw [hq] at hN
  rw [hE, hq]
  obtain ⟨m, hm⟩ : ∃ m, q * P = m := ⟨_, rfl⟩
  rw [hm] at hN hS1 hO1 hO0 ⊢
  obtain ⟨⟨hq1, hq2⟩, hm1, hm2⟩ := hN
  have hs1 : 0 ≤ q * sp := Int.mul_nonneg (by omega) (by omega)
  have hs2 : q * sp ≤ 200000000 * 64 := by
    have h1 := Int.mul_le_mul_of_nonneg_right hq2 (show 0 ≤ sp by omega)
    have h2 := Int.mul_le_mul_of_nonneg_left (show sp ≤ 64 by omega) (show (0 : Int) ≤ 200000000 by omega)
    omega
  have hs3 : 0 < sp → 0 < q * sp := fun h => Int.mul_pos (by omega) h
  have hd1 : 0 < ph → _ := tdiv_bd (gap * 64 + O - m) ph 400000000 (by omega)
  have hd2 : 0 < q * sp → _ := tdiv_bd (gap * 64 + O - m) (q * sp) 400000000 (by omega)
  obtain ⟨s, hs⟩ : ∃ s, q * sp = s := ⟨_, rfl⟩
  rw [hs] at hs1 hs2 hs3 hd2 hS1
  have hHI := Lib.hid hS1
  have hH0 := Lib.hid hS0
  have hHO1 := Lib.hid hO1
  have hHO0 := Lib.hid hO0
  have HQ := Lib.hid hq
  clear hS1 hS0 hO1 hO0 hE
  by_cases hA : P ≤ gap * 64 + O + P / 2
  · have e1 : (gap * 64 + O + P / 2) / P = q := by rw [← hq]; unfold stN; rw [if_pos hA]
    clear hq
    by_cases hs0 : 0 < sp <;> by_cases hp : 0 < ph
    · skip
      obtain ⟨P1, hP1⟩ : ∃ P1, clampI (P + (gap * 64 + O - m).tdiv s) (b * 64) (h * 64) = P1 := ⟨_, rfl⟩
      have hPb : b * 64 ≤ P1 ∧ P1 ≤ h * 64 := by rw [← hP1]; exact clampI_bd (by omega)
      have hR := Lib.hid ((hHI.out hs0).trans hP1)
      have hd2 := hd2 (hs3 hs0); have hs3 := hs3 hs0
      have hd1 := hd1 hp
      obtain ⟨O1, hO1⟩ : ∃ O1, clampI (gap * 64 + O - m - (gap * 64 + O - m).tdiv ph) (-P1) P1 = O1 := ⟨_, rfl⟩
      have hR2 := Lib.hid (hHO1.out hp)
      have HO1 := Lib.hid hO1
      go_enter Try.func125, Try.ntmps125
      go_wp2_with (go_at_call 133; refine (spec_l03Clamp _ _ _ _).mono ?_; rintro e w' ⟨rfl, rfl⟩)
      refine still_tail2 16 (by kernel_rfl) (by kernel_rfl) ?_
      intro wq hbq hzq hcq hfq
      have hwq : Below w.heap.size w wq := (((((Below.refl _ _).alloc (Nat.le_refl _) _).alloc (by simp) _).alloc (by simp; omega) _).alloc (by simp; omega) _).trans (hbq.mono (by simp; omega))
      have i1 := IntWalk.i64_in s (by omega)
      have i2 := IntWalk.i64_in ((gap * 64 + O - m).tdiv s) (by omega)
      have i3 := IntWalk.i64_in (P + (gap * 64 + O - m).tdiv s) (by omega)
      have i4 := IntWalk.i64_in (b * 64) (by omega)
      have i5 := IntWalk.i64_in (h * 64) (by omega)
      have i6 : s ≠ 0 := by omega
      simp only [List.take_succ_cons, List.take_zero, List.drop_succ_cons, List.drop_zero]
      repeat still_step
      still_call (spec_l03Clamp _ _ _ _)
      refine wpStill_nil ?_
      clear i1 i2 i3 i4 i5
      go_wp2_with (go_at_call 133; refine (spec_l03Clamp _ _ _ _).mono ?_; rintro e w' ⟨rfl, rfl⟩)
      have g0 : wq.cell? ⟨w.heap.size + 1 + 1, 0, none⟩ = some (.int .i64 0) := by rw [hcq]; go_cell
      have g1 : wq.cell? ⟨w.heap.size + 1 + 1, 1, none⟩ = some (.int .i64 0) := by rw [hcq]; go_cell
      obtain ⟨g2, g3⟩ := cells2_aside (g' := w.heap.size + 1 + 1 + 1) (by omega) g0 g1 (.int .i64 P1) (.int .i64 O1)
      obtain ⟨y0, y1⟩ := cells2_set g2 g3
      go_region
      all_goals
        go_wp2
        refine bodyPost_ret (v := .tuple #[.int .i64 q, .int .i64 (gap * 64 + O - m), .agg #[.int .i64 P1, .int .i64 O1]]) (by simp [results, Try.results125, go_sem, y0, y1]) rfl ⟨?_, ?_⟩
        · rw [hR2.out, hR.out, HO1.out]
        · go_grown
    · skip
      obtain ⟨P1, hP1⟩ : ∃ P1, clampI (P + (gap * 64 + O - m).tdiv s) (b * 64) (h * 64) = P1 := ⟨_, rfl⟩
      have hPb : b * 64 ≤ P1 ∧ P1 ≤ h * 64 := by rw [← hP1]; exact clampI_bd (by omega)
      have hR := Lib.hid ((hHI.out hs0).trans hP1)
      have hd2 := hd2 (hs3 hs0); have hs3 := hs3 hs0
      clear hd1
      obtain ⟨O1, hO1⟩ : ∃ O1, clampI (gap * 64 + O - m) (-P1) P1 = O1 := ⟨_, rfl⟩
      have hR2 := Lib.hid (hHO0.out hp)
      have HO1 := Lib.hid hO1
      go_enter Try.func125, Try.ntmps125
      go_wp2_with (go_at_call 133; refine (spec_l03Clamp _ _ _ _).mono ?_; rintro e w' ⟨rfl, rfl⟩)
      refine still_tail2 16 (by kernel_rfl) (by kernel_rfl) ?_
      intro wq hbq hzq hcq hfq
      have hwq : Below w.heap.size w wq := (((((Below.refl _ _).alloc (Nat.le_refl _) _).alloc (by simp) _).alloc (by simp; omega) _).alloc (by simp; omega) _).trans (hbq.mono (by simp; omega))
      have i1 := IntWalk.i64_in s (by omega)
      have i2 := IntWalk.i64_in ((gap * 64 + O - m).tdiv s) (by omega)
      have i3 := IntWalk.i64_in (P + (gap * 64 + O - m).tdiv s) (by omega)
      have i4 := IntWalk.i64_in (b * 64) (by omega)
      have i5 := IntWalk.i64_in (h * 64) (by omega)
      have i6 : s ≠ 0 := by omega
      simp only [List.take_succ_cons, List.take_zero, List.drop_succ_cons, List.drop_zero]
      repeat still_step
      still_call (spec_l03Clamp _ _ _ _)
      refine wpStill_nil ?_
      clear i1 i2 i3 i4 i5
      go_wp2_with (go_at_call 133; refine (spec_l03Clamp _ _ _ _).mono ?_; rintro e w' ⟨rfl, rfl⟩)
      have g0 : wq.cell? ⟨w.heap.size + 1 + 1, 0, none⟩ = some (.int .i64 0) := by rw [hcq]; go_cell
      have g1 : wq.cell? ⟨w.heap.size + 1 + 1, 1, none⟩ = some (.int .i64 0) := by rw [hcq]; go_cell
      obtain ⟨g2, g3⟩ := cells2_aside (g' := w.heap.size + 1 + 1 + 1) (by omega) g0 g1 (.int .i64 P1) (.int .i64 O1)
      obtain ⟨y0, y1⟩ := cells2_set g2 g3
      go_region
      all_goals
        go_wp2
        refine bodyPost_ret (v := .tuple #[.int .i64 q, .int .i64 (gap * 64 + O - m), .agg #[.int .i64 P1, .int .i64 O1]]) (by simp [results, Try.results125, go_sem, y0, y1]) rfl ⟨?_, ?_⟩
        · rw [hR2.out, hR.out, HO1.out]
        · go_grown
    · skip
      have hR := Lib.hid (hH0.out hs0)
      clear hd2 hs3
      have hd1 := hd1 hp
      obtain ⟨O1, hO1⟩ : ∃ O1, clampI (gap * 64 + O - m - (gap * 64 + O - m).tdiv ph) (-P) P = O1 := ⟨_, rfl⟩
      have hR2 := Lib.hid (hHO1.out hp)
      have HO1 := Lib.hid hO1
      go_enter Try.func125, Try.ntmps125
      go_wp2_with (go_at_call 133; refine (spec_l03Clamp _ _ _ _).mono ?_; rintro e w' ⟨rfl, rfl⟩)
      go_region
      all_goals
        go_wp2
        go_returns; refine ⟨?_, ?_⟩
        · rw [hR2.out, hR.out, HO1.out]
        · go_grown
    · skip
      have hR := Lib.hid (hH0.out hs0)
      clear hd2 hs3
      clear hd1
      obtain ⟨O1, hO1⟩ : ∃ O1, clampI (gap * 64 + O - m) (-P) P = O1 := ⟨_, rfl⟩
      have hR2 := Lib.hid (hHO0.out hp)
      have HO1 := Lib.hid hO1
      go_enter Try.func125, Try.ntmps125
      go_wp2_with (go_at_call 133; refine (spec_l03Clamp _ _ _ _).mono ?_; rintro e w' ⟨rfl, rfl⟩)
      go_region
      all_goals
        go_wp2
        go_returns; refine ⟨?_, ?_⟩
        · rw [hR2.out, hR.out, HO1.out]
        · go_grown
  · have e1 : q = 1 := by rw [← hq]; unfold stN; rw [if_neg hA]
    subst e1
    rw [Int.one_mul] at hm hs
    subst hm hs
    clear hq
    by_cases hs0 : 0 < sp <;> by_cases hp : 0 < ph
    · skip
      obtain ⟨P1, hP1⟩ : ∃ P1, clampI (P + (gap * 64 + O - P).tdiv sp) (b * 64) (h * 64) = P1 := ⟨_, rfl⟩
      have hPb : b * 64 ≤ P1 ∧ P1 ≤ h * 64 := by rw [← hP1]; exact clampI_bd (by omega)
      have hR := Lib.hid ((hHI.out hs0).trans hP1)
      have hd2 := hd2 (hs3 hs0); have hs3 := hs3 hs0
      have hd1 := hd1 hp
      obtain ⟨O1, hO1⟩ : ∃ O1, clampI (gap * 64 + O - P - (gap * 64 + O - P).tdiv ph) (-P1) P1 = O1 := ⟨_, rfl⟩
      have hR2 := Lib.hid (hHO1.out hp)
      have HO1 := Lib.hid hO1
      go_enter Try.func125, Try.ntmps125
      go_wp2_with (go_at_call 133; refine (spec_l03Clamp _ _ _ _).mono ?_; rintro e w' ⟨rfl, rfl⟩)
      refine still_tail2 16 (by kernel_rfl) (by kernel_rfl) ?_
      intro wq hbq hzq hcq hfq
      have hwq : Below w.heap.size w wq := (((((Below.refl _ _).alloc (Nat.le_refl _) _).alloc (by simp) _).alloc (by simp; omega) _).alloc (by simp; omega) _).trans (hbq.mono (by simp; omega))
      have i1 := IntWalk.i64_in sp (by omega)
      have i2 := IntWalk.i64_in ((gap * 64 + O - P).tdiv sp) (by omega)
      have i3 := IntWalk.i64_in (P + (gap * 64 + O - P).tdiv sp) (by omega)
      have i4 := IntWalk.i64_in (b * 64) (by omega)
      have i5 := IntWalk.i64_in (h * 64) (by omega)
      have i6 : sp ≠ 0 := by omega
      simp only [List.take_succ_cons, List.take_zero, List.drop_succ_cons, List.drop_zero]
      repeat still_step
      still_call (spec_l03Clamp _ _ _ _)
      refine wpStill_nil ?_
      clear i1 i2 i3 i4 i5
      go_wp2_with (go_at_call 133; refine (spec_l03Clamp _ _ _ _).mono ?_; rintro e w' ⟨rfl, rfl⟩)
      have g0 : wq.cell? ⟨w.heap.size + 1 + 1, 0, none⟩ = some (.int .i64 0) := by rw [hcq]; go_cell
      have g1 : wq.cell? ⟨w.heap.size + 1 + 1, 1, none⟩ = some (.int .i64 0) := by rw [hcq]; go_cell
      obtain ⟨g2, g3⟩ := cells2_aside (g' := w.heap.size + 1 + 1 + 1) (by omega) g0 g1 (.int .i64 P1) (.int .i64 O1)
      obtain ⟨y0, y1⟩ := cells2_set g2 g3
      go_region
      all_goals
        go_wp2
        refine bodyPost_ret (v := .tuple #[.int .i64 1, .int .i64 (gap * 64 + O - P), .agg #[.int .i64 P1, .int .i64 O1]]) (by simp [results, Try.results125, go_sem, y0, y1]) rfl ⟨?_, ?_⟩
        · rw [hR2.out, hR.out, HO1.out]
        · go_grown
    · skip
      obtain ⟨P1, hP1⟩ : ∃ P1, clampI (P + (gap * 64 + O - P).tdiv sp) (b * 64) (h * 64) = P1 := ⟨_, rfl⟩
      have hPb : b * 64 ≤ P1 ∧ P1 ≤ h * 64 := by rw [← hP1]; exact clampI_bd (by omega)
      have hR := Lib.hid ((hHI.out hs0).trans hP1)
      have hd2 := hd2 (hs3 hs0); have hs3 := hs3 hs0
      clear hd1
      obtain ⟨O1, hO1⟩ : ∃ O1, clampI (gap * 64 + O - P) (-P1) P1 = O1 := ⟨_, rfl⟩
      have hR2 := Lib.hid (hHO0.out hp)
      have HO1 := Lib.hid hO1
      go_enter Try.func125, Try.ntmps125
      go_wp2_with (go_at_call 133; refine (spec_l03Clamp _ _ _ _).mono ?_; rintro e w' ⟨rfl, rfl⟩)
      refine still_tail2 16 (by kernel_rfl) (by kernel_rfl) ?_
      intro wq hbq hzq hcq hfq
      have hwq : Below w.heap.size w wq := (((((Below.refl _ _).alloc (Nat.le_refl _) _).alloc (by simp) _).alloc (by simp; omega) _).alloc (by simp; omega) _).trans (hbq.mono (by simp; omega))
      have i1 := IntWalk.i64_in sp (by omega)
      have i2 := IntWalk.i64_in ((gap * 64 + O - P).tdiv sp) (by omega)
      have i3 := IntWalk.i64_in (P + (gap * 64 + O - P).tdiv sp) (by omega)
      have i4 := IntWalk.i64_in (b * 64) (by omega)
      have i5 := IntWalk.i64_in (h * 64) (by omega)
      have i6 : sp ≠ 0 := by omega
      simp only [List.take_succ_cons, List.take_zero, List.drop_succ_cons, List.drop_zero]
      repeat still_step
      still_call (spec_l03Clamp _ _ _ _)
      refine wpStill_nil ?_
      clear i1 i2 i3 i4 i5
      go_wp2_with (go_at_call 133; refine (spec_l03Clamp _ _ _ _).mono ?_; rintro e w' ⟨rfl, rfl⟩)
      have g0 : wq.cell? ⟨w.heap.size + 1 + 1, 0, none⟩ = some (.int .i64 0) := by rw [hcq]; go_cell
      have g1 : wq.cell? ⟨w.heap.size + 1 + 1, 1, none⟩ = some (.int .i64 0) := by rw [hcq]; go_cell
      obtain ⟨g2, g3⟩ := cells2_aside (g' := w.heap.size + 1 + 1 + 1) (by omega) g0 g1 (.int .i64 P1) (.int .i64 O1)
      obtain ⟨y0, y1⟩ := cells2_set g2 g3
      go_region
      all_goals
        go_wp2
        refine bodyPost_ret (v := .tuple #[.int .i64 1, .int .i64 (gap * 64 + O - P), .agg #[.int .i64 P1, .int .i64 O1]]) (by simp [results, Try.results125, go_sem, y0, y1]) rfl ⟨?_, ?_⟩
        · rw [hR2.out, hR.out, HO1.out]
        · go_grown
    · skip
      have hR := Lib.hid (hH0.out hs0)
      clear hd2 hs3
      have hd1 := hd1 hp
      obtain ⟨O1, hO1⟩ : ∃ O1, clampI (gap * 64 + O - P - (gap * 64 + O - P).tdiv ph) (-P) P = O1 := ⟨_, rfl⟩
      have hR2 := Lib.hid (hHO1.out hp)
      have HO1 := Lib.hid hO1
      go_enter Try.func125, Try.ntmps125
      go_wp2_with (go_at_call 133; refine (spec_l03Clamp _ _ _ _).mono ?_; rintro e w' ⟨rfl, rfl⟩)
      go_region
      all_goals
        go_wp2
        go_returns; refine ⟨?_, ?_⟩
        · rw [hR2.out, hR.out, HO1.out]
        · go_grown
    · skip
      have hR := Lib.hid (hH0.out hs0)
      clear hd2 hs3
      clear hd1
      obtain ⟨O1, hO1⟩ : ∃ O1, clampI (gap * 64 + O - P) (-P) P = O1 := ⟨_, rfl⟩
      have hR2 := Lib.hid (hHO0.out hp)
      have HO1 := Lib.hid hO1
      go_enter Try.func125, Try.ntmps125
      go_wp2_with (go_at_call 133; refine (spec_l03Clamp _ _ _ _).mono ?_; rintro e w' ⟨rfl, rfl⟩)
      go_region
      all_goals
        go_wp2
        go_returns; refine ⟨?_, ?_⟩
        · rw [hR2.out, hR.out, HO1.out]
        · go_grown
end Go.Proofs.Ytmjmhdjfaamgkaa
