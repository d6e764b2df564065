/- The clock's step in impl; StepClock. -/
import Derived.Test.YtmjmhdjfaamgkaaStepW
namespace Go.Proofs.Ytmjmhdjfaamgkaa
open Go.RowKit
set_option maxHeartbeats 1000000 in
set_option maxRecDepth 20000 in
theorem impl_step (c : Clk) (P O gap : Int) (w : World) (hc : c.valid = true) (hP : c.low * 64 ≤ P ∧ P ≤ c.high * 64) (hO : -P ≤ O ∧ O ≤ P) (hg : 1 ≤ gap ∧ gap ≤ 2000000) :
    Calls Try.prog 116 #[c.val, .agg #[.int .i64 P, .int .i64 O], .int .i64 gap] w fun e w' => e = .returned (.tuple #[.int .i64 (stN P O gap), .int .i64 (stE P O gap), .agg #[.int .i64 (stP c P O gap), .int .i64 (stO c P O gap)]]) ∧ Below w.heap.size w w' := by
  obtain ⟨a, b, h, ph, sp⟩ := c
  unfold Clk.val
  simp only [Clk.valid, Bool.and_eq_true, inB_iff] at hc
  obtain ⟨⟨⟨⟨ha, hb⟩, hh⟩, hph⟩, hsp⟩ := hc
  simp only at hP
  have hN := stN_bd (P := P) (O := O) (gap := gap) (by omega) hO hg
  obtain ⟨q, hq⟩ : ∃ q, stN P O gap = q := ⟨_, rfl⟩
  obtain ⟨hE, hS1, hS0, hO1, hO0⟩ := step_names (c := ⟨a, b, h, ph, sp⟩) hq
  simp only at hS1 hS0 hO1 hO0
  rw [hq] at hN
  rw [hE, hq]
  obtain ⟨m, hm⟩ : ∃ m, q * P = m := ⟨_, rfl⟩
  rw [hm] at hN hS1 hO1 hO0 ⊢
  obtain ⟨⟨hq1, hq2⟩, hm1, hm2⟩ := hN
  have hs1 : 0 ≤ q * sp := Int.mul_nonneg (by omega) (by omega)
  have hs2 : q * sp ≤ 200000000 * 64 := by
    have h1 := Int.mul_le_mul_of_nonneg_right hq2 (show 0 ≤ sp by omega)
    have h2 := Int.mul_le_mul_of_nonneg_left (show sp ≤ 64 by omega) (show (0 : Int) ≤ 200000000 by omega)
    omega
  have hs3 : 0 < sp → 0 < q * sp := fun h => Int.mul_pos (by omega) h
  have hd1 : 0 < ph → _ := tdiv_bd (gap * 64 + O - m) ph 400000000 (by omega)
  have hd2 : 0 < q * sp → _ := tdiv_bd (gap * 64 + O - m) (q * sp) 400000000 (by omega)
  obtain ⟨s, hs⟩ : ∃ s, q * sp = s := ⟨_, rfl⟩
  rw [hs] at hs1 hs2 hs3 hd2 hS1
  have hHI := Lib.hid hS1
  have hH0 := Lib.hid hS0
  have hHO1 := Lib.hid hO1
  have hHO0 := Lib.hid hO0
  have HQ := Lib.hid hq
  clear hS1 hS0 hO1 hO0 hE
  have hmx : max ((gap * 64 + O + P / 2) / P) 1 = q := by
    rw [← hq]; unfold stN
    split
    · rename_i hA
      have : 1 ≤ (gap * 64 + O + P / 2) / P := by rw [Int.le_ediv_iff_mul_le (by omega)]; omega
      omega
    · rename_i hA
      have : (gap * 64 + O + P / 2) / P < 1 := by rw [Int.ediv_lt_iff_lt_mul (by omega)]; omega
      omega
  clear hq
  obtain ⟨q0, hq1'⟩ : ∃ q0, (gap * 64 + O + P / 2) / P = q0 := ⟨_, rfl⟩
  rw [hq1'] at hmx
  have hq0 := Lib.hid hq1'
  clear hq1'
  by_cases hA : 1 ≤ q0
  · have e1 : q0 = q := by omega
    subst e1
    clear hmx
    obtain ⟨q, e1⟩ : ∃ q, q = q0 := ⟨_, rfl⟩
    subst e1
    by_cases hs0 : 0 < sp <;> by_cases hp : 0 < ph
    · skip
      obtain ⟨P1, hP1⟩ : ∃ P1, clampI (P + (gap * 64 + O - m).tdiv s) (b * 64) (h * 64) = P1 := ⟨_, rfl⟩
      have hPb : b * 64 ≤ P1 ∧ P1 ≤ h * 64 := by rw [← hP1]; exact clampI_bd (by omega)
      have hR := Lib.hid ((hHI.out hs0).trans hP1)
      have hd2 := hd2 (hs3 hs0); have hs3 := hs3 hs0
      have hd1 := hd1 hp
      obtain ⟨O1, hO1⟩ : ∃ O1, clampI (gap * 64 + O - m - (gap * 64 + O - m).tdiv ph) (-P1) P1 = O1 := ⟨_, rfl⟩
      have hR2 := Lib.hid (hHO1.out hp)
      have HO1 := Lib.hid hO1
      go_enter Try.func116, Try.ntmps116
      go_wp2_with (first | (go_at_call 127; refine (impl_between _ _ _ _ (by omega)).mono ?_; rintro e w' ⟨rfl, rfl⟩) | (go_at_call 126; refine (impl_floorDiv _ _ _ ?_ ?_).mono ?_; omega; omega; rintro e w' ⟨rfl, rfl⟩; rw [hq0.out]))
      have j1 := IntWalk.i64_in ((gap * 64 + O - m).tdiv ph) (by omega)
      have j2 := IntWalk.i64_in (gap * 64 + O - m - (gap * 64 + O - m).tdiv ph) (by omega)
      have j3 : ph ≠ 0 := by omega
      go_region
      all_goals
        clear j1 j2
        go_wp2_with (first | (go_at_call 127; refine (impl_between _ _ _ _ (by omega)).mono ?_; rintro e w' ⟨rfl, rfl⟩) | (go_at_call 126; refine (impl_floorDiv _ _ _ ?_ ?_).mono ?_; omega; omega; rintro e w' ⟨rfl, rfl⟩; rw [hq0.out]))
        refine still_tail2 16 (by kernel_rfl) (by kernel_rfl) ?_
        intro wq hbq hzq hcq hfq
        have hwq : Below w.heap.size w wq := by
          refine Below.trans ?_ (hbq.mono ?_)
          · go_grown
          · simp; omega
        have i1 := IntWalk.i64_in s (by omega)
        have i2 := IntWalk.i64_in ((gap * 64 + O - m).tdiv s) (by omega)
        have i3 := IntWalk.i64_in (P + (gap * 64 + O - m).tdiv s) (by omega)
        have i4 := IntWalk.i64_in (b * 64) (by omega)
        have i5 := IntWalk.i64_in (h * 64) (by omega)
        have i6 : s ≠ 0 := by omega
        simp only [List.take_succ_cons, List.take_zero, List.drop_succ_cons, List.drop_zero]
        repeat still_step
        still_call (impl_between _ _ _ _ (by omega))
        refine wpStill_nil ?_
        clear i1 i2 i3 i4 i5
        go_wp2_with (first | (go_at_call 127; refine (impl_between _ _ _ _ (by omega)).mono ?_; rintro e w' ⟨rfl, rfl⟩) | (go_at_call 126; refine (impl_floorDiv _ _ _ ?_ ?_).mono ?_; omega; omega; rintro e w' ⟨rfl, rfl⟩; rw [hq0.out]))
        have g0 : wq.cell? ⟨w.heap.size + 1 + 1, 0, none⟩ = some (.int .i64 0) := by rw [hcq]; go_cell
        have g1 : wq.cell? ⟨w.heap.size + 1 + 1, 1, none⟩ = some (.int .i64 0) := by rw [hcq]; go_cell
        obtain ⟨g2, g3⟩ := cells2_aside (g' := w.heap.size + 1 + 1 + 1) (by omega) g0 g1 (.int .i64 P1) (.int .i64 O1)
        obtain ⟨y0, y1⟩ := cells2_set g2 g3
        go_region
        all_goals
          go_wp2
          refine bodyPost_ret (v := .tuple #[.int .i64 q, .int .i64 (gap * 64 + O - m), .agg #[.int .i64 P1, .int .i64 O1]]) (by simp [results, Try.results116, go_sem, y0, y1]) rfl ⟨?_, ?_⟩
          · rw [hR2.out, hR.out, HO1.out]
          · go_grown
    · skip
      obtain ⟨P1, hP1⟩ : ∃ P1, clampI (P + (gap * 64 + O - m).tdiv s) (b * 64) (h * 64) = P1 := ⟨_, rfl⟩
      have hPb : b * 64 ≤ P1 ∧ P1 ≤ h * 64 := by rw [← hP1]; exact clampI_bd (by omega)
      have hR := Lib.hid ((hHI.out hs0).trans hP1)
      have hd2 := hd2 (hs3 hs0); have hs3 := hs3 hs0
      clear hd1
      obtain ⟨O1, hO1⟩ : ∃ O1, clampI (gap * 64 + O - m) (-P1) P1 = O1 := ⟨_, rfl⟩
      have hR2 := Lib.hid (hHO0.out hp)
      have HO1 := Lib.hid hO1
      go_enter Try.func116, Try.ntmps116
      go_wp2_with (first | (go_at_call 127; refine (impl_between _ _ _ _ (by omega)).mono ?_; rintro e w' ⟨rfl, rfl⟩) | (go_at_call 126; refine (impl_floorDiv _ _ _ ?_ ?_).mono ?_; omega; omega; rintro e w' ⟨rfl, rfl⟩; rw [hq0.out]))
      refine still_tail2 16 (by kernel_rfl) (by kernel_rfl) ?_
      intro wq hbq hzq hcq hfq
      have hwq : Below w.heap.size w wq := by
        refine Below.trans ?_ (hbq.mono ?_)
        · go_grown
        · simp; omega
      have i1 := IntWalk.i64_in s (by omega)
      have i2 := IntWalk.i64_in ((gap * 64 + O - m).tdiv s) (by omega)
      have i3 := IntWalk.i64_in (P + (gap * 64 + O - m).tdiv s) (by omega)
      have i4 := IntWalk.i64_in (b * 64) (by omega)
      have i5 := IntWalk.i64_in (h * 64) (by omega)
      have i6 : s ≠ 0 := by omega
      simp only [List.take_succ_cons, List.take_zero, List.drop_succ_cons, List.drop_zero]
      repeat still_step
      still_call (impl_between _ _ _ _ (by omega))
      refine wpStill_nil ?_
      clear i1 i2 i3 i4 i5
      go_wp2_with (first | (go_at_call 127; refine (impl_between _ _ _ _ (by omega)).mono ?_; rintro e w' ⟨rfl, rfl⟩) | (go_at_call 126; refine (impl_floorDiv _ _ _ ?_ ?_).mono ?_; omega; omega; rintro e w' ⟨rfl, rfl⟩; rw [hq0.out]))
      have g0 : wq.cell? ⟨w.heap.size + 1 + 1, 0, none⟩ = some (.int .i64 0) := by rw [hcq]; go_cell
      have g1 : wq.cell? ⟨w.heap.size + 1 + 1, 1, none⟩ = some (.int .i64 0) := by rw [hcq]; go_cell
      obtain ⟨g2, g3⟩ := cells2_aside (g' := w.heap.size + 1 + 1 + 1) (by omega) g0 g1 (.int .i64 P1) (.int .i64 O1)
      obtain ⟨y0, y1⟩ := cells2_set g2 g3
      go_region
      all_goals
        go_wp2
        refine bodyPost_ret (v := .tuple #[.int .i64 q, .int .i64 (gap * 64 + O - m), .agg #[.int .i64 P1, .int .i64 O1]]) (by simp [results, Try.results116, go_sem, y0, y1]) rfl ⟨?_, ?_⟩
        · rw [hR2.out, hR.out, HO1.out]
        · go_grown
    · skip
      have hR := Lib.hid (hH0.out hs0)
      clear hd2 hs3
      have hd1 := hd1 hp
      obtain ⟨O1, hO1⟩ : ∃ O1, clampI (gap * 64 + O - m - (gap * 64 + O - m).tdiv ph) (-P) P = O1 := ⟨_, rfl⟩
      have hR2 := Lib.hid (hHO1.out hp)
      have HO1 := Lib.hid hO1
      go_enter Try.func116, Try.ntmps116
      go_wp2_with (first | (go_at_call 127; refine (impl_between _ _ _ _ (by omega)).mono ?_; rintro e w' ⟨rfl, rfl⟩) | (go_at_call 126; refine (impl_floorDiv _ _ _ ?_ ?_).mono ?_; omega; omega; rintro e w' ⟨rfl, rfl⟩; rw [hq0.out]))
      have j1 := IntWalk.i64_in ((gap * 64 + O - m).tdiv ph) (by omega)
      have j2 := IntWalk.i64_in (gap * 64 + O - m - (gap * 64 + O - m).tdiv ph) (by omega)
      have j3 : ph ≠ 0 := by omega
      go_region
      all_goals
        clear j1 j2
        go_wp2_with (first | (go_at_call 127; refine (impl_between _ _ _ _ (by omega)).mono ?_; rintro e w' ⟨rfl, rfl⟩) | (go_at_call 126; refine (impl_floorDiv _ _ _ ?_ ?_).mono ?_; omega; omega; rintro e w' ⟨rfl, rfl⟩; rw [hq0.out]))
        go_region
        all_goals
          go_wp2
          go_returns; refine ⟨?_, ?_⟩
          · rw [hR2.out, hR.out, HO1.out]
          · go_grown
    · skip
      have hR := Lib.hid (hH0.out hs0)
      clear hd2 hs3
      clear hd1
      obtain ⟨O1, hO1⟩ : ∃ O1, clampI (gap * 64 + O - m) (-P) P = O1 := ⟨_, rfl⟩
      have hR2 := Lib.hid (hHO0.out hp)
      have HO1 := Lib.hid hO1
      go_enter Try.func116, Try.ntmps116
      go_wp2_with (first | (go_at_call 127; refine (impl_between _ _ _ _ (by omega)).mono ?_; rintro e w' ⟨rfl, rfl⟩) | (go_at_call 126; refine (impl_floorDiv _ _ _ ?_ ?_).mono ?_; omega; omega; rintro e w' ⟨rfl, rfl⟩; rw [hq0.out]))
      go_region
      all_goals
        go_wp2
        go_returns; refine ⟨?_, ?_⟩
        · rw [hR2.out, hR.out, HO1.out]
        · go_grown
  · have e1 : q = 1 := by omega
    subst e1
    rw [Int.one_mul] at hm hs
    subst hm hs
    clear hmx
    by_cases hs0 : 0 < sp <;> by_cases hp : 0 < ph
    · skip
      obtain ⟨P1, hP1⟩ : ∃ P1, clampI (P + (gap * 64 + O - P).tdiv sp) (b * 64) (h * 64) = P1 := ⟨_, rfl⟩
      have hPb : b * 64 ≤ P1 ∧ P1 ≤ h * 64 := by rw [← hP1]; exact clampI_bd (by omega)
      have hR := Lib.hid ((hHI.out hs0).trans hP1)
      have hd2 := hd2 (hs3 hs0); have hs3 := hs3 hs0
      have hd1 := hd1 hp
      obtain ⟨O1, hO1⟩ : ∃ O1, clampI (gap * 64 + O - P - (gap * 64 + O - P).tdiv ph) (-P1) P1 = O1 := ⟨_, rfl⟩
      have hR2 := Lib.hid (hHO1.out hp)
      have HO1 := Lib.hid hO1
      go_enter Try.func116, Try.ntmps116
      go_wp2_with (first | (go_at_call 127; refine (impl_between _ _ _ _ (by omega)).mono ?_; rintro e w' ⟨rfl, rfl⟩) | (go_at_call 126; refine (impl_floorDiv _ _ _ ?_ ?_).mono ?_; omega; omega; rintro e w' ⟨rfl, rfl⟩; rw [hq0.out]))
      have j1 := IntWalk.i64_in ((gap * 64 + O - P).tdiv ph) (by omega)
      have j2 := IntWalk.i64_in (gap * 64 + O - P - (gap * 64 + O - P).tdiv ph) (by omega)
      have j3 : ph ≠ 0 := by omega
      go_region
      all_goals
        clear j1 j2
        go_wp2_with (first | (go_at_call 127; refine (impl_between _ _ _ _ (by omega)).mono ?_; rintro e w' ⟨rfl, rfl⟩) | (go_at_call 126; refine (impl_floorDiv _ _ _ ?_ ?_).mono ?_; omega; omega; rintro e w' ⟨rfl, rfl⟩; rw [hq0.out]))
        refine still_tail2 16 (by kernel_rfl) (by kernel_rfl) ?_
        intro wq hbq hzq hcq hfq
        have hwq : Below w.heap.size w wq := by
          refine Below.trans ?_ (hbq.mono ?_)
          · go_grown
          · simp; omega
        have i1 := IntWalk.i64_in sp (by omega)
        have i2 := IntWalk.i64_in ((gap * 64 + O - P).tdiv sp) (by omega)
        have i3 := IntWalk.i64_in (P + (gap * 64 + O - P).tdiv sp) (by omega)
        have i4 := IntWalk.i64_in (b * 64) (by omega)
        have i5 := IntWalk.i64_in (h * 64) (by omega)
        have i6 : sp ≠ 0 := by omega
        simp only [List.take_succ_cons, List.take_zero, List.drop_succ_cons, List.drop_zero]
        repeat still_step
        still_call (impl_between _ _ _ _ (by omega))
        refine wpStill_nil ?_
        clear i1 i2 i3 i4 i5
        go_wp2_with (first | (go_at_call 127; refine (impl_between _ _ _ _ (by omega)).mono ?_; rintro e w' ⟨rfl, rfl⟩) | (go_at_call 126; refine (impl_floorDiv _ _ _ ?_ ?_).mono ?_; omega; omega; rintro e w' ⟨rfl, rfl⟩; rw [hq0.out]))
        have g0 : wq.cell? ⟨w.heap.size + 1 + 1, 0, none⟩ = some (.int .i64 0) := by rw [hcq]; go_cell
        have g1 : wq.cell? ⟨w.heap.size + 1 + 1, 1, none⟩ = some (.int .i64 0) := by rw [hcq]; go_cell
        obtain ⟨g2, g3⟩ := cells2_aside (g' := w.heap.size + 1 + 1 + 1) (by omega) g0 g1 (.int .i64 P1) (.int .i64 O1)
        obtain ⟨y0, y1⟩ := cells2_set g2 g3
        go_region
        all_goals
          go_wp2
          refine bodyPost_ret (v := .tuple #[.int .i64 1, .int .i64 (gap * 64 + O - P), .agg #[.int .i64 P1, .int .i64 O1]]) (by simp [results, Try.results116, go_sem, y0, y1]) rfl ⟨?_, ?_⟩
          · rw [hR2.out, hR.out, HO1.out]
          · go_grown
    · skip
      obtain ⟨P1, hP1⟩ : ∃ P1, clampI (P + (gap * 64 + O - P).tdiv sp) (b * 64) (h * 64) = P1 := ⟨_, rfl⟩
      have hPb : b * 64 ≤ P1 ∧ P1 ≤ h * 64 := by rw [← hP1]; exact clampI_bd (by omega)
      have hR := Lib.hid ((hHI.out hs0).trans hP1)
      have hd2 := hd2 (hs3 hs0); have hs3 := hs3 hs0
      clear hd1
      obtain ⟨O1, hO1⟩ : ∃ O1, clampI (gap * 64 + O - P) (-P1) P1 = O1 := ⟨_, rfl⟩
      have hR2 := Lib.hid (hHO0.out hp)
      have HO1 := Lib.hid hO1
      go_enter Try.func116, Try.ntmps116
      go_wp2_with (first | (go_at_call 127; refine (impl_between _ _ _ _ (by omega)).mono ?_; rintro e w' ⟨rfl, rfl⟩) | (go_at_call 126; refine (impl_floorDiv _ _ _ ?_ ?_).mono ?_; omega; omega; rintro e w' ⟨rfl, rfl⟩; rw [hq0.out]))
      refine still_tail2 16 (by kernel_rfl) (by kernel_rfl) ?_
      intro wq hbq hzq hcq hfq
      have hwq : Below w.heap.size w wq := by
        refine Below.trans ?_ (hbq.mono ?_)
        · go_grown
        · simp; omega
      have i1 := IntWalk.i64_in sp (by omega)
      have i2 := IntWalk.i64_in ((gap * 64 + O - P).tdiv sp) (by omega)
      have i3 := IntWalk.i64_in (P + (gap * 64 + O - P).tdiv sp) (by omega)
      have i4 := IntWalk.i64_in (b * 64) (by omega)
      have i5 := IntWalk.i64_in (h * 64) (by omega)
      have i6 : sp ≠ 0 := by omega
      simp only [List.take_succ_cons, List.take_zero, List.drop_succ_cons, List.drop_zero]
      repeat still_step
      still_call (impl_between _ _ _ _ (by omega))
      refine wpStill_nil ?_
      clear i1 i2 i3 i4 i5
      go_wp2_with (first | (go_at_call 127; refine (impl_between _ _ _ _ (by omega)).mono ?_; rintro e w' ⟨rfl, rfl⟩) | (go_at_call 126; refine (impl_floorDiv _ _ _ ?_ ?_).mono ?_; omega; omega; rintro e w' ⟨rfl, rfl⟩; rw [hq0.out]))
      have g0 : wq.cell? ⟨w.heap.size + 1 + 1, 0, none⟩ = some (.int .i64 0) := by rw [hcq]; go_cell
      have g1 : wq.cell? ⟨w.heap.size + 1 + 1, 1, none⟩ = some (.int .i64 0) := by rw [hcq]; go_cell
      obtain ⟨g2, g3⟩ := cells2_aside (g' := w.heap.size + 1 + 1 + 1) (by omega) g0 g1 (.int .i64 P1) (.int .i64 O1)
      obtain ⟨y0, y1⟩ := cells2_set g2 g3
      go_region
      all_goals
        go_wp2
        refine bodyPost_ret (v := .tuple #[.int .i64 1, .int .i64 (gap * 64 + O - P), .agg #[.int .i64 P1, .int .i64 O1]]) (by simp [results, Try.results116, go_sem, y0, y1]) rfl ⟨?_, ?_⟩
        · rw [hR2.out, hR.out, HO1.out]
        · go_grown
    · skip
      have hR := Lib.hid (hH0.out hs0)
      clear hd2 hs3
      have hd1 := hd1 hp
      obtain ⟨O1, hO1⟩ : ∃ O1, clampI (gap * 64 + O - P - (gap * 64 + O - P).tdiv ph) (-P) P = O1 := ⟨_, rfl⟩
      have hR2 := Lib.hid (hHO1.out hp)
      have HO1 := Lib.hid hO1
      go_enter Try.func116, Try.ntmps116
      go_wp2_with (first | (go_at_call 127; refine (impl_between _ _ _ _ (by omega)).mono ?_; rintro e w' ⟨rfl, rfl⟩) | (go_at_call 126; refine (impl_floorDiv _ _ _ ?_ ?_).mono ?_; omega; omega; rintro e w' ⟨rfl, rfl⟩; rw [hq0.out]))
      have j1 := IntWalk.i64_in ((gap * 64 + O - P).tdiv ph) (by omega)
      have j2 := IntWalk.i64_in (gap * 64 + O - P - (gap * 64 + O - P).tdiv ph) (by omega)
      have j3 : ph ≠ 0 := by omega
      go_region
      all_goals
        clear j1 j2
        go_wp2_with (first | (go_at_call 127; refine (impl_between _ _ _ _ (by omega)).mono ?_; rintro e w' ⟨rfl, rfl⟩) | (go_at_call 126; refine (impl_floorDiv _ _ _ ?_ ?_).mono ?_; omega; omega; rintro e w' ⟨rfl, rfl⟩; rw [hq0.out]))
        go_region
        all_goals
          go_wp2
          go_returns; refine ⟨?_, ?_⟩
          · rw [hR2.out, hR.out, HO1.out]
          · go_grown
    · skip
      have hR := Lib.hid (hH0.out hs0)
      clear hd2 hs3
      clear hd1
      obtain ⟨O1, hO1⟩ : ∃ O1, clampI (gap * 64 + O - P) (-P) P = O1 := ⟨_, rfl⟩
      have hR2 := Lib.hid (hHO0.out hp)
      have HO1 := Lib.hid hO1
      go_enter Try.func116, Try.ntmps116
      go_wp2_with (first | (go_at_call 127; refine (impl_between _ _ _ _ (by omega)).mono ?_; rintro e w' ⟨rfl, rfl⟩) | (go_at_call 126; refine (impl_floorDiv _ _ _ ?_ ?_).mono ?_; omega; omega; rintro e w' ⟨rfl, rfl⟩; rw [hq0.out]))
      go_region
      all_goals
        go_wp2
        go_returns; refine ⟨?_, ?_⟩
        · rw [hR2.out, hR.out, HO1.out]
        · go_grown
end Go.Proofs.Ytmjmhdjfaamgkaa
