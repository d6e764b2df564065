/- StepClock. -/
import Derived.Test.YtdoaoeenmfnjhaaStep2W
namespace Go.Proofs.Ytdoaoeenmfnjhaa
open Go.RowKit
/-- Whether StepClock steps. -/
def stepOk (c : Clk) (P O gap : Int) : Bool := c.valid && inB P (c.low * 64) (c.high * 64) && inB O (-P) P && inB gap 1 2000000
def stepV (c : Clk) (P O gap : Int) : Value :=
  if stepOk c P O gap then
    if 100 < stN P O gap then .tuple #[.int .i64 0, .agg #[.int .i64 0, .int .i64 0], .int .i64 10] else .tuple #[.int .i64 (stN P O gap), .agg #[.int .i64 (stP c P O gap), .int .i64 (stO c P O gap)], .int .i64 0]
  else .tuple #[.int .i64 0, .agg #[.int .i64 0, .int .i64 0], .int .i64 1]
set_option maxHeartbeats 1000000 in
set_option maxRecDepth 20000 in
theorem spec_StepClock (c : Clk) (P O gap : Int) (w : World) :
    Calls Try.prog 22 #[c.val, .agg #[.int .i64 P, .int .i64 O], .int .i64 gap] w fun e w' => e = .returned (stepV c P O gap) ∧ Below w.heap.size w w' := by
  obtain ⟨a, b, h, ph, sp⟩ := c
  cases hv : Clk.valid ⟨a, b, h, ph, sp⟩
  · have HV := Lib.hid hv
    have hR : stepV ⟨a, b, h, ph, sp⟩ P O gap = .tuple #[.int .i64 0, .agg #[.int .i64 0, .int .i64 0], .int .i64 1] := by simp [stepV, stepOk, hv]
    rw [hR]
    clear hR hv
    unfold Clk.val
    go_enter Try.func22, Try.ntmps22
    go_wp2_with (go_at_call 53; refine (spec_l03Ok _ _ _ _ _ _).mono ?_; rintro e w1 ⟨rfl, hb1⟩; rw [HV.out]; obtain ⟨c1, f1⟩ := bcell hb1; have z1 : w.heap.size + 3 ≤ w1.heap.size := (by have := hb1.size; simp at this; omega); have hw1 : Below w.heap.size w w1 := Below.trans (((Below.refl _ _).alloc (Nat.le_refl _) _ |>.alloc (by simp) _).alloc (by simp; omega) _) (hb1.mono (by simp; omega)); have D1 := (Blk.new _ 30 #[.int .i64 0, .int .i64 0]).keep hb1; simp at D1; obtain ⟨g0, g1⟩ := D1.cell2; have k1 := D1.frozen; obtain ⟨e0, e1⟩ := cells2_set g0 g1)
    refine bodyPost_ret (v := .tuple #[.int .i64 0, .agg #[.int .i64 0, .int .i64 0], .int .i64 1]) (by simp [results, Try.results22, go_sem, e0, e1]) rfl ⟨rfl, ?_⟩
    go_grown
  · have HV := Lib.hid hv
    have hv2 := hv
    simp only [Clk.valid, Bool.and_eq_true, inB_iff] at hv2
    obtain ⟨⟨⟨⟨ha, hb⟩, hh⟩, hph⟩, hsp⟩ := hv2
    cases h1 : inB P (b * 64) (h * 64)
    · skip
      have hR : stepV ⟨a, b, h, ph, sp⟩ P O gap = .tuple #[.int .i64 0, .agg #[.int .i64 0, .int .i64 0], .int .i64 1] := by simp [stepV, stepOk, hv, h1]
      rw [hR]
      clear hR hv
      have H1 := Lib.hid h1; clear h1
      unfold Clk.val
      go_enter Try.func22, Try.ntmps22
      go_wp2_with (first | (go_at_call 53; refine (spec_l03Ok _ _ _ _ _ _).mono ?_; rintro e w1 ⟨rfl, hb1⟩; rw [HV.out]; obtain ⟨c1, f1⟩ := bcell hb1; have z1 : w.heap.size + 3 ≤ w1.heap.size := (by have := hb1.size; simp at this; omega); have hw1 : Below w.heap.size w w1 := Below.trans (((Below.refl _ _).alloc (Nat.le_refl _) _ |>.alloc (by simp) _).alloc (by simp; omega) _) (hb1.mono (by simp; omega)); have D1 := (Blk.new _ 30 #[.int .i64 0, .int .i64 0]).keep hb1; simp at D1; obtain ⟨g0, g1⟩ := D1.cell2; have k1 := D1.frozen; obtain ⟨e0, e1⟩ := cells2_set g0 g1) | (go_at_call 50; refine (l00In_any _ _ _ _).mono ?_; rintro e w' ⟨rfl, rfl⟩; first | rw [H1.out]))
      refine bodyPost_ret (v := .tuple #[.int .i64 0, .agg #[.int .i64 0, .int .i64 0], .int .i64 1]) (by simp [results, Try.results22, go_sem, e0, e1]) rfl ⟨rfl, ?_⟩
      go_grown
    · cases h2 : inB O (-P) P
      · skip
        have hP := inB_iff.1 h1
        have hR : stepV ⟨a, b, h, ph, sp⟩ P O gap = .tuple #[.int .i64 0, .agg #[.int .i64 0, .int .i64 0], .int .i64 1] := by simp [stepV, stepOk, hv, h1, h2]
        rw [hR]
        clear hR hv
        have H1 := Lib.hid h1; clear h1
        have H2 := Lib.hid h2; clear h2
        unfold Clk.val
        go_enter Try.func22, Try.ntmps22
        go_wp2_with (first | (go_at_call 53; refine (spec_l03Ok _ _ _ _ _ _).mono ?_; rintro e w1 ⟨rfl, hb1⟩; rw [HV.out]; obtain ⟨c1, f1⟩ := bcell hb1; have z1 : w.heap.size + 3 ≤ w1.heap.size := (by have := hb1.size; simp at this; omega); have hw1 : Below w.heap.size w w1 := Below.trans (((Below.refl _ _).alloc (Nat.le_refl _) _ |>.alloc (by simp) _).alloc (by simp; omega) _) (hb1.mono (by simp; omega)); have D1 := (Blk.new _ 30 #[.int .i64 0, .int .i64 0]).keep hb1; simp at D1; obtain ⟨g0, g1⟩ := D1.cell2; have k1 := D1.frozen; obtain ⟨e0, e1⟩ := cells2_set g0 g1) | (go_at_call 50; refine (l00In_any _ _ _ _).mono ?_; rintro e w' ⟨rfl, rfl⟩; first | rw [H1.out] | rw [H2.out]))
        refine bodyPost_ret (v := .tuple #[.int .i64 0, .agg #[.int .i64 0, .int .i64 0], .int .i64 1]) (by simp [results, Try.results22, go_sem, e0, e1]) rfl ⟨rfl, ?_⟩
        go_grown
      · cases h3 : inB gap 1 2000000
        · skip
          have hP := inB_iff.1 h1
          have hR : stepV ⟨a, b, h, ph, sp⟩ P O gap = .tuple #[.int .i64 0, .agg #[.int .i64 0, .int .i64 0], .int .i64 1] := by simp [stepV, stepOk, hv, h1, h2, h3]
          rw [hR]
          clear hR hv
          have H1 := Lib.hid h1; clear h1
          have H2 := Lib.hid h2; clear h2
          have H3 := Lib.hid h3; clear h3
          unfold Clk.val
          go_enter Try.func22, Try.ntmps22
          go_wp2_with (first | (go_at_call 53; refine (spec_l03Ok _ _ _ _ _ _).mono ?_; rintro e w1 ⟨rfl, hb1⟩; rw [HV.out]; obtain ⟨c1, f1⟩ := bcell hb1; have z1 : w.heap.size + 3 ≤ w1.heap.size := (by have := hb1.size; simp at this; omega); have hw1 : Below w.heap.size w w1 := Below.trans (((Below.refl _ _).alloc (Nat.le_refl _) _ |>.alloc (by simp) _).alloc (by simp; omega) _) (hb1.mono (by simp; omega)); have D1 := (Blk.new _ 30 #[.int .i64 0, .int .i64 0]).keep hb1; simp at D1; obtain ⟨g0, g1⟩ := D1.cell2; have k1 := D1.frozen; obtain ⟨e0, e1⟩ := cells2_set g0 g1) | (go_at_call 50; refine (l00In_any _ _ _ _).mono ?_; rintro e w' ⟨rfl, rfl⟩; first | rw [H1.out] | rw [H2.out] | rw [H3.out]))
          refine bodyPost_ret (v := .tuple #[.int .i64 0, .agg #[.int .i64 0, .int .i64 0], .int .i64 1]) (by simp [results, Try.results22, go_sem, e0, e1]) rfl ⟨rfl, ?_⟩
          go_grown
        · have hP := inB_iff.1 h1
          have hO := inB_iff.1 h2
          have hg := inB_iff.1 h3
          have HS := Lib.hid (fun w => spec_l03Step ⟨a, b, h, ph, sp⟩ P O gap w hv hP hO hg)
          have hN := (stN_bd (P := P) (O := O) (gap := gap) (by omega) hO hg).1
          have hR : stepOk ⟨a, b, h, ph, sp⟩ P O gap = true := by simp [stepOk, hv, h1, h2, h3]
          unfold stepV
          rw [if_pos hR]
          obtain ⟨n, hn⟩ : ∃ n, n = stN P O gap := ⟨_, rfl⟩
          obtain ⟨e', he'⟩ : ∃ e, e = stE P O gap := ⟨_, rfl⟩
          obtain ⟨P1, hP1⟩ : ∃ x, x = stP ⟨a, b, h, ph, sp⟩ P O gap := ⟨_, rfl⟩
          obtain ⟨O1, hO1⟩ : ∃ x, x = stO ⟨a, b, h, ph, sp⟩ P O gap := ⟨_, rfl⟩
          rw [← hn, ← he', ← hP1, ← hO1] at HS
          rw [← hn, ← hP1, ← hO1]
          rw [← hn] at hN
          clear hn he' hP1 hO1 hR hv
          have H1 := Lib.hid h1; clear h1
          have H2 := Lib.hid h2; clear h2
          have H3 := Lib.hid h3; clear h3
          unfold Clk.val at HS ⊢
          by_cases hn : 100 < n
          · rw [if_pos hn]
            go_enter Try.func22, Try.ntmps22
            go_wp2_with (first | (go_at_call 53; refine (spec_l03Ok _ _ _ _ _ _).mono ?_; rintro e w1 ⟨rfl, hb1⟩; rw [HV.out]; obtain ⟨c1, f1⟩ := bcell hb1; have z1 : w.heap.size + 3 ≤ w1.heap.size := (by have := hb1.size; simp at this; omega); have hw1 : Below w.heap.size w w1 := Below.trans (((Below.refl _ _).alloc (Nat.le_refl _) _ |>.alloc (by simp) _).alloc (by simp; omega) _) (hb1.mono (by simp; omega)); have D1 := (Blk.new _ 30 #[.int .i64 0, .int .i64 0]).keep hb1; simp at D1; obtain ⟨g0, g1⟩ := D1.cell2; have k1 := D1.frozen; obtain ⟨e0, e1⟩ := cells2_set g0 g1) | (go_at_call 50; refine (l00In_any _ _ _ _).mono ?_; rintro e w' ⟨rfl, rfl⟩; first | rw [H1.out] | rw [H2.out] | rw [H3.out]) | (go_at_call 56; refine (HS.out _).mono ?_; rintro e w2 ⟨rfl, hb2⟩; have D2 := D1.keep hb2; obtain ⟨g0, g1⟩ := D2.cell2; have k2 := D2.frozen; have z2 := D2.lt; have hw2 := below_st hw1 hb2 (Nat.le_refl _); obtain ⟨e0, e1⟩ := cells2_set_al z2 g0 g1))
            refine bodyPost_ret (v := .tuple #[.int .i64 0, .agg #[.int .i64 0, .int .i64 0], .int .i64 10]) (by simp [results, Try.results22, go_sem, e0, e1]) rfl ⟨rfl, ?_⟩
            go_grown
          · rw [if_neg hn]
            go_enter Try.func22, Try.ntmps22
            go_wp2_with (first | (go_at_call 53; refine (spec_l03Ok _ _ _ _ _ _).mono ?_; rintro e w1 ⟨rfl, hb1⟩; rw [HV.out]; obtain ⟨c1, f1⟩ := bcell hb1; have z1 : w.heap.size + 3 ≤ w1.heap.size := (by have := hb1.size; simp at this; omega); have hw1 : Below w.heap.size w w1 := Below.trans (((Below.refl _ _).alloc (Nat.le_refl _) _ |>.alloc (by simp) _).alloc (by simp; omega) _) (hb1.mono (by simp; omega)); have D1 := (Blk.new _ 30 #[.int .i64 0, .int .i64 0]).keep hb1; simp at D1; obtain ⟨g0, g1⟩ := D1.cell2; have k1 := D1.frozen; obtain ⟨e0, e1⟩ := cells2_set g0 g1) | (go_at_call 50; refine (l00In_any _ _ _ _).mono ?_; rintro e w' ⟨rfl, rfl⟩; first | rw [H1.out] | rw [H2.out] | rw [H3.out]) | (go_at_call 56; refine (HS.out _).mono ?_; rintro e w2 ⟨rfl, hb2⟩; have D2 := D1.keep hb2; obtain ⟨g0, g1⟩ := D2.cell2; have k2 := D2.frozen; have z2 := D2.lt; have hw2 := below_st hw1 hb2 (Nat.le_refl _); obtain ⟨e0, e1⟩ := cells2_set_al z2 g0 g1))
            all_goals try go_region
            all_goals try go_wp2
            refine bodyPost_ret (v := .tuple #[.int .i64 n, .agg #[.int .i64 P1, .int .i64 O1], .int .i64 0]) (by simp [results, Try.results22, go_sem, e0, e1]) rfl ⟨rfl, ?_⟩
            go_grown
set_option maxHeartbeats 1000000 in
set_option maxRecDepth 20000 in
theorem impl_StepClock (c : Clk) (P O gap : Int) (w : World) :
    Calls Try.prog 24 #[c.val, .agg #[.int .i64 P, .int .i64 O], .int .i64 gap] w fun e w' => e = .returned (stepV c P O gap) ∧ Below w.heap.size w w' := by
  obtain ⟨a, b, h, ph, sp⟩ := c
  cases hv : Clk.valid ⟨a, b, h, ph, sp⟩
  · have HV := Lib.hid hv
    have hR : stepV ⟨a, b, h, ph, sp⟩ P O gap = .tuple #[.int .i64 0, .agg #[.int .i64 0, .int .i64 0], .int .i64 1] := by simp [stepV, stepOk, hv]
    rw [hR]
    clear hR hv
    unfold Clk.val
    go_enter Try.func24, Try.ntmps24
    go_wp2_with (go_at_call 55; refine (impl_ValidClock _ _ _ _ _ _).mono ?_; rintro e w1 ⟨rfl, hb1⟩; rw [HV.out]; obtain ⟨c1, f1⟩ := bcell hb1; have z1 : w.heap.size + 3 ≤ w1.heap.size := (by have := hb1.size; simp at this; omega); have hw1 : Below w.heap.size w w1 := Below.trans (((Below.refl _ _).alloc (Nat.le_refl _) _ |>.alloc (by simp) _).alloc (by simp; omega) _) (hb1.mono (by simp; omega)); have D1 := (Blk.new _ 30 #[.int .i64 0, .int .i64 0]).keep hb1; simp at D1; obtain ⟨g0, g1⟩ := D1.cell2; have k1 := D1.frozen; obtain ⟨e0, e1⟩ := cells2_set g0 g1)
    refine bodyPost_ret (v := .tuple #[.int .i64 0, .agg #[.int .i64 0, .int .i64 0], .int .i64 1]) (by simp [results, Try.results24, go_sem, e0, e1]) rfl ⟨rfl, ?_⟩
    go_grown
  · have HV := Lib.hid hv
    have hv2 := hv
    simp only [Clk.valid, Bool.and_eq_true, inB_iff] at hv2
    obtain ⟨⟨⟨⟨ha, hb⟩, hh⟩, hph⟩, hsp⟩ := hv2
    cases h1 : inB P (b * 64) (h * 64)
    · skip
      have hR : stepV ⟨a, b, h, ph, sp⟩ P O gap = .tuple #[.int .i64 0, .agg #[.int .i64 0, .int .i64 0], .int .i64 1] := by simp [stepV, stepOk, hv, h1]
      rw [hR]
      clear hR hv
      have H1 := Lib.hid h1; clear h1
      unfold Clk.val
      go_enter Try.func24, Try.ntmps24
      go_wp2_with (first | (go_at_call 55; refine (impl_ValidClock _ _ _ _ _ _).mono ?_; rintro e w1 ⟨rfl, hb1⟩; rw [HV.out]; obtain ⟨c1, f1⟩ := bcell hb1; have z1 : w.heap.size + 3 ≤ w1.heap.size := (by have := hb1.size; simp at this; omega); have hw1 : Below w.heap.size w w1 := Below.trans (((Below.refl _ _).alloc (Nat.le_refl _) _ |>.alloc (by simp) _).alloc (by simp; omega) _) (hb1.mono (by simp; omega)); have D1 := (Blk.new _ 30 #[.int .i64 0, .int .i64 0]).keep hb1; simp at D1; obtain ⟨g0, g1⟩ := D1.cell2; have k1 := D1.frozen; obtain ⟨e0, e1⟩ := cells2_set g0 g1) | (go_at_call 52; refine (within_any _ _ _ _).mono ?_; rintro e w' ⟨rfl, rfl⟩; first | rw [H1.out]))
      refine bodyPost_ret (v := .tuple #[.int .i64 0, .agg #[.int .i64 0, .int .i64 0], .int .i64 1]) (by simp [results, Try.results24, go_sem, e0, e1]) rfl ⟨rfl, ?_⟩
      go_grown
    · cases h2 : inB O (-P) P
      · skip
        have hP := inB_iff.1 h1
        have hR : stepV ⟨a, b, h, ph, sp⟩ P O gap = .tuple #[.int .i64 0, .agg #[.int .i64 0, .int .i64 0], .int .i64 1] := by simp [stepV, stepOk, hv, h1, h2]
        rw [hR]
        clear hR hv
        have H1 := Lib.hid h1; clear h1
        have H2 := Lib.hid h2; clear h2
        unfold Clk.val
        go_enter Try.func24, Try.ntmps24
        go_wp2_with (first | (go_at_call 55; refine (impl_ValidClock _ _ _ _ _ _).mono ?_; rintro e w1 ⟨rfl, hb1⟩; rw [HV.out]; obtain ⟨c1, f1⟩ := bcell hb1; have z1 : w.heap.size + 3 ≤ w1.heap.size := (by have := hb1.size; simp at this; omega); have hw1 : Below w.heap.size w w1 := Below.trans (((Below.refl _ _).alloc (Nat.le_refl _) _ |>.alloc (by simp) _).alloc (by simp; omega) _) (hb1.mono (by simp; omega)); have D1 := (Blk.new _ 30 #[.int .i64 0, .int .i64 0]).keep hb1; simp at D1; obtain ⟨g0, g1⟩ := D1.cell2; have k1 := D1.frozen; obtain ⟨e0, e1⟩ := cells2_set g0 g1) | (go_at_call 52; refine (within_any _ _ _ _).mono ?_; rintro e w' ⟨rfl, rfl⟩; first | rw [H1.out] | rw [H2.out]))
        refine bodyPost_ret (v := .tuple #[.int .i64 0, .agg #[.int .i64 0, .int .i64 0], .int .i64 1]) (by simp [results, Try.results24, go_sem, e0, e1]) rfl ⟨rfl, ?_⟩
        go_grown
      · cases h3 : inB gap 1 2000000
        · skip
          have hP := inB_iff.1 h1
          have hR : stepV ⟨a, b, h, ph, sp⟩ P O gap = .tuple #[.int .i64 0, .agg #[.int .i64 0, .int .i64 0], .int .i64 1] := by simp [stepV, stepOk, hv, h1, h2, h3]
          rw [hR]
          clear hR hv
          have H1 := Lib.hid h1; clear h1
          have H2 := Lib.hid h2; clear h2
          have H3 := Lib.hid h3; clear h3
          unfold Clk.val
          go_enter Try.func24, Try.ntmps24
          go_wp2_with (first | (go_at_call 55; refine (impl_ValidClock _ _ _ _ _ _).mono ?_; rintro e w1 ⟨rfl, hb1⟩; rw [HV.out]; obtain ⟨c1, f1⟩ := bcell hb1; have z1 : w.heap.size + 3 ≤ w1.heap.size := (by have := hb1.size; simp at this; omega); have hw1 : Below w.heap.size w w1 := Below.trans (((Below.refl _ _).alloc (Nat.le_refl _) _ |>.alloc (by simp) _).alloc (by simp; omega) _) (hb1.mono (by simp; omega)); have D1 := (Blk.new _ 30 #[.int .i64 0, .int .i64 0]).keep hb1; simp at D1; obtain ⟨g0, g1⟩ := D1.cell2; have k1 := D1.frozen; obtain ⟨e0, e1⟩ := cells2_set g0 g1) | (go_at_call 52; refine (within_any _ _ _ _).mono ?_; rintro e w' ⟨rfl, rfl⟩; first | rw [H1.out] | rw [H2.out] | rw [H3.out]))
          refine bodyPost_ret (v := .tuple #[.int .i64 0, .agg #[.int .i64 0, .int .i64 0], .int .i64 1]) (by simp [results, Try.results24, go_sem, e0, e1]) rfl ⟨rfl, ?_⟩
          go_grown
        · have hP := inB_iff.1 h1
          have hO := inB_iff.1 h2
          have hg := inB_iff.1 h3
          have HS := Lib.hid (fun w => impl_step ⟨a, b, h, ph, sp⟩ P O gap w hv hP hO hg)
          have hN := (stN_bd (P := P) (O := O) (gap := gap) (by omega) hO hg).1
          have hR : stepOk ⟨a, b, h, ph, sp⟩ P O gap = true := by simp [stepOk, hv, h1, h2, h3]
          unfold stepV
          rw [if_pos hR]
          obtain ⟨n, hn⟩ : ∃ n, n = stN P O gap := ⟨_, rfl⟩
          obtain ⟨e', he'⟩ : ∃ e, e = stE P O gap := ⟨_, rfl⟩
          obtain ⟨P1, hP1⟩ : ∃ x, x = stP ⟨a, b, h, ph, sp⟩ P O gap := ⟨_, rfl⟩
          obtain ⟨O1, hO1⟩ : ∃ x, x = stO ⟨a, b, h, ph, sp⟩ P O gap := ⟨_, rfl⟩
          rw [← hn, ← he', ← hP1, ← hO1] at HS
          rw [← hn, ← hP1, ← hO1]
          rw [← hn] at hN
          clear hn he' hP1 hO1 hR hv
          have H1 := Lib.hid h1; clear h1
          have H2 := Lib.hid h2; clear h2
          have H3 := Lib.hid h3; clear h3
          unfold Clk.val at HS ⊢
          by_cases hn : 100 < n
          · rw [if_pos hn]
            go_enter Try.func24, Try.ntmps24
            go_wp2_with (first | (go_at_call 55; refine (impl_ValidClock _ _ _ _ _ _).mono ?_; rintro e w1 ⟨rfl, hb1⟩; rw [HV.out]; obtain ⟨c1, f1⟩ := bcell hb1; have z1 : w.heap.size + 3 ≤ w1.heap.size := (by have := hb1.size; simp at this; omega); have hw1 : Below w.heap.size w w1 := Below.trans (((Below.refl _ _).alloc (Nat.le_refl _) _ |>.alloc (by simp) _).alloc (by simp; omega) _) (hb1.mono (by simp; omega)); have D1 := (Blk.new _ 30 #[.int .i64 0, .int .i64 0]).keep hb1; simp at D1; obtain ⟨g0, g1⟩ := D1.cell2; have k1 := D1.frozen; obtain ⟨e0, e1⟩ := cells2_set g0 g1) | (go_at_call 52; refine (within_any _ _ _ _).mono ?_; rintro e w' ⟨rfl, rfl⟩; first | rw [H1.out] | rw [H2.out] | rw [H3.out]) | (go_at_call 57; refine (HS.out _).mono ?_; rintro e w2 ⟨rfl, hb2⟩; have D2 := D1.keep hb2; obtain ⟨g0, g1⟩ := D2.cell2; have k2 := D2.frozen; have z2 := D2.lt; have hw2 := below_st hw1 hb2 (Nat.le_refl _); obtain ⟨e0, e1⟩ := cells2_set_al z2 g0 g1))
            refine bodyPost_ret (v := .tuple #[.int .i64 0, .agg #[.int .i64 0, .int .i64 0], .int .i64 10]) (by simp [results, Try.results24, go_sem, e0, e1]) rfl ⟨rfl, ?_⟩
            go_grown
          · rw [if_neg hn]
            go_enter Try.func24, Try.ntmps24
            go_wp2_with (first | (go_at_call 55; refine (impl_ValidClock _ _ _ _ _ _).mono ?_; rintro e w1 ⟨rfl, hb1⟩; rw [HV.out]; obtain ⟨c1, f1⟩ := bcell hb1; have z1 : w.heap.size + 3 ≤ w1.heap.size := (by have := hb1.size; simp at this; omega); have hw1 : Below w.heap.size w w1 := Below.trans (((Below.refl _ _).alloc (Nat.le_refl _) _ |>.alloc (by simp) _).alloc (by simp; omega) _) (hb1.mono (by simp; omega)); have D1 := (Blk.new _ 30 #[.int .i64 0, .int .i64 0]).keep hb1; simp at D1; obtain ⟨g0, g1⟩ := D1.cell2; have k1 := D1.frozen; obtain ⟨e0, e1⟩ := cells2_set g0 g1) | (go_at_call 52; refine (within_any _ _ _ _).mono ?_; rintro e w' ⟨rfl, rfl⟩; first | rw [H1.out] | rw [H2.out] | rw [H3.out]) | (go_at_call 57; refine (HS.out _).mono ?_; rintro e w2 ⟨rfl, hb2⟩; have D2 := D1.keep hb2; obtain ⟨g0, g1⟩ := D2.cell2; have k2 := D2.frozen; have z2 := D2.lt; have hw2 := below_st hw1 hb2 (Nat.le_refl _); obtain ⟨e0, e1⟩ := cells2_set_al z2 g0 g1))
            all_goals try go_region
            all_goals try go_wp2
            refine bodyPost_ret (v := .tuple #[.int .i64 n, .agg #[.int .i64 P1, .int .i64 O1], .int .i64 0]) (by simp [results, Try.results24, go_sem, e0, e1]) rfl ⟨rfl, ?_⟩
            go_grown
end Go.Proofs.Ytdoaoeenmfnjhaa
