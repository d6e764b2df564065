/- The law's walk: FnExactStepClock. -/
import Derived.Test.YtdoaoeenmfnjhaaStepCW
import Derived.Deep.RegionHeld3
import Derived.Deep.DeepCutAuto
namespace Go.Proofs.Ytdoaoeenmfnjhaa
open Go.RowKit
/-- A block of five cells and the next one of two are kept. -/
theorem keep52 {g : Nat} {a b c d e x y : Value} {w w' : World}
    (h : g + 2 ≤ w.heap.size ∧ w.cell? ⟨g, 0, none⟩ = some a ∧ w.cell? ⟨g, 1, none⟩ = some b ∧ w.cell? ⟨g, 2, none⟩ = some c ∧ w.cell? ⟨g, 3, none⟩ = some d ∧ w.cell? ⟨g, 4, none⟩ = some e ∧ w.cell? ⟨g + 1, 0, none⟩ = some x ∧ w.cell? ⟨g + 1, 1, none⟩ = some y) (hb : Below w.heap.size w w') :
    g + 2 ≤ w'.heap.size ∧ w'.cell? ⟨g, 0, none⟩ = some a ∧ w'.cell? ⟨g, 1, none⟩ = some b ∧ w'.cell? ⟨g, 2, none⟩ = some c ∧ w'.cell? ⟨g, 3, none⟩ = some d ∧ w'.cell? ⟨g, 4, none⟩ = some e ∧ w'.cell? ⟨g + 1, 0, none⟩ = some x ∧ w'.cell? ⟨g + 1, 1, none⟩ = some y := by
  obtain ⟨h0, h1, h2, h3, h4, h5, h6, h7⟩ := h
  obtain ⟨hc, -⟩ := bcell hb
  have := hb.size
  exact ⟨by omega, (hc g 0 (by omega)).trans h1, (hc g 1 (by omega)).trans h2, (hc g 2 (by omega)).trans h3, (hc g 3 (by omega)).trans h4, (hc g 4 (by omega)).trans h5, (hc (g + 1) 0 (by omega)).trans h6, (hc (g + 1) 1 (by omega)).trans h7⟩
theorem Blk_drew {w : World} {g : Nat} {t : TypeId} {cs : Array Value} (h : Blk w g t cs) : Blk w.drew g t cs := h
theorem keep52s {g g' : Nat} {a b c d e x y p q : Value} {w : World}
    (h : g + 2 ≤ w.heap.size ∧ w.cell? ⟨g, 0, none⟩ = some a ∧ w.cell? ⟨g, 1, none⟩ = some b ∧ w.cell? ⟨g, 2, none⟩ = some c ∧ w.cell? ⟨g, 3, none⟩ = some d ∧ w.cell? ⟨g, 4, none⟩ = some e ∧ w.cell? ⟨g + 1, 0, none⟩ = some x ∧ w.cell? ⟨g + 1, 1, none⟩ = some y) (hg : g + 2 ≤ g') :
    g + 2 ≤ ((w.setCell ⟨g', 0, none⟩ p).setCell ⟨g', 1, none⟩ q).heap.size ∧ ((w.setCell ⟨g', 0, none⟩ p).setCell ⟨g', 1, none⟩ q).cell? ⟨g, 0, none⟩ = some a ∧ ((w.setCell ⟨g', 0, none⟩ p).setCell ⟨g', 1, none⟩ q).cell? ⟨g, 1, none⟩ = some b ∧ ((w.setCell ⟨g', 0, none⟩ p).setCell ⟨g', 1, none⟩ q).cell? ⟨g, 2, none⟩ = some c ∧ ((w.setCell ⟨g', 0, none⟩ p).setCell ⟨g', 1, none⟩ q).cell? ⟨g, 3, none⟩ = some d ∧ ((w.setCell ⟨g', 0, none⟩ p).setCell ⟨g', 1, none⟩ q).cell? ⟨g, 4, none⟩ = some e ∧ ((w.setCell ⟨g', 0, none⟩ p).setCell ⟨g', 1, none⟩ q).cell? ⟨g + 1, 0, none⟩ = some x ∧ ((w.setCell ⟨g', 0, none⟩ p).setCell ⟨g', 1, none⟩ q).cell? ⟨g + 1, 1, none⟩ = some y := by
  obtain ⟨h0, h1, h2, h3, h4, h5, h6, h7⟩ := h
  have hb : Below (g + 2) w ((w.setCell ⟨g', 0, none⟩ p).setCell ⟨g', 1, none⟩ q) := ((Below.refl _ w).setCell hg _).setCell hg _
  have hc : ∀ b o, b < g + 2 → ((w.setCell ⟨g', 0, none⟩ p).setCell ⟨g', 1, none⟩ q).cell? ⟨b, o, none⟩ = w.cell? ⟨b, o, none⟩ := fun b o h => hb.cell (p := ⟨b, o, none⟩) h
  have := hb.size
  exact ⟨by omega, (hc g 0 (by omega)).trans h1, (hc g 1 (by omega)).trans h2, (hc g 2 (by omega)).trans h3, (hc g 3 (by omega)).trans h4, (hc g 4 (by omega)).trans h5, (hc (g + 1) 0 (by omega)).trans h6, (hc (g + 1) 1 (by omega)).trans h7⟩
theorem keepX {g k : Nat} {a b c d e x y p q : Value} {w w' : World} (h : (k < w.heap.size ∧ w.cell? ⟨k, 0, none⟩ = some p ∧ w.cell? ⟨k, 1, none⟩ = some q) ∧ g + 2 ≤ w.heap.size ∧ w.cell? ⟨g, 0, none⟩ = some a ∧ w.cell? ⟨g, 1, none⟩ = some b ∧ w.cell? ⟨g, 2, none⟩ = some c ∧ w.cell? ⟨g, 3, none⟩ = some d ∧ w.cell? ⟨g, 4, none⟩ = some e ∧ w.cell? ⟨g + 1, 0, none⟩ = some x ∧ w.cell? ⟨g + 1, 1, none⟩ = some y) (hb : Below w.heap.size w w') : (k < w'.heap.size ∧ w'.cell? ⟨k, 0, none⟩ = some p ∧ w'.cell? ⟨k, 1, none⟩ = some q) ∧ g + 2 ≤ w'.heap.size ∧ w'.cell? ⟨g, 0, none⟩ = some a ∧ w'.cell? ⟨g, 1, none⟩ = some b ∧ w'.cell? ⟨g, 2, none⟩ = some c ∧ w'.cell? ⟨g, 3, none⟩ = some d ∧ w'.cell? ⟨g, 4, none⟩ = some e ∧ w'.cell? ⟨g + 1, 0, none⟩ = some x ∧ w'.cell? ⟨g + 1, 1, none⟩ = some y := by
  obtain ⟨⟨k0, k1, k2⟩, hS⟩ := h
  obtain ⟨hc, -⟩ := bcell hb
  have := hb.size
  exact ⟨⟨by omega, (hc k 0 k0).trans k1, (hc k 1 k0).trans k2⟩, keep52 hS hb⟩
theorem keepXs {g k g' : Nat} {a b c d e x y p q p' q' : Value} {w : World} (h : (k < w.heap.size ∧ w.cell? ⟨k, 0, none⟩ = some p ∧ w.cell? ⟨k, 1, none⟩ = some q) ∧ g + 2 ≤ w.heap.size ∧ w.cell? ⟨g, 0, none⟩ = some a ∧ w.cell? ⟨g, 1, none⟩ = some b ∧ w.cell? ⟨g, 2, none⟩ = some c ∧ w.cell? ⟨g, 3, none⟩ = some d ∧ w.cell? ⟨g, 4, none⟩ = some e ∧ w.cell? ⟨g + 1, 0, none⟩ = some x ∧ w.cell? ⟨g + 1, 1, none⟩ = some y) (hg : g + 2 ≤ g') (hk : k < g') : (k < ((w.setCell ⟨g', 0, none⟩ p').setCell ⟨g', 1, none⟩ q').heap.size ∧ ((w.setCell ⟨g', 0, none⟩ p').setCell ⟨g', 1, none⟩ q').cell? ⟨k, 0, none⟩ = some p ∧ ((w.setCell ⟨g', 0, none⟩ p').setCell ⟨g', 1, none⟩ q').cell? ⟨k, 1, none⟩ = some q) ∧ g + 2 ≤ ((w.setCell ⟨g', 0, none⟩ p').setCell ⟨g', 1, none⟩ q').heap.size ∧ ((w.setCell ⟨g', 0, none⟩ p').setCell ⟨g', 1, none⟩ q').cell? ⟨g, 0, none⟩ = some a ∧ ((w.setCell ⟨g', 0, none⟩ p').setCell ⟨g', 1, none⟩ q').cell? ⟨g, 1, none⟩ = some b ∧ ((w.setCell ⟨g', 0, none⟩ p').setCell ⟨g', 1, none⟩ q').cell? ⟨g, 2, none⟩ = some c ∧ ((w.setCell ⟨g', 0, none⟩ p').setCell ⟨g', 1, none⟩ q').cell? ⟨g, 3, none⟩ = some d ∧ ((w.setCell ⟨g', 0, none⟩ p').setCell ⟨g', 1, none⟩ q').cell? ⟨g, 4, none⟩ = some e ∧ ((w.setCell ⟨g', 0, none⟩ p').setCell ⟨g', 1, none⟩ q').cell? ⟨g + 1, 0, none⟩ = some x ∧ ((w.setCell ⟨g', 0, none⟩ p').setCell ⟨g', 1, none⟩ q').cell? ⟨g + 1, 1, none⟩ = some y := by
  obtain ⟨⟨k0, k1, k2⟩, hS⟩ := h
  have hb : Below (k + 1) w ((w.setCell ⟨g', 0, none⟩ p').setCell ⟨g', 1, none⟩ q') := ((Below.refl _ w).setCell hk _).setCell hk _
  have hc : ∀ o, ((w.setCell ⟨g', 0, none⟩ p').setCell ⟨g', 1, none⟩ q').cell? ⟨k, o, none⟩ = w.cell? ⟨k, o, none⟩ := fun o => hb.cell (p := ⟨k, o, none⟩) (Nat.lt_succ_self k)
  have := hb.size
  exact ⟨⟨by omega, (hc 0).trans k1, (hc 1).trans k2⟩, keep52s hS hg⟩
set_option maxHeartbeats 1000000 in
set_option maxRecDepth 20000 in
theorem walk_FnExactStepClock (c : Clk) (x y gap : Int) (w : World) (_ : c.wf) (_ : (Lit.int .i64 x).wf = true ∧ (Lit.int .i64 y).wf = true) (_ : (Lit.int .i64 gap).wf = true) :
    Calls Try.prog 5 #[c.val, .agg #[.int .i64 x, .int .i64 y], .int .i64 gap] w fun e w' => e = .returned (.bool true) ∧ Below w.heap.size w w' := by
  obtain ⟨r0, r1, r2, r3, hv⟩ : ∃ r0 r1 r2 r3, stepV c x y gap = .tuple #[.int .i64 r0, .agg #[.int .i64 r1, .int .i64 r2], .int .i64 r3] := by
    unfold stepV; split
    · split <;> exact ⟨_, _, _, _, rfl⟩
    · exact ⟨_, _, _, _, rfl⟩
  have hs := fun w => spec_StepClock c x y gap w
  have hi := fun w => impl_StepClock c x y gap w
  rw [hv] at hs hi
  clear hv
  obtain ⟨a, b, h, ph, sp⟩ := c
  unfold Clk.val at hs hi ⊢
  go_enter Try.func5, Try.ntmps5
  go_wp2_with fail
  have k0 : w.heap.size + 2 ≤ ((w.alloc (.cells #[.int .i64 a, .int .i64 b, .int .i64 h, .int .i64 ph, .int .i64 sp] 28)).alloc (.cells #[.int .i64 x, .int .i64 y] 36)).heap.size := by simp
  go_cut [7, 8, 9] (fun v7 v8 v9 wx => ∃ g, v7 = .int .i64 r0 ∧ v8 = .pointer (some ⟨g, 0, none⟩) ∧ v9 = .int .i64 r3 ∧ w.heap.size + 2 ≤ g ∧ g < wx.heap.size ∧ wx.cell? ⟨g, 0, none⟩ = some (.int .i64 r1) ∧ wx.cell? ⟨g, 1, none⟩ = some (.int .i64 r2) ∧ (w.heap.size + 2 ≤ wx.heap.size ∧ wx.cell? ⟨w.heap.size, 0, none⟩ = some (.int .i64 a) ∧ wx.cell? ⟨w.heap.size, 1, none⟩ = some (.int .i64 b) ∧ wx.cell? ⟨w.heap.size, 2, none⟩ = some (.int .i64 h) ∧ wx.cell? ⟨w.heap.size, 3, none⟩ = some (.int .i64 ph) ∧ wx.cell? ⟨w.heap.size, 4, none⟩ = some (.int .i64 sp) ∧ wx.cell? ⟨w.heap.size + 1, 0, none⟩ = some (.int .i64 x) ∧ wx.cell? ⟨w.heap.size + 1, 1, none⟩ = some (.int .i64 y)) ∧ Below w.heap.size w wx)
  case first =>
    go_region_held3 (fun w' => w.heap.size + 2 ≤ w'.heap.size ∧ w'.cell? ⟨w.heap.size, 0, none⟩ = some (.int .i64 a) ∧ w'.cell? ⟨w.heap.size, 1, none⟩ = some (.int .i64 b) ∧ w'.cell? ⟨w.heap.size, 2, none⟩ = some (.int .i64 h) ∧ w'.cell? ⟨w.heap.size, 3, none⟩ = some (.int .i64 ph) ∧ w'.cell? ⟨w.heap.size, 4, none⟩ = some (.int .i64 sp) ∧ w'.cell? ⟨w.heap.size + 1, 0, none⟩ = some (.int .i64 x) ∧ w'.cell? ⟨w.heap.size + 1, 1, none⟩ = some (.int .i64 y))
      (first | (refine keep52 ?_ ((Below.refl _ _).alloc (Nat.le_refl _) _); first | exact s3.out | assumption) | (refine keep52s (g := w.heap.size) ?_ ?_; (first | exact s3.out | assumption); omega) | (refine keep52 ?_ (by assumption); assumption) | go_keep)
      (first | (go_at_call 19; refine (toClock_any _ _ _ _ _ _).mono ?_; rintro e w1 ⟨rfl, hb1⟩; have z1 := hb1.size; (try simp at z1); try (have y1 := (Blk_drew (Blk.new _ 30 #[.int .i64 0, .int .i64 0])).keep hb1; (try simp at y1))) | (go_at_call 23; refine (toLocked_any _ _ _).mono ?_; rintro e w2 ⟨rfl, hb2⟩; have z2 := hb2.size; (try simp at z2); try (first | have y2 := y1.keep hb2 | (have y2 := (Blk.new _ 30 #[.int .i64 0, .int .i64 0]).keep hb2; (try simp at y2)))) | (go_at_call 22; refine (hs _).mono ?_; rintro e w3 ⟨rfl, hb3⟩; have z3 := hb3.size; (try simp at z3); (try ((first | have y3 := y2.keep hb3 | (have y3 := (Blk.new _ 30 #[.int .i64 0, .int .i64 0]).keep hb3; (try simp at y3))); obtain ⟨u0, u1⟩ := y3.cell2; have u2 := y3.frozen)); have s3 := Lib.hid (keep52 (g := w.heap.size) (by assumption) hb3)))
    all_goals
      go_wp2_with fail
      have hw1 : Below w.heap.size w w1 := by
        refine Below.trans ?_ (hb1.mono ?_)
        · go_grown
        · simp; try omega
      have hw2 : Below w.heap.size w w2 := by first | exact below_st hw1 hb2 (Nat.le_refl _) | exact below_al hw1 hb2 (Nat.le_refl _)
      have hw3 : Below w.heap.size w w3 := by first | exact below_st hw2 hb3 (Nat.le_refl _) | exact below_al hw2 hb3 (Nat.le_refl _)
      go_meet
      refine ⟨_, rfl, rfl, rfl, ?_, ?_, ?_, ?_, ?_, ?_⟩
      · omega
      · simp [World.setCell]
        try omega
      · first | exact (World.cell?_setCell_other _ _ _ _ (by intro h'; injection h' with _ h2; cases h2)).trans ((cells2_set u0 u1).1 _) | go_cell
      · first | exact (cells2_set u0 u1).2 _ _ | go_cell
      · assumption
      · go_grown
  case rest =>
    obtain ⟨g, rfl, rfl, rfl, hg, hgw, q0, q1, ⟨s0, s1, s2, s3, s4, s5, s6, s7⟩, hwx⟩ := hcut
    go_wp2_with fail
    obtain ⟨wx, hwc⟩ : ∃ wx, wx = wc := ⟨_, rfl⟩
    subst hwc
    go_cut [10, 11, 12] (fun v10 v11 v12 wy => ∃ g', v10 = .int .i64 r0 ∧ v11 = .pointer (some ⟨g', 0, none⟩) ∧ v12 = .int .i64 r3 ∧ w.heap.size + 2 ≤ g' ∧ g' < wy.heap.size ∧ wy.cell? ⟨g', 0, none⟩ = some (.int .i64 r1) ∧ wy.cell? ⟨g', 1, none⟩ = some (.int .i64 r2) ∧ ((g < wy.heap.size ∧ wy.cell? ⟨g, 0, none⟩ = some (.int .i64 r1) ∧ wy.cell? ⟨g, 1, none⟩ = some (.int .i64 r2)) ∧ w.heap.size + 2 ≤ wy.heap.size ∧ wy.cell? ⟨w.heap.size, 0, none⟩ = some (.int .i64 a) ∧ wy.cell? ⟨w.heap.size, 1, none⟩ = some (.int .i64 b) ∧ wy.cell? ⟨w.heap.size, 2, none⟩ = some (.int .i64 h) ∧ wy.cell? ⟨w.heap.size, 3, none⟩ = some (.int .i64 ph) ∧ wy.cell? ⟨w.heap.size, 4, none⟩ = some (.int .i64 sp) ∧ wy.cell? ⟨w.heap.size + 1, 0, none⟩ = some (.int .i64 x) ∧ wy.cell? ⟨w.heap.size + 1, 1, none⟩ = some (.int .i64 y)) ∧ Below w.heap.size w wy)
    case first =>
      go_region_held3 (fun w' => (g < w'.heap.size ∧ w'.cell? ⟨g, 0, none⟩ = some (.int .i64 r1) ∧ w'.cell? ⟨g, 1, none⟩ = some (.int .i64 r2)) ∧ w.heap.size + 2 ≤ w'.heap.size ∧ w'.cell? ⟨w.heap.size, 0, none⟩ = some (.int .i64 a) ∧ w'.cell? ⟨w.heap.size, 1, none⟩ = some (.int .i64 b) ∧ w'.cell? ⟨w.heap.size, 2, none⟩ = some (.int .i64 h) ∧ w'.cell? ⟨w.heap.size, 3, none⟩ = some (.int .i64 ph) ∧ w'.cell? ⟨w.heap.size, 4, none⟩ = some (.int .i64 sp) ∧ w'.cell? ⟨w.heap.size + 1, 0, none⟩ = some (.int .i64 x) ∧ w'.cell? ⟨w.heap.size + 1, 1, none⟩ = some (.int .i64 y))
        (first | (refine keepX ?_ ((Below.refl _ _).alloc (Nat.le_refl _) _); first | exact s3.out | assumption) | (refine keepXs (g := w.heap.size) (k := g) ?_ ?_ ?_; (first | exact s3.out | assumption); omega; omega) | (refine keepX ?_ (by assumption); assumption) | (refine keepX (w := wx) ?_ ?_; exact ⟨⟨hgw, q0, q1⟩, s0, s1, s2, s3, s4, s5, s6, s7⟩; exact ((Below.refl _ _).alloc (Nat.le_refl _) _).drew) | go_keep)
        (first | (go_at_call 19; refine (toClock_any _ _ _ _ _ _).mono ?_; rintro e w1 ⟨rfl, hb1⟩; have z1 := hb1.size; (try simp at z1); try (have y1 := (Blk_drew (Blk.new _ 30 #[.int .i64 0, .int .i64 0])).keep hb1; (try simp at y1))) | (go_at_call 23; refine (toLocked_any _ _ _).mono ?_; rintro e w2 ⟨rfl, hb2⟩; have z2 := hb2.size; (try simp at z2); try (first | have y2 := y1.keep hb2 | (have y2 := (Blk.new _ 30 #[.int .i64 0, .int .i64 0]).keep hb2; (try simp at y2)))) | (go_at_call 24; refine (hi _).mono ?_; rintro e w3 ⟨rfl, hb3⟩; have z3 := hb3.size; (try simp at z3); (try ((first | have y3 := y2.keep hb3 | (have y3 := (Blk.new _ 30 #[.int .i64 0, .int .i64 0]).keep hb3; (try simp at y3))); obtain ⟨u0, u1⟩ := y3.cell2; have u2 := y3.frozen)); have s3 := Lib.hid (keepX (g := w.heap.size) (k := g) (by assumption) hb3)))
      all_goals
        go_wp2_with fail
        have hw1 : Below w.heap.size w w1 := by
          first | exact below_st hwx.drew hb1 (Nat.le_refl _) | exact below_st (hwx.alloc hwx.size _).drew hb1 (Nat.le_refl _)
        have hw2 : Below w.heap.size w w2 := by first | exact below_st hw1 hb2 (Nat.le_refl _) | exact below_al hw1 hb2 (Nat.le_refl _)
        have hw3 : Below w.heap.size w w3 := by first | exact below_st hw2 hb3 (Nat.le_refl _) | exact below_al hw2 hb3 (Nat.le_refl _)
        go_meet
        refine ⟨_, rfl, rfl, rfl, ?_, ?_, ?_, ?_, ?_, ?_⟩
        · omega
        · simp [World.setCell]
          try omega
        · first | exact (World.cell?_setCell_other _ _ _ _ (by intro h'; injection h' with _ h2; cases h2)).trans ((cells2_set u0 u1).1 _) | go_cell
        · first | exact (cells2_set u0 u1).2 _ _ | go_cell
        · assumption
        · go_grown
    case rest =>
      obtain ⟨g', rfl, rfl, rfl, hg', hgw', p0, p1, ⟨⟨t0, t1, t2⟩, -⟩, hwy⟩ := hcut
      go_wp2_with (go_at_call 21; refine (eqLocked_same _ _ _).mono ?_; rintro e w5 ⟨rfl, hb5⟩)
      go_ret
      exact ⟨rfl, below_st hwy hb5 (Nat.le_refl _)⟩
end Go.Proofs.Ytdoaoeenmfnjhaa
