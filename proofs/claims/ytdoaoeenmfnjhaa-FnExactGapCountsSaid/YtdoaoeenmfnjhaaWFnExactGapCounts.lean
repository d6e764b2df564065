/- The law's walk: FnExactGapCounts. Printed by lawsr3.py. -/
import Derived.Test.YtdoaoeenmfnjhaaClkErrW
import Derived.Test.YtdoaoeenmfnjhaaMarksW
import Derived.Test.YtdoaoeenmfnjhaaOpenF
import Derived.Test.YtdoaoeenmfnjhaaLawAid
import Derived.Deep.RegionHeld3
import Derived.Deep.DeepCutAuto
namespace Go.Proofs.Ytdoaoeenmfnjhaa
open Go.RowKit
set_option linter.unusedVariables false
set_option maxHeartbeats 4000000 in
set_option maxRecDepth 20000 in
theorem walk_FnExactGapCounts (x : Flx) (k : Clk) (w : World) (hx : x.ok w) (_ : k.wf) :
    Calls Try.prog 13 #[x.val, k.val] w fun e w' => e = .returned (.bool true) ∧ Below w.heap.size w w' := by
  obtain ⟨c, f, p, l, cap⟩ := x
  obtain ⟨-, hI, hlen, hwf⟩ := hx
  simp only [Flx.val, Num.val] at hI hlen hwf
  obtain ⟨ka, kb, kc, kd, ke⟩ := k
  simp only [Flx.val, Num.val, Clk.val]
  by_cases hl : (l.length : Int) ≤ 1048576
  rotate_left
  · have hz0 : szL (1048576) l.length = -1 := by unfold szL; rw [if_pos (by omega)]
    go_enter Try.func13, Try.ntmps13
    go_wp2_with fail
    have hw : Below w.heap.size w w := Below.refl _ _
    have Bx := Blk.new w 43 #[.int .i64 c, .int .i64 f, .slice p l.length cap]
    replace hw := hw.alloc hw.size (.cells #[.int .i64 c, .int .i64 f, .slice p l.length cap] 43)
    have Bk := Blk.new (w.alloc (.cells #[.int .i64 c, .int .i64 f, .slice p l.length cap] 43)) 28 #[.int .i64 ka, .int .i64 kb, .int .i64 kc, .int .i64 kd, .int .i64 ke]
    replace Bx := Bx.keep ((Below.refl _ (w.alloc (.cells #[.int .i64 c, .int .i64 f, .slice p l.length cap] 43))).alloc (Nat.le_refl _) (.cells #[.int .i64 ka, .int .i64 kb, .int .i64 kc, .int .i64 kd, .int .i64 ke] 28))
    replace hw := hw.alloc hw.size (.cells #[.int .i64 ka, .int .i64 kb, .int .i64 kc, .int .i64 kd, .int .i64 ke] 28)
    have e1 : (w.alloc (.cells #[.int .i64 c, .int .i64 f, .slice p l.length cap] 43)).heap.size = w.heap.size + 1 := by simp
    rw [e1] at Bk
    have z0 : w.heap.size + 2 ≤ ((w.alloc (.cells #[.int .i64 c, .int .i64 f, .slice p l.length cap] 43)).alloc (.cells #[.int .i64 ka, .int .i64 kb, .int .i64 kc, .int .i64 kd, .int .i64 ke] 28)).heap.size := by simp
    generalize ((w.alloc (.cells #[.int .i64 c, .int .i64 f, .slice p l.length cap] 43)).alloc (.cells #[.int .i64 ka, .int .i64 kb, .int .i64 kc, .int .i64 kd, .int .i64 ke] 28)) = w0 at Bx Bk hw z0 ⊢
    obtain ⟨cx0, cx1, cx2⟩ := Bx.cell3
    have ltx := Bx.lt
    obtain ⟨ck0, ck1, ck2, ck3, ck4⟩ := Bk.cell5
    have ltk := Bk.lt
    go_wp2_with fail
    refine (laws_szFlux _ _ _ _ _ _ _ hlen (by omega)).mono ?_
    rintro e w1 ⟨rfl, hb⟩
    rw [hz0]
    have z1 := hb.size
    replace Bx := Bx.keep hb
    replace Bk := Bk.keep hb
    replace hw := below_st hw hb (Nat.le_refl _)
    clear hb
    clear cx0 cx1 cx2 ltx ck0 ck1 ck2 ck3 ck4 ltk
    obtain ⟨cx0, cx1, cx2⟩ := Bx.cell3
    have ltx := Bx.lt
    obtain ⟨ck0, ck1, ck2, ck3, ck4⟩ := Bk.cell5
    have ltk := Bk.lt
    go_wp2_with fail
    go_ret
    exact ⟨rfl, hw⟩
  have hz0 : szL (1048576) l.length = 1048576 - (l.length : Int) := by unfold szL; rw [if_neg (by omega)]
  have hy0 : decide (1048576 - (l.length : Int) < 0) = false := by simp; omega
  have hm : l.length ≤ 1048576 := by omega
  go_enter Try.func13, Try.ntmps13
  go_wp2_with fail
  have hw : Below w.heap.size w w := Below.refl _ _
  have Bx := Blk.new w 43 #[.int .i64 c, .int .i64 f, .slice p l.length cap]
  replace hw := hw.alloc hw.size (.cells #[.int .i64 c, .int .i64 f, .slice p l.length cap] 43)
  have Bk := Blk.new (w.alloc (.cells #[.int .i64 c, .int .i64 f, .slice p l.length cap] 43)) 28 #[.int .i64 ka, .int .i64 kb, .int .i64 kc, .int .i64 kd, .int .i64 ke]
  replace Bx := Bx.keep ((Below.refl _ (w.alloc (.cells #[.int .i64 c, .int .i64 f, .slice p l.length cap] 43))).alloc (Nat.le_refl _) (.cells #[.int .i64 ka, .int .i64 kb, .int .i64 kc, .int .i64 kd, .int .i64 ke] 28))
  replace hw := hw.alloc hw.size (.cells #[.int .i64 ka, .int .i64 kb, .int .i64 kc, .int .i64 kd, .int .i64 ke] 28)
  have e1 : (w.alloc (.cells #[.int .i64 c, .int .i64 f, .slice p l.length cap] 43)).heap.size = w.heap.size + 1 := by simp
  rw [e1] at Bk
  have z0 : w.heap.size + 2 ≤ ((w.alloc (.cells #[.int .i64 c, .int .i64 f, .slice p l.length cap] 43)).alloc (.cells #[.int .i64 ka, .int .i64 kb, .int .i64 kc, .int .i64 kd, .int .i64 ke] 28)).heap.size := by simp
  generalize ((w.alloc (.cells #[.int .i64 c, .int .i64 f, .slice p l.length cap] 43)).alloc (.cells #[.int .i64 ka, .int .i64 kb, .int .i64 kc, .int .i64 kd, .int .i64 ke] 28)) = w0 at Bx Bk hw z0 ⊢
  obtain ⟨cx0, cx1, cx2⟩ := Bx.cell3
  have ltx := Bx.lt
  obtain ⟨ck0, ck1, ck2, ck3, ck4⟩ := Bk.cell5
  have ltk := Bk.lt
  go_wp2_with fail
  refine (laws_szFlux _ _ _ _ _ _ _ hlen (by omega)).mono ?_
  rintro e w1 ⟨rfl, hb⟩
  rw [hz0]
  have z1 := hb.size
  replace Bx := Bx.keep hb
  replace Bk := Bk.keep hb
  replace hw := below_st hw hb (Nat.le_refl _)
  clear hb
  have hR := gapV_len ⟨ka, kb, kc, kd, ke⟩ c f l
  have hk1 : decide (1 + (l.length : Int) < 0) = false := by simp; omega
  have hk2 : decide (1 + ((gapV ⟨ka, kb, kc, kd, ke⟩ c f l).length : Int) < 0) = false := by simp; omega
  clear cx0 cx1 cx2 ltx ck0 ck1 ck2 ck3 ck4 ltk
  obtain ⟨cx0, cx1, cx2⟩ := Bx.cell3
  have ltx := Bx.lt
  obtain ⟨ck0, ck1, ck2, ck3, ck4⟩ := Bk.cell5
  have ltk := Bk.lt
  go_wp2_with fail
  go_cut [6, 7] (fun v0 v1 wx => (∃ q d, v0 = .slice q (gapV ⟨ka, kb, kc, kd, ke⟩ c f l).length d ∧ v1 = .int .i64 (runCode ⟨ka, kb, kc, kd, ke⟩ c f l) ∧ OwnS wx w1.heap.size q (gapV ⟨ka, kb, kc, kd, ke⟩ c f l)) ∧ Below w1.heap.size w1 wx)
  case first =>
    have keepS : ∀ y1 y2 : World, ((w.heap.size < y1.heap.size ∧ y1.cell? ⟨w.heap.size, 0, none⟩ = some (.int .i64 c) ∧ y1.cell? ⟨w.heap.size, 1, none⟩ = some (.int .i64 f) ∧ y1.cell? ⟨w.heap.size, 2, none⟩ = some (.slice p l.length cap)) ∧ (w.heap.size + 1 < y1.heap.size ∧ y1.cell? ⟨w.heap.size + 1, 0, none⟩ = some (.int .i64 ka) ∧ y1.cell? ⟨w.heap.size + 1, 1, none⟩ = some (.int .i64 kb) ∧ y1.cell? ⟨w.heap.size + 1, 2, none⟩ = some (.int .i64 kc) ∧ y1.cell? ⟨w.heap.size + 1, 3, none⟩ = some (.int .i64 kd) ∧ y1.cell? ⟨w.heap.size + 1, 4, none⟩ = some (.int .i64 ke)) ∧ Below w.heap.size w y1) → Below y1.heap.size y1 y2 → ((w.heap.size < y2.heap.size ∧ y2.cell? ⟨w.heap.size, 0, none⟩ = some (.int .i64 c) ∧ y2.cell? ⟨w.heap.size, 1, none⟩ = some (.int .i64 f) ∧ y2.cell? ⟨w.heap.size, 2, none⟩ = some (.slice p l.length cap)) ∧ (w.heap.size + 1 < y2.heap.size ∧ y2.cell? ⟨w.heap.size + 1, 0, none⟩ = some (.int .i64 ka) ∧ y2.cell? ⟨w.heap.size + 1, 1, none⟩ = some (.int .i64 kb) ∧ y2.cell? ⟨w.heap.size + 1, 2, none⟩ = some (.int .i64 kc) ∧ y2.cell? ⟨w.heap.size + 1, 3, none⟩ = some (.int .i64 kd) ∧ y2.cell? ⟨w.heap.size + 1, 4, none⟩ = some (.int .i64 ke)) ∧ Below w.heap.size w y2) := by
      rintro y1 y2 ⟨⟨s0, s0_0, s0_1, s0_2⟩, ⟨s1, s1_0, s1_1, s1_2, s1_3, s1_4⟩, hv⟩ hb
      obtain ⟨hc, -⟩ := bcell hb
      have := hb.size
      exact ⟨⟨by omega, (hc _ _ s0).trans s0_0, (hc _ _ s0).trans s0_1, (hc _ _ s0).trans s0_2⟩, ⟨by omega, (hc _ _ s1).trans s1_0, (hc _ _ s1).trans s1_1, (hc _ _ s1).trans s1_2, (hc _ _ s1).trans s1_3, (hc _ _ s1).trans s1_4⟩, below_st hv hb (Nat.le_refl _)⟩
    have S0 : (w.heap.size < w1.drew.heap.size ∧ w1.drew.cell? ⟨w.heap.size, 0, none⟩ = some (.int .i64 c) ∧ w1.drew.cell? ⟨w.heap.size, 1, none⟩ = some (.int .i64 f) ∧ w1.drew.cell? ⟨w.heap.size, 2, none⟩ = some (.slice p l.length cap)) ∧ (w.heap.size + 1 < w1.drew.heap.size ∧ w1.drew.cell? ⟨w.heap.size + 1, 0, none⟩ = some (.int .i64 ka) ∧ w1.drew.cell? ⟨w.heap.size + 1, 1, none⟩ = some (.int .i64 kb) ∧ w1.drew.cell? ⟨w.heap.size + 1, 2, none⟩ = some (.int .i64 kc) ∧ w1.drew.cell? ⟨w.heap.size + 1, 3, none⟩ = some (.int .i64 kd) ∧ w1.drew.cell? ⟨w.heap.size + 1, 4, none⟩ = some (.int .i64 ke)) ∧ Below w.heap.size w w1.drew := ⟨⟨Bx.lt, cx0, cx1, cx2⟩, ⟨Bk.lt, ck0, ck1, ck2, ck3, ck4⟩, hw.drew⟩
    go_region_held3 (fun w' => (w.heap.size < w'.heap.size ∧ w'.cell? ⟨w.heap.size, 0, none⟩ = some (.int .i64 c) ∧ w'.cell? ⟨w.heap.size, 1, none⟩ = some (.int .i64 f) ∧ w'.cell? ⟨w.heap.size, 2, none⟩ = some (.slice p l.length cap)) ∧ (w.heap.size + 1 < w'.heap.size ∧ w'.cell? ⟨w.heap.size + 1, 0, none⟩ = some (.int .i64 ka) ∧ w'.cell? ⟨w.heap.size + 1, 1, none⟩ = some (.int .i64 kb) ∧ w'.cell? ⟨w.heap.size + 1, 2, none⟩ = some (.int .i64 kc) ∧ w'.cell? ⟨w.heap.size + 1, 3, none⟩ = some (.int .i64 kd) ∧ w'.cell? ⟨w.heap.size + 1, 4, none⟩ = some (.int .i64 ke)) ∧ Below w.heap.size w w')
      (first | exact S0 | (refine keepS _ _ ?_ (by assumption); assumption) | go_keep)
      (first | (go_at_call 46; refine (spec_GapCounts ⟨ka, kb, kc, kd, ke⟩ _ _ _ _ _ _ (r1.below hb2).ints hm).mono ?_; rintro e y3 ⟨q3, d3, rfl, R3, hb3⟩; have S3 := keepS _ _ S2 hb3) | (go_at_call 19; refine (toClock_any _ _ _ _ _ _).mono ?_; rintro e y2 ⟨rfl, hb2⟩; have S2 := keepS _ _ S1 hb2) | (go_at_call 27; refine (laws_toFlux _ _ _ _ _ _ (hI.below S0.2.2) hm).mono ?_; rintro e y1 ⟨g1, rfl, hg1, r1, hb1⟩; have S1 := keepS _ _ S0 hb1))
    all_goals
      go_wp2_with fail
      go_meet
      exact ⟨⟨_, _, rfl, rfl, R3.mono (Nat.le_trans hb1.size hb2.size)⟩, (below_st (below_st (below_st (Below.refl _ w1).drew hb1 (Nat.le_refl _)) hb2 (Nat.le_refl _)) hb3 (Nat.le_refl _))⟩
  case rest =>
    obtain ⟨⟨qw0, dw0, rfl, rfl, Rw0⟩, hb⟩ := hcut
    obtain ⟨w2, hwc⟩ : ∃ w2, w2 = wc := ⟨_, rfl⟩
    subst hwc
    have z2 := hb.size
    replace Bx := Bx.keep hb
    replace Bk := Bk.keep hb
    replace hw := below_st hw hb (Nat.le_refl _)
    clear hb
    have hOw0 : ∀ g, ownOf qw0 (gapV ⟨ka, kb, kc, kd, ke⟩ c f l) = some g → w1.heap.size ≤ g ∧ g < w2.heap.size := fun g hg => ownOf_at Rw0 hg
    have hNw0 : (gapV ⟨ka, kb, kc, kd, ke⟩ c f l) ≠ [] → ∀ g, qw0 = some (⟨g, 0, none⟩ : Addr) → w1.heap.size ≤ g ∧ g < w2.heap.size := fun hl g hp => OwnS.lt Rw0 hl hp
    clear cx0 cx1 cx2 ltx ck0 ck1 ck2 ck3 ck4 ltk
    obtain ⟨cx0, cx1, cx2⟩ := Bx.cell3
    have ltx := Bx.lt
    obtain ⟨ck0, ck1, ck2, ck3, ck4⟩ := Bk.cell5
    have ltk := Bk.lt
    go_wp2_with fail
    refine (laws_toFlux _ _ _ _ _ _ (hI.below hw) hm).mono ?_
    rintro e w3 ⟨gqx0, rfl, hgqx0, hr, hb⟩
    have Rqx0 := OwnS.of_row hr hgqx0; clear hr
    have z3 := hb.size
    replace Bx := Bx.keep hb
    replace Bk := Bk.keep hb
    replace Rw0 := Rw0.below hb
    replace hw := below_st hw hb (Nat.le_refl _)
    clear hb
    have hOqx0 : ∀ g, ownOf (some (⟨gqx0, 0, none⟩ : Addr)) l = some g → w2.heap.size ≤ g ∧ g < w3.heap.size := fun g hg => ownOf_at Rqx0 hg
    have hNqx0 : l ≠ [] → ∀ g, (some (⟨gqx0, 0, none⟩ : Addr)) = some (⟨g, 0, none⟩ : Addr) → w2.heap.size ≤ g ∧ g < w3.heap.size := fun hl g hp => OwnS.lt Rqx0 hl hp
    clear cx0 cx1 cx2 ltx ck0 ck1 ck2 ck3 ck4 ltk
    obtain ⟨cx0, cx1, cx2⟩ := Bx.cell3
    have ltx := Bx.lt
    obtain ⟨ck0, ck1, ck2, ck3, ck4⟩ := Bk.cell5
    have ltk := Bk.lt
    go_wp2_with fail
    have Bx0 := Blk.new w3 46 #[.int .i64 c, .int .i64 f, .slice (some ⟨gqx0, 0, none⟩) l.length l.length]
    replace Bx := Bx.keep ((Below.refl _ w3).alloc (Nat.le_refl _) (.cells #[.int .i64 c, .int .i64 f, .slice (some ⟨gqx0, 0, none⟩) l.length l.length] 46))
    replace Bk := Bk.keep ((Below.refl _ w3).alloc (Nat.le_refl _) (.cells #[.int .i64 c, .int .i64 f, .slice (some ⟨gqx0, 0, none⟩) l.length l.length] 46))
    replace Rw0 := Rw0.below ((Below.refl _ w3).alloc (Nat.le_refl _) (.cells #[.int .i64 c, .int .i64 f, .slice (some ⟨gqx0, 0, none⟩) l.length l.length] 46))
    replace Rqx0 := Rqx0.below ((Below.refl _ w3).alloc (Nat.le_refl _) (.cells #[.int .i64 c, .int .i64 f, .slice (some ⟨gqx0, 0, none⟩) l.length l.length] 46))
    replace hw := hw.alloc hw.size (.cells #[.int .i64 c, .int .i64 f, .slice (some ⟨gqx0, 0, none⟩) l.length l.length] 46)
    have z4 : w3.heap.size + 1 ≤ (w3.alloc (.cells #[.int .i64 c, .int .i64 f, .slice (some ⟨gqx0, 0, none⟩) l.length l.length] 46)).heap.size := by simp
    generalize w3.alloc (.cells #[.int .i64 c, .int .i64 f, .slice (some ⟨gqx0, 0, none⟩) l.length l.length] 46) = w4 at Bx Bk Bx0 Rw0 Rqx0 hw z4 ⊢
    clear cx0 cx1 cx2 ltx ck0 ck1 ck2 ck3 ck4 ltk
    obtain ⟨cx0, cx1, cx2⟩ := Bx.cell3
    have ltx := Bx.lt
    obtain ⟨ck0, ck1, ck2, ck3, ck4⟩ := Bk.cell5
    have ltk := Bk.lt
    obtain ⟨cx00, cx01, cx02⟩ := Bx0.cell3
    have ltx0 := Bx0.lt
    go_wp2_with fail
    go_cut [9, 10] (fun v0 v1 wx => (∃ q d, v0 = .slice q (gapV ⟨ka, kb, kc, kd, ke⟩ c f l).length d ∧ v1 = .int .i64 (runCode ⟨ka, kb, kc, kd, ke⟩ c f l) ∧ OwnS wx w4.heap.size q (gapV ⟨ka, kb, kc, kd, ke⟩ c f l)) ∧ Below w4.heap.size w4 wx)
    case first =>
      have keepS : ∀ y1 y2 : World, ((w.heap.size < y1.heap.size ∧ y1.cell? ⟨w.heap.size, 0, none⟩ = some (.int .i64 c) ∧ y1.cell? ⟨w.heap.size, 1, none⟩ = some (.int .i64 f) ∧ y1.cell? ⟨w.heap.size, 2, none⟩ = some (.slice p l.length cap)) ∧ (w.heap.size + 1 < y1.heap.size ∧ y1.cell? ⟨w.heap.size + 1, 0, none⟩ = some (.int .i64 ka) ∧ y1.cell? ⟨w.heap.size + 1, 1, none⟩ = some (.int .i64 kb) ∧ y1.cell? ⟨w.heap.size + 1, 2, none⟩ = some (.int .i64 kc) ∧ y1.cell? ⟨w.heap.size + 1, 3, none⟩ = some (.int .i64 kd) ∧ y1.cell? ⟨w.heap.size + 1, 4, none⟩ = some (.int .i64 ke)) ∧ (w3.heap.size < y1.heap.size ∧ y1.cell? ⟨w3.heap.size, 0, none⟩ = some (.int .i64 c) ∧ y1.cell? ⟨w3.heap.size, 1, none⟩ = some (.int .i64 f) ∧ y1.cell? ⟨w3.heap.size, 2, none⟩ = some (.slice (some ⟨gqx0, 0, none⟩) l.length l.length)) ∧ OwnS y1 w2.heap.size (some (⟨gqx0, 0, none⟩ : Addr)) l ∧ Below w.heap.size w y1) → Below y1.heap.size y1 y2 → ((w.heap.size < y2.heap.size ∧ y2.cell? ⟨w.heap.size, 0, none⟩ = some (.int .i64 c) ∧ y2.cell? ⟨w.heap.size, 1, none⟩ = some (.int .i64 f) ∧ y2.cell? ⟨w.heap.size, 2, none⟩ = some (.slice p l.length cap)) ∧ (w.heap.size + 1 < y2.heap.size ∧ y2.cell? ⟨w.heap.size + 1, 0, none⟩ = some (.int .i64 ka) ∧ y2.cell? ⟨w.heap.size + 1, 1, none⟩ = some (.int .i64 kb) ∧ y2.cell? ⟨w.heap.size + 1, 2, none⟩ = some (.int .i64 kc) ∧ y2.cell? ⟨w.heap.size + 1, 3, none⟩ = some (.int .i64 kd) ∧ y2.cell? ⟨w.heap.size + 1, 4, none⟩ = some (.int .i64 ke)) ∧ (w3.heap.size < y2.heap.size ∧ y2.cell? ⟨w3.heap.size, 0, none⟩ = some (.int .i64 c) ∧ y2.cell? ⟨w3.heap.size, 1, none⟩ = some (.int .i64 f) ∧ y2.cell? ⟨w3.heap.size, 2, none⟩ = some (.slice (some ⟨gqx0, 0, none⟩) l.length l.length)) ∧ OwnS y2 w2.heap.size (some (⟨gqx0, 0, none⟩ : Addr)) l ∧ Below w.heap.size w y2) := by
        rintro y1 y2 ⟨⟨s0, s0_0, s0_1, s0_2⟩, ⟨s1, s1_0, s1_1, s1_2, s1_3, s1_4⟩, ⟨s2, s2_0, s2_1, s2_2⟩, t0, hv⟩ hb
        obtain ⟨hc, -⟩ := bcell hb
        have := hb.size
        exact ⟨⟨by omega, (hc _ _ s0).trans s0_0, (hc _ _ s0).trans s0_1, (hc _ _ s0).trans s0_2⟩, ⟨by omega, (hc _ _ s1).trans s1_0, (hc _ _ s1).trans s1_1, (hc _ _ s1).trans s1_2, (hc _ _ s1).trans s1_3, (hc _ _ s1).trans s1_4⟩, ⟨by omega, (hc _ _ s2).trans s2_0, (hc _ _ s2).trans s2_1, (hc _ _ s2).trans s2_2⟩, t0.below hb, below_st hv hb (Nat.le_refl _)⟩
      have S0 : (w.heap.size < w4.drew.heap.size ∧ w4.drew.cell? ⟨w.heap.size, 0, none⟩ = some (.int .i64 c) ∧ w4.drew.cell? ⟨w.heap.size, 1, none⟩ = some (.int .i64 f) ∧ w4.drew.cell? ⟨w.heap.size, 2, none⟩ = some (.slice p l.length cap)) ∧ (w.heap.size + 1 < w4.drew.heap.size ∧ w4.drew.cell? ⟨w.heap.size + 1, 0, none⟩ = some (.int .i64 ka) ∧ w4.drew.cell? ⟨w.heap.size + 1, 1, none⟩ = some (.int .i64 kb) ∧ w4.drew.cell? ⟨w.heap.size + 1, 2, none⟩ = some (.int .i64 kc) ∧ w4.drew.cell? ⟨w.heap.size + 1, 3, none⟩ = some (.int .i64 kd) ∧ w4.drew.cell? ⟨w.heap.size + 1, 4, none⟩ = some (.int .i64 ke)) ∧ (w3.heap.size < w4.drew.heap.size ∧ w4.drew.cell? ⟨w3.heap.size, 0, none⟩ = some (.int .i64 c) ∧ w4.drew.cell? ⟨w3.heap.size, 1, none⟩ = some (.int .i64 f) ∧ w4.drew.cell? ⟨w3.heap.size, 2, none⟩ = some (.slice (some ⟨gqx0, 0, none⟩) l.length l.length)) ∧ OwnS w4.drew w2.heap.size (some (⟨gqx0, 0, none⟩ : Addr)) l ∧ Below w.heap.size w w4.drew := ⟨⟨Bx.lt, cx0, cx1, cx2⟩, ⟨Bk.lt, ck0, ck1, ck2, ck3, ck4⟩, ⟨Bx0.lt, cx00, cx01, cx02⟩, Rqx0.below (Below.refl _ _).drew, hw.drew⟩
      go_region_held3 (fun w' => (w.heap.size < w'.heap.size ∧ w'.cell? ⟨w.heap.size, 0, none⟩ = some (.int .i64 c) ∧ w'.cell? ⟨w.heap.size, 1, none⟩ = some (.int .i64 f) ∧ w'.cell? ⟨w.heap.size, 2, none⟩ = some (.slice p l.length cap)) ∧ (w.heap.size + 1 < w'.heap.size ∧ w'.cell? ⟨w.heap.size + 1, 0, none⟩ = some (.int .i64 ka) ∧ w'.cell? ⟨w.heap.size + 1, 1, none⟩ = some (.int .i64 kb) ∧ w'.cell? ⟨w.heap.size + 1, 2, none⟩ = some (.int .i64 kc) ∧ w'.cell? ⟨w.heap.size + 1, 3, none⟩ = some (.int .i64 kd) ∧ w'.cell? ⟨w.heap.size + 1, 4, none⟩ = some (.int .i64 ke)) ∧ (w3.heap.size < w'.heap.size ∧ w'.cell? ⟨w3.heap.size, 0, none⟩ = some (.int .i64 c) ∧ w'.cell? ⟨w3.heap.size, 1, none⟩ = some (.int .i64 f) ∧ w'.cell? ⟨w3.heap.size, 2, none⟩ = some (.slice (some ⟨gqx0, 0, none⟩) l.length l.length)) ∧ OwnS w' w2.heap.size (some (⟨gqx0, 0, none⟩ : Addr)) l ∧ Below w.heap.size w w')
        (first | exact S0 | (refine keepS _ _ ?_ (by assumption); assumption) | go_keep)
        (first | (go_at_call 47; refine (impl_GapCounts ⟨ka, kb, kc, kd, ke⟩ _ _ _ _ _ _ S1.2.2.2.1.ints hm).mono ?_; rintro e y2 ⟨q3, d3, rfl, R3, hb2⟩; have S2 := keepS _ _ S1 hb2) | (go_at_call 19; refine (toClock_any _ _ _ _ _ _).mono ?_; rintro e y1 ⟨rfl, hb1⟩; have S1 := keepS _ _ S0 hb1))
      all_goals
        go_wp2_with fail
        go_meet
        exact ⟨⟨_, _, rfl, rfl, R3.mono hb1.size⟩, (below_st (below_st (Below.refl _ w4).drew hb1 (Nat.le_refl _)) hb2 (Nat.le_refl _))⟩
    case rest =>
      obtain ⟨⟨qg0, dg0, rfl, rfl, Rg0⟩, hb⟩ := hcut
      obtain ⟨w5, hwc⟩ : ∃ w5, w5 = wc := ⟨_, rfl⟩
      subst hwc
      have z5 := hb.size
      replace Bx := Bx.keep hb
      replace Bk := Bk.keep hb
      replace Bx0 := Bx0.keep hb
      replace Rw0 := Rw0.below hb
      replace Rqx0 := Rqx0.below hb
      replace hw := below_st hw hb (Nat.le_refl _)
      clear hb
      have hOg0 : ∀ g, ownOf qg0 (gapV ⟨ka, kb, kc, kd, ke⟩ c f l) = some g → w4.heap.size ≤ g ∧ g < w5.heap.size := fun g hg => ownOf_at Rg0 hg
      have hNg0 : (gapV ⟨ka, kb, kc, kd, ke⟩ c f l) ≠ [] → ∀ g, qg0 = some (⟨g, 0, none⟩ : Addr) → w4.heap.size ≤ g ∧ g < w5.heap.size := fun hl g hp => OwnS.lt Rg0 hl hp
      clear cx0 cx1 cx2 ltx ck0 ck1 ck2 ck3 ck4 ltk cx00 cx01 cx02 ltx0
      obtain ⟨cx0, cx1, cx2⟩ := Bx.cell3
      have ltx := Bx.lt
      obtain ⟨ck0, ck1, ck2, ck3, ck4⟩ := Bk.cell5
      have ltk := Bk.lt
      obtain ⟨cx00, cx01, cx02⟩ := Bx0.cell3
      have ltx0 := Bx0.lt
      go_wp2_with fail
      refine (laws_eqInt64S _ _ _ _ _ _ _ Rg0.ints Rw0.ints (by omega)).mono ?_
      rintro e w6 ⟨rfl, hb⟩
      rw [decide_eq_true rfl]
      have z6 := hb.size
      replace Bx := Bx.keep hb
      replace Bk := Bk.keep hb
      replace Bx0 := Bx0.keep hb
      replace Rw0 := Rw0.below hb
      replace Rqx0 := Rqx0.below hb
      replace Rg0 := Rg0.below hb
      replace hw := below_st hw hb (Nat.le_refl _)
      clear hb
      clear cx0 cx1 cx2 ltx ck0 ck1 ck2 ck3 ck4 ltk cx00 cx01 cx02 ltx0
      obtain ⟨cx0, cx1, cx2⟩ := Bx.cell3
      have ltx := Bx.lt
      obtain ⟨ck0, ck1, ck2, ck3, ck4⟩ := Bk.cell5
      have ltk := Bk.lt
      obtain ⟨cx00, cx01, cx02⟩ := Bx0.cell3
      have ltx0 := Bx0.lt
      go_wp2_with fail
      go_cut [51] (fun v0 wx => v0 = .bool false ∧ Below w6.heap.size w6 wx)
      case first =>
        have keepS : ∀ y1 y2 : World, ((w.heap.size < y1.heap.size ∧ y1.cell? ⟨w.heap.size, 0, none⟩ = some (.int .i64 c) ∧ y1.cell? ⟨w.heap.size, 1, none⟩ = some (.int .i64 f) ∧ y1.cell? ⟨w.heap.size, 2, none⟩ = some (.slice p l.length cap)) ∧ (w3.heap.size < y1.heap.size ∧ y1.cell? ⟨w3.heap.size, 0, none⟩ = some (.int .i64 c) ∧ y1.cell? ⟨w3.heap.size, 1, none⟩ = some (.int .i64 f) ∧ y1.cell? ⟨w3.heap.size, 2, none⟩ = some (.slice (some ⟨gqx0, 0, none⟩) l.length l.length)) ∧ OwnS y1 w2.heap.size (some (⟨gqx0, 0, none⟩ : Addr)) l ∧ Below w.heap.size w y1) → Below y1.heap.size y1 y2 → ((w.heap.size < y2.heap.size ∧ y2.cell? ⟨w.heap.size, 0, none⟩ = some (.int .i64 c) ∧ y2.cell? ⟨w.heap.size, 1, none⟩ = some (.int .i64 f) ∧ y2.cell? ⟨w.heap.size, 2, none⟩ = some (.slice p l.length cap)) ∧ (w3.heap.size < y2.heap.size ∧ y2.cell? ⟨w3.heap.size, 0, none⟩ = some (.int .i64 c) ∧ y2.cell? ⟨w3.heap.size, 1, none⟩ = some (.int .i64 f) ∧ y2.cell? ⟨w3.heap.size, 2, none⟩ = some (.slice (some ⟨gqx0, 0, none⟩) l.length l.length)) ∧ OwnS y2 w2.heap.size (some (⟨gqx0, 0, none⟩ : Addr)) l ∧ Below w.heap.size w y2) := by
          rintro y1 y2 ⟨⟨s0, s0_0, s0_1, s0_2⟩, ⟨s1, s1_0, s1_1, s1_2⟩, t0, hv⟩ hb
          obtain ⟨hc, -⟩ := bcell hb
          have := hb.size
          exact ⟨⟨by omega, (hc _ _ s0).trans s0_0, (hc _ _ s0).trans s0_1, (hc _ _ s0).trans s0_2⟩, ⟨by omega, (hc _ _ s1).trans s1_0, (hc _ _ s1).trans s1_1, (hc _ _ s1).trans s1_2⟩, t0.below hb, below_st hv hb (Nat.le_refl _)⟩
        have S0 : (w.heap.size < w6.drew.heap.size ∧ w6.drew.cell? ⟨w.heap.size, 0, none⟩ = some (.int .i64 c) ∧ w6.drew.cell? ⟨w.heap.size, 1, none⟩ = some (.int .i64 f) ∧ w6.drew.cell? ⟨w.heap.size, 2, none⟩ = some (.slice p l.length cap)) ∧ (w3.heap.size < w6.drew.heap.size ∧ w6.drew.cell? ⟨w3.heap.size, 0, none⟩ = some (.int .i64 c) ∧ w6.drew.cell? ⟨w3.heap.size, 1, none⟩ = some (.int .i64 f) ∧ w6.drew.cell? ⟨w3.heap.size, 2, none⟩ = some (.slice (some ⟨gqx0, 0, none⟩) l.length l.length)) ∧ OwnS w6.drew w2.heap.size (some (⟨gqx0, 0, none⟩ : Addr)) l ∧ Below w.heap.size w w6.drew := ⟨⟨Bx.lt, cx0, cx1, cx2⟩, ⟨Bx0.lt, cx00, cx01, cx02⟩, Rqx0.below (Below.refl _ _).drew, hw.drew⟩
        go_region_held3 (fun w' => (w.heap.size < w'.heap.size ∧ w'.cell? ⟨w.heap.size, 0, none⟩ = some (.int .i64 c) ∧ w'.cell? ⟨w.heap.size, 1, none⟩ = some (.int .i64 f) ∧ w'.cell? ⟨w.heap.size, 2, none⟩ = some (.slice p l.length cap)) ∧ (w3.heap.size < w'.heap.size ∧ w'.cell? ⟨w3.heap.size, 0, none⟩ = some (.int .i64 c) ∧ w'.cell? ⟨w3.heap.size, 1, none⟩ = some (.int .i64 f) ∧ w'.cell? ⟨w3.heap.size, 2, none⟩ = some (.slice (some ⟨gqx0, 0, none⟩) l.length l.length)) ∧ OwnS w' w2.heap.size (some (⟨gqx0, 0, none⟩ : Addr)) l ∧ Below w.heap.size w w')
          (first | exact S0 | (refine keepS _ _ ?_ (by assumption); assumption) | go_keep)
          (first | (go_at_call 29; refine (laws_eqFlux_same _ _ _ _ _ _ _ _ S1.2.2.1.ints r6.ints (by omega)).mono ?_; rintro e y2 ⟨rfl, hb2⟩; have S2 := keepS _ _ S1 hb2) | (go_at_call 27; refine (laws_toFlux _ _ _ _ _ _ (hI.below S0.2.2.2) hm).mono ?_; rintro e y1 ⟨g6, rfl, hg6, r6, hb1⟩; have S1 := keepS _ _ S0 hb1))
        all_goals
          go_wp2_with fail
          go_meet
          exact ⟨rfl, (below_st (below_st (Below.refl _ w6).drew hb1 (Nat.le_refl _)) hb2 (Nat.le_refl _))⟩
      case rest =>
        obtain ⟨rfl, hb⟩ := hcut
        obtain ⟨w7, hwc⟩ : ∃ w7, w7 = wc := ⟨_, rfl⟩
        subst hwc
        have z7 := hb.size
        replace Bx := Bx.keep hb
        replace Bk := Bk.keep hb
        replace Bx0 := Bx0.keep hb
        replace Rw0 := Rw0.below hb
        replace Rqx0 := Rqx0.below hb
        replace Rg0 := Rg0.below hb
        replace hw := below_st hw hb (Nat.le_refl _)
        clear hb
        clear cx0 cx1 cx2 ltx ck0 ck1 ck2 ck3 ck4 ltk cx00 cx01 cx02 ltx0
        obtain ⟨cx0, cx1, cx2⟩ := Bx.cell3
        have ltx := Bx.lt
        obtain ⟨ck0, ck1, ck2, ck3, ck4⟩ := Bk.cell5
        have ltk := Bk.lt
        obtain ⟨cx00, cx01, cx02⟩ := Bx0.cell3
        have ltx0 := Bx0.lt
        go_wp2_with fail
        refine (laws_markFlux _ _ _ _ _ _ _ _ Rqx0 (by omega) (by omega)).mono ?_
        rintro e w8 ⟨rfl, Rnew, ha⟩
        have z8 := ha.size
        replace Bx := Bx.asides ha (fun e => by have := hOqx0 _ e; omega)
        replace Bk := Bk.asides ha (fun e => by have := hOqx0 _ e; omega)
        replace Bx0 := Bx0.asides ha (fun e => by have := hOqx0 _ e; omega)
        replace Rw0 := Rw0.asides ha (fun hl g hp e => by have h1 := hNw0 hl g hp; have h2 := hOqx0 g e; omega)
        replace Rg0 := Rg0.asides ha (fun hl g hp e => by have h1 := hNg0 hl g hp; have h2 := hOqx0 g e; omega)
        replace hw := hw.trans (ha.below hw.size (fun g e => by have := hOqx0 g e; omega))
        replace Rqx0 := Rnew
        clear ha
        clear Rqx0 hOqx0 hNqx0
        clear cx0 cx1 cx2 ltx ck0 ck1 ck2 ck3 ck4 ltk cx00 cx01 cx02 ltx0
        obtain ⟨cx0, cx1, cx2⟩ := Bx.cell3
        have ltx := Bx.lt
        obtain ⟨ck0, ck1, ck2, ck3, ck4⟩ := Bk.cell5
        have ltk := Bk.lt
        obtain ⟨cx00, cx01, cx02⟩ := Bx0.cell3
        have ltx0 := Bx0.lt
        go_wp2_with fail
        refine (laws_eqInt64S _ _ _ _ _ _ _ Rg0.ints Rw0.ints (by omega)).mono ?_
        rintro e w9 ⟨rfl, hb⟩
        rw [decide_eq_true rfl]
        have z9 := hb.size
        replace Bx := Bx.keep hb
        replace Bk := Bk.keep hb
        replace Bx0 := Bx0.keep hb
        replace Rw0 := Rw0.below hb
        replace Rg0 := Rg0.below hb
        replace hw := below_st hw hb (Nat.le_refl _)
        clear hb
        clear cx0 cx1 cx2 ltx ck0 ck1 ck2 ck3 ck4 ltk cx00 cx01 cx02 ltx0
        obtain ⟨cx0, cx1, cx2⟩ := Bx.cell3
        have ltx := Bx.lt
        obtain ⟨ck0, ck1, ck2, ck3, ck4⟩ := Bk.cell5
        have ltk := Bk.lt
        obtain ⟨cx00, cx01, cx02⟩ := Bx0.cell3
        have ltx0 := Bx0.lt
        go_wp2_with fail
        refine (laws_markInt64S _ _ _ _ _ _ Rg0 (by omega) (by omega)).mono ?_
        rintro e w10 ⟨rfl, Rnew, ha⟩
        have z10 := ha.size
        replace Bx := Bx.asides ha (fun e => by have := hOg0 _ e; omega)
        replace Bk := Bk.asides ha (fun e => by have := hOg0 _ e; omega)
        replace Bx0 := Bx0.asides ha (fun e => by have := hOg0 _ e; omega)
        replace Rw0 := Rw0.asides ha (fun hl g hp e => by have h1 := hNw0 hl g hp; have h2 := hOg0 g e; omega)
        replace hw := hw.trans (ha.below hw.size (fun g e => by have := hOg0 g e; omega))
        replace Rg0 := Rnew
        clear ha
        clear cx0 cx1 cx2 ltx ck0 ck1 ck2 ck3 ck4 ltk cx00 cx01 cx02 ltx0
        obtain ⟨cx0, cx1, cx2⟩ := Bx.cell3
        have ltx := Bx.lt
        obtain ⟨ck0, ck1, ck2, ck3, ck4⟩ := Bk.cell5
        have ltk := Bk.lt
        obtain ⟨cx00, cx01, cx02⟩ := Bx0.cell3
        have ltx0 := Bx0.lt
        go_wp2_with fail
        refine (laws_heldInt64S _ _ _ _ _ Rg0.ints (by omega) (by omega)).mono ?_
        rintro e w11 ⟨rfl, hb⟩
        have z11 := hb.size
        replace Bx := Bx.keep hb
        replace Bk := Bk.keep hb
        replace Bx0 := Bx0.keep hb
        replace Rw0 := Rw0.below hb
        replace Rg0 := Rg0.below hb
        replace hw := below_st hw hb (Nat.le_refl _)
        clear hb
        clear cx0 cx1 cx2 ltx ck0 ck1 ck2 ck3 ck4 ltk cx00 cx01 cx02 ltx0
        obtain ⟨cx0, cx1, cx2⟩ := Bx.cell3
        have ltx := Bx.lt
        obtain ⟨ck0, ck1, ck2, ck3, ck4⟩ := Bk.cell5
        have ltk := Bk.lt
        obtain ⟨cx00, cx01, cx02⟩ := Bx0.cell3
        have ltx0 := Bx0.lt
        go_wp2_with fail
        go_cut [14, 15] (fun v0 v1 wx => (∃ q d, v0 = .slice q (gapV ⟨ka, kb, kc, kd, ke⟩ c f l).length d ∧ v1 = .int .i64 (runCode ⟨ka, kb, kc, kd, ke⟩ c f l) ∧ OwnS wx w11.heap.size q (gapV ⟨ka, kb, kc, kd, ke⟩ c f l)) ∧ Below w11.heap.size w11 wx)
        case first =>
          have keepS : ∀ y1 y2 : World, ((w.heap.size < y1.heap.size ∧ y1.cell? ⟨w.heap.size, 0, none⟩ = some (.int .i64 c) ∧ y1.cell? ⟨w.heap.size, 1, none⟩ = some (.int .i64 f) ∧ y1.cell? ⟨w.heap.size, 2, none⟩ = some (.slice p l.length cap)) ∧ (w.heap.size + 1 < y1.heap.size ∧ y1.cell? ⟨w.heap.size + 1, 0, none⟩ = some (.int .i64 ka) ∧ y1.cell? ⟨w.heap.size + 1, 1, none⟩ = some (.int .i64 kb) ∧ y1.cell? ⟨w.heap.size + 1, 2, none⟩ = some (.int .i64 kc) ∧ y1.cell? ⟨w.heap.size + 1, 3, none⟩ = some (.int .i64 kd) ∧ y1.cell? ⟨w.heap.size + 1, 4, none⟩ = some (.int .i64 ke)) ∧ Below w.heap.size w y1) → Below y1.heap.size y1 y2 → ((w.heap.size < y2.heap.size ∧ y2.cell? ⟨w.heap.size, 0, none⟩ = some (.int .i64 c) ∧ y2.cell? ⟨w.heap.size, 1, none⟩ = some (.int .i64 f) ∧ y2.cell? ⟨w.heap.size, 2, none⟩ = some (.slice p l.length cap)) ∧ (w.heap.size + 1 < y2.heap.size ∧ y2.cell? ⟨w.heap.size + 1, 0, none⟩ = some (.int .i64 ka) ∧ y2.cell? ⟨w.heap.size + 1, 1, none⟩ = some (.int .i64 kb) ∧ y2.cell? ⟨w.heap.size + 1, 2, none⟩ = some (.int .i64 kc) ∧ y2.cell? ⟨w.heap.size + 1, 3, none⟩ = some (.int .i64 kd) ∧ y2.cell? ⟨w.heap.size + 1, 4, none⟩ = some (.int .i64 ke)) ∧ Below w.heap.size w y2) := by
            rintro y1 y2 ⟨⟨s0, s0_0, s0_1, s0_2⟩, ⟨s1, s1_0, s1_1, s1_2, s1_3, s1_4⟩, hv⟩ hb
            obtain ⟨hc, -⟩ := bcell hb
            have := hb.size
            exact ⟨⟨by omega, (hc _ _ s0).trans s0_0, (hc _ _ s0).trans s0_1, (hc _ _ s0).trans s0_2⟩, ⟨by omega, (hc _ _ s1).trans s1_0, (hc _ _ s1).trans s1_1, (hc _ _ s1).trans s1_2, (hc _ _ s1).trans s1_3, (hc _ _ s1).trans s1_4⟩, below_st hv hb (Nat.le_refl _)⟩
          have S0 : (w.heap.size < w11.drew.heap.size ∧ w11.drew.cell? ⟨w.heap.size, 0, none⟩ = some (.int .i64 c) ∧ w11.drew.cell? ⟨w.heap.size, 1, none⟩ = some (.int .i64 f) ∧ w11.drew.cell? ⟨w.heap.size, 2, none⟩ = some (.slice p l.length cap)) ∧ (w.heap.size + 1 < w11.drew.heap.size ∧ w11.drew.cell? ⟨w.heap.size + 1, 0, none⟩ = some (.int .i64 ka) ∧ w11.drew.cell? ⟨w.heap.size + 1, 1, none⟩ = some (.int .i64 kb) ∧ w11.drew.cell? ⟨w.heap.size + 1, 2, none⟩ = some (.int .i64 kc) ∧ w11.drew.cell? ⟨w.heap.size + 1, 3, none⟩ = some (.int .i64 kd) ∧ w11.drew.cell? ⟨w.heap.size + 1, 4, none⟩ = some (.int .i64 ke)) ∧ Below w.heap.size w w11.drew := ⟨⟨Bx.lt, cx0, cx1, cx2⟩, ⟨Bk.lt, ck0, ck1, ck2, ck3, ck4⟩, hw.drew⟩
          go_region_held3 (fun w' => (w.heap.size < w'.heap.size ∧ w'.cell? ⟨w.heap.size, 0, none⟩ = some (.int .i64 c) ∧ w'.cell? ⟨w.heap.size, 1, none⟩ = some (.int .i64 f) ∧ w'.cell? ⟨w.heap.size, 2, none⟩ = some (.slice p l.length cap)) ∧ (w.heap.size + 1 < w'.heap.size ∧ w'.cell? ⟨w.heap.size + 1, 0, none⟩ = some (.int .i64 ka) ∧ w'.cell? ⟨w.heap.size + 1, 1, none⟩ = some (.int .i64 kb) ∧ w'.cell? ⟨w.heap.size + 1, 2, none⟩ = some (.int .i64 kc) ∧ w'.cell? ⟨w.heap.size + 1, 3, none⟩ = some (.int .i64 kd) ∧ w'.cell? ⟨w.heap.size + 1, 4, none⟩ = some (.int .i64 ke)) ∧ Below w.heap.size w w')
            (first | exact S0 | (refine keepS _ _ ?_ (by assumption); assumption) | go_keep)
            (first | (go_at_call 47; refine (impl_GapCounts ⟨ka, kb, kc, kd, ke⟩ _ _ _ _ _ _ (r1.below hb2).ints hm).mono ?_; rintro e y3 ⟨q3, d3, rfl, R3, hb3⟩; have S3 := keepS _ _ S2 hb3) | (go_at_call 19; refine (toClock_any _ _ _ _ _ _).mono ?_; rintro e y2 ⟨rfl, hb2⟩; have S2 := keepS _ _ S1 hb2) | (go_at_call 27; refine (laws_toFlux _ _ _ _ _ _ (hI.below S0.2.2) hm).mono ?_; rintro e y1 ⟨g1, rfl, hg1, r1, hb1⟩; have S1 := keepS _ _ S0 hb1))
          all_goals
            go_wp2_with fail
            go_meet
            exact ⟨⟨_, _, rfl, rfl, R3.mono (Nat.le_trans hb1.size hb2.size)⟩, (below_st (below_st (below_st (Below.refl _ w11).drew hb1 (Nat.le_refl _)) hb2 (Nat.le_refl _)) hb3 (Nat.le_refl _))⟩
        case rest =>
          obtain ⟨⟨qh0, dh0, rfl, rfl, Rh0⟩, hb⟩ := hcut
          obtain ⟨w12, hwc⟩ : ∃ w12, w12 = wc := ⟨_, rfl⟩
          subst hwc
          have z12 := hb.size
          replace Bx := Bx.keep hb
          replace Bk := Bk.keep hb
          replace Bx0 := Bx0.keep hb
          replace Rw0 := Rw0.below hb
          replace Rg0 := Rg0.below hb
          replace hw := below_st hw hb (Nat.le_refl _)
          clear hb
          have hOh0 : ∀ g, ownOf qh0 (gapV ⟨ka, kb, kc, kd, ke⟩ c f l) = some g → w11.heap.size ≤ g ∧ g < w12.heap.size := fun g hg => ownOf_at Rh0 hg
          have hNh0 : (gapV ⟨ka, kb, kc, kd, ke⟩ c f l) ≠ [] → ∀ g, qh0 = some (⟨g, 0, none⟩ : Addr) → w11.heap.size ≤ g ∧ g < w12.heap.size := fun hl g hp => OwnS.lt Rh0 hl hp
          clear cx0 cx1 cx2 ltx ck0 ck1 ck2 ck3 ck4 ltk cx00 cx01 cx02 ltx0
          obtain ⟨cx0, cx1, cx2⟩ := Bx.cell3
          have ltx := Bx.lt
          obtain ⟨ck0, ck1, ck2, ck3, ck4⟩ := Bk.cell5
          have ltk := Bk.lt
          obtain ⟨cx00, cx01, cx02⟩ := Bx0.cell3
          have ltx0 := Bx0.lt
          go_wp2_with fail
          refine (laws_eqInt64S _ _ _ _ _ _ _ Rh0.ints Rw0.ints (by omega)).mono ?_
          rintro e w13 ⟨rfl, hb⟩
          rw [decide_eq_true rfl]
          have z13 := hb.size
          replace Bx := Bx.keep hb
          replace Bk := Bk.keep hb
          replace Bx0 := Bx0.keep hb
          replace Rw0 := Rw0.below hb
          replace Rg0 := Rg0.below hb
          replace Rh0 := Rh0.below hb
          replace hw := below_st hw hb (Nat.le_refl _)
          clear hb
          clear cx0 cx1 cx2 ltx ck0 ck1 ck2 ck3 ck4 ltk cx00 cx01 cx02 ltx0
          obtain ⟨cx0, cx1, cx2⟩ := Bx.cell3
          have ltx := Bx.lt
          obtain ⟨ck0, ck1, ck2, ck3, ck4⟩ := Bk.cell5
          have ltk := Bk.lt
          obtain ⟨cx00, cx01, cx02⟩ := Bx0.cell3
          have ltx0 := Bx0.lt
          go_wp2_with fail
          refine (laws_heldInt64S _ _ _ _ _ Rg0.ints (by omega) (by omega)).mono ?_
          rintro e w14 ⟨rfl, hb⟩
          have z14 := hb.size
          replace Bx := Bx.keep hb
          replace Bk := Bk.keep hb
          replace Bx0 := Bx0.keep hb
          replace Rw0 := Rw0.below hb
          replace Rg0 := Rg0.below hb
          replace Rh0 := Rh0.below hb
          replace hw := below_st hw hb (Nat.le_refl _)
          clear hb
          clear cx0 cx1 cx2 ltx ck0 ck1 ck2 ck3 ck4 ltk cx00 cx01 cx02 ltx0
          obtain ⟨cx0, cx1, cx2⟩ := Bx.cell3
          have ltx := Bx.lt
          obtain ⟨ck0, ck1, ck2, ck3, ck4⟩ := Bk.cell5
          have ltk := Bk.lt
          obtain ⟨cx00, cx01, cx02⟩ := Bx0.cell3
          have ltx0 := Bx0.lt
          go_wp2_with fail
          go_ret
          exact ⟨rfl, hw⟩
end Go.Proofs.Ytdoaoeenmfnjhaa
