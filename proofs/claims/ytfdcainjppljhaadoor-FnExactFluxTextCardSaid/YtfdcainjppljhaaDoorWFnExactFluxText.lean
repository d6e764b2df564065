/- The law's walk: FnExactFluxText. After the walk of RevolutionOf. -/
import Derived.Test.YtfdcainjppljhaaDoorTxVW
import Derived.Test.YtfdcainjppljhaaDoorMarksW
import Derived.Test.YtfdcainjppljhaaDoorOpenF
import Derived.Test.YtfdcainjppljhaaDoorLawAid
import Derived.Deep.RegionHeld3
import Derived.Deep.DeepCutAuto
namespace Go.Proofs.YtfdcainjppljhaaDoor
open Go.RowKit
set_option linter.unusedVariables false
set_option maxHeartbeats 4000000 in
set_option maxRecDepth 20000 in
theorem walk_FnExactFluxText (x : Flx) (w : World) (hx : x.ok w) (hT : Tab w) :
    Calls Tryd.prog 3 #[x.val] w fun e w' => e = .returned (.bool true) ∧ Below w.heap.size w w' := by
  obtain ⟨c, f, p, l, cap⟩ := x
  obtain ⟨-, hI, hlen, hwf⟩ := hx
  simp only [Flx.val, Num.val] at hI hlen hwf
  simp only [Flx.val, Num.val, Clk.val]
  by_cases hl : (l.length : Int) ≤ 1048576
  rotate_left
  · have hz0 : szL (1048576) l.length = -1 := by unfold szL; rw [if_pos (by omega)]
    go_enter Tryd.func3, Tryd.ntmps3
    go_wp2_with fail
    have hw : Below w.heap.size w w := Below.refl _ _
    have Bx := Blk.new w 24 #[.int .i64 c, .int .i64 f, .slice p l.length cap]
    replace hw := hw.alloc hw.size (.cells #[.int .i64 c, .int .i64 f, .slice p l.length cap] 24)
    have z0 : w.heap.size + 1 ≤ (w.alloc (.cells #[.int .i64 c, .int .i64 f, .slice p l.length cap] 24)).heap.size := by simp
    generalize (w.alloc (.cells #[.int .i64 c, .int .i64 f, .slice p l.length cap] 24)) = w0 at Bx hw z0 ⊢
    obtain ⟨cx0, cx1, cx2⟩ := Bx.cell3
    go_wp2_with fail
    refine (laws_szFlux _ _ _ _ _ _ _ hlen (by omega)).mono ?_
    rintro e w1 ⟨rfl, hb⟩
    rw [hz0]
    have z1 := hb.size
    replace Bx := Bx.keep hb
    replace hw := below_st hw hb (Nat.le_refl _)
    clear hb
    clear cx0 cx1 cx2
    obtain ⟨cx0, cx1, cx2⟩ := Bx.cell3
    go_wp2_with fail
    go_ret
    exact ⟨rfl, hw⟩
  have hz0 : szL (1048576) l.length = 1048576 - (l.length : Int) := by unfold szL; rw [if_neg (by omega)]
  have hy0 : decide (1048576 - (l.length : Int) < 0) = false := by simp; omega
  have hm : l.length ≤ 1048576 := by omega
  go_enter Tryd.func3, Tryd.ntmps3
  go_wp2_with fail
  have hw : Below w.heap.size w w := Below.refl _ _
  have Bx := Blk.new w 24 #[.int .i64 c, .int .i64 f, .slice p l.length cap]
  replace hw := hw.alloc hw.size (.cells #[.int .i64 c, .int .i64 f, .slice p l.length cap] 24)
  have z0 : w.heap.size + 1 ≤ (w.alloc (.cells #[.int .i64 c, .int .i64 f, .slice p l.length cap] 24)).heap.size := by simp
  generalize (w.alloc (.cells #[.int .i64 c, .int .i64 f, .slice p l.length cap] 24)) = w0 at Bx hw z0 ⊢
  obtain ⟨cx0, cx1, cx2⟩ := Bx.cell3
  go_wp2_with fail
  refine (laws_szFlux _ _ _ _ _ _ _ hlen (by omega)).mono ?_
  rintro e w1 ⟨rfl, hb⟩
  rw [hz0]
  have z1 := hb.size
  replace Bx := Bx.keep hb
  replace hw := below_st hw hb (Nat.le_refl _)
  clear hb
  clear cx0 cx1 cx2
  obtain ⟨cx0, cx1, cx2⟩ := Bx.cell3
  go_wp2_with fail
  refine (laws_toFlux _ _ _ _ _ _ (hI.below hw) hm).mono ?_
  rintro e w2 ⟨ga, rfl, hga, hr, hb⟩
  have Ra := OwnS.of_row hr hga; clear hr
  have z2 := hb.size
  replace Bx := Bx.keep hb
  replace hw := below_st hw hb (Nat.le_refl _)
  clear hb
  have hOa : ∀ g, ownOf (some (⟨ga, 0, none⟩ : Addr)) l = some g → w1.heap.size ≤ g ∧ g < w2.heap.size := fun g hg => ownOf_at Ra hg
  have hNa : l ≠ [] → ∀ g, (some (⟨ga, 0, none⟩ : Addr)) = some (⟨g, 0, none⟩ : Addr) → w1.heap.size ≤ g ∧ g < w2.heap.size := fun hl g hp => OwnS.lt Ra hl hp
  clear cx0 cx1 cx2
  obtain ⟨cx0, cx1, cx2⟩ := Bx.cell3
  go_wp2_with fail
  refine (spec_FluxText _ _ _ _ _ _ Ra.ints hm).mono ?_
  rintro e w3 ⟨rfl, hb⟩
  have z3 := hb.size
  replace Bx := Bx.keep hb
  replace Ra := Ra.below hb
  replace hw := below_st hw hb (Nat.le_refl _)
  clear hb
  clear cx0 cx1 cx2
  obtain ⟨cx0, cx1, cx2⟩ := Bx.cell3
  go_wp2_with fail
  refine (laws_toFlux _ _ _ _ _ _ (hI.below hw) hm).mono ?_
  rintro e w4 ⟨gqx0, rfl, hgqx0, hr, hb⟩
  have Rqx0 := OwnS.of_row hr hgqx0; clear hr
  have z4 := hb.size
  replace Bx := Bx.keep hb
  replace Ra := Ra.below hb
  replace hw := below_st hw hb (Nat.le_refl _)
  clear hb
  have hOqx0 : ∀ g, ownOf (some (⟨gqx0, 0, none⟩ : Addr)) l = some g → w3.heap.size ≤ g ∧ g < w4.heap.size := fun g hg => ownOf_at Rqx0 hg
  have hNqx0 : l ≠ [] → ∀ g, (some (⟨gqx0, 0, none⟩ : Addr)) = some (⟨g, 0, none⟩ : Addr) → w3.heap.size ≤ g ∧ g < w4.heap.size := fun hl g hp => OwnS.lt Rqx0 hl hp
  clear cx0 cx1 cx2
  obtain ⟨cx0, cx1, cx2⟩ := Bx.cell3
  go_wp2_with fail
  have Bx0 := Blk.new w4 27 #[.int .i64 c, .int .i64 f, .slice (some ⟨gqx0, 0, none⟩) l.length l.length]
  replace Bx := Bx.keep ((Below.refl _ w4).alloc (Nat.le_refl _) (.cells #[.int .i64 c, .int .i64 f, .slice (some ⟨gqx0, 0, none⟩) l.length l.length] 27))
  replace Ra := Ra.below ((Below.refl _ w4).alloc (Nat.le_refl _) (.cells #[.int .i64 c, .int .i64 f, .slice (some ⟨gqx0, 0, none⟩) l.length l.length] 27))
  replace Rqx0 := Rqx0.below ((Below.refl _ w4).alloc (Nat.le_refl _) (.cells #[.int .i64 c, .int .i64 f, .slice (some ⟨gqx0, 0, none⟩) l.length l.length] 27))
  replace hw := hw.alloc hw.size (.cells #[.int .i64 c, .int .i64 f, .slice (some ⟨gqx0, 0, none⟩) l.length l.length] 27)
  have z5 : w4.heap.size + 1 ≤ (w4.alloc (.cells #[.int .i64 c, .int .i64 f, .slice (some ⟨gqx0, 0, none⟩) l.length l.length] 27)).heap.size := by simp
  generalize w4.alloc (.cells #[.int .i64 c, .int .i64 f, .slice (some ⟨gqx0, 0, none⟩) l.length l.length] 27) = w5 at Bx Bx0 Ra Rqx0 hw z5 ⊢
  clear cx0 cx1 cx2
  obtain ⟨cx0, cx1, cx2⟩ := Bx.cell3
  obtain ⟨cx00, cx01, cx02⟩ := Bx0.cell3
  go_wp2_with fail
  refine (impl_FluxText _ _ _ _ _ _ Rqx0.ints hm (hT.below hw)).mono ?_
  rintro e w6 ⟨rfl, hb⟩
  have z6 := hb.size
  replace Bx := Bx.keep hb
  replace Bx0 := Bx0.keep hb
  replace Ra := Ra.below hb
  replace Rqx0 := Rqx0.below hb
  replace hw := below_st hw hb (Nat.le_refl _)
  clear hb
  clear cx0 cx1 cx2 cx00 cx01 cx02
  obtain ⟨cx0, cx1, cx2⟩ := Bx.cell3
  obtain ⟨cx00, cx01, cx02⟩ := Bx0.cell3
  go_wp2_with fail
  go_cut [26] (fun v0 wx => v0 = .bool false ∧ Below w6.heap.size w6 wx)
  case first =>
    have keepS : ∀ y1 y2 : World, ((w.heap.size < y1.heap.size ∧ y1.cell? ⟨w.heap.size, 0, none⟩ = some (.int .i64 c) ∧ y1.cell? ⟨w.heap.size, 1, none⟩ = some (.int .i64 f) ∧ y1.cell? ⟨w.heap.size, 2, none⟩ = some (.slice p l.length cap)) ∧ (w4.heap.size < y1.heap.size ∧ y1.cell? ⟨w4.heap.size, 0, none⟩ = some (.int .i64 c) ∧ y1.cell? ⟨w4.heap.size, 1, none⟩ = some (.int .i64 f) ∧ y1.cell? ⟨w4.heap.size, 2, none⟩ = some (.slice (some ⟨gqx0, 0, none⟩) l.length l.length)) ∧ OwnS y1 w3.heap.size (some (⟨gqx0, 0, none⟩ : Addr)) l ∧ Below w.heap.size w y1) → Below y1.heap.size y1 y2 → ((w.heap.size < y2.heap.size ∧ y2.cell? ⟨w.heap.size, 0, none⟩ = some (.int .i64 c) ∧ y2.cell? ⟨w.heap.size, 1, none⟩ = some (.int .i64 f) ∧ y2.cell? ⟨w.heap.size, 2, none⟩ = some (.slice p l.length cap)) ∧ (w4.heap.size < y2.heap.size ∧ y2.cell? ⟨w4.heap.size, 0, none⟩ = some (.int .i64 c) ∧ y2.cell? ⟨w4.heap.size, 1, none⟩ = some (.int .i64 f) ∧ y2.cell? ⟨w4.heap.size, 2, none⟩ = some (.slice (some ⟨gqx0, 0, none⟩) l.length l.length)) ∧ OwnS y2 w3.heap.size (some (⟨gqx0, 0, none⟩ : Addr)) l ∧ Below w.heap.size w y2) := by
      rintro y1 y2 ⟨⟨s0, s0_0, s0_1, s0_2⟩, ⟨s1, s1_0, s1_1, s1_2⟩, t0, hv⟩ hb
      obtain ⟨hc, -⟩ := bcell hb
      have := hb.size
      exact ⟨⟨by omega, (hc _ _ s0).trans s0_0, (hc _ _ s0).trans s0_1, (hc _ _ s0).trans s0_2⟩, ⟨by omega, (hc _ _ s1).trans s1_0, (hc _ _ s1).trans s1_1, (hc _ _ s1).trans s1_2⟩, t0.below hb, below_st hv hb (Nat.le_refl _)⟩
    have S0 : (w.heap.size < w6.drew.heap.size ∧ w6.drew.cell? ⟨w.heap.size, 0, none⟩ = some (.int .i64 c) ∧ w6.drew.cell? ⟨w.heap.size, 1, none⟩ = some (.int .i64 f) ∧ w6.drew.cell? ⟨w.heap.size, 2, none⟩ = some (.slice p l.length cap)) ∧ (w4.heap.size < w6.drew.heap.size ∧ w6.drew.cell? ⟨w4.heap.size, 0, none⟩ = some (.int .i64 c) ∧ w6.drew.cell? ⟨w4.heap.size, 1, none⟩ = some (.int .i64 f) ∧ w6.drew.cell? ⟨w4.heap.size, 2, none⟩ = some (.slice (some ⟨gqx0, 0, none⟩) l.length l.length)) ∧ OwnS w6.drew w3.heap.size (some (⟨gqx0, 0, none⟩ : Addr)) l ∧ Below w.heap.size w w6.drew := ⟨⟨Bx.lt, cx0, cx1, cx2⟩, ⟨Bx0.lt, cx00, cx01, cx02⟩, Rqx0.below (Below.refl _ _).drew, hw.drew⟩
    go_region_held3 (fun w' => (w.heap.size < w'.heap.size ∧ w'.cell? ⟨w.heap.size, 0, none⟩ = some (.int .i64 c) ∧ w'.cell? ⟨w.heap.size, 1, none⟩ = some (.int .i64 f) ∧ w'.cell? ⟨w.heap.size, 2, none⟩ = some (.slice p l.length cap)) ∧ (w4.heap.size < w'.heap.size ∧ w'.cell? ⟨w4.heap.size, 0, none⟩ = some (.int .i64 c) ∧ w'.cell? ⟨w4.heap.size, 1, none⟩ = some (.int .i64 f) ∧ w'.cell? ⟨w4.heap.size, 2, none⟩ = some (.slice (some ⟨gqx0, 0, none⟩) l.length l.length)) ∧ OwnS w' w3.heap.size (some (⟨gqx0, 0, none⟩ : Addr)) l ∧ Below w.heap.size w w')
      (first | exact S0 | (refine keepS _ _ ?_ (by assumption); assumption) | go_keep)
      (first | (go_at_call 7; refine (laws_toFlux _ _ _ _ _ _ (hI.below S0.2.2.2) hm).mono ?_; rintro e y1 ⟨g6, rfl, hg6, r6, hb1⟩; have S1 := keepS _ _ S0 hb1) | (go_at_call 9; refine (laws_eqFlux_same _ _ _ _ _ _ _ _ S1.2.2.1.ints r6.ints (by omega)).mono ?_; rintro e y2 ⟨rfl, hb2⟩; have S2 := keepS _ _ S1 hb2))
    all_goals
      go_wp2_with fail
      go_meet
      exact ⟨rfl, (below_st (below_st (Below.refl _ w6).drew hb1 (Nat.le_refl _)) hb2 (Nat.le_refl _))⟩
  case rest =>
    obtain ⟨rfl, hb⟩ := hcut
    obtain ⟨w7, hwc⟩ : ∃ w7, w7 = wc := ⟨_, rfl⟩
    subst hwc
    have z7 := hb.size
    replace Bx := Bx.keep hb
    replace Bx0 := Bx0.keep hb
    replace Ra := Ra.below hb
    replace Rqx0 := Rqx0.below hb
    replace hw := below_st hw hb (Nat.le_refl _)
    clear hb
    clear cx0 cx1 cx2 cx00 cx01 cx02
    obtain ⟨cx0, cx1, cx2⟩ := Bx.cell3
    obtain ⟨cx00, cx01, cx02⟩ := Bx0.cell3
    go_wp2_with fail
    go_ret
    exact ⟨rfl, hw⟩
end Go.Proofs.YtfdcainjppljhaaDoor
