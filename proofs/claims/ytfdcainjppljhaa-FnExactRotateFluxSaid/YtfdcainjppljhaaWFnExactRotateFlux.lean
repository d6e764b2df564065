/- The law's walk: FnExactRotateFlux. Printed by lawsr3.py. -/
import Derived.Test.YtfdcainjppljhaaRotFW
import Derived.Test.YtfdcainjppljhaaMarksW
import Derived.Test.YtfdcainjppljhaaOpenF
import Derived.Test.YtfdcainjppljhaaLawAid
import Derived.Deep.RegionHeld3
import Derived.Deep.DeepCutAuto
namespace Go.Proofs.Ytfdcainjppljhaa
open Go.RowKit
set_option linter.unusedVariables false
set_option maxHeartbeats 4000000 in
set_option maxRecDepth 20000 in
theorem walk_FnExactRotateFlux (x : Flx) (nb : Int) (w : World) (hx : x.ok w) (hnb : (Lit.int .i64 nb).wf = true) :
    Calls Try.prog 3 #[x.val, .int .i64 nb] w fun e w' => e = .returned (.bool true) ∧ Below w.heap.size w w' := by
  obtain ⟨c, f, p, l, cap⟩ := x
  obtain ⟨-, hI, hlen, hwf⟩ := hx
  simp only [Flx.val, Num.val] at hI hlen hwf
  simp only [Flx.val, Num.val, Clk.val]
  by_cases hl : (l.length : Int) ≤ 1048576
  rotate_left
  · have hz0 : szL (1048576) l.length = -1 := by unfold szL; rw [if_pos (by omega)]
    go_enter Try.func3, Try.ntmps3
    go_wp2_with fail
    have hw : Below w.heap.size w w := Below.refl _ _
    have Bx := Blk.new w 24 #[.int .i64 c, .int .i64 f, .slice p l.length cap]
    replace hw := hw.alloc hw.size (.cells #[.int .i64 c, .int .i64 f, .slice p l.length cap] 24)
    have z0 : w.heap.size + 1 ≤ (w.alloc (.cells #[.int .i64 c, .int .i64 f, .slice p l.length cap] 24)).heap.size := by simp
    generalize (w.alloc (.cells #[.int .i64 c, .int .i64 f, .slice p l.length cap] 24)) = w0 at Bx hw z0 ⊢
    obtain ⟨cx0, cx1, cx2⟩ := Bx.cell3
    have ltx := Bx.lt
    go_wp2_with fail
    refine (laws_szFlux _ _ _ _ _ _ _ hlen (by omega)).mono ?_
    rintro e w1 ⟨rfl, hb⟩
    rw [hz0]
    have z1 := hb.size
    replace Bx := Bx.keep hb
    replace hw := below_st hw hb (Nat.le_refl _)
    clear hb
    clear cx0 cx1 cx2 ltx
    obtain ⟨cx0, cx1, cx2⟩ := Bx.cell3
    have ltx := Bx.lt
    go_wp2_with fail
    go_ret
    exact ⟨rfl, hw⟩
  have hz0 : szL (1048576) l.length = 1048576 - (l.length : Int) := by unfold szL; rw [if_neg (by omega)]
  have hy0 : decide (1048576 - (l.length : Int) < 0) = false := by simp; omega
  have hm : l.length ≤ 1048576 := by omega
  go_enter Try.func3, Try.ntmps3
  go_wp2_with fail
  have hw : Below w.heap.size w w := Below.refl _ _
  have Bx := Blk.new w 24 #[.int .i64 c, .int .i64 f, .slice p l.length cap]
  replace hw := hw.alloc hw.size (.cells #[.int .i64 c, .int .i64 f, .slice p l.length cap] 24)
  have z0 : w.heap.size + 1 ≤ (w.alloc (.cells #[.int .i64 c, .int .i64 f, .slice p l.length cap] 24)).heap.size := by simp
  generalize (w.alloc (.cells #[.int .i64 c, .int .i64 f, .slice p l.length cap] 24)) = w0 at Bx hw z0 ⊢
  obtain ⟨cx0, cx1, cx2⟩ := Bx.cell3
  have ltx := Bx.lt
  go_wp2_with fail
  refine (laws_szFlux _ _ _ _ _ _ _ hlen (by omega)).mono ?_
  rintro e w1 ⟨rfl, hb⟩
  rw [hz0]
  have z1 := hb.size
  replace Bx := Bx.keep hb
  replace hw := below_st hw hb (Nat.le_refl _)
  clear hb
  have hR : (roL c f l nb).length ≤ 1048576 := Nat.le_trans (roL_len _ _ _ _) hm
  have hk1 : decide (1 + (l.length : Int) < 0) = false := decide_eq_false (by omega)
  have hk2 : decide (1 + ((roL c f l nb).length : Int) < 0) = false := decide_eq_false (by omega)
  clear cx0 cx1 cx2 ltx
  obtain ⟨cx0, cx1, cx2⟩ := Bx.cell3
  have ltx := Bx.lt
  go_wp2_with fail
  refine (laws_toFlux _ _ _ _ _ _ (hI.below hw) hm).mono ?_
  rintro e w2 ⟨ga, rfl, hga, hr, hb⟩
  have Ra := OwnS.of_row hr hga; clear hr
  have z2 := hb.size
  replace Bx := Bx.keep hb
  replace hw := below_st hw hb (Nat.le_refl _)
  clear hb
  have hOa : ∀ g, ownOf (some (⟨ga, 0, none⟩ : Addr)) l = some g → w1.heap.size ≤ g ∧ g < w2.heap.size := fun g hg => ownOf_at Ra hg
  have hNa : l ≠ [] → ∀ g, (some (⟨ga, 0, none⟩ : Addr)) = some (⟨g, 0, none⟩ : Addr) → w1.heap.size ≤ g ∧ g < w2.heap.size := fun hl g hp => OwnS.lt Ra hl hp
  clear cx0 cx1 cx2 ltx
  obtain ⟨cx0, cx1, cx2⟩ := Bx.cell3
  have ltx := Bx.lt
  go_wp2_with fail
  refine (spec_RotateFlux _ _ _ _ _ _ _ Ra.ints hm ).mono ?_
  rintro e w3 ⟨qw0, dw0, rfl, Rw0, hb⟩
  have z3 := hb.size
  replace Bx := Bx.keep hb
  replace Ra := Ra.below hb
  replace hw := below_st hw hb (Nat.le_refl _)
  clear hb
  have hOw0 : ∀ g, ownOf qw0 (roL c f l nb) = some g → w2.heap.size ≤ g ∧ g < w3.heap.size := fun g hg => ownOf_at Rw0 hg
  have hNw0 : (roL c f l nb) ≠ [] → ∀ g, qw0 = some (⟨g, 0, none⟩ : Addr) → w2.heap.size ≤ g ∧ g < w3.heap.size := fun hl g hp => OwnS.lt Rw0 hl hp
  clear Ra hOa hNa
  clear cx0 cx1 cx2 ltx
  obtain ⟨cx0, cx1, cx2⟩ := Bx.cell3
  have ltx := Bx.lt
  go_wp2_with fail
  have Bw0 := Blk.new w3 26 #[.int .i64 (roC c f l nb), .int .i64 (roF c f l nb), .slice qw0 (roL c f l nb).length dw0]
  replace Bx := Bx.keep ((Below.refl _ w3).alloc (Nat.le_refl _) (.cells #[.int .i64 (roC c f l nb), .int .i64 (roF c f l nb), .slice qw0 (roL c f l nb).length dw0] 26))
  replace Rw0 := Rw0.below ((Below.refl _ w3).alloc (Nat.le_refl _) (.cells #[.int .i64 (roC c f l nb), .int .i64 (roF c f l nb), .slice qw0 (roL c f l nb).length dw0] 26))
  replace hw := hw.alloc hw.size (.cells #[.int .i64 (roC c f l nb), .int .i64 (roF c f l nb), .slice qw0 (roL c f l nb).length dw0] 26)
  have z4 : w3.heap.size + 1 ≤ (w3.alloc (.cells #[.int .i64 (roC c f l nb), .int .i64 (roF c f l nb), .slice qw0 (roL c f l nb).length dw0] 26)).heap.size := by simp
  generalize w3.alloc (.cells #[.int .i64 (roC c f l nb), .int .i64 (roF c f l nb), .slice qw0 (roL c f l nb).length dw0] 26) = w4 at Bx Bw0 Rw0 hw z4 ⊢
  clear cx0 cx1 cx2 ltx
  obtain ⟨cx0, cx1, cx2⟩ := Bx.cell3
  have ltx := Bx.lt
  obtain ⟨cw00, cw01, cw02⟩ := Bw0.cell3
  have ltw0 := Bw0.lt
  go_wp2_with fail
  refine (laws_toFlux _ _ _ _ _ _ (hI.below hw) hm).mono ?_
  rintro e w5 ⟨gqx0, rfl, hgqx0, hr, hb⟩
  have Rqx0 := OwnS.of_row hr hgqx0; clear hr
  have z5 := hb.size
  replace Bx := Bx.keep hb
  replace Bw0 := Bw0.keep hb
  replace Rw0 := Rw0.below hb
  replace hw := below_st hw hb (Nat.le_refl _)
  clear hb
  have hOqx0 : ∀ g, ownOf (some (⟨gqx0, 0, none⟩ : Addr)) l = some g → w4.heap.size ≤ g ∧ g < w5.heap.size := fun g hg => ownOf_at Rqx0 hg
  have hNqx0 : l ≠ [] → ∀ g, (some (⟨gqx0, 0, none⟩ : Addr)) = some (⟨g, 0, none⟩ : Addr) → w4.heap.size ≤ g ∧ g < w5.heap.size := fun hl g hp => OwnS.lt Rqx0 hl hp
  clear cx0 cx1 cx2 ltx cw00 cw01 cw02 ltw0
  obtain ⟨cx0, cx1, cx2⟩ := Bx.cell3
  have ltx := Bx.lt
  obtain ⟨cw00, cw01, cw02⟩ := Bw0.cell3
  have ltw0 := Bw0.lt
  go_wp2_with fail
  have Bx0 := Blk.new w5 26 #[.int .i64 c, .int .i64 f, .slice (some ⟨gqx0, 0, none⟩) l.length l.length]
  replace Bx := Bx.keep ((Below.refl _ w5).alloc (Nat.le_refl _) (.cells #[.int .i64 c, .int .i64 f, .slice (some ⟨gqx0, 0, none⟩) l.length l.length] 26))
  replace Bw0 := Bw0.keep ((Below.refl _ w5).alloc (Nat.le_refl _) (.cells #[.int .i64 c, .int .i64 f, .slice (some ⟨gqx0, 0, none⟩) l.length l.length] 26))
  replace Rw0 := Rw0.below ((Below.refl _ w5).alloc (Nat.le_refl _) (.cells #[.int .i64 c, .int .i64 f, .slice (some ⟨gqx0, 0, none⟩) l.length l.length] 26))
  replace Rqx0 := Rqx0.below ((Below.refl _ w5).alloc (Nat.le_refl _) (.cells #[.int .i64 c, .int .i64 f, .slice (some ⟨gqx0, 0, none⟩) l.length l.length] 26))
  replace hw := hw.alloc hw.size (.cells #[.int .i64 c, .int .i64 f, .slice (some ⟨gqx0, 0, none⟩) l.length l.length] 26)
  have z6 : w5.heap.size + 1 ≤ (w5.alloc (.cells #[.int .i64 c, .int .i64 f, .slice (some ⟨gqx0, 0, none⟩) l.length l.length] 26)).heap.size := by simp
  generalize w5.alloc (.cells #[.int .i64 c, .int .i64 f, .slice (some ⟨gqx0, 0, none⟩) l.length l.length] 26) = w6 at Bx Bw0 Bx0 Rw0 Rqx0 hw z6 ⊢
  clear cx0 cx1 cx2 ltx cw00 cw01 cw02 ltw0
  obtain ⟨cx0, cx1, cx2⟩ := Bx.cell3
  have ltx := Bx.lt
  obtain ⟨cw00, cw01, cw02⟩ := Bw0.cell3
  have ltw0 := Bw0.lt
  obtain ⟨cx00, cx01, cx02⟩ := Bx0.cell3
  have ltx0 := Bx0.lt
  go_wp2_with fail
  refine (impl_RotateFlux _ _ _ _ _ _ _ Rqx0.ints hm ).mono ?_
  rintro e w7 ⟨qg0, dg0, rfl, Rg0, hb⟩
  have z7 := hb.size
  replace Bx := Bx.keep hb
  replace Bw0 := Bw0.keep hb
  replace Bx0 := Bx0.keep hb
  replace Rw0 := Rw0.below hb
  replace Rqx0 := Rqx0.below hb
  replace hw := below_st hw hb (Nat.le_refl _)
  clear hb
  have hOg0 : ∀ g, ownOf qg0 (roL c f l nb) = some g → w6.heap.size ≤ g ∧ g < w7.heap.size := fun g hg => ownOf_at Rg0 hg
  have hNg0 : (roL c f l nb) ≠ [] → ∀ g, qg0 = some (⟨g, 0, none⟩ : Addr) → w6.heap.size ≤ g ∧ g < w7.heap.size := fun hl g hp => OwnS.lt Rg0 hl hp
  clear cx0 cx1 cx2 ltx cw00 cw01 cw02 ltw0 cx00 cx01 cx02 ltx0
  obtain ⟨cx0, cx1, cx2⟩ := Bx.cell3
  have ltx := Bx.lt
  obtain ⟨cw00, cw01, cw02⟩ := Bw0.cell3
  have ltw0 := Bw0.lt
  obtain ⟨cx00, cx01, cx02⟩ := Bx0.cell3
  have ltx0 := Bx0.lt
  go_wp2_with fail
  have Bg0 := Blk.new w7 26 #[.int .i64 (roC c f l nb), .int .i64 (roF c f l nb), .slice qg0 (roL c f l nb).length dg0]
  replace Bx := Bx.keep ((Below.refl _ w7).alloc (Nat.le_refl _) (.cells #[.int .i64 (roC c f l nb), .int .i64 (roF c f l nb), .slice qg0 (roL c f l nb).length dg0] 26))
  replace Bw0 := Bw0.keep ((Below.refl _ w7).alloc (Nat.le_refl _) (.cells #[.int .i64 (roC c f l nb), .int .i64 (roF c f l nb), .slice qg0 (roL c f l nb).length dg0] 26))
  replace Bx0 := Bx0.keep ((Below.refl _ w7).alloc (Nat.le_refl _) (.cells #[.int .i64 (roC c f l nb), .int .i64 (roF c f l nb), .slice qg0 (roL c f l nb).length dg0] 26))
  replace Rw0 := Rw0.below ((Below.refl _ w7).alloc (Nat.le_refl _) (.cells #[.int .i64 (roC c f l nb), .int .i64 (roF c f l nb), .slice qg0 (roL c f l nb).length dg0] 26))
  replace Rqx0 := Rqx0.below ((Below.refl _ w7).alloc (Nat.le_refl _) (.cells #[.int .i64 (roC c f l nb), .int .i64 (roF c f l nb), .slice qg0 (roL c f l nb).length dg0] 26))
  replace Rg0 := Rg0.below ((Below.refl _ w7).alloc (Nat.le_refl _) (.cells #[.int .i64 (roC c f l nb), .int .i64 (roF c f l nb), .slice qg0 (roL c f l nb).length dg0] 26))
  replace hw := hw.alloc hw.size (.cells #[.int .i64 (roC c f l nb), .int .i64 (roF c f l nb), .slice qg0 (roL c f l nb).length dg0] 26)
  have z8 : w7.heap.size + 1 ≤ (w7.alloc (.cells #[.int .i64 (roC c f l nb), .int .i64 (roF c f l nb), .slice qg0 (roL c f l nb).length dg0] 26)).heap.size := by simp
  generalize w7.alloc (.cells #[.int .i64 (roC c f l nb), .int .i64 (roF c f l nb), .slice qg0 (roL c f l nb).length dg0] 26) = w8 at Bx Bw0 Bx0 Bg0 Rw0 Rqx0 Rg0 hw z8 ⊢
  clear cx0 cx1 cx2 ltx cw00 cw01 cw02 ltw0 cx00 cx01 cx02 ltx0
  obtain ⟨cx0, cx1, cx2⟩ := Bx.cell3
  have ltx := Bx.lt
  obtain ⟨cw00, cw01, cw02⟩ := Bw0.cell3
  have ltw0 := Bw0.lt
  obtain ⟨cx00, cx01, cx02⟩ := Bx0.cell3
  have ltx0 := Bx0.lt
  obtain ⟨cg00, cg01, cg02⟩ := Bg0.cell3
  have ltg0 := Bg0.lt
  go_wp2_with fail
  refine (laws_eqFlux_same _ _ _ _ _ _ _ _ Rg0.ints Rw0.ints (by omega)).mono ?_
  rintro e w9 ⟨rfl, hb⟩
  have z9 := hb.size
  replace Bx := Bx.keep hb
  replace Bw0 := Bw0.keep hb
  replace Bx0 := Bx0.keep hb
  replace Bg0 := Bg0.keep hb
  replace Rw0 := Rw0.below hb
  replace Rqx0 := Rqx0.below hb
  replace Rg0 := Rg0.below hb
  replace hw := below_st hw hb (Nat.le_refl _)
  clear hb
  clear cx0 cx1 cx2 ltx cw00 cw01 cw02 ltw0 cx00 cx01 cx02 ltx0 cg00 cg01 cg02 ltg0
  obtain ⟨cx0, cx1, cx2⟩ := Bx.cell3
  have ltx := Bx.lt
  obtain ⟨cw00, cw01, cw02⟩ := Bw0.cell3
  have ltw0 := Bw0.lt
  obtain ⟨cx00, cx01, cx02⟩ := Bx0.cell3
  have ltx0 := Bx0.lt
  obtain ⟨cg00, cg01, cg02⟩ := Bg0.cell3
  have ltg0 := Bg0.lt
  go_wp2_with fail
  go_cut [49] (fun v0 wx => v0 = .bool false ∧ Below w9.heap.size w9 wx)
  case first =>
    have keepS : ∀ y1 y2 : World, ((w.heap.size < y1.heap.size ∧ y1.cell? ⟨w.heap.size, 0, none⟩ = some (.int .i64 c) ∧ y1.cell? ⟨w.heap.size, 1, none⟩ = some (.int .i64 f) ∧ y1.cell? ⟨w.heap.size, 2, none⟩ = some (.slice p l.length cap)) ∧ (w5.heap.size < y1.heap.size ∧ y1.cell? ⟨w5.heap.size, 0, none⟩ = some (.int .i64 c) ∧ y1.cell? ⟨w5.heap.size, 1, none⟩ = some (.int .i64 f) ∧ y1.cell? ⟨w5.heap.size, 2, none⟩ = some (.slice (some ⟨gqx0, 0, none⟩) l.length l.length)) ∧ OwnS y1 w4.heap.size (some (⟨gqx0, 0, none⟩ : Addr)) l ∧ Below w.heap.size w y1) → Below y1.heap.size y1 y2 → ((w.heap.size < y2.heap.size ∧ y2.cell? ⟨w.heap.size, 0, none⟩ = some (.int .i64 c) ∧ y2.cell? ⟨w.heap.size, 1, none⟩ = some (.int .i64 f) ∧ y2.cell? ⟨w.heap.size, 2, none⟩ = some (.slice p l.length cap)) ∧ (w5.heap.size < y2.heap.size ∧ y2.cell? ⟨w5.heap.size, 0, none⟩ = some (.int .i64 c) ∧ y2.cell? ⟨w5.heap.size, 1, none⟩ = some (.int .i64 f) ∧ y2.cell? ⟨w5.heap.size, 2, none⟩ = some (.slice (some ⟨gqx0, 0, none⟩) l.length l.length)) ∧ OwnS y2 w4.heap.size (some (⟨gqx0, 0, none⟩ : Addr)) l ∧ Below w.heap.size w y2) := by
      rintro y1 y2 ⟨⟨s0, s0_0, s0_1, s0_2⟩, ⟨s1, s1_0, s1_1, s1_2⟩, t0, hv⟩ hb
      obtain ⟨hc, -⟩ := bcell hb
      have := hb.size
      exact ⟨⟨by omega, (hc _ _ s0).trans s0_0, (hc _ _ s0).trans s0_1, (hc _ _ s0).trans s0_2⟩, ⟨by omega, (hc _ _ s1).trans s1_0, (hc _ _ s1).trans s1_1, (hc _ _ s1).trans s1_2⟩, t0.below hb, below_st hv hb (Nat.le_refl _)⟩
    have S0 : (w.heap.size < w9.drew.heap.size ∧ w9.drew.cell? ⟨w.heap.size, 0, none⟩ = some (.int .i64 c) ∧ w9.drew.cell? ⟨w.heap.size, 1, none⟩ = some (.int .i64 f) ∧ w9.drew.cell? ⟨w.heap.size, 2, none⟩ = some (.slice p l.length cap)) ∧ (w5.heap.size < w9.drew.heap.size ∧ w9.drew.cell? ⟨w5.heap.size, 0, none⟩ = some (.int .i64 c) ∧ w9.drew.cell? ⟨w5.heap.size, 1, none⟩ = some (.int .i64 f) ∧ w9.drew.cell? ⟨w5.heap.size, 2, none⟩ = some (.slice (some ⟨gqx0, 0, none⟩) l.length l.length)) ∧ OwnS w9.drew w4.heap.size (some (⟨gqx0, 0, none⟩ : Addr)) l ∧ Below w.heap.size w w9.drew := ⟨⟨Bx.lt, cx0, cx1, cx2⟩, ⟨Bx0.lt, cx00, cx01, cx02⟩, Rqx0.below (Below.refl _ _).drew, hw.drew⟩
    go_region_held3 (fun w' => (w.heap.size < w'.heap.size ∧ w'.cell? ⟨w.heap.size, 0, none⟩ = some (.int .i64 c) ∧ w'.cell? ⟨w.heap.size, 1, none⟩ = some (.int .i64 f) ∧ w'.cell? ⟨w.heap.size, 2, none⟩ = some (.slice p l.length cap)) ∧ (w5.heap.size < w'.heap.size ∧ w'.cell? ⟨w5.heap.size, 0, none⟩ = some (.int .i64 c) ∧ w'.cell? ⟨w5.heap.size, 1, none⟩ = some (.int .i64 f) ∧ w'.cell? ⟨w5.heap.size, 2, none⟩ = some (.slice (some ⟨gqx0, 0, none⟩) l.length l.length)) ∧ OwnS w' w4.heap.size (some (⟨gqx0, 0, none⟩ : Addr)) l ∧ Below w.heap.size w w')
      (first | exact S0 | (refine keepS _ _ ?_ (by assumption); assumption) | go_keep)
      (first | (go_at_call 12; refine (laws_eqFlux_same _ _ _ _ _ _ _ _ S1.2.2.1.ints r6.ints (by omega)).mono ?_; rintro e y2 ⟨rfl, hb2⟩; have S2 := keepS _ _ S1 hb2) | (go_at_call 10; refine (laws_toFlux _ _ _ _ _ _ (hI.below S0.2.2.2) hm).mono ?_; rintro e y1 ⟨g6, rfl, hg6, r6, hb1⟩; have S1 := keepS _ _ S0 hb1))
    all_goals
      go_wp2_with fail
      go_meet
      exact ⟨rfl, (below_st (below_st (Below.refl _ w9).drew hb1 (Nat.le_refl _)) hb2 (Nat.le_refl _))⟩
  case rest =>
    obtain ⟨rfl, hb⟩ := hcut
    obtain ⟨w10, hwc⟩ : ∃ w10, w10 = wc := ⟨_, rfl⟩
    subst hwc
    have z10 := hb.size
    replace Bx := Bx.keep hb
    replace Bw0 := Bw0.keep hb
    replace Bx0 := Bx0.keep hb
    replace Bg0 := Bg0.keep hb
    replace Rw0 := Rw0.below hb
    replace Rqx0 := Rqx0.below hb
    replace Rg0 := Rg0.below hb
    replace hw := below_st hw hb (Nat.le_refl _)
    clear hb
    clear cx0 cx1 cx2 ltx cw00 cw01 cw02 ltw0 cx00 cx01 cx02 ltx0 cg00 cg01 cg02 ltg0
    obtain ⟨cx0, cx1, cx2⟩ := Bx.cell3
    have ltx := Bx.lt
    obtain ⟨cw00, cw01, cw02⟩ := Bw0.cell3
    have ltw0 := Bw0.lt
    obtain ⟨cx00, cx01, cx02⟩ := Bx0.cell3
    have ltx0 := Bx0.lt
    obtain ⟨cg00, cg01, cg02⟩ := Bg0.cell3
    have ltg0 := Bg0.lt
    go_wp2_with fail
    refine (laws_markFlux _ _ _ _ _ _ _ _ Rqx0 (by omega) (by omega)).mono ?_
    rintro e w11 ⟨rfl, Rnew, ha⟩
    have z11 := ha.size
    replace Bx := Bx.asides ha (fun e => by have := hOqx0 _ e; omega)
    replace Bw0 := Bw0.asides ha (fun e => by have := hOqx0 _ e; omega)
    replace Bx0 := Bx0.asides ha (fun e => by have := hOqx0 _ e; omega)
    replace Bg0 := Bg0.asides ha (fun e => by have := hOqx0 _ e; omega)
    replace Rw0 := Rw0.asides ha (fun hl g hp e => by have h1 := hNw0 hl g hp; have h2 := hOqx0 g e; omega)
    replace Rg0 := Rg0.asides ha (fun hl g hp e => by have h1 := hNg0 hl g hp; have h2 := hOqx0 g e; omega)
    replace hw := hw.trans (ha.below hw.size (fun g e => by have := hOqx0 g e; omega))
    replace Rqx0 := Rnew
    clear ha
    clear Rqx0 hOqx0 hNqx0
    clear cx0 cx1 cx2 ltx cw00 cw01 cw02 ltw0 cx00 cx01 cx02 ltx0 cg00 cg01 cg02 ltg0
    obtain ⟨cx0, cx1, cx2⟩ := Bx.cell3
    have ltx := Bx.lt
    obtain ⟨cw00, cw01, cw02⟩ := Bw0.cell3
    have ltw0 := Bw0.lt
    obtain ⟨cx00, cx01, cx02⟩ := Bx0.cell3
    have ltx0 := Bx0.lt
    obtain ⟨cg00, cg01, cg02⟩ := Bg0.cell3
    have ltg0 := Bg0.lt
    go_wp2_with fail
    refine (laws_eqFlux_same _ _ _ _ _ _ _ _ Rg0.ints Rw0.ints (by omega)).mono ?_
    rintro e w12 ⟨rfl, hb⟩
    have z12 := hb.size
    replace Bx := Bx.keep hb
    replace Bw0 := Bw0.keep hb
    replace Bx0 := Bx0.keep hb
    replace Bg0 := Bg0.keep hb
    replace Rw0 := Rw0.below hb
    replace Rg0 := Rg0.below hb
    replace hw := below_st hw hb (Nat.le_refl _)
    clear hb
    clear cx0 cx1 cx2 ltx cw00 cw01 cw02 ltw0 cx00 cx01 cx02 ltx0 cg00 cg01 cg02 ltg0
    obtain ⟨cx0, cx1, cx2⟩ := Bx.cell3
    have ltx := Bx.lt
    obtain ⟨cw00, cw01, cw02⟩ := Bw0.cell3
    have ltw0 := Bw0.lt
    obtain ⟨cx00, cx01, cx02⟩ := Bx0.cell3
    have ltx0 := Bx0.lt
    obtain ⟨cg00, cg01, cg02⟩ := Bg0.cell3
    have ltg0 := Bg0.lt
    go_wp2_with fail
    refine (laws_markFlux _ _ _ _ _ _ _ _ Rg0 (by omega) (by omega)).mono ?_
    rintro e w13 ⟨rfl, Rnew, ha⟩
    have z13 := ha.size
    replace Bx := Bx.asides ha (fun e => by have := hOg0 _ e; omega)
    replace Bw0 := Bw0.asides ha (fun e => by have := hOg0 _ e; omega)
    replace Bx0 := Bx0.asides ha (fun e => by have := hOg0 _ e; omega)
    replace Bg0 := Bg0.asides ha (fun e => by have := hOg0 _ e; omega)
    replace Rw0 := Rw0.asides ha (fun hl g hp e => by have h1 := hNw0 hl g hp; have h2 := hOg0 g e; omega)
    replace hw := hw.trans (ha.below hw.size (fun g e => by have := hOg0 g e; omega))
    replace Rg0 := Rnew
    clear ha
    clear cx0 cx1 cx2 ltx cw00 cw01 cw02 ltw0 cx00 cx01 cx02 ltx0 cg00 cg01 cg02 ltg0
    obtain ⟨cx0, cx1, cx2⟩ := Bx.cell3
    have ltx := Bx.lt
    obtain ⟨cw00, cw01, cw02⟩ := Bw0.cell3
    have ltw0 := Bw0.lt
    obtain ⟨cx00, cx01, cx02⟩ := Bx0.cell3
    have ltx0 := Bx0.lt
    obtain ⟨cg00, cg01, cg02⟩ := Bg0.cell3
    have ltg0 := Bg0.lt
    go_wp2_with fail
    refine (laws_heldFlux _ _ _ _ _ _ _ Rg0.ints (by omega) (by omega)).mono ?_
    rintro e w14 ⟨rfl, hb⟩
    have z14 := hb.size
    replace Bx := Bx.keep hb
    replace Bw0 := Bw0.keep hb
    replace Bx0 := Bx0.keep hb
    replace Bg0 := Bg0.keep hb
    replace Rw0 := Rw0.below hb
    replace Rg0 := Rg0.below hb
    replace hw := below_st hw hb (Nat.le_refl _)
    clear hb
    clear cx0 cx1 cx2 ltx cw00 cw01 cw02 ltw0 cx00 cx01 cx02 ltx0 cg00 cg01 cg02 ltg0
    obtain ⟨cx0, cx1, cx2⟩ := Bx.cell3
    have ltx := Bx.lt
    obtain ⟨cw00, cw01, cw02⟩ := Bw0.cell3
    have ltw0 := Bw0.lt
    obtain ⟨cx00, cx01, cx02⟩ := Bx0.cell3
    have ltx0 := Bx0.lt
    obtain ⟨cg00, cg01, cg02⟩ := Bg0.cell3
    have ltg0 := Bg0.lt
    go_wp2_with fail
    refine (laws_toFlux _ _ _ _ _ _ (hI.below hw) hm).mono ?_
    rintro e w15 ⟨gb, rfl, hgb, hr, hb⟩
    have Rb := OwnS.of_row hr hgb; clear hr
    have z15 := hb.size
    replace Bx := Bx.keep hb
    replace Bw0 := Bw0.keep hb
    replace Bx0 := Bx0.keep hb
    replace Bg0 := Bg0.keep hb
    replace Rw0 := Rw0.below hb
    replace Rg0 := Rg0.below hb
    replace hw := below_st hw hb (Nat.le_refl _)
    clear hb
    have hOb : ∀ g, ownOf (some (⟨gb, 0, none⟩ : Addr)) l = some g → w14.heap.size ≤ g ∧ g < w15.heap.size := fun g hg => ownOf_at Rb hg
    have hNb : l ≠ [] → ∀ g, (some (⟨gb, 0, none⟩ : Addr)) = some (⟨g, 0, none⟩ : Addr) → w14.heap.size ≤ g ∧ g < w15.heap.size := fun hl g hp => OwnS.lt Rb hl hp
    clear cx0 cx1 cx2 ltx cw00 cw01 cw02 ltw0 cx00 cx01 cx02 ltx0 cg00 cg01 cg02 ltg0
    obtain ⟨cx0, cx1, cx2⟩ := Bx.cell3
    have ltx := Bx.lt
    obtain ⟨cw00, cw01, cw02⟩ := Bw0.cell3
    have ltw0 := Bw0.lt
    obtain ⟨cx00, cx01, cx02⟩ := Bx0.cell3
    have ltx0 := Bx0.lt
    obtain ⟨cg00, cg01, cg02⟩ := Bg0.cell3
    have ltg0 := Bg0.lt
    go_wp2_with fail
    refine (impl_RotateFlux _ _ _ _ _ _ _ Rb.ints hm ).mono ?_
    rintro e w16 ⟨qh0, dh0, rfl, Rh0, hb⟩
    have z16 := hb.size
    replace Bx := Bx.keep hb
    replace Bw0 := Bw0.keep hb
    replace Bx0 := Bx0.keep hb
    replace Bg0 := Bg0.keep hb
    replace Rw0 := Rw0.below hb
    replace Rg0 := Rg0.below hb
    replace Rb := Rb.below hb
    replace hw := below_st hw hb (Nat.le_refl _)
    clear hb
    have hOh0 : ∀ g, ownOf qh0 (roL c f l nb) = some g → w15.heap.size ≤ g ∧ g < w16.heap.size := fun g hg => ownOf_at Rh0 hg
    have hNh0 : (roL c f l nb) ≠ [] → ∀ g, qh0 = some (⟨g, 0, none⟩ : Addr) → w15.heap.size ≤ g ∧ g < w16.heap.size := fun hl g hp => OwnS.lt Rh0 hl hp
    clear cx0 cx1 cx2 ltx cw00 cw01 cw02 ltw0 cx00 cx01 cx02 ltx0 cg00 cg01 cg02 ltg0
    obtain ⟨cx0, cx1, cx2⟩ := Bx.cell3
    have ltx := Bx.lt
    obtain ⟨cw00, cw01, cw02⟩ := Bw0.cell3
    have ltw0 := Bw0.lt
    obtain ⟨cx00, cx01, cx02⟩ := Bx0.cell3
    have ltx0 := Bx0.lt
    obtain ⟨cg00, cg01, cg02⟩ := Bg0.cell3
    have ltg0 := Bg0.lt
    go_wp2_with fail
    have Bh0 := Blk.new w16 26 #[.int .i64 (roC c f l nb), .int .i64 (roF c f l nb), .slice qh0 (roL c f l nb).length dh0]
    replace Bx := Bx.keep ((Below.refl _ w16).alloc (Nat.le_refl _) (.cells #[.int .i64 (roC c f l nb), .int .i64 (roF c f l nb), .slice qh0 (roL c f l nb).length dh0] 26))
    replace Bw0 := Bw0.keep ((Below.refl _ w16).alloc (Nat.le_refl _) (.cells #[.int .i64 (roC c f l nb), .int .i64 (roF c f l nb), .slice qh0 (roL c f l nb).length dh0] 26))
    replace Bx0 := Bx0.keep ((Below.refl _ w16).alloc (Nat.le_refl _) (.cells #[.int .i64 (roC c f l nb), .int .i64 (roF c f l nb), .slice qh0 (roL c f l nb).length dh0] 26))
    replace Bg0 := Bg0.keep ((Below.refl _ w16).alloc (Nat.le_refl _) (.cells #[.int .i64 (roC c f l nb), .int .i64 (roF c f l nb), .slice qh0 (roL c f l nb).length dh0] 26))
    replace Rw0 := Rw0.below ((Below.refl _ w16).alloc (Nat.le_refl _) (.cells #[.int .i64 (roC c f l nb), .int .i64 (roF c f l nb), .slice qh0 (roL c f l nb).length dh0] 26))
    replace Rg0 := Rg0.below ((Below.refl _ w16).alloc (Nat.le_refl _) (.cells #[.int .i64 (roC c f l nb), .int .i64 (roF c f l nb), .slice qh0 (roL c f l nb).length dh0] 26))
    replace Rb := Rb.below ((Below.refl _ w16).alloc (Nat.le_refl _) (.cells #[.int .i64 (roC c f l nb), .int .i64 (roF c f l nb), .slice qh0 (roL c f l nb).length dh0] 26))
    replace Rh0 := Rh0.below ((Below.refl _ w16).alloc (Nat.le_refl _) (.cells #[.int .i64 (roC c f l nb), .int .i64 (roF c f l nb), .slice qh0 (roL c f l nb).length dh0] 26))
    replace hw := hw.alloc hw.size (.cells #[.int .i64 (roC c f l nb), .int .i64 (roF c f l nb), .slice qh0 (roL c f l nb).length dh0] 26)
    have z17 : w16.heap.size + 1 ≤ (w16.alloc (.cells #[.int .i64 (roC c f l nb), .int .i64 (roF c f l nb), .slice qh0 (roL c f l nb).length dh0] 26)).heap.size := by simp
    generalize w16.alloc (.cells #[.int .i64 (roC c f l nb), .int .i64 (roF c f l nb), .slice qh0 (roL c f l nb).length dh0] 26) = w17 at Bx Bw0 Bx0 Bg0 Bh0 Rw0 Rg0 Rb Rh0 hw z17 ⊢
    clear cx0 cx1 cx2 ltx cw00 cw01 cw02 ltw0 cx00 cx01 cx02 ltx0 cg00 cg01 cg02 ltg0
    obtain ⟨cx0, cx1, cx2⟩ := Bx.cell3
    have ltx := Bx.lt
    obtain ⟨cw00, cw01, cw02⟩ := Bw0.cell3
    have ltw0 := Bw0.lt
    obtain ⟨cx00, cx01, cx02⟩ := Bx0.cell3
    have ltx0 := Bx0.lt
    obtain ⟨cg00, cg01, cg02⟩ := Bg0.cell3
    have ltg0 := Bg0.lt
    obtain ⟨ch00, ch01, ch02⟩ := Bh0.cell3
    have lth0 := Bh0.lt
    go_wp2_with fail
    refine (laws_eqFlux_same _ _ _ _ _ _ _ _ Rh0.ints Rw0.ints (by omega)).mono ?_
    rintro e w18 ⟨rfl, hb⟩
    have z18 := hb.size
    replace Bx := Bx.keep hb
    replace Bw0 := Bw0.keep hb
    replace Bx0 := Bx0.keep hb
    replace Bg0 := Bg0.keep hb
    replace Bh0 := Bh0.keep hb
    replace Rw0 := Rw0.below hb
    replace Rg0 := Rg0.below hb
    replace Rb := Rb.below hb
    replace Rh0 := Rh0.below hb
    replace hw := below_st hw hb (Nat.le_refl _)
    clear hb
    clear cx0 cx1 cx2 ltx cw00 cw01 cw02 ltw0 cx00 cx01 cx02 ltx0 cg00 cg01 cg02 ltg0 ch00 ch01 ch02 lth0
    obtain ⟨cx0, cx1, cx2⟩ := Bx.cell3
    have ltx := Bx.lt
    obtain ⟨cw00, cw01, cw02⟩ := Bw0.cell3
    have ltw0 := Bw0.lt
    obtain ⟨cx00, cx01, cx02⟩ := Bx0.cell3
    have ltx0 := Bx0.lt
    obtain ⟨cg00, cg01, cg02⟩ := Bg0.cell3
    have ltg0 := Bg0.lt
    obtain ⟨ch00, ch01, ch02⟩ := Bh0.cell3
    have lth0 := Bh0.lt
    go_wp2_with fail
    refine (laws_heldFlux _ _ _ _ _ _ _ Rg0.ints (by omega) (by omega)).mono ?_
    rintro e w19 ⟨rfl, hb⟩
    have z19 := hb.size
    replace Bx := Bx.keep hb
    replace Bw0 := Bw0.keep hb
    replace Bx0 := Bx0.keep hb
    replace Bg0 := Bg0.keep hb
    replace Bh0 := Bh0.keep hb
    replace Rw0 := Rw0.below hb
    replace Rg0 := Rg0.below hb
    replace Rb := Rb.below hb
    replace Rh0 := Rh0.below hb
    replace hw := below_st hw hb (Nat.le_refl _)
    clear hb
    clear cx0 cx1 cx2 ltx cw00 cw01 cw02 ltw0 cx00 cx01 cx02 ltx0 cg00 cg01 cg02 ltg0 ch00 ch01 ch02 lth0
    obtain ⟨cx0, cx1, cx2⟩ := Bx.cell3
    have ltx := Bx.lt
    obtain ⟨cw00, cw01, cw02⟩ := Bw0.cell3
    have ltw0 := Bw0.lt
    obtain ⟨cx00, cx01, cx02⟩ := Bx0.cell3
    have ltx0 := Bx0.lt
    obtain ⟨cg00, cg01, cg02⟩ := Bg0.cell3
    have ltg0 := Bg0.lt
    obtain ⟨ch00, ch01, ch02⟩ := Bh0.cell3
    have lth0 := Bh0.lt
    go_wp2_with fail
    go_ret
    exact ⟨rfl, hw⟩
end Go.Proofs.Ytfdcainjppljhaa
