/- The law's walk: FnExactRecoverCells. Printed by lawsr3.py. -/
import Derived.Test.YtmjmhdjfaamgkaaRecW
import Derived.Test.YtmjmhdjfaamgkaaRecIW
import Derived.Test.YtmjmhdjfaamgkaaMarksW
import Derived.Test.YtmjmhdjfaamgkaaOpenF
import Derived.Test.YtmjmhdjfaamgkaaLawAid
import Derived.Deep.RegionHeld3
import Derived.Deep.DeepCutAuto
namespace Go.Proofs.Ytmjmhdjfaamgkaa
open Go.RowKit
set_option linter.unusedVariables false
set_option maxHeartbeats 4000000 in
set_option maxRecDepth 20000 in
theorem walk_FnExactRecoverCells (x : Flx) (k : Clk) (w : World) (hx : x.ok w) (_ : k.wf) :
    Calls Try.prog 11 #[x.val, k.val] w fun e w' => e = .returned (.bool true) ∧ Below w.heap.size w w' := by
  obtain ⟨c, f, p, l, cap⟩ := x
  obtain ⟨-, hI, hlen, hwf⟩ := hx
  simp only [Flx.val, Num.val] at hI hlen hwf
  obtain ⟨ka, kb, kc, kd, ke⟩ := k
  simp only [Flx.val, Num.val, Clk.val]
  by_cases hl : (l.length : Int) ≤ 1048576
  rotate_left
  · have hz0 : szL (1048576) l.length = -1 := by unfold szL; rw [if_pos (by omega)]
    go_enter Try.func11, Try.ntmps11
    go_wp2_with fail
    have hw : Below w.heap.size w w := Below.refl _ _
    have Bx := Blk.new w 33 #[.int .i64 c, .int .i64 f, .slice p l.length cap]
    replace hw := hw.alloc hw.size (.cells #[.int .i64 c, .int .i64 f, .slice p l.length cap] 33)
    have Bk := Blk.new (w.alloc (.cells #[.int .i64 c, .int .i64 f, .slice p l.length cap] 33)) 64 #[.int .i64 ka, .int .i64 kb, .int .i64 kc, .int .i64 kd, .int .i64 ke]
    replace Bx := Bx.keep ((Below.refl _ (w.alloc (.cells #[.int .i64 c, .int .i64 f, .slice p l.length cap] 33))).alloc (Nat.le_refl _) (.cells #[.int .i64 ka, .int .i64 kb, .int .i64 kc, .int .i64 kd, .int .i64 ke] 64))
    replace hw := hw.alloc hw.size (.cells #[.int .i64 ka, .int .i64 kb, .int .i64 kc, .int .i64 kd, .int .i64 ke] 64)
    have e1 : (w.alloc (.cells #[.int .i64 c, .int .i64 f, .slice p l.length cap] 33)).heap.size = w.heap.size + 1 := by simp
    rw [e1] at Bk
    have z0 : w.heap.size + 2 ≤ ((w.alloc (.cells #[.int .i64 c, .int .i64 f, .slice p l.length cap] 33)).alloc (.cells #[.int .i64 ka, .int .i64 kb, .int .i64 kc, .int .i64 kd, .int .i64 ke] 64)).heap.size := by simp
    generalize ((w.alloc (.cells #[.int .i64 c, .int .i64 f, .slice p l.length cap] 33)).alloc (.cells #[.int .i64 ka, .int .i64 kb, .int .i64 kc, .int .i64 kd, .int .i64 ke] 64)) = w0 at Bx Bk hw z0 ⊢
    obtain ⟨cx0, cx1, cx2⟩ := Bx.cell3
    have ltx := Bx.lt
    obtain ⟨ck0, ck1, ck2, ck3, ck4⟩ := Bk.cell5
    have ltk := Bk.lt
    go_wp2_with fail
    refine (laws_szFlux _ _ _ _ _ _ _ hlen (by omega)).mono ?_
    rintro e w1 ⟨rfl, hb⟩
    rw [hz0]
    have z1 := hb.size
    replace Bx := Bx.keep hb
    replace Bk := Bk.keep hb
    replace hw := below_st hw hb (Nat.le_refl _)
    clear hb
    clear cx0 cx1 cx2 ltx ck0 ck1 ck2 ck3 ck4 ltk
    obtain ⟨cx0, cx1, cx2⟩ := Bx.cell3
    have ltx := Bx.lt
    obtain ⟨ck0, ck1, ck2, ck3, ck4⟩ := Bk.cell5
    have ltk := Bk.lt
    go_wp2_with fail
    go_ret
    exact ⟨rfl, hw⟩
  have hz0 : szL (1048576) l.length = 1048576 - (l.length : Int) := by unfold szL; rw [if_neg (by omega)]
  have hy0 : decide (1048576 - (l.length : Int) < 0) = false := by simp; omega
  have hm : l.length ≤ 1048576 := by omega
  go_enter Try.func11, Try.ntmps11
  go_wp2_with fail
  have hw : Below w.heap.size w w := Below.refl _ _
  have Bx := Blk.new w 33 #[.int .i64 c, .int .i64 f, .slice p l.length cap]
  replace hw := hw.alloc hw.size (.cells #[.int .i64 c, .int .i64 f, .slice p l.length cap] 33)
  have Bk := Blk.new (w.alloc (.cells #[.int .i64 c, .int .i64 f, .slice p l.length cap] 33)) 64 #[.int .i64 ka, .int .i64 kb, .int .i64 kc, .int .i64 kd, .int .i64 ke]
  replace Bx := Bx.keep ((Below.refl _ (w.alloc (.cells #[.int .i64 c, .int .i64 f, .slice p l.length cap] 33))).alloc (Nat.le_refl _) (.cells #[.int .i64 ka, .int .i64 kb, .int .i64 kc, .int .i64 kd, .int .i64 ke] 64))
  replace hw := hw.alloc hw.size (.cells #[.int .i64 ka, .int .i64 kb, .int .i64 kc, .int .i64 kd, .int .i64 ke] 64)
  have e1 : (w.alloc (.cells #[.int .i64 c, .int .i64 f, .slice p l.length cap] 33)).heap.size = w.heap.size + 1 := by simp
  rw [e1] at Bk
  have z0 : w.heap.size + 2 ≤ ((w.alloc (.cells #[.int .i64 c, .int .i64 f, .slice p l.length cap] 33)).alloc (.cells #[.int .i64 ka, .int .i64 kb, .int .i64 kc, .int .i64 kd, .int .i64 ke] 64)).heap.size := by simp
  generalize ((w.alloc (.cells #[.int .i64 c, .int .i64 f, .slice p l.length cap] 33)).alloc (.cells #[.int .i64 ka, .int .i64 kb, .int .i64 kc, .int .i64 kd, .int .i64 ke] 64)) = w0 at Bx Bk hw z0 ⊢
  obtain ⟨cx0, cx1, cx2⟩ := Bx.cell3
  have ltx := Bx.lt
  obtain ⟨ck0, ck1, ck2, ck3, ck4⟩ := Bk.cell5
  have ltk := Bk.lt
  go_wp2_with fail
  refine (laws_szFlux _ _ _ _ _ _ _ hlen (by omega)).mono ?_
  rintro e w1 ⟨rfl, hb⟩
  rw [hz0]
  have z1 := hb.size
  replace Bx := Bx.keep hb
  replace Bk := Bk.keep hb
  replace hw := below_st hw hb (Nat.le_refl _)
  clear hb
  clear cx0 cx1 cx2 ltx ck0 ck1 ck2 ck3 ck4 ltk
  obtain ⟨cx0, cx1, cx2⟩ := Bx.cell3
  have ltx := Bx.lt
  obtain ⟨ck0, ck1, ck2, ck3, ck4⟩ := Bk.cell5
  have ltk := Bk.lt
  go_wp2_with fail
  go_cut [6, 7] (fun v0 v1 wx => (v0 = .string (rcS ⟨ka, kb, kc, kd, ke⟩ c f l) ∧ v1 = .int .i64 (rcE ⟨ka, kb, kc, kd, ke⟩ c f l)) ∧ Below w1.heap.size w1 wx)
  case first =>
    have keepS : ∀ y1 y2 : World, ((w.heap.size < y1.heap.size ∧ y1.cell? ⟨w.heap.size, 0, none⟩ = some (.int .i64 c) ∧ y1.cell? ⟨w.heap.size, 1, none⟩ = some (.int .i64 f) ∧ y1.cell? ⟨w.heap.size, 2, none⟩ = some (.slice p l.length cap)) ∧ (w.heap.size + 1 < y1.heap.size ∧ y1.cell? ⟨w.heap.size + 1, 0, none⟩ = some (.int .i64 ka) ∧ y1.cell? ⟨w.heap.size + 1, 1, none⟩ = some (.int .i64 kb) ∧ y1.cell? ⟨w.heap.size + 1, 2, none⟩ = some (.int .i64 kc) ∧ y1.cell? ⟨w.heap.size + 1, 3, none⟩ = some (.int .i64 kd) ∧ y1.cell? ⟨w.heap.size + 1, 4, none⟩ = some (.int .i64 ke)) ∧ Below w.heap.size w y1) → Below y1.heap.size y1 y2 → ((w.heap.size < y2.heap.size ∧ y2.cell? ⟨w.heap.size, 0, none⟩ = some (.int .i64 c) ∧ y2.cell? ⟨w.heap.size, 1, none⟩ = some (.int .i64 f) ∧ y2.cell? ⟨w.heap.size, 2, none⟩ = some (.slice p l.length cap)) ∧ (w.heap.size + 1 < y2.heap.size ∧ y2.cell? ⟨w.heap.size + 1, 0, none⟩ = some (.int .i64 ka) ∧ y2.cell? ⟨w.heap.size + 1, 1, none⟩ = some (.int .i64 kb) ∧ y2.cell? ⟨w.heap.size + 1, 2, none⟩ = some (.int .i64 kc) ∧ y2.cell? ⟨w.heap.size + 1, 3, none⟩ = some (.int .i64 kd) ∧ y2.cell? ⟨w.heap.size + 1, 4, none⟩ = some (.int .i64 ke)) ∧ Below w.heap.size w y2) := by
      rintro y1 y2 ⟨⟨s0, s0_0, s0_1, s0_2⟩, ⟨s1, s1_0, s1_1, s1_2, s1_3, s1_4⟩, hv⟩ hb
      obtain ⟨hc, -⟩ := bcell hb
      have := hb.size
      exact ⟨⟨by omega, (hc _ _ s0).trans s0_0, (hc _ _ s0).trans s0_1, (hc _ _ s0).trans s0_2⟩, ⟨by omega, (hc _ _ s1).trans s1_0, (hc _ _ s1).trans s1_1, (hc _ _ s1).trans s1_2, (hc _ _ s1).trans s1_3, (hc _ _ s1).trans s1_4⟩, below_st hv hb (Nat.le_refl _)⟩
    have S0 : (w.heap.size < w1.drew.heap.size ∧ w1.drew.cell? ⟨w.heap.size, 0, none⟩ = some (.int .i64 c) ∧ w1.drew.cell? ⟨w.heap.size, 1, none⟩ = some (.int .i64 f) ∧ w1.drew.cell? ⟨w.heap.size, 2, none⟩ = some (.slice p l.length cap)) ∧ (w.heap.size + 1 < w1.drew.heap.size ∧ w1.drew.cell? ⟨w.heap.size + 1, 0, none⟩ = some (.int .i64 ka) ∧ w1.drew.cell? ⟨w.heap.size + 1, 1, none⟩ = some (.int .i64 kb) ∧ w1.drew.cell? ⟨w.heap.size + 1, 2, none⟩ = some (.int .i64 kc) ∧ w1.drew.cell? ⟨w.heap.size + 1, 3, none⟩ = some (.int .i64 kd) ∧ w1.drew.cell? ⟨w.heap.size + 1, 4, none⟩ = some (.int .i64 ke)) ∧ Below w.heap.size w w1.drew := ⟨⟨Bx.lt, cx0, cx1, cx2⟩, ⟨Bk.lt, ck0, ck1, ck2, ck3, ck4⟩, hw.drew⟩
    go_region_held3 (fun w' => (w.heap.size < w'.heap.size ∧ w'.cell? ⟨w.heap.size, 0, none⟩ = some (.int .i64 c) ∧ w'.cell? ⟨w.heap.size, 1, none⟩ = some (.int .i64 f) ∧ w'.cell? ⟨w.heap.size, 2, none⟩ = some (.slice p l.length cap)) ∧ (w.heap.size + 1 < w'.heap.size ∧ w'.cell? ⟨w.heap.size + 1, 0, none⟩ = some (.int .i64 ka) ∧ w'.cell? ⟨w.heap.size + 1, 1, none⟩ = some (.int .i64 kb) ∧ w'.cell? ⟨w.heap.size + 1, 2, none⟩ = some (.int .i64 kc) ∧ w'.cell? ⟨w.heap.size + 1, 3, none⟩ = some (.int .i64 kd) ∧ w'.cell? ⟨w.heap.size + 1, 4, none⟩ = some (.int .i64 ke)) ∧ Below w.heap.size w w')
      (first | exact S0 | (refine keepS _ _ ?_ (by assumption); assumption) | go_keep)
      (first | (go_at_call 44; refine (spec_RecoverCells ⟨ka, kb, kc, kd, ke⟩ _ _ _ _ _ _ (r1.below hb2).ints hm).mono ?_; rintro e y3 ⟨rfl, hb3⟩; have S3 := keepS _ _ S2 hb3) | (go_at_call 45; refine (toClock_any _ _ _ _ _ _).mono ?_; rintro e y2 ⟨rfl, hb2⟩; have S2 := keepS _ _ S1 hb2) | (go_at_call 23; refine (laws_toFlux _ _ _ _ _ _ (hI.below S0.2.2) hm).mono ?_; rintro e y1 ⟨g1, rfl, hg1, r1, hb1⟩; have S1 := keepS _ _ S0 hb1))
    all_goals
      go_wp2_with fail
      go_meet
      exact ⟨⟨rfl, rfl⟩, (below_st (below_st (below_st (Below.refl _ w1).drew hb1 (Nat.le_refl _)) hb2 (Nat.le_refl _)) hb3 (Nat.le_refl _))⟩
  case rest =>
    obtain ⟨⟨rfl, rfl⟩, hb⟩ := hcut
    obtain ⟨w2, hwc⟩ : ∃ w2, w2 = wc := ⟨_, rfl⟩
    subst hwc
    have z2 := hb.size
    replace Bx := Bx.keep hb
    replace Bk := Bk.keep hb
    replace hw := below_st hw hb (Nat.le_refl _)
    clear hb
    clear cx0 cx1 cx2 ltx ck0 ck1 ck2 ck3 ck4 ltk
    obtain ⟨cx0, cx1, cx2⟩ := Bx.cell3
    have ltx := Bx.lt
    obtain ⟨ck0, ck1, ck2, ck3, ck4⟩ := Bk.cell5
    have ltk := Bk.lt
    go_wp2_with fail
    refine (laws_toFlux _ _ _ _ _ _ (hI.below hw) hm).mono ?_
    rintro e w3 ⟨gqx0, rfl, hgqx0, hr, hb⟩
    have Rqx0 := OwnS.of_row hr hgqx0; clear hr
    have z3 := hb.size
    replace Bx := Bx.keep hb
    replace Bk := Bk.keep hb
    replace hw := below_st hw hb (Nat.le_refl _)
    clear hb
    have hOqx0 : ∀ g, ownOf (some (⟨gqx0, 0, none⟩ : Addr)) l = some g → w2.heap.size ≤ g ∧ g < w3.heap.size := fun g hg => ownOf_at Rqx0 hg
    have hNqx0 : l ≠ [] → ∀ g, (some (⟨gqx0, 0, none⟩ : Addr)) = some (⟨g, 0, none⟩ : Addr) → w2.heap.size ≤ g ∧ g < w3.heap.size := fun hl g hp => OwnS.lt Rqx0 hl hp
    clear cx0 cx1 cx2 ltx ck0 ck1 ck2 ck3 ck4 ltk
    obtain ⟨cx0, cx1, cx2⟩ := Bx.cell3
    have ltx := Bx.lt
    obtain ⟨ck0, ck1, ck2, ck3, ck4⟩ := Bk.cell5
    have ltk := Bk.lt
    go_wp2_with fail
    have Bx0 := Blk.new w3 24 #[.int .i64 c, .int .i64 f, .slice (some ⟨gqx0, 0, none⟩) l.length l.length]
    replace Bx := Bx.keep ((Below.refl _ w3).alloc (Nat.le_refl _) (.cells #[.int .i64 c, .int .i64 f, .slice (some ⟨gqx0, 0, none⟩) l.length l.length] 24))
    replace Bk := Bk.keep ((Below.refl _ w3).alloc (Nat.le_refl _) (.cells #[.int .i64 c, .int .i64 f, .slice (some ⟨gqx0, 0, none⟩) l.length l.length] 24))
    replace Rqx0 := Rqx0.below ((Below.refl _ w3).alloc (Nat.le_refl _) (.cells #[.int .i64 c, .int .i64 f, .slice (some ⟨gqx0, 0, none⟩) l.length l.length] 24))
    replace hw := hw.alloc hw.size (.cells #[.int .i64 c, .int .i64 f, .slice (some ⟨gqx0, 0, none⟩) l.length l.length] 24)
    have z4 : w3.heap.size + 1 ≤ (w3.alloc (.cells #[.int .i64 c, .int .i64 f, .slice (some ⟨gqx0, 0, none⟩) l.length l.length] 24)).heap.size := by simp
    generalize w3.alloc (.cells #[.int .i64 c, .int .i64 f, .slice (some ⟨gqx0, 0, none⟩) l.length l.length] 24) = w4 at Bx Bk Bx0 Rqx0 hw z4 ⊢
    clear cx0 cx1 cx2 ltx ck0 ck1 ck2 ck3 ck4 ltk
    obtain ⟨cx0, cx1, cx2⟩ := Bx.cell3
    have ltx := Bx.lt
    obtain ⟨ck0, ck1, ck2, ck3, ck4⟩ := Bk.cell5
    have ltk := Bk.lt
    obtain ⟨cx00, cx01, cx02⟩ := Bx0.cell3
    have ltx0 := Bx0.lt
    go_wp2_with fail
    go_cut [9, 10] (fun v0 v1 wx => (v0 = .string (rcS ⟨ka, kb, kc, kd, ke⟩ c f l) ∧ v1 = .int .i64 (rcE ⟨ka, kb, kc, kd, ke⟩ c f l)) ∧ Below w4.heap.size w4 wx)
    case first =>
      have keepS : ∀ y1 y2 : World, ((w.heap.size < y1.heap.size ∧ y1.cell? ⟨w.heap.size, 0, none⟩ = some (.int .i64 c) ∧ y1.cell? ⟨w.heap.size, 1, none⟩ = some (.int .i64 f) ∧ y1.cell? ⟨w.heap.size, 2, none⟩ = some (.slice p l.length cap)) ∧ (w.heap.size + 1 < y1.heap.size ∧ y1.cell? ⟨w.heap.size + 1, 0, none⟩ = some (.int .i64 ka) ∧ y1.cell? ⟨w.heap.size + 1, 1, none⟩ = some (.int .i64 kb) ∧ y1.cell? ⟨w.heap.size + 1, 2, none⟩ = some (.int .i64 kc) ∧ y1.cell? ⟨w.heap.size + 1, 3, none⟩ = some (.int .i64 kd) ∧ y1.cell? ⟨w.heap.size + 1, 4, none⟩ = some (.int .i64 ke)) ∧ (w3.heap.size < y1.heap.size ∧ y1.cell? ⟨w3.heap.size, 0, none⟩ = some (.int .i64 c) ∧ y1.cell? ⟨w3.heap.size, 1, none⟩ = some (.int .i64 f) ∧ y1.cell? ⟨w3.heap.size, 2, none⟩ = some (.slice (some ⟨gqx0, 0, none⟩) l.length l.length)) ∧ OwnS y1 w2.heap.size (some (⟨gqx0, 0, none⟩ : Addr)) l ∧ Below w.heap.size w y1) → Below y1.heap.size y1 y2 → ((w.heap.size < y2.heap.size ∧ y2.cell? ⟨w.heap.size, 0, none⟩ = some (.int .i64 c) ∧ y2.cell? ⟨w.heap.size, 1, none⟩ = some (.int .i64 f) ∧ y2.cell? ⟨w.heap.size, 2, none⟩ = some (.slice p l.length cap)) ∧ (w.heap.size + 1 < y2.heap.size ∧ y2.cell? ⟨w.heap.size + 1, 0, none⟩ = some (.int .i64 ka) ∧ y2.cell? ⟨w.heap.size + 1, 1, none⟩ = some (.int .i64 kb) ∧ y2.cell? ⟨w.heap.size + 1, 2, none⟩ = some (.int .i64 kc) ∧ y2.cell? ⟨w.heap.size + 1, 3, none⟩ = some (.int .i64 kd) ∧ y2.cell? ⟨w.heap.size + 1, 4, none⟩ = some (.int .i64 ke)) ∧ (w3.heap.size < y2.heap.size ∧ y2.cell? ⟨w3.heap.size, 0, none⟩ = some (.int .i64 c) ∧ y2.cell? ⟨w3.heap.size, 1, none⟩ = some (.int .i64 f) ∧ y2.cell? ⟨w3.heap.size, 2, none⟩ = some (.slice (some ⟨gqx0, 0, none⟩) l.length l.length)) ∧ OwnS y2 w2.heap.size (some (⟨gqx0, 0, none⟩ : Addr)) l ∧ Below w.heap.size w y2) := by
        rintro y1 y2 ⟨⟨s0, s0_0, s0_1, s0_2⟩, ⟨s1, s1_0, s1_1, s1_2, s1_3, s1_4⟩, ⟨s2, s2_0, s2_1, s2_2⟩, t0, hv⟩ hb
        obtain ⟨hc, -⟩ := bcell hb
        have := hb.size
        exact ⟨⟨by omega, (hc _ _ s0).trans s0_0, (hc _ _ s0).trans s0_1, (hc _ _ s0).trans s0_2⟩, ⟨by omega, (hc _ _ s1).trans s1_0, (hc _ _ s1).trans s1_1, (hc _ _ s1).trans s1_2, (hc _ _ s1).trans s1_3, (hc _ _ s1).trans s1_4⟩, ⟨by omega, (hc _ _ s2).trans s2_0, (hc _ _ s2).trans s2_1, (hc _ _ s2).trans s2_2⟩, t0.below hb, below_st hv hb (Nat.le_refl _)⟩
      have S0 : (w.heap.size < w4.drew.heap.size ∧ w4.drew.cell? ⟨w.heap.size, 0, none⟩ = some (.int .i64 c) ∧ w4.drew.cell? ⟨w.heap.size, 1, none⟩ = some (.int .i64 f) ∧ w4.drew.cell? ⟨w.heap.size, 2, none⟩ = some (.slice p l.length cap)) ∧ (w.heap.size + 1 < w4.drew.heap.size ∧ w4.drew.cell? ⟨w.heap.size + 1, 0, none⟩ = some (.int .i64 ka) ∧ w4.drew.cell? ⟨w.heap.size + 1, 1, none⟩ = some (.int .i64 kb) ∧ w4.drew.cell? ⟨w.heap.size + 1, 2, none⟩ = some (.int .i64 kc) ∧ w4.drew.cell? ⟨w.heap.size + 1, 3, none⟩ = some (.int .i64 kd) ∧ w4.drew.cell? ⟨w.heap.size + 1, 4, none⟩ = some (.int .i64 ke)) ∧ (w3.heap.size < w4.drew.heap.size ∧ w4.drew.cell? ⟨w3.heap.size, 0, none⟩ = some (.int .i64 c) ∧ w4.drew.cell? ⟨w3.heap.size, 1, none⟩ = some (.int .i64 f) ∧ w4.drew.cell? ⟨w3.heap.size, 2, none⟩ = some (.slice (some ⟨gqx0, 0, none⟩) l.length l.length)) ∧ OwnS w4.drew w2.heap.size (some (⟨gqx0, 0, none⟩ : Addr)) l ∧ Below w.heap.size w w4.drew := ⟨⟨Bx.lt, cx0, cx1, cx2⟩, ⟨Bk.lt, ck0, ck1, ck2, ck3, ck4⟩, ⟨Bx0.lt, cx00, cx01, cx02⟩, Rqx0.below (Below.refl _ _).drew, hw.drew⟩
      go_region_held3 (fun w' => (w.heap.size < w'.heap.size ∧ w'.cell? ⟨w.heap.size, 0, none⟩ = some (.int .i64 c) ∧ w'.cell? ⟨w.heap.size, 1, none⟩ = some (.int .i64 f) ∧ w'.cell? ⟨w.heap.size, 2, none⟩ = some (.slice p l.length cap)) ∧ (w.heap.size + 1 < w'.heap.size ∧ w'.cell? ⟨w.heap.size + 1, 0, none⟩ = some (.int .i64 ka) ∧ w'.cell? ⟨w.heap.size + 1, 1, none⟩ = some (.int .i64 kb) ∧ w'.cell? ⟨w.heap.size + 1, 2, none⟩ = some (.int .i64 kc) ∧ w'.cell? ⟨w.heap.size + 1, 3, none⟩ = some (.int .i64 kd) ∧ w'.cell? ⟨w.heap.size + 1, 4, none⟩ = some (.int .i64 ke)) ∧ (w3.heap.size < w'.heap.size ∧ w'.cell? ⟨w3.heap.size, 0, none⟩ = some (.int .i64 c) ∧ w'.cell? ⟨w3.heap.size, 1, none⟩ = some (.int .i64 f) ∧ w'.cell? ⟨w3.heap.size, 2, none⟩ = some (.slice (some ⟨gqx0, 0, none⟩) l.length l.length)) ∧ OwnS w' w2.heap.size (some (⟨gqx0, 0, none⟩ : Addr)) l ∧ Below w.heap.size w w')
        (first | exact S0 | (refine keepS _ _ ?_ (by assumption); assumption) | go_keep)
        (first | (go_at_call 46; refine (impl_RecoverCells ⟨ka, kb, kc, kd, ke⟩ _ _ _ _ _ _ S1.2.2.2.1.ints hm).mono ?_; rintro e y2 ⟨rfl, hb2⟩; have S2 := keepS _ _ S1 hb2) | (go_at_call 45; refine (toClock_any _ _ _ _ _ _).mono ?_; rintro e y1 ⟨rfl, hb1⟩; have S1 := keepS _ _ S0 hb1))
      all_goals
        go_wp2_with fail
        go_meet
        exact ⟨⟨rfl, rfl⟩, (below_st (below_st (Below.refl _ w4).drew hb1 (Nat.le_refl _)) hb2 (Nat.le_refl _))⟩
    case rest =>
      obtain ⟨⟨rfl, rfl⟩, hb⟩ := hcut
      obtain ⟨w5, hwc⟩ : ∃ w5, w5 = wc := ⟨_, rfl⟩
      subst hwc
      have z5 := hb.size
      replace Bx := Bx.keep hb
      replace Bk := Bk.keep hb
      replace Bx0 := Bx0.keep hb
      replace Rqx0 := Rqx0.below hb
      replace hw := below_st hw hb (Nat.le_refl _)
      clear hb
      clear cx0 cx1 cx2 ltx ck0 ck1 ck2 ck3 ck4 ltk cx00 cx01 cx02 ltx0
      obtain ⟨cx0, cx1, cx2⟩ := Bx.cell3
      have ltx := Bx.lt
      obtain ⟨ck0, ck1, ck2, ck3, ck4⟩ := Bk.cell5
      have ltk := Bk.lt
      obtain ⟨cx00, cx01, cx02⟩ := Bx0.cell3
      have ltx0 := Bx0.lt
      go_wp2_with fail
      go_cut [45] (fun v0 wx => v0 = .bool false ∧ Below w5.heap.size w5 wx)
      case first =>
        have keepS : ∀ y1 y2 : World, ((w.heap.size < y1.heap.size ∧ y1.cell? ⟨w.heap.size, 0, none⟩ = some (.int .i64 c) ∧ y1.cell? ⟨w.heap.size, 1, none⟩ = some (.int .i64 f) ∧ y1.cell? ⟨w.heap.size, 2, none⟩ = some (.slice p l.length cap)) ∧ (w3.heap.size < y1.heap.size ∧ y1.cell? ⟨w3.heap.size, 0, none⟩ = some (.int .i64 c) ∧ y1.cell? ⟨w3.heap.size, 1, none⟩ = some (.int .i64 f) ∧ y1.cell? ⟨w3.heap.size, 2, none⟩ = some (.slice (some ⟨gqx0, 0, none⟩) l.length l.length)) ∧ OwnS y1 w2.heap.size (some (⟨gqx0, 0, none⟩ : Addr)) l ∧ Below w.heap.size w y1) → Below y1.heap.size y1 y2 → ((w.heap.size < y2.heap.size ∧ y2.cell? ⟨w.heap.size, 0, none⟩ = some (.int .i64 c) ∧ y2.cell? ⟨w.heap.size, 1, none⟩ = some (.int .i64 f) ∧ y2.cell? ⟨w.heap.size, 2, none⟩ = some (.slice p l.length cap)) ∧ (w3.heap.size < y2.heap.size ∧ y2.cell? ⟨w3.heap.size, 0, none⟩ = some (.int .i64 c) ∧ y2.cell? ⟨w3.heap.size, 1, none⟩ = some (.int .i64 f) ∧ y2.cell? ⟨w3.heap.size, 2, none⟩ = some (.slice (some ⟨gqx0, 0, none⟩) l.length l.length)) ∧ OwnS y2 w2.heap.size (some (⟨gqx0, 0, none⟩ : Addr)) l ∧ Below w.heap.size w y2) := by
          rintro y1 y2 ⟨⟨s0, s0_0, s0_1, s0_2⟩, ⟨s1, s1_0, s1_1, s1_2⟩, t0, hv⟩ hb
          obtain ⟨hc, -⟩ := bcell hb
          have := hb.size
          exact ⟨⟨by omega, (hc _ _ s0).trans s0_0, (hc _ _ s0).trans s0_1, (hc _ _ s0).trans s0_2⟩, ⟨by omega, (hc _ _ s1).trans s1_0, (hc _ _ s1).trans s1_1, (hc _ _ s1).trans s1_2⟩, t0.below hb, below_st hv hb (Nat.le_refl _)⟩
        have S0 : (w.heap.size < w5.drew.heap.size ∧ w5.drew.cell? ⟨w.heap.size, 0, none⟩ = some (.int .i64 c) ∧ w5.drew.cell? ⟨w.heap.size, 1, none⟩ = some (.int .i64 f) ∧ w5.drew.cell? ⟨w.heap.size, 2, none⟩ = some (.slice p l.length cap)) ∧ (w3.heap.size < w5.drew.heap.size ∧ w5.drew.cell? ⟨w3.heap.size, 0, none⟩ = some (.int .i64 c) ∧ w5.drew.cell? ⟨w3.heap.size, 1, none⟩ = some (.int .i64 f) ∧ w5.drew.cell? ⟨w3.heap.size, 2, none⟩ = some (.slice (some ⟨gqx0, 0, none⟩) l.length l.length)) ∧ OwnS w5.drew w2.heap.size (some (⟨gqx0, 0, none⟩ : Addr)) l ∧ Below w.heap.size w w5.drew := ⟨⟨Bx.lt, cx0, cx1, cx2⟩, ⟨Bx0.lt, cx00, cx01, cx02⟩, Rqx0.below (Below.refl _ _).drew, hw.drew⟩
        go_region_held3 (fun w' => (w.heap.size < w'.heap.size ∧ w'.cell? ⟨w.heap.size, 0, none⟩ = some (.int .i64 c) ∧ w'.cell? ⟨w.heap.size, 1, none⟩ = some (.int .i64 f) ∧ w'.cell? ⟨w.heap.size, 2, none⟩ = some (.slice p l.length cap)) ∧ (w3.heap.size < w'.heap.size ∧ w'.cell? ⟨w3.heap.size, 0, none⟩ = some (.int .i64 c) ∧ w'.cell? ⟨w3.heap.size, 1, none⟩ = some (.int .i64 f) ∧ w'.cell? ⟨w3.heap.size, 2, none⟩ = some (.slice (some ⟨gqx0, 0, none⟩) l.length l.length)) ∧ OwnS w' w2.heap.size (some (⟨gqx0, 0, none⟩ : Addr)) l ∧ Below w.heap.size w w')
          (first | exact S0 | (refine keepS _ _ ?_ (by assumption); assumption) | go_keep)
          (first | (go_at_call 16; refine (laws_eqFlux_same _ _ _ _ _ _ _ _ S1.2.2.1.ints r6.ints (by omega)).mono ?_; rintro e y2 ⟨rfl, hb2⟩; have S2 := keepS _ _ S1 hb2) | (go_at_call 23; refine (laws_toFlux _ _ _ _ _ _ (hI.below S0.2.2.2) hm).mono ?_; rintro e y1 ⟨g6, rfl, hg6, r6, hb1⟩; have S1 := keepS _ _ S0 hb1))
        all_goals
          go_wp2_with fail
          go_meet
          exact ⟨rfl, (below_st (below_st (Below.refl _ w5).drew hb1 (Nat.le_refl _)) hb2 (Nat.le_refl _))⟩
      case rest =>
        obtain ⟨rfl, hb⟩ := hcut
        obtain ⟨w6, hwc⟩ : ∃ w6, w6 = wc := ⟨_, rfl⟩
        subst hwc
        have z6 := hb.size
        replace Bx := Bx.keep hb
        replace Bk := Bk.keep hb
        replace Bx0 := Bx0.keep hb
        replace Rqx0 := Rqx0.below hb
        replace hw := below_st hw hb (Nat.le_refl _)
        clear hb
        clear cx0 cx1 cx2 ltx ck0 ck1 ck2 ck3 ck4 ltk cx00 cx01 cx02 ltx0
        obtain ⟨cx0, cx1, cx2⟩ := Bx.cell3
        have ltx := Bx.lt
        obtain ⟨ck0, ck1, ck2, ck3, ck4⟩ := Bk.cell5
        have ltk := Bk.lt
        obtain ⟨cx00, cx01, cx02⟩ := Bx0.cell3
        have ltx0 := Bx0.lt
        go_wp2_with fail
        go_ret
        exact ⟨rfl, hw⟩
end Go.Proofs.Ytmjmhdjfaamgkaa
