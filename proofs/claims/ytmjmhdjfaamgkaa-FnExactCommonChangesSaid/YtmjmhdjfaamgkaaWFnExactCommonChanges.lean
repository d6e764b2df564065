/- The law's walk: FnExactCommonChanges. Printed by lawsr3.py. -/
import Derived.Test.YtmjmhdjfaamgkaaComW
import Derived.Test.YtmjmhdjfaamgkaaMarksW
import Derived.Test.YtmjmhdjfaamgkaaOpenF
import Derived.Test.YtmjmhdjfaamgkaaLawAid
import Derived.Deep.RegionHeld3
import Derived.Deep.DeepCutAuto
namespace Go.Proofs.Ytmjmhdjfaamgkaa
open Go.RowKit
set_option linter.unusedVariables false
set_option maxHeartbeats 4000000 in
set_option maxRecDepth 20000 in
theorem walk_FnExactCommonChanges (xa : Flx) (xb : Flx) (w : World) (hxa : xa.ok w) (hxb : xb.ok w) :
    Calls Try.prog 4 #[xa.val, xb.val] w fun e w' => e = .returned (.bool true) ∧ Below w.heap.size w w' := by
  obtain ⟨ca, fa, pa, la, capa⟩ := xa
  obtain ⟨-, hIa, hlena, hwfa⟩ := hxa
  simp only [Flx.val, Num.val] at hIa hlena hwfa
  obtain ⟨cb, fb, pb, lb, capb⟩ := xb
  obtain ⟨-, hIb, hlenb, hwfb⟩ := hxb
  simp only [Flx.val, Num.val] at hIb hlenb hwfb
  simp only [Flx.val, Num.val, Clk.val]
  by_cases hla : (la.length : Int) ≤ 1048576
  rotate_left
  · have hz0 : szL (1048576) la.length = -1 := by unfold szL; rw [if_pos (by omega)]
    go_enter Try.func4, Try.ntmps4
    go_wp2_with fail
    have hw : Below w.heap.size w w := Below.refl _ _
    have Ba := Blk.new w 33 #[.int .i64 ca, .int .i64 fa, .slice pa la.length capa]
    replace hw := hw.alloc hw.size (.cells #[.int .i64 ca, .int .i64 fa, .slice pa la.length capa] 33)
    have Bb := Blk.new (w.alloc (.cells #[.int .i64 ca, .int .i64 fa, .slice pa la.length capa] 33)) 33 #[.int .i64 cb, .int .i64 fb, .slice pb lb.length capb]
    replace Ba := Ba.keep ((Below.refl _ (w.alloc (.cells #[.int .i64 ca, .int .i64 fa, .slice pa la.length capa] 33))).alloc (Nat.le_refl _) (.cells #[.int .i64 cb, .int .i64 fb, .slice pb lb.length capb] 33))
    replace hw := hw.alloc hw.size (.cells #[.int .i64 cb, .int .i64 fb, .slice pb lb.length capb] 33)
    have e1 : (w.alloc (.cells #[.int .i64 ca, .int .i64 fa, .slice pa la.length capa] 33)).heap.size = w.heap.size + 1 := by simp
    rw [e1] at Bb
    have z0 : w.heap.size + 2 ≤ ((w.alloc (.cells #[.int .i64 ca, .int .i64 fa, .slice pa la.length capa] 33)).alloc (.cells #[.int .i64 cb, .int .i64 fb, .slice pb lb.length capb] 33)).heap.size := by simp
    generalize ((w.alloc (.cells #[.int .i64 ca, .int .i64 fa, .slice pa la.length capa] 33)).alloc (.cells #[.int .i64 cb, .int .i64 fb, .slice pb lb.length capb] 33)) = w0 at Ba Bb hw z0 ⊢
    obtain ⟨ca0, ca1, ca2⟩ := Ba.cell3
    have lta := Ba.lt
    obtain ⟨cb0, cb1, cb2⟩ := Bb.cell3
    have ltb := Bb.lt
    go_wp2_with fail
    refine (laws_szFlux _ _ _ _ _ _ _ hlena (by omega)).mono ?_
    rintro e w1 ⟨rfl, hb⟩
    rw [hz0]
    have z1 := hb.size
    replace Ba := Ba.keep hb
    replace Bb := Bb.keep hb
    replace hw := below_st hw hb (Nat.le_refl _)
    clear hb
    clear ca0 ca1 ca2 lta cb0 cb1 cb2 ltb
    obtain ⟨ca0, ca1, ca2⟩ := Ba.cell3
    have lta := Ba.lt
    obtain ⟨cb0, cb1, cb2⟩ := Bb.cell3
    have ltb := Bb.lt
    go_wp2_with fail
    go_ret
    exact ⟨rfl, hw⟩
  have hz0 : szL (1048576) la.length = 1048576 - (la.length : Int) := by unfold szL; rw [if_neg (by omega)]
  have hy0 : decide (1048576 - (la.length : Int) < 0) = false := by simp; omega
  by_cases hlb : (lb.length : Int) ≤ 1048576 - (la.length : Int)
  rotate_left
  · have hz1 : szL (1048576 - (la.length : Int)) lb.length = -1 := by unfold szL; rw [if_pos (by omega)]
    go_enter Try.func4, Try.ntmps4
    go_wp2_with fail
    have hw : Below w.heap.size w w := Below.refl _ _
    have Ba := Blk.new w 33 #[.int .i64 ca, .int .i64 fa, .slice pa la.length capa]
    replace hw := hw.alloc hw.size (.cells #[.int .i64 ca, .int .i64 fa, .slice pa la.length capa] 33)
    have Bb := Blk.new (w.alloc (.cells #[.int .i64 ca, .int .i64 fa, .slice pa la.length capa] 33)) 33 #[.int .i64 cb, .int .i64 fb, .slice pb lb.length capb]
    replace Ba := Ba.keep ((Below.refl _ (w.alloc (.cells #[.int .i64 ca, .int .i64 fa, .slice pa la.length capa] 33))).alloc (Nat.le_refl _) (.cells #[.int .i64 cb, .int .i64 fb, .slice pb lb.length capb] 33))
    replace hw := hw.alloc hw.size (.cells #[.int .i64 cb, .int .i64 fb, .slice pb lb.length capb] 33)
    have e1 : (w.alloc (.cells #[.int .i64 ca, .int .i64 fa, .slice pa la.length capa] 33)).heap.size = w.heap.size + 1 := by simp
    rw [e1] at Bb
    have z0 : w.heap.size + 2 ≤ ((w.alloc (.cells #[.int .i64 ca, .int .i64 fa, .slice pa la.length capa] 33)).alloc (.cells #[.int .i64 cb, .int .i64 fb, .slice pb lb.length capb] 33)).heap.size := by simp
    generalize ((w.alloc (.cells #[.int .i64 ca, .int .i64 fa, .slice pa la.length capa] 33)).alloc (.cells #[.int .i64 cb, .int .i64 fb, .slice pb lb.length capb] 33)) = w0 at Ba Bb hw z0 ⊢
    obtain ⟨ca0, ca1, ca2⟩ := Ba.cell3
    have lta := Ba.lt
    obtain ⟨cb0, cb1, cb2⟩ := Bb.cell3
    have ltb := Bb.lt
    go_wp2_with fail
    refine (laws_szFlux _ _ _ _ _ _ _ hlena (by omega)).mono ?_
    rintro e w1 ⟨rfl, hb⟩
    rw [hz0]
    have z1 := hb.size
    replace Ba := Ba.keep hb
    replace Bb := Bb.keep hb
    replace hw := below_st hw hb (Nat.le_refl _)
    clear hb
    clear ca0 ca1 ca2 lta cb0 cb1 cb2 ltb
    obtain ⟨ca0, ca1, ca2⟩ := Ba.cell3
    have lta := Ba.lt
    obtain ⟨cb0, cb1, cb2⟩ := Bb.cell3
    have ltb := Bb.lt
    go_wp2_with fail
    refine (laws_szFlux _ _ _ _ _ _ _ hlenb (by omega)).mono ?_
    rintro e w2 ⟨rfl, hb⟩
    rw [hz1]
    have z2 := hb.size
    replace Ba := Ba.keep hb
    replace Bb := Bb.keep hb
    replace hw := below_st hw hb (Nat.le_refl _)
    clear hb
    clear ca0 ca1 ca2 lta cb0 cb1 cb2 ltb
    obtain ⟨ca0, ca1, ca2⟩ := Ba.cell3
    have lta := Ba.lt
    obtain ⟨cb0, cb1, cb2⟩ := Bb.cell3
    have ltb := Bb.lt
    go_wp2_with fail
    go_ret
    exact ⟨rfl, hw⟩
  have hz1 : szL (1048576 - (la.length : Int)) lb.length = 1048576 - (la.length : Int) - (lb.length : Int) := by unfold szL; rw [if_neg (by omega)]
  have hy1 : decide (1048576 - (la.length : Int) - (lb.length : Int) < 0) = false := by simp; omega
  have hma : la.length ≤ 1048576 := by omega
  have hmb : lb.length ≤ 1048576 := by omega
  go_enter Try.func4, Try.ntmps4
  go_wp2_with fail
  have hw : Below w.heap.size w w := Below.refl _ _
  have Ba := Blk.new w 33 #[.int .i64 ca, .int .i64 fa, .slice pa la.length capa]
  replace hw := hw.alloc hw.size (.cells #[.int .i64 ca, .int .i64 fa, .slice pa la.length capa] 33)
  have Bb := Blk.new (w.alloc (.cells #[.int .i64 ca, .int .i64 fa, .slice pa la.length capa] 33)) 33 #[.int .i64 cb, .int .i64 fb, .slice pb lb.length capb]
  replace Ba := Ba.keep ((Below.refl _ (w.alloc (.cells #[.int .i64 ca, .int .i64 fa, .slice pa la.length capa] 33))).alloc (Nat.le_refl _) (.cells #[.int .i64 cb, .int .i64 fb, .slice pb lb.length capb] 33))
  replace hw := hw.alloc hw.size (.cells #[.int .i64 cb, .int .i64 fb, .slice pb lb.length capb] 33)
  have e1 : (w.alloc (.cells #[.int .i64 ca, .int .i64 fa, .slice pa la.length capa] 33)).heap.size = w.heap.size + 1 := by simp
  rw [e1] at Bb
  have z0 : w.heap.size + 2 ≤ ((w.alloc (.cells #[.int .i64 ca, .int .i64 fa, .slice pa la.length capa] 33)).alloc (.cells #[.int .i64 cb, .int .i64 fb, .slice pb lb.length capb] 33)).heap.size := by simp
  generalize ((w.alloc (.cells #[.int .i64 ca, .int .i64 fa, .slice pa la.length capa] 33)).alloc (.cells #[.int .i64 cb, .int .i64 fb, .slice pb lb.length capb] 33)) = w0 at Ba Bb hw z0 ⊢
  obtain ⟨ca0, ca1, ca2⟩ := Ba.cell3
  have lta := Ba.lt
  obtain ⟨cb0, cb1, cb2⟩ := Bb.cell3
  have ltb := Bb.lt
  go_wp2_with fail
  refine (laws_szFlux _ _ _ _ _ _ _ hlena (by omega)).mono ?_
  rintro e w1 ⟨rfl, hb⟩
  rw [hz0]
  have z1 := hb.size
  replace Ba := Ba.keep hb
  replace Bb := Bb.keep hb
  replace hw := below_st hw hb (Nat.le_refl _)
  clear hb
  clear ca0 ca1 ca2 lta cb0 cb1 cb2 ltb
  obtain ⟨ca0, ca1, ca2⟩ := Ba.cell3
  have lta := Ba.lt
  obtain ⟨cb0, cb1, cb2⟩ := Bb.cell3
  have ltb := Bb.lt
  go_wp2_with fail
  refine (laws_szFlux _ _ _ _ _ _ _ hlenb (by omega)).mono ?_
  rintro e w2 ⟨rfl, hb⟩
  rw [hz1]
  have z2 := hb.size
  replace Ba := Ba.keep hb
  replace Bb := Bb.keep hb
  replace hw := below_st hw hb (Nat.le_refl _)
  clear hb
  clear ca0 ca1 ca2 lta cb0 cb1 cb2 ltb
  obtain ⟨ca0, ca1, ca2⟩ := Ba.cell3
  have lta := Ba.lt
  obtain ⟨cb0, cb1, cb2⟩ := Bb.cell3
  have ltb := Bb.lt
  go_wp2_with fail
  go_cut [6] (fun v0 wx => v0 = .int .i64 (comV ca fa la cb fb lb) ∧ Below w2.heap.size w2 wx)
  case first =>
    have keepS : ∀ y1 y2 : World, ((w.heap.size < y1.heap.size ∧ y1.cell? ⟨w.heap.size, 0, none⟩ = some (.int .i64 ca) ∧ y1.cell? ⟨w.heap.size, 1, none⟩ = some (.int .i64 fa) ∧ y1.cell? ⟨w.heap.size, 2, none⟩ = some (.slice pa la.length capa)) ∧ (w.heap.size + 1 < y1.heap.size ∧ y1.cell? ⟨w.heap.size + 1, 0, none⟩ = some (.int .i64 cb) ∧ y1.cell? ⟨w.heap.size + 1, 1, none⟩ = some (.int .i64 fb) ∧ y1.cell? ⟨w.heap.size + 1, 2, none⟩ = some (.slice pb lb.length capb)) ∧ Below w.heap.size w y1) → Below y1.heap.size y1 y2 → ((w.heap.size < y2.heap.size ∧ y2.cell? ⟨w.heap.size, 0, none⟩ = some (.int .i64 ca) ∧ y2.cell? ⟨w.heap.size, 1, none⟩ = some (.int .i64 fa) ∧ y2.cell? ⟨w.heap.size, 2, none⟩ = some (.slice pa la.length capa)) ∧ (w.heap.size + 1 < y2.heap.size ∧ y2.cell? ⟨w.heap.size + 1, 0, none⟩ = some (.int .i64 cb) ∧ y2.cell? ⟨w.heap.size + 1, 1, none⟩ = some (.int .i64 fb) ∧ y2.cell? ⟨w.heap.size + 1, 2, none⟩ = some (.slice pb lb.length capb)) ∧ Below w.heap.size w y2) := by
      rintro y1 y2 ⟨⟨s0, s0_0, s0_1, s0_2⟩, ⟨s1, s1_0, s1_1, s1_2⟩, hv⟩ hb
      obtain ⟨hc, -⟩ := bcell hb
      have := hb.size
      exact ⟨⟨by omega, (hc _ _ s0).trans s0_0, (hc _ _ s0).trans s0_1, (hc _ _ s0).trans s0_2⟩, ⟨by omega, (hc _ _ s1).trans s1_0, (hc _ _ s1).trans s1_1, (hc _ _ s1).trans s1_2⟩, below_st hv hb (Nat.le_refl _)⟩
    have S0 : (w.heap.size < w2.drew.heap.size ∧ w2.drew.cell? ⟨w.heap.size, 0, none⟩ = some (.int .i64 ca) ∧ w2.drew.cell? ⟨w.heap.size, 1, none⟩ = some (.int .i64 fa) ∧ w2.drew.cell? ⟨w.heap.size, 2, none⟩ = some (.slice pa la.length capa)) ∧ (w.heap.size + 1 < w2.drew.heap.size ∧ w2.drew.cell? ⟨w.heap.size + 1, 0, none⟩ = some (.int .i64 cb) ∧ w2.drew.cell? ⟨w.heap.size + 1, 1, none⟩ = some (.int .i64 fb) ∧ w2.drew.cell? ⟨w.heap.size + 1, 2, none⟩ = some (.slice pb lb.length capb)) ∧ Below w.heap.size w w2.drew := ⟨⟨Ba.lt, ca0, ca1, ca2⟩, ⟨Bb.lt, cb0, cb1, cb2⟩, hw.drew⟩
    go_region_held3 (fun w' => (w.heap.size < w'.heap.size ∧ w'.cell? ⟨w.heap.size, 0, none⟩ = some (.int .i64 ca) ∧ w'.cell? ⟨w.heap.size, 1, none⟩ = some (.int .i64 fa) ∧ w'.cell? ⟨w.heap.size, 2, none⟩ = some (.slice pa la.length capa)) ∧ (w.heap.size + 1 < w'.heap.size ∧ w'.cell? ⟨w.heap.size + 1, 0, none⟩ = some (.int .i64 cb) ∧ w'.cell? ⟨w.heap.size + 1, 1, none⟩ = some (.int .i64 fb) ∧ w'.cell? ⟨w.heap.size + 1, 2, none⟩ = some (.slice pb lb.length capb)) ∧ Below w.heap.size w w')
      (first | exact S0 | (refine keepS _ _ ?_ (by assumption); assumption) | go_keep)
      (first | (go_at_call 22; refine (spec_CommonChanges _ _ _ _ _ _ _ _ _ _ _ (r1.below hb2).ints r2.ints (by omega) (by omega)).mono ?_; rintro e y3 ⟨rfl, hb3⟩; have S3 := keepS _ _ S2 hb3) | (go_at_call 23; refine (laws_toFlux _ _ _ _ _ _ (hIb.below S1.2.2) hmb).mono ?_; rintro e y2 ⟨g2, rfl, hg2, r2, hb2⟩; have S2 := keepS _ _ S1 hb2) | (go_at_call 23; refine (laws_toFlux _ _ _ _ _ _ (hIa.below S0.2.2) hma).mono ?_; rintro e y1 ⟨g1, rfl, hg1, r1, hb1⟩; have S1 := keepS _ _ S0 hb1))
    all_goals
      go_wp2_with fail
      go_meet
      exact ⟨rfl, (below_st (below_st (below_st (Below.refl _ w2).drew hb1 (Nat.le_refl _)) hb2 (Nat.le_refl _)) hb3 (Nat.le_refl _))⟩
  case rest =>
    obtain ⟨rfl, hb⟩ := hcut
    obtain ⟨w3, hwc⟩ : ∃ w3, w3 = wc := ⟨_, rfl⟩
    subst hwc
    have z3 := hb.size
    replace Ba := Ba.keep hb
    replace Bb := Bb.keep hb
    replace hw := below_st hw hb (Nat.le_refl _)
    clear hb
    clear ca0 ca1 ca2 lta cb0 cb1 cb2 ltb
    obtain ⟨ca0, ca1, ca2⟩ := Ba.cell3
    have lta := Ba.lt
    obtain ⟨cb0, cb1, cb2⟩ := Bb.cell3
    have ltb := Bb.lt
    go_wp2_with fail
    refine (laws_toFlux _ _ _ _ _ _ (hIa.below hw) hma).mono ?_
    rintro e w4 ⟨gqx0, rfl, hgqx0, hr, hb⟩
    have Rqx0 := OwnS.of_row hr hgqx0; clear hr
    have z4 := hb.size
    replace Ba := Ba.keep hb
    replace Bb := Bb.keep hb
    replace hw := below_st hw hb (Nat.le_refl _)
    clear hb
    have hOqx0 : ∀ g, ownOf (some (⟨gqx0, 0, none⟩ : Addr)) la = some g → w3.heap.size ≤ g ∧ g < w4.heap.size := fun g hg => ownOf_at Rqx0 hg
    have hNqx0 : la ≠ [] → ∀ g, (some (⟨gqx0, 0, none⟩ : Addr)) = some (⟨g, 0, none⟩ : Addr) → w3.heap.size ≤ g ∧ g < w4.heap.size := fun hl g hp => OwnS.lt Rqx0 hl hp
    clear ca0 ca1 ca2 lta cb0 cb1 cb2 ltb
    obtain ⟨ca0, ca1, ca2⟩ := Ba.cell3
    have lta := Ba.lt
    obtain ⟨cb0, cb1, cb2⟩ := Bb.cell3
    have ltb := Bb.lt
    go_wp2_with fail
    have Bx0 := Blk.new w4 24 #[.int .i64 ca, .int .i64 fa, .slice (some ⟨gqx0, 0, none⟩) la.length la.length]
    replace Ba := Ba.keep ((Below.refl _ w4).alloc (Nat.le_refl _) (.cells #[.int .i64 ca, .int .i64 fa, .slice (some ⟨gqx0, 0, none⟩) la.length la.length] 24))
    replace Bb := Bb.keep ((Below.refl _ w4).alloc (Nat.le_refl _) (.cells #[.int .i64 ca, .int .i64 fa, .slice (some ⟨gqx0, 0, none⟩) la.length la.length] 24))
    replace Rqx0 := Rqx0.below ((Below.refl _ w4).alloc (Nat.le_refl _) (.cells #[.int .i64 ca, .int .i64 fa, .slice (some ⟨gqx0, 0, none⟩) la.length la.length] 24))
    replace hw := hw.alloc hw.size (.cells #[.int .i64 ca, .int .i64 fa, .slice (some ⟨gqx0, 0, none⟩) la.length la.length] 24)
    have z5 : w4.heap.size + 1 ≤ (w4.alloc (.cells #[.int .i64 ca, .int .i64 fa, .slice (some ⟨gqx0, 0, none⟩) la.length la.length] 24)).heap.size := by simp
    generalize w4.alloc (.cells #[.int .i64 ca, .int .i64 fa, .slice (some ⟨gqx0, 0, none⟩) la.length la.length] 24) = w5 at Ba Bb Bx0 Rqx0 hw z5 ⊢
    clear ca0 ca1 ca2 lta cb0 cb1 cb2 ltb
    obtain ⟨ca0, ca1, ca2⟩ := Ba.cell3
    have lta := Ba.lt
    obtain ⟨cb0, cb1, cb2⟩ := Bb.cell3
    have ltb := Bb.lt
    obtain ⟨cx00, cx01, cx02⟩ := Bx0.cell3
    have ltx0 := Bx0.lt
    go_wp2_with fail
    refine (laws_toFlux _ _ _ _ _ _ (hIb.below hw) hmb).mono ?_
    rintro e w6 ⟨gqx1, rfl, hgqx1, hr, hb⟩
    have Rqx1 := OwnS.of_row hr hgqx1; clear hr
    have z6 := hb.size
    replace Ba := Ba.keep hb
    replace Bb := Bb.keep hb
    replace Bx0 := Bx0.keep hb
    replace Rqx0 := Rqx0.below hb
    replace hw := below_st hw hb (Nat.le_refl _)
    clear hb
    have hOqx1 : ∀ g, ownOf (some (⟨gqx1, 0, none⟩ : Addr)) lb = some g → w5.heap.size ≤ g ∧ g < w6.heap.size := fun g hg => ownOf_at Rqx1 hg
    have hNqx1 : lb ≠ [] → ∀ g, (some (⟨gqx1, 0, none⟩ : Addr)) = some (⟨g, 0, none⟩ : Addr) → w5.heap.size ≤ g ∧ g < w6.heap.size := fun hl g hp => OwnS.lt Rqx1 hl hp
    clear ca0 ca1 ca2 lta cb0 cb1 cb2 ltb cx00 cx01 cx02 ltx0
    obtain ⟨ca0, ca1, ca2⟩ := Ba.cell3
    have lta := Ba.lt
    obtain ⟨cb0, cb1, cb2⟩ := Bb.cell3
    have ltb := Bb.lt
    obtain ⟨cx00, cx01, cx02⟩ := Bx0.cell3
    have ltx0 := Bx0.lt
    go_wp2_with fail
    have Bx1 := Blk.new w6 24 #[.int .i64 cb, .int .i64 fb, .slice (some ⟨gqx1, 0, none⟩) lb.length lb.length]
    replace Ba := Ba.keep ((Below.refl _ w6).alloc (Nat.le_refl _) (.cells #[.int .i64 cb, .int .i64 fb, .slice (some ⟨gqx1, 0, none⟩) lb.length lb.length] 24))
    replace Bb := Bb.keep ((Below.refl _ w6).alloc (Nat.le_refl _) (.cells #[.int .i64 cb, .int .i64 fb, .slice (some ⟨gqx1, 0, none⟩) lb.length lb.length] 24))
    replace Bx0 := Bx0.keep ((Below.refl _ w6).alloc (Nat.le_refl _) (.cells #[.int .i64 cb, .int .i64 fb, .slice (some ⟨gqx1, 0, none⟩) lb.length lb.length] 24))
    replace Rqx0 := Rqx0.below ((Below.refl _ w6).alloc (Nat.le_refl _) (.cells #[.int .i64 cb, .int .i64 fb, .slice (some ⟨gqx1, 0, none⟩) lb.length lb.length] 24))
    replace Rqx1 := Rqx1.below ((Below.refl _ w6).alloc (Nat.le_refl _) (.cells #[.int .i64 cb, .int .i64 fb, .slice (some ⟨gqx1, 0, none⟩) lb.length lb.length] 24))
    replace hw := hw.alloc hw.size (.cells #[.int .i64 cb, .int .i64 fb, .slice (some ⟨gqx1, 0, none⟩) lb.length lb.length] 24)
    have z7 : w6.heap.size + 1 ≤ (w6.alloc (.cells #[.int .i64 cb, .int .i64 fb, .slice (some ⟨gqx1, 0, none⟩) lb.length lb.length] 24)).heap.size := by simp
    generalize w6.alloc (.cells #[.int .i64 cb, .int .i64 fb, .slice (some ⟨gqx1, 0, none⟩) lb.length lb.length] 24) = w7 at Ba Bb Bx0 Bx1 Rqx0 Rqx1 hw z7 ⊢
    clear ca0 ca1 ca2 lta cb0 cb1 cb2 ltb cx00 cx01 cx02 ltx0
    obtain ⟨ca0, ca1, ca2⟩ := Ba.cell3
    have lta := Ba.lt
    obtain ⟨cb0, cb1, cb2⟩ := Bb.cell3
    have ltb := Bb.lt
    obtain ⟨cx00, cx01, cx02⟩ := Bx0.cell3
    have ltx0 := Bx0.lt
    obtain ⟨cx10, cx11, cx12⟩ := Bx1.cell3
    have ltx1 := Bx1.lt
    go_wp2_with fail
    refine (impl_CommonChanges _ _ _ _ _ _ _ _ _ _ _ Rqx0.ints Rqx1.ints (by omega) (by omega)).mono ?_
    rintro e w8 ⟨rfl, hb⟩
    have z8 := hb.size
    replace Ba := Ba.keep hb
    replace Bb := Bb.keep hb
    replace Bx0 := Bx0.keep hb
    replace Bx1 := Bx1.keep hb
    replace Rqx0 := Rqx0.below hb
    replace Rqx1 := Rqx1.below hb
    replace hw := below_st hw hb (Nat.le_refl _)
    clear hb
    clear ca0 ca1 ca2 lta cb0 cb1 cb2 ltb cx00 cx01 cx02 ltx0 cx10 cx11 cx12 ltx1
    obtain ⟨ca0, ca1, ca2⟩ := Ba.cell3
    have lta := Ba.lt
    obtain ⟨cb0, cb1, cb2⟩ := Bb.cell3
    have ltb := Bb.lt
    obtain ⟨cx00, cx01, cx02⟩ := Bx0.cell3
    have ltx0 := Bx0.lt
    obtain ⟨cx10, cx11, cx12⟩ := Bx1.cell3
    have ltx1 := Bx1.lt
    go_wp2_with fail
    go_cut [39] (fun v0 wx => v0 = .bool false ∧ Below w8.heap.size w8 wx)
    case first =>
      have keepS : ∀ y1 y2 : World, ((w.heap.size < y1.heap.size ∧ y1.cell? ⟨w.heap.size, 0, none⟩ = some (.int .i64 ca) ∧ y1.cell? ⟨w.heap.size, 1, none⟩ = some (.int .i64 fa) ∧ y1.cell? ⟨w.heap.size, 2, none⟩ = some (.slice pa la.length capa)) ∧ (w4.heap.size < y1.heap.size ∧ y1.cell? ⟨w4.heap.size, 0, none⟩ = some (.int .i64 ca) ∧ y1.cell? ⟨w4.heap.size, 1, none⟩ = some (.int .i64 fa) ∧ y1.cell? ⟨w4.heap.size, 2, none⟩ = some (.slice (some ⟨gqx0, 0, none⟩) la.length la.length)) ∧ OwnS y1 w3.heap.size (some (⟨gqx0, 0, none⟩ : Addr)) la ∧ Below w.heap.size w y1) → Below y1.heap.size y1 y2 → ((w.heap.size < y2.heap.size ∧ y2.cell? ⟨w.heap.size, 0, none⟩ = some (.int .i64 ca) ∧ y2.cell? ⟨w.heap.size, 1, none⟩ = some (.int .i64 fa) ∧ y2.cell? ⟨w.heap.size, 2, none⟩ = some (.slice pa la.length capa)) ∧ (w4.heap.size < y2.heap.size ∧ y2.cell? ⟨w4.heap.size, 0, none⟩ = some (.int .i64 ca) ∧ y2.cell? ⟨w4.heap.size, 1, none⟩ = some (.int .i64 fa) ∧ y2.cell? ⟨w4.heap.size, 2, none⟩ = some (.slice (some ⟨gqx0, 0, none⟩) la.length la.length)) ∧ OwnS y2 w3.heap.size (some (⟨gqx0, 0, none⟩ : Addr)) la ∧ Below w.heap.size w y2) := by
        rintro y1 y2 ⟨⟨s0, s0_0, s0_1, s0_2⟩, ⟨s1, s1_0, s1_1, s1_2⟩, t0, hv⟩ hb
        obtain ⟨hc, -⟩ := bcell hb
        have := hb.size
        exact ⟨⟨by omega, (hc _ _ s0).trans s0_0, (hc _ _ s0).trans s0_1, (hc _ _ s0).trans s0_2⟩, ⟨by omega, (hc _ _ s1).trans s1_0, (hc _ _ s1).trans s1_1, (hc _ _ s1).trans s1_2⟩, t0.below hb, below_st hv hb (Nat.le_refl _)⟩
      have S0 : (w.heap.size < w8.drew.heap.size ∧ w8.drew.cell? ⟨w.heap.size, 0, none⟩ = some (.int .i64 ca) ∧ w8.drew.cell? ⟨w.heap.size, 1, none⟩ = some (.int .i64 fa) ∧ w8.drew.cell? ⟨w.heap.size, 2, none⟩ = some (.slice pa la.length capa)) ∧ (w4.heap.size < w8.drew.heap.size ∧ w8.drew.cell? ⟨w4.heap.size, 0, none⟩ = some (.int .i64 ca) ∧ w8.drew.cell? ⟨w4.heap.size, 1, none⟩ = some (.int .i64 fa) ∧ w8.drew.cell? ⟨w4.heap.size, 2, none⟩ = some (.slice (some ⟨gqx0, 0, none⟩) la.length la.length)) ∧ OwnS w8.drew w3.heap.size (some (⟨gqx0, 0, none⟩ : Addr)) la ∧ Below w.heap.size w w8.drew := ⟨⟨Ba.lt, ca0, ca1, ca2⟩, ⟨Bx0.lt, cx00, cx01, cx02⟩, Rqx0.below (Below.refl _ _).drew, hw.drew⟩
      go_region_held3 (fun w' => (w.heap.size < w'.heap.size ∧ w'.cell? ⟨w.heap.size, 0, none⟩ = some (.int .i64 ca) ∧ w'.cell? ⟨w.heap.size, 1, none⟩ = some (.int .i64 fa) ∧ w'.cell? ⟨w.heap.size, 2, none⟩ = some (.slice pa la.length capa)) ∧ (w4.heap.size < w'.heap.size ∧ w'.cell? ⟨w4.heap.size, 0, none⟩ = some (.int .i64 ca) ∧ w'.cell? ⟨w4.heap.size, 1, none⟩ = some (.int .i64 fa) ∧ w'.cell? ⟨w4.heap.size, 2, none⟩ = some (.slice (some ⟨gqx0, 0, none⟩) la.length la.length)) ∧ OwnS w' w3.heap.size (some (⟨gqx0, 0, none⟩ : Addr)) la ∧ Below w.heap.size w w')
        (first | exact S0 | (refine keepS _ _ ?_ (by assumption); assumption) | go_keep)
        (first | (go_at_call 16; refine (laws_eqFlux_same _ _ _ _ _ _ _ _ S1.2.2.1.ints r6.ints (by omega)).mono ?_; rintro e y2 ⟨rfl, hb2⟩; have S2 := keepS _ _ S1 hb2) | (go_at_call 23; refine (laws_toFlux _ _ _ _ _ _ (hIa.below S0.2.2.2) hma).mono ?_; rintro e y1 ⟨g6, rfl, hg6, r6, hb1⟩; have S1 := keepS _ _ S0 hb1))
      all_goals
        go_wp2_with fail
        go_meet
        exact ⟨rfl, (below_st (below_st (Below.refl _ w8).drew hb1 (Nat.le_refl _)) hb2 (Nat.le_refl _))⟩
    case rest =>
      obtain ⟨rfl, hb⟩ := hcut
      obtain ⟨w9, hwc⟩ : ∃ w9, w9 = wc := ⟨_, rfl⟩
      subst hwc
      have z9 := hb.size
      replace Ba := Ba.keep hb
      replace Bb := Bb.keep hb
      replace Bx0 := Bx0.keep hb
      replace Bx1 := Bx1.keep hb
      replace Rqx0 := Rqx0.below hb
      replace Rqx1 := Rqx1.below hb
      replace hw := below_st hw hb (Nat.le_refl _)
      clear hb
      clear ca0 ca1 ca2 lta cb0 cb1 cb2 ltb cx00 cx01 cx02 ltx0 cx10 cx11 cx12 ltx1
      obtain ⟨ca0, ca1, ca2⟩ := Ba.cell3
      have lta := Ba.lt
      obtain ⟨cb0, cb1, cb2⟩ := Bb.cell3
      have ltb := Bb.lt
      obtain ⟨cx00, cx01, cx02⟩ := Bx0.cell3
      have ltx0 := Bx0.lt
      obtain ⟨cx10, cx11, cx12⟩ := Bx1.cell3
      have ltx1 := Bx1.lt
      go_wp2_with fail
      go_cut [44] (fun v0 wx => v0 = .bool false ∧ Below w9.heap.size w9 wx)
      case first =>
        have keepS : ∀ y1 y2 : World, ((w.heap.size + 1 < y1.heap.size ∧ y1.cell? ⟨w.heap.size + 1, 0, none⟩ = some (.int .i64 cb) ∧ y1.cell? ⟨w.heap.size + 1, 1, none⟩ = some (.int .i64 fb) ∧ y1.cell? ⟨w.heap.size + 1, 2, none⟩ = some (.slice pb lb.length capb)) ∧ (w6.heap.size < y1.heap.size ∧ y1.cell? ⟨w6.heap.size, 0, none⟩ = some (.int .i64 cb) ∧ y1.cell? ⟨w6.heap.size, 1, none⟩ = some (.int .i64 fb) ∧ y1.cell? ⟨w6.heap.size, 2, none⟩ = some (.slice (some ⟨gqx1, 0, none⟩) lb.length lb.length)) ∧ OwnS y1 w5.heap.size (some (⟨gqx1, 0, none⟩ : Addr)) lb ∧ Below w.heap.size w y1) → Below y1.heap.size y1 y2 → ((w.heap.size + 1 < y2.heap.size ∧ y2.cell? ⟨w.heap.size + 1, 0, none⟩ = some (.int .i64 cb) ∧ y2.cell? ⟨w.heap.size + 1, 1, none⟩ = some (.int .i64 fb) ∧ y2.cell? ⟨w.heap.size + 1, 2, none⟩ = some (.slice pb lb.length capb)) ∧ (w6.heap.size < y2.heap.size ∧ y2.cell? ⟨w6.heap.size, 0, none⟩ = some (.int .i64 cb) ∧ y2.cell? ⟨w6.heap.size, 1, none⟩ = some (.int .i64 fb) ∧ y2.cell? ⟨w6.heap.size, 2, none⟩ = some (.slice (some ⟨gqx1, 0, none⟩) lb.length lb.length)) ∧ OwnS y2 w5.heap.size (some (⟨gqx1, 0, none⟩ : Addr)) lb ∧ Below w.heap.size w y2) := by
          rintro y1 y2 ⟨⟨s0, s0_0, s0_1, s0_2⟩, ⟨s1, s1_0, s1_1, s1_2⟩, t0, hv⟩ hb
          obtain ⟨hc, -⟩ := bcell hb
          have := hb.size
          exact ⟨⟨by omega, (hc _ _ s0).trans s0_0, (hc _ _ s0).trans s0_1, (hc _ _ s0).trans s0_2⟩, ⟨by omega, (hc _ _ s1).trans s1_0, (hc _ _ s1).trans s1_1, (hc _ _ s1).trans s1_2⟩, t0.below hb, below_st hv hb (Nat.le_refl _)⟩
        have S0 : (w.heap.size + 1 < w9.drew.heap.size ∧ w9.drew.cell? ⟨w.heap.size + 1, 0, none⟩ = some (.int .i64 cb) ∧ w9.drew.cell? ⟨w.heap.size + 1, 1, none⟩ = some (.int .i64 fb) ∧ w9.drew.cell? ⟨w.heap.size + 1, 2, none⟩ = some (.slice pb lb.length capb)) ∧ (w6.heap.size < w9.drew.heap.size ∧ w9.drew.cell? ⟨w6.heap.size, 0, none⟩ = some (.int .i64 cb) ∧ w9.drew.cell? ⟨w6.heap.size, 1, none⟩ = some (.int .i64 fb) ∧ w9.drew.cell? ⟨w6.heap.size, 2, none⟩ = some (.slice (some ⟨gqx1, 0, none⟩) lb.length lb.length)) ∧ OwnS w9.drew w5.heap.size (some (⟨gqx1, 0, none⟩ : Addr)) lb ∧ Below w.heap.size w w9.drew := ⟨⟨Bb.lt, cb0, cb1, cb2⟩, ⟨Bx1.lt, cx10, cx11, cx12⟩, Rqx1.below (Below.refl _ _).drew, hw.drew⟩
        go_region_held3 (fun w' => (w.heap.size + 1 < w'.heap.size ∧ w'.cell? ⟨w.heap.size + 1, 0, none⟩ = some (.int .i64 cb) ∧ w'.cell? ⟨w.heap.size + 1, 1, none⟩ = some (.int .i64 fb) ∧ w'.cell? ⟨w.heap.size + 1, 2, none⟩ = some (.slice pb lb.length capb)) ∧ (w6.heap.size < w'.heap.size ∧ w'.cell? ⟨w6.heap.size, 0, none⟩ = some (.int .i64 cb) ∧ w'.cell? ⟨w6.heap.size, 1, none⟩ = some (.int .i64 fb) ∧ w'.cell? ⟨w6.heap.size, 2, none⟩ = some (.slice (some ⟨gqx1, 0, none⟩) lb.length lb.length)) ∧ OwnS w' w5.heap.size (some (⟨gqx1, 0, none⟩ : Addr)) lb ∧ Below w.heap.size w w')
          (first | exact S0 | (refine keepS _ _ ?_ (by assumption); assumption) | go_keep)
          (first | (go_at_call 16; refine (laws_eqFlux_same _ _ _ _ _ _ _ _ S1.2.2.1.ints r6.ints (by omega)).mono ?_; rintro e y2 ⟨rfl, hb2⟩; have S2 := keepS _ _ S1 hb2) | (go_at_call 23; refine (laws_toFlux _ _ _ _ _ _ (hIb.below S0.2.2.2) hmb).mono ?_; rintro e y1 ⟨g6, rfl, hg6, r6, hb1⟩; have S1 := keepS _ _ S0 hb1))
        all_goals
          go_wp2_with fail
          go_meet
          exact ⟨rfl, (below_st (below_st (Below.refl _ w9).drew hb1 (Nat.le_refl _)) hb2 (Nat.le_refl _))⟩
      case rest =>
        obtain ⟨rfl, hb⟩ := hcut
        obtain ⟨w10, hwc⟩ : ∃ w10, w10 = wc := ⟨_, rfl⟩
        subst hwc
        have z10 := hb.size
        replace Ba := Ba.keep hb
        replace Bb := Bb.keep hb
        replace Bx0 := Bx0.keep hb
        replace Bx1 := Bx1.keep hb
        replace Rqx0 := Rqx0.below hb
        replace Rqx1 := Rqx1.below hb
        replace hw := below_st hw hb (Nat.le_refl _)
        clear hb
        clear ca0 ca1 ca2 lta cb0 cb1 cb2 ltb cx00 cx01 cx02 ltx0 cx10 cx11 cx12 ltx1
        obtain ⟨ca0, ca1, ca2⟩ := Ba.cell3
        have lta := Ba.lt
        obtain ⟨cb0, cb1, cb2⟩ := Bb.cell3
        have ltb := Bb.lt
        obtain ⟨cx00, cx01, cx02⟩ := Bx0.cell3
        have ltx0 := Bx0.lt
        obtain ⟨cx10, cx11, cx12⟩ := Bx1.cell3
        have ltx1 := Bx1.lt
        go_wp2_with fail
        go_ret
        exact ⟨rfl, hw⟩
end Go.Proofs.Ytmjmhdjfaamgkaa
