/- JitW. Printed by conr3.py. -/
import Derived.Test.YtmjmhdjfaamgkaaRevW
import Derived.Test.YtmjmhdjfaamgkaaMarksW
import Derived.Test.YtmjmhdjfaamgkaaStepW
import Derived.Deep.RegionHeld3
import Derived.Deep.DeepCutAuto
import Derived.BigRegion
namespace Go.Proofs.Ytmjmhdjfaamgkaa
open Go.RowKit
set_option linter.unusedVariables false
/-- The greatest difference of the first k numbers of two lists. -/
def jitP (x y : List Int) (k : Nat) : Int := ((List.zipWith (fun a b => max (a - b) (b - a)) (x.take k) (y.take k))).foldl max 0
theorem jitP_succ {x y : List Int} {k : Nat} (hx : k < x.length) (hy : k < y.length) : jitP x y (k + 1) = max (jitP x y k) (max (x[k] - y[k]) (y[k] - x[k])) := by
  unfold jitP
  rw [takeI_snoc hx, takeI_snoc hy, List.zipWith_append (by simp; omega), List.foldl_append]
  rfl
def jitB (ca fa : Int) (la : List Int) (cb fb : Int) (lb : List Int) : Bool := fluxOk ca fa la && (fluxOk cb fb lb && decide (la.length = lb.length))
def jitV (ca fa : Int) (la : List Int) (cb fb : Int) (lb : List Int) : Int := if jitB ca fa la cb fb lb then jitP (chgL fa la) (chgL fb lb) la.length else 0
theorem chg_bd {c f : Int} {l : List Int} (h : fluxOk c f l = true) (k : Nat) (hk : k < (chgL f l).length) : 0 ≤ (chgL f l)[k] ∧ (chgL f l)[k] ≤ 4000000 := by
  obtain ⟨-, -, -, h4, h5, -⟩ := fluxOk_bd h
  rw [chgL_at]
  have := h4 k
  omega
set_option maxHeartbeats 4000000 in
set_option maxRecDepth 20000 in
theorem impl_JitterBetween (ca fa : Int) (pa : Option Addr) (la : List Int) (capa : Nat) (cb fb : Int) (pb : Option Addr) (lb : List Int) (capb : Nat) (w : World) (hIa : IntsAt w pa la) (hIb : IntsAt w pb lb) (hma : la.length ≤ 1048576) (hmb : lb.length ≤ 1048576) :
    Calls Try.prog 42 #[.agg #[.int .i64 ca, .int .i64 fa, .slice pa la.length capa], .agg #[.int .i64 cb, .int .i64 fb, .slice pb lb.length capb]] w fun e w' => e = .returned (.tuple #[.int .i64 (jitV ca fa la cb fb lb), .bool (jitB ca fa la cb fb lb)]) ∧ Below w.heap.size w w' := by
  cases hoa : fluxOk ca fa la
  · have Ha := Lib.hid hoa
    have HJ := Lib.hid (show jitB ca fa la cb fb lb = false from by unfold jitB; rw [hoa]; rfl)
    clear hoa
    go_enter Try.func42, Try.ntmps42
    go_wp2_with fail
    have hw : Below w.heap.size w w := Below.refl _ _
    have Ba := Blk.new w 24 #[.int .i64 ca, .int .i64 fa, .slice pa la.length capa]
    replace hw := hw.alloc hw.size (.cells #[.int .i64 ca, .int .i64 fa, .slice pa la.length capa] 24)
    have Bb := Blk.new (w.alloc (.cells #[.int .i64 ca, .int .i64 fa, .slice pa la.length capa] 24)) 24 #[.int .i64 cb, .int .i64 fb, .slice pb lb.length capb]
    replace Ba := Ba.keep ((Below.refl _ (w.alloc (.cells #[.int .i64 ca, .int .i64 fa, .slice pa la.length capa] 24))).alloc (Nat.le_refl _) (.cells #[.int .i64 cb, .int .i64 fb, .slice pb lb.length capb] 24))
    replace hw := hw.alloc hw.size (.cells #[.int .i64 cb, .int .i64 fb, .slice pb lb.length capb] 24)
    have e1 : (w.alloc (.cells #[.int .i64 ca, .int .i64 fa, .slice pa la.length capa] 24)).heap.size = w.heap.size + 1 := by simp
    rw [e1] at Bb
    have z0 : w.heap.size + 2 ≤ ((w.alloc (.cells #[.int .i64 ca, .int .i64 fa, .slice pa la.length capa] 24)).alloc (.cells #[.int .i64 cb, .int .i64 fb, .slice pb lb.length capb] 24)).heap.size := by simp
    generalize ((w.alloc (.cells #[.int .i64 ca, .int .i64 fa, .slice pa la.length capa] 24)).alloc (.cells #[.int .i64 cb, .int .i64 fb, .slice pb lb.length capb] 24)) = w0 at Ba Bb hw z0 ⊢
    obtain ⟨ca0, ca1, ca2⟩ := Ba.cell3
    have lta := Ba.lt
    obtain ⟨cb0, cb1, cb2⟩ := Bb.cell3
    have ltb := Bb.lt
    go_wp2_with fail
    refine (impl_ValidFlux ca fa pa la capa _ (hIa.below hw) hma).mono ?_
    rintro e w1 ⟨rfl, hb⟩
    rw [Ha.out]
    have z1 := hb.size
    replace Ba := Ba.keep hb
    replace Bb := Bb.keep hb
    replace hw := below_st hw hb (Nat.le_refl _)
    clear hb
    clear ca0 ca1 ca2 lta cb0 cb1 cb2 ltb
    obtain ⟨ca0, ca1, ca2⟩ := Ba.cell3
    have lta := Ba.lt
    obtain ⟨cb0, cb1, cb2⟩ := Bb.cell3
    have ltb := Bb.lt
    go_wp2_with fail
    go_returns
    exact ⟨by unfold jitV; rw [HJ.out]; rfl, hw⟩
  have Ha := Lib.hid hoa
  cases hob : fluxOk cb fb lb
  · have Hb := Lib.hid hob
    have HJ := Lib.hid (show jitB ca fa la cb fb lb = false from by unfold jitB; rw [hoa, hob]; rfl)
    clear hoa hob
    go_enter Try.func42, Try.ntmps42
    go_wp2_with fail
    have hw : Below w.heap.size w w := Below.refl _ _
    have Ba := Blk.new w 24 #[.int .i64 ca, .int .i64 fa, .slice pa la.length capa]
    replace hw := hw.alloc hw.size (.cells #[.int .i64 ca, .int .i64 fa, .slice pa la.length capa] 24)
    have Bb := Blk.new (w.alloc (.cells #[.int .i64 ca, .int .i64 fa, .slice pa la.length capa] 24)) 24 #[.int .i64 cb, .int .i64 fb, .slice pb lb.length capb]
    replace Ba := Ba.keep ((Below.refl _ (w.alloc (.cells #[.int .i64 ca, .int .i64 fa, .slice pa la.length capa] 24))).alloc (Nat.le_refl _) (.cells #[.int .i64 cb, .int .i64 fb, .slice pb lb.length capb] 24))
    replace hw := hw.alloc hw.size (.cells #[.int .i64 cb, .int .i64 fb, .slice pb lb.length capb] 24)
    have e1 : (w.alloc (.cells #[.int .i64 ca, .int .i64 fa, .slice pa la.length capa] 24)).heap.size = w.heap.size + 1 := by simp
    rw [e1] at Bb
    have z0 : w.heap.size + 2 ≤ ((w.alloc (.cells #[.int .i64 ca, .int .i64 fa, .slice pa la.length capa] 24)).alloc (.cells #[.int .i64 cb, .int .i64 fb, .slice pb lb.length capb] 24)).heap.size := by simp
    generalize ((w.alloc (.cells #[.int .i64 ca, .int .i64 fa, .slice pa la.length capa] 24)).alloc (.cells #[.int .i64 cb, .int .i64 fb, .slice pb lb.length capb] 24)) = w0 at Ba Bb hw z0 ⊢
    obtain ⟨ca0, ca1, ca2⟩ := Ba.cell3
    have lta := Ba.lt
    obtain ⟨cb0, cb1, cb2⟩ := Bb.cell3
    have ltb := Bb.lt
    go_wp2_with fail
    refine (impl_ValidFlux ca fa pa la capa _ (hIa.below hw) hma).mono ?_
    rintro e w1 ⟨rfl, hb⟩
    rw [Ha.out]
    have z1 := hb.size
    replace Ba := Ba.keep hb
    replace Bb := Bb.keep hb
    replace hw := below_st hw hb (Nat.le_refl _)
    clear hb
    clear ca0 ca1 ca2 lta cb0 cb1 cb2 ltb
    obtain ⟨ca0, ca1, ca2⟩ := Ba.cell3
    have lta := Ba.lt
    obtain ⟨cb0, cb1, cb2⟩ := Bb.cell3
    have ltb := Bb.lt
    go_wp2_with fail
    refine (impl_ValidFlux cb fb pb lb capb _ (hIb.below hw) hmb).mono ?_
    rintro e w2 ⟨rfl, hb⟩
    rw [Hb.out]
    have z2 := hb.size
    replace Ba := Ba.keep hb
    replace Bb := Bb.keep hb
    replace hw := below_st hw hb (Nat.le_refl _)
    clear hb
    clear ca0 ca1 ca2 lta cb0 cb1 cb2 ltb
    obtain ⟨ca0, ca1, ca2⟩ := Ba.cell3
    have lta := Ba.lt
    obtain ⟨cb0, cb1, cb2⟩ := Bb.cell3
    have ltb := Bb.lt
    go_wp2_with fail
    go_returns
    exact ⟨by unfold jitV; rw [HJ.out]; rfl, hw⟩
  have Hb := Lib.hid hob
  by_cases hlen : la.length = lb.length
  rotate_left
  · have HJ := Lib.hid (show jitB ca fa la cb fb lb = false from by unfold jitB; rw [hoa, hob]; simp [hlen])
    have hne : ((la.length : Int) != (lb.length : Int)) = true := by simp; omega
    clear hoa hob hlen
    go_enter Try.func42, Try.ntmps42
    go_wp2_with fail
    have hw : Below w.heap.size w w := Below.refl _ _
    have Ba := Blk.new w 24 #[.int .i64 ca, .int .i64 fa, .slice pa la.length capa]
    replace hw := hw.alloc hw.size (.cells #[.int .i64 ca, .int .i64 fa, .slice pa la.length capa] 24)
    have Bb := Blk.new (w.alloc (.cells #[.int .i64 ca, .int .i64 fa, .slice pa la.length capa] 24)) 24 #[.int .i64 cb, .int .i64 fb, .slice pb lb.length capb]
    replace Ba := Ba.keep ((Below.refl _ (w.alloc (.cells #[.int .i64 ca, .int .i64 fa, .slice pa la.length capa] 24))).alloc (Nat.le_refl _) (.cells #[.int .i64 cb, .int .i64 fb, .slice pb lb.length capb] 24))
    replace hw := hw.alloc hw.size (.cells #[.int .i64 cb, .int .i64 fb, .slice pb lb.length capb] 24)
    have e1 : (w.alloc (.cells #[.int .i64 ca, .int .i64 fa, .slice pa la.length capa] 24)).heap.size = w.heap.size + 1 := by simp
    rw [e1] at Bb
    have z0 : w.heap.size + 2 ≤ ((w.alloc (.cells #[.int .i64 ca, .int .i64 fa, .slice pa la.length capa] 24)).alloc (.cells #[.int .i64 cb, .int .i64 fb, .slice pb lb.length capb] 24)).heap.size := by simp
    generalize ((w.alloc (.cells #[.int .i64 ca, .int .i64 fa, .slice pa la.length capa] 24)).alloc (.cells #[.int .i64 cb, .int .i64 fb, .slice pb lb.length capb] 24)) = w0 at Ba Bb hw z0 ⊢
    obtain ⟨ca0, ca1, ca2⟩ := Ba.cell3
    have lta := Ba.lt
    obtain ⟨cb0, cb1, cb2⟩ := Bb.cell3
    have ltb := Bb.lt
    go_wp2_with fail
    refine (impl_ValidFlux ca fa pa la capa _ (hIa.below hw) hma).mono ?_
    rintro e w1 ⟨rfl, hb⟩
    rw [Ha.out]
    have z1 := hb.size
    replace Ba := Ba.keep hb
    replace Bb := Bb.keep hb
    replace hw := below_st hw hb (Nat.le_refl _)
    clear hb
    clear ca0 ca1 ca2 lta cb0 cb1 cb2 ltb
    obtain ⟨ca0, ca1, ca2⟩ := Ba.cell3
    have lta := Ba.lt
    obtain ⟨cb0, cb1, cb2⟩ := Bb.cell3
    have ltb := Bb.lt
    go_wp2_with fail
    refine (impl_ValidFlux cb fb pb lb capb _ (hIb.below hw) hmb).mono ?_
    rintro e w2 ⟨rfl, hb⟩
    rw [Hb.out]
    have z2 := hb.size
    replace Ba := Ba.keep hb
    replace Bb := Bb.keep hb
    replace hw := below_st hw hb (Nat.le_refl _)
    clear hb
    clear ca0 ca1 ca2 lta cb0 cb1 cb2 ltb
    obtain ⟨ca0, ca1, ca2⟩ := Ba.cell3
    have lta := Ba.lt
    obtain ⟨cb0, cb1, cb2⟩ := Bb.cell3
    have ltb := Bb.lt
    go_wp2_with fail
    go_returns
    exact ⟨by unfold jitV; rw [HJ.out]; rfl, hw⟩
  have HJ := Lib.hid (show jitB ca fa la cb fb lb = true from by unfold jitB; rw [hoa, hob]; simp [hlen])
  have hne : ((la.length : Int) != (lb.length : Int)) = false := by simp; omega
  have HL := Lib.hid hlen
  clear hoa hob hlen
  go_enter Try.func42, Try.ntmps42
  go_wp2_with fail
  have hw : Below w.heap.size w w := Below.refl _ _
  have Ba := Blk.new w 24 #[.int .i64 ca, .int .i64 fa, .slice pa la.length capa]
  replace hw := hw.alloc hw.size (.cells #[.int .i64 ca, .int .i64 fa, .slice pa la.length capa] 24)
  have Bb := Blk.new (w.alloc (.cells #[.int .i64 ca, .int .i64 fa, .slice pa la.length capa] 24)) 24 #[.int .i64 cb, .int .i64 fb, .slice pb lb.length capb]
  replace Ba := Ba.keep ((Below.refl _ (w.alloc (.cells #[.int .i64 ca, .int .i64 fa, .slice pa la.length capa] 24))).alloc (Nat.le_refl _) (.cells #[.int .i64 cb, .int .i64 fb, .slice pb lb.length capb] 24))
  replace hw := hw.alloc hw.size (.cells #[.int .i64 cb, .int .i64 fb, .slice pb lb.length capb] 24)
  have e1 : (w.alloc (.cells #[.int .i64 ca, .int .i64 fa, .slice pa la.length capa] 24)).heap.size = w.heap.size + 1 := by simp
  rw [e1] at Bb
  have z0 : w.heap.size + 2 ≤ ((w.alloc (.cells #[.int .i64 ca, .int .i64 fa, .slice pa la.length capa] 24)).alloc (.cells #[.int .i64 cb, .int .i64 fb, .slice pb lb.length capb] 24)).heap.size := by simp
  generalize ((w.alloc (.cells #[.int .i64 ca, .int .i64 fa, .slice pa la.length capa] 24)).alloc (.cells #[.int .i64 cb, .int .i64 fb, .slice pb lb.length capb] 24)) = w0 at Ba Bb hw z0 ⊢
  obtain ⟨ca0, ca1, ca2⟩ := Ba.cell3
  have lta := Ba.lt
  obtain ⟨cb0, cb1, cb2⟩ := Bb.cell3
  have ltb := Bb.lt
  go_wp2_with fail
  refine (impl_ValidFlux ca fa pa la capa _ (hIa.below hw) hma).mono ?_
  rintro e w1 ⟨rfl, hb⟩
  rw [Ha.out]
  have z1 := hb.size
  replace Ba := Ba.keep hb
  replace Bb := Bb.keep hb
  replace hw := below_st hw hb (Nat.le_refl _)
  clear hb
  clear ca0 ca1 ca2 lta cb0 cb1 cb2 ltb
  obtain ⟨ca0, ca1, ca2⟩ := Ba.cell3
  have lta := Ba.lt
  obtain ⟨cb0, cb1, cb2⟩ := Bb.cell3
  have ltb := Bb.lt
  go_wp2_with fail
  refine (impl_ValidFlux cb fb pb lb capb _ (hIb.below hw) hmb).mono ?_
  rintro e w2 ⟨rfl, hb⟩
  rw [Hb.out]
  have z2 := hb.size
  replace Ba := Ba.keep hb
  replace Bb := Bb.keep hb
  replace hw := below_st hw hb (Nat.le_refl _)
  clear hb
  clear ca0 ca1 ca2 lta cb0 cb1 cb2 ltb
  obtain ⟨ca0, ca1, ca2⟩ := Ba.cell3
  have lta := Ba.lt
  obtain ⟨cb0, cb1, cb2⟩ := Bb.cell3
  have ltb := Bb.lt
  go_wp2_with fail
  go_cut [6, 7] (fun v0 v1 wx => (∃ qx dx qy dy, v0 = .slice qx (chgL fa la).length dx ∧ v1 = .slice qy (chgL fb lb).length dy ∧ OwnS wx w.heap.size qx (chgL fa la) ∧ OwnS wx w.heap.size qy (chgL fb lb)) ∧ Below w2.heap.size w2 wx)
  case first =>
    have keepS : ∀ y1 y2 : World, ((w.heap.size < y1.heap.size ∧ y1.cell? ⟨w.heap.size, 0, none⟩ = some (.int .i64 ca) ∧ y1.cell? ⟨w.heap.size, 1, none⟩ = some (.int .i64 fa) ∧ y1.cell? ⟨w.heap.size, 2, none⟩ = some (.slice pa la.length capa)) ∧ (w.heap.size + 1 < y1.heap.size ∧ y1.cell? ⟨w.heap.size + 1, 0, none⟩ = some (.int .i64 cb) ∧ y1.cell? ⟨w.heap.size + 1, 1, none⟩ = some (.int .i64 fb) ∧ y1.cell? ⟨w.heap.size + 1, 2, none⟩ = some (.slice pb lb.length capb)) ∧ Below w.heap.size w y1) → Below y1.heap.size y1 y2 → ((w.heap.size < y2.heap.size ∧ y2.cell? ⟨w.heap.size, 0, none⟩ = some (.int .i64 ca) ∧ y2.cell? ⟨w.heap.size, 1, none⟩ = some (.int .i64 fa) ∧ y2.cell? ⟨w.heap.size, 2, none⟩ = some (.slice pa la.length capa)) ∧ (w.heap.size + 1 < y2.heap.size ∧ y2.cell? ⟨w.heap.size + 1, 0, none⟩ = some (.int .i64 cb) ∧ y2.cell? ⟨w.heap.size + 1, 1, none⟩ = some (.int .i64 fb) ∧ y2.cell? ⟨w.heap.size + 1, 2, none⟩ = some (.slice pb lb.length capb)) ∧ Below w.heap.size w y2) := by
      rintro y1 y2 ⟨⟨s0, s0_0, s0_1, s0_2⟩, ⟨s1, s1_0, s1_1, s1_2⟩, hv⟩ hb
      obtain ⟨hc, -⟩ := bcell hb
      have := hb.size
      exact ⟨⟨by omega, (hc _ _ s0).trans s0_0, (hc _ _ s0).trans s0_1, (hc _ _ s0).trans s0_2⟩, ⟨by omega, (hc _ _ s1).trans s1_0, (hc _ _ s1).trans s1_1, (hc _ _ s1).trans s1_2⟩, below_st hv hb (Nat.le_refl _)⟩
    have S0 : (w.heap.size < w2.drew.heap.size ∧ w2.drew.cell? ⟨w.heap.size, 0, none⟩ = some (.int .i64 ca) ∧ w2.drew.cell? ⟨w.heap.size, 1, none⟩ = some (.int .i64 fa) ∧ w2.drew.cell? ⟨w.heap.size, 2, none⟩ = some (.slice pa la.length capa)) ∧ (w.heap.size + 1 < w2.drew.heap.size ∧ w2.drew.cell? ⟨w.heap.size + 1, 0, none⟩ = some (.int .i64 cb) ∧ w2.drew.cell? ⟨w.heap.size + 1, 1, none⟩ = some (.int .i64 fb) ∧ w2.drew.cell? ⟨w.heap.size + 1, 2, none⟩ = some (.slice pb lb.length capb)) ∧ Below w.heap.size w w2.drew := ⟨⟨Ba.lt, ca0, ca1, ca2⟩, ⟨Bb.lt, cb0, cb1, cb2⟩, hw.drew⟩
    go_region_held3 (fun w' => (w.heap.size < w'.heap.size ∧ w'.cell? ⟨w.heap.size, 0, none⟩ = some (.int .i64 ca) ∧ w'.cell? ⟨w.heap.size, 1, none⟩ = some (.int .i64 fa) ∧ w'.cell? ⟨w.heap.size, 2, none⟩ = some (.slice pa la.length capa)) ∧ (w.heap.size + 1 < w'.heap.size ∧ w'.cell? ⟨w.heap.size + 1, 0, none⟩ = some (.int .i64 cb) ∧ w'.cell? ⟨w.heap.size + 1, 1, none⟩ = some (.int .i64 fb) ∧ w'.cell? ⟨w.heap.size + 1, 2, none⟩ = some (.slice pb lb.length capb)) ∧ Below w.heap.size w w')
      (first | exact S0 | (refine keepS _ _ ?_ (by assumption); assumption) | go_keep)
      (first | (go_at_call 60; refine (impl_changes cb fb pb lb capb _ (hIb.below S1.2.2) hmb (fluxOk_sums Hb.out).2).mono ?_; rintro e y2 ⟨qy, dy, rfl, Ry, hb2⟩; have S2 := keepS _ _ S1 hb2) | (go_at_call 60; refine (impl_changes ca fa pa la capa _ (hIa.below S0.2.2) hma (fluxOk_sums Ha.out).2).mono ?_; rintro e y1 ⟨qx, dx, rfl, Rx, hb1⟩; have S1 := keepS _ _ S0 hb1))
    all_goals
      go_wp2_with fail
      go_meet
      exact ⟨⟨_, _, _, _, rfl, rfl, (Rx.below hb2).mono S0.2.2.size, Ry.mono S1.2.2.size⟩, (below_st (below_st (Below.refl _ w2).drew hb1 (Nat.le_refl _)) hb2 (Nat.le_refl _))⟩
  case rest =>
    obtain ⟨⟨qx, dx, qy, dy, rfl, rfl, Rx, Ry⟩, hb⟩ := hcut
    obtain ⟨w3, hwc⟩ : ∃ w3, w3 = wc := ⟨_, rfl⟩
    subst hwc
    have z3 := hb.size
    replace Ba := Ba.keep hb
    replace Bb := Bb.keep hb
    replace hw := below_st hw hb (Nat.le_refl _)
    clear hb
    clear ca0 ca1 ca2 lta cb0 cb1 cb2 ltb
    obtain ⟨ca0, ca1, ca2⟩ := Ba.cell3
    have lta := Ba.lt
    obtain ⟨cb0, cb1, cb2⟩ := Bb.cell3
    have ltb := Bb.lt
    have ex : (chgL fa la).length = la.length := chgL_len _ _
    have ey : (chgL fb lb).length = la.length := by rw [chgL_len, HL.out]
    have Ix := Rx.ints
    have Iy := Ry.ints
    have HV := Lib.hid (show jitV ca fa la cb fb lb = jitP (chgL fa la) (chgL fb lb) la.length from by unfold jitV; rw [HJ.out]; rfl)
    have hbx := chg_bd Ha.out
    have hby := chg_bd Hb.out
    generalize (chgL fa la) = X at ex Ix Rx HV hbx ⊢
    generalize (chgL fb lb) = Y at ey Iy Ry HV hby ⊢
    have HBX := Lib.hid hbx; have HBY := Lib.hid hby; clear hbx hby
    have EX := Lib.hid ex; have EY := Lib.hid ey
    rw [ex, ey]
    clear ex ey hne
    go_wp2_with fail
    go_loopw [8, 33] (fun m i wr => ∃ k : Nat, k ≤ la.length ∧ i = .int .i64 k ∧ m = .int .i64 (jitP X Y k) ∧ (0 ≤ jitP X Y k ∧ jitP X Y k ≤ 4000000) ∧ Below w3.heap.size w3 wr) (fun _ i _ => la.length - (intOf i).toNat)
    case atStart => exact ⟨0, Nat.zero_le _, rfl, rfl, by simp [jitP], Below.refl _ _⟩
    case round =>
      obtain ⟨k, hk, rfl, rfl, hm, hbel⟩ := hrel
      by_cases hlt : k < la.length
      · have hkx : k < X.length := by rw [EX.out]; exact hlt
        have hky : k < Y.length := by rw [EY.out]; exact hlt
        obtain ⟨a, rfl, hx⟩ := (Ix.below hbel).at_ hkx
        obtain ⟨b, rfl, hy⟩ := (Iy.below hbel).at_ hky
        have hs := jitP_succ hkx hky
        have h1 := HBX.out k hkx
        have h2 := HBY.out k hky
        obtain ⟨x, hex⟩ : ∃ x, X[k] = x := ⟨_, rfl⟩
        obtain ⟨y, hey⟩ : ∃ y, Y[k] = y := ⟨_, rfl⟩
        rw [hex] at hx hs h1
        rw [hey] at hy hs h2
        obtain ⟨m, hem⟩ : ∃ m, jitP X Y k = m := ⟨_, rfl⟩
        rw [hem] at hs hm
        simp only [hem]
        have HS := Lib.hid hs
        clear hs hem hex hey
        have q1 : IntKind.i64.wrap (x - y) = x - y := IntWalk.i64_in _ (by omega)
        have q2 : IntKind.i64.wrap (y - x) = y - x := IntWalk.i64_in _ (by omega)
        go_wp2_with fail
        go_region
        clear q1 q2
        go_wp2_with fail
        refine ⟨⟨k + 1, by omega, by go_num, ?_, ?_, ?_⟩, by simp [intOf]; omega⟩
        · rw [HS.out]; try (congr 1; omega)
        · rw [HS.out]; omega
        · exact hbel.drew
      · have ek : k = la.length := by omega
        subst ek
        go_wp2_with fail
        go_returns
        exact ⟨by rw [HV.out, HJ.out]; rfl, below_st hw hbel (Nat.le_refl _)⟩
end Go.Proofs.Ytmjmhdjfaamgkaa
