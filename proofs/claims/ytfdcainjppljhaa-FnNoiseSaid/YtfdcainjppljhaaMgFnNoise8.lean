/- JitW. Printed by conr3.py. Equality of lists; SameFlux. Flux comes back from the times of its changes, plain. The source of choices: next, pick, one, among, and what they leave alone. Draws of strings; the laws' own helpers. Draws of cells. Places of ones in a string of cells: plain lemmas. Flux of cells: l02Ones, l02Flux. Draws of flux. -/
import Derived.Test.YtfdcainjppljhaaMgFnNoise1
import Derived.Test.YtfdcainjppljhaaMgFnNoise2
import Derived.Test.YtfdcainjppljhaaMgFnNoise4
import Derived.Test.YtfdcainjppljhaaMgFnNoise7
import Derived.Deep.RegionHeld3
import Derived.Deep.DeepCutAuto
import Derived.BigRegion
import Derived.Handy
import Derived.Deep.RegionLaw
import Derived.Lib.Bytealg
namespace Go.Proofs.Ytfdcainjppljhaa
open Go.RowKit
set_option linter.unusedVariables false
/-- The greatest difference of the first k numbers of two lists. -/
def jitP (x y : List Int) (k : Nat) : Int := ((List.zipWith (fun a b => max (a - b) (b - a)) (x.take k) (y.take k))).foldl max 0
theorem jitP_succ {x y : List Int} {k : Nat} (hx : k < x.length) (hy : k < y.length) : jitP x y (k + 1) = max (jitP x y k) (max (x[k] - y[k]) (y[k] - x[k])) := by
  unfold jitP
  rw [takeI_snoc hx, takeI_snoc hy, List.zipWith_append (by simp; omega), List.foldl_append]
  rfl
def jitB (ca fa : Int) (la : List Int) (cb fb : Int) (lb : List Int) : Bool := fluxOk ca fa la && (fluxOk cb fb lb && decide (la.length = lb.length))
def jitV (ca fa : Int) (la : List Int) (cb fb : Int) (lb : List Int) : Int := if jitB ca fa la cb fb lb then jitP (chgL fa la) (chgL fb lb) la.length else 0
set_option maxHeartbeats 4000000 in
set_option maxRecDepth 20000 in
theorem impl_JitterBetween (ca fa : Int) (pa : Option Addr) (la : List Int) (capa : Nat) (cb fb : Int) (pb : Option Addr) (lb : List Int) (capb : Nat) (w : World) (hIa : IntsAt w pa la) (hIb : IntsAt w pb lb) (hma : la.length ≤ 1048576) (hmb : lb.length ≤ 1048576) :
    Calls Try.prog 31 #[.agg #[.int .i64 ca, .int .i64 fa, .slice pa la.length capa], .agg #[.int .i64 cb, .int .i64 fb, .slice pb lb.length capb]] w fun e w' => e = .returned (.tuple #[.int .i64 (jitV ca fa la cb fb lb), .bool (jitB ca fa la cb fb lb)]) ∧ Below w.heap.size w w' := by
  cases hoa : fluxOk ca fa la
  · have Ha := Lib.hid hoa
    have HJ := Lib.hid (show jitB ca fa la cb fb lb = false from by unfold jitB; rw [hoa]; rfl)
    clear hoa
    go_enter Try.func31, Try.ntmps31
    go_wp2_with fail
    have hw : Below w.heap.size w w := Below.refl _ _
    have Ba := Blk.new w 26 #[.int .i64 ca, .int .i64 fa, .slice pa la.length capa]
    replace hw := hw.alloc hw.size (.cells #[.int .i64 ca, .int .i64 fa, .slice pa la.length capa] 26)
    have Bb := Blk.new (w.alloc (.cells #[.int .i64 ca, .int .i64 fa, .slice pa la.length capa] 26)) 26 #[.int .i64 cb, .int .i64 fb, .slice pb lb.length capb]
    replace Ba := Ba.keep ((Below.refl _ (w.alloc (.cells #[.int .i64 ca, .int .i64 fa, .slice pa la.length capa] 26))).alloc (Nat.le_refl _) (.cells #[.int .i64 cb, .int .i64 fb, .slice pb lb.length capb] 26))
    replace hw := hw.alloc hw.size (.cells #[.int .i64 cb, .int .i64 fb, .slice pb lb.length capb] 26)
    have e1 : (w.alloc (.cells #[.int .i64 ca, .int .i64 fa, .slice pa la.length capa] 26)).heap.size = w.heap.size + 1 := by simp
    rw [e1] at Bb
    have z0 : w.heap.size + 2 ≤ ((w.alloc (.cells #[.int .i64 ca, .int .i64 fa, .slice pa la.length capa] 26)).alloc (.cells #[.int .i64 cb, .int .i64 fb, .slice pb lb.length capb] 26)).heap.size := by simp
    generalize ((w.alloc (.cells #[.int .i64 ca, .int .i64 fa, .slice pa la.length capa] 26)).alloc (.cells #[.int .i64 cb, .int .i64 fb, .slice pb lb.length capb] 26)) = w0 at Ba Bb hw z0 ⊢
    obtain ⟨ca0, ca1, ca2⟩ := Ba.cell3
    have lta := Ba.lt
    obtain ⟨cb0, cb1, cb2⟩ := Bb.cell3
    have ltb := Bb.lt
    go_wp2_with fail
    refine (impl_ValidFlux ca fa pa la capa _ (hIa.below hw) hma).mono ?_
    rintro e w1 ⟨rfl, hb⟩
    rw [Ha.out]
    have z1 := hb.size
    replace Ba := Ba.keep hb
    replace Bb := Bb.keep hb
    replace hw := below_st hw hb (Nat.le_refl _)
    clear hb
    clear ca0 ca1 ca2 lta cb0 cb1 cb2 ltb
    obtain ⟨ca0, ca1, ca2⟩ := Ba.cell3
    have lta := Ba.lt
    obtain ⟨cb0, cb1, cb2⟩ := Bb.cell3
    have ltb := Bb.lt
    go_wp2_with fail
    go_returns
    exact ⟨by unfold jitV; rw [HJ.out]; rfl, hw⟩
  have Ha := Lib.hid hoa
  cases hob : fluxOk cb fb lb
  · have Hb := Lib.hid hob
    have HJ := Lib.hid (show jitB ca fa la cb fb lb = false from by unfold jitB; rw [hoa, hob]; rfl)
    clear hoa hob
    go_enter Try.func31, Try.ntmps31
    go_wp2_with fail
    have hw : Below w.heap.size w w := Below.refl _ _
    have Ba := Blk.new w 26 #[.int .i64 ca, .int .i64 fa, .slice pa la.length capa]
    replace hw := hw.alloc hw.size (.cells #[.int .i64 ca, .int .i64 fa, .slice pa la.length capa] 26)
    have Bb := Blk.new (w.alloc (.cells #[.int .i64 ca, .int .i64 fa, .slice pa la.length capa] 26)) 26 #[.int .i64 cb, .int .i64 fb, .slice pb lb.length capb]
    replace Ba := Ba.keep ((Below.refl _ (w.alloc (.cells #[.int .i64 ca, .int .i64 fa, .slice pa la.length capa] 26))).alloc (Nat.le_refl _) (.cells #[.int .i64 cb, .int .i64 fb, .slice pb lb.length capb] 26))
    replace hw := hw.alloc hw.size (.cells #[.int .i64 cb, .int .i64 fb, .slice pb lb.length capb] 26)
    have e1 : (w.alloc (.cells #[.int .i64 ca, .int .i64 fa, .slice pa la.length capa] 26)).heap.size = w.heap.size + 1 := by simp
    rw [e1] at Bb
    have z0 : w.heap.size + 2 ≤ ((w.alloc (.cells #[.int .i64 ca, .int .i64 fa, .slice pa la.length capa] 26)).alloc (.cells #[.int .i64 cb, .int .i64 fb, .slice pb lb.length capb] 26)).heap.size := by simp
    generalize ((w.alloc (.cells #[.int .i64 ca, .int .i64 fa, .slice pa la.length capa] 26)).alloc (.cells #[.int .i64 cb, .int .i64 fb, .slice pb lb.length capb] 26)) = w0 at Ba Bb hw z0 ⊢
    obtain ⟨ca0, ca1, ca2⟩ := Ba.cell3
    have lta := Ba.lt
    obtain ⟨cb0, cb1, cb2⟩ := Bb.cell3
    have ltb := Bb.lt
    go_wp2_with fail
    refine (impl_ValidFlux ca fa pa la capa _ (hIa.below hw) hma).mono ?_
    rintro e w1 ⟨rfl, hb⟩
    rw [Ha.out]
    have z1 := hb.size
    replace Ba := Ba.keep hb
    replace Bb := Bb.keep hb
    replace hw := below_st hw hb (Nat.le_refl _)
    clear hb
    clear ca0 ca1 ca2 lta cb0 cb1 cb2 ltb
    obtain ⟨ca0, ca1, ca2⟩ := Ba.cell3
    have lta := Ba.lt
    obtain ⟨cb0, cb1, cb2⟩ := Bb.cell3
    have ltb := Bb.lt
    go_wp2_with fail
    refine (impl_ValidFlux cb fb pb lb capb _ (hIb.below hw) hmb).mono ?_
    rintro e w2 ⟨rfl, hb⟩
    rw [Hb.out]
    have z2 := hb.size
    replace Ba := Ba.keep hb
    replace Bb := Bb.keep hb
    replace hw := below_st hw hb (Nat.le_refl _)
    clear hb
    clear ca0 ca1 ca2 lta cb0 cb1 cb2 ltb
    obtain ⟨ca0, ca1, ca2⟩ := Ba.cell3
    have lta := Ba.lt
    obtain ⟨cb0, cb1, cb2⟩ := Bb.cell3
    have ltb := Bb.lt
    go_wp2_with fail
    go_returns
    exact ⟨by unfold jitV; rw [HJ.out]; rfl, hw⟩
  have Hb := Lib.hid hob
  by_cases hlen : la.length = lb.length
  rotate_left
  · have HJ := Lib.hid (show jitB ca fa la cb fb lb = false from by unfold jitB; rw [hoa, hob]; simp [hlen])
    have hne : ((la.length : Int) != (lb.length : Int)) = true := by simp; omega
    clear hoa hob hlen
    go_enter Try.func31, Try.ntmps31
    go_wp2_with fail
    have hw : Below w.heap.size w w := Below.refl _ _
    have Ba := Blk.new w 26 #[.int .i64 ca, .int .i64 fa, .slice pa la.length capa]
    replace hw := hw.alloc hw.size (.cells #[.int .i64 ca, .int .i64 fa, .slice pa la.length capa] 26)
    have Bb := Blk.new (w.alloc (.cells #[.int .i64 ca, .int .i64 fa, .slice pa la.length capa] 26)) 26 #[.int .i64 cb, .int .i64 fb, .slice pb lb.length capb]
    replace Ba := Ba.keep ((Below.refl _ (w.alloc (.cells #[.int .i64 ca, .int .i64 fa, .slice pa la.length capa] 26))).alloc (Nat.le_refl _) (.cells #[.int .i64 cb, .int .i64 fb, .slice pb lb.length capb] 26))
    replace hw := hw.alloc hw.size (.cells #[.int .i64 cb, .int .i64 fb, .slice pb lb.length capb] 26)
    have e1 : (w.alloc (.cells #[.int .i64 ca, .int .i64 fa, .slice pa la.length capa] 26)).heap.size = w.heap.size + 1 := by simp
    rw [e1] at Bb
    have z0 : w.heap.size + 2 ≤ ((w.alloc (.cells #[.int .i64 ca, .int .i64 fa, .slice pa la.length capa] 26)).alloc (.cells #[.int .i64 cb, .int .i64 fb, .slice pb lb.length capb] 26)).heap.size := by simp
    generalize ((w.alloc (.cells #[.int .i64 ca, .int .i64 fa, .slice pa la.length capa] 26)).alloc (.cells #[.int .i64 cb, .int .i64 fb, .slice pb lb.length capb] 26)) = w0 at Ba Bb hw z0 ⊢
    obtain ⟨ca0, ca1, ca2⟩ := Ba.cell3
    have lta := Ba.lt
    obtain ⟨cb0, cb1, cb2⟩ := Bb.cell3
    have ltb := Bb.lt
    go_wp2_with fail
    refine (impl_ValidFlux ca fa pa la capa _ (hIa.below hw) hma).mono ?_
    rintro e w1 ⟨rfl, hb⟩
    rw [Ha.out]
    have z1 := hb.size
    replace Ba := Ba.keep hb
    replace Bb := Bb.keep hb
    replace hw := below_st hw hb (Nat.le_refl _)
    clear hb
    clear ca0 ca1 ca2 lta cb0 cb1 cb2 ltb
    obtain ⟨ca0, ca1, ca2⟩ := Ba.cell3
    have lta := Ba.lt
    obtain ⟨cb0, cb1, cb2⟩ := Bb.cell3
    have ltb := Bb.lt
    go_wp2_with fail
    refine (impl_ValidFlux cb fb pb lb capb _ (hIb.below hw) hmb).mono ?_
    rintro e w2 ⟨rfl, hb⟩
    rw [Hb.out]
    have z2 := hb.size
    replace Ba := Ba.keep hb
    replace Bb := Bb.keep hb
    replace hw := below_st hw hb (Nat.le_refl _)
    clear hb
    clear ca0 ca1 ca2 lta cb0 cb1 cb2 ltb
    obtain ⟨ca0, ca1, ca2⟩ := Ba.cell3
    have lta := Ba.lt
    obtain ⟨cb0, cb1, cb2⟩ := Bb.cell3
    have ltb := Bb.lt
    go_wp2_with fail
    go_returns
    exact ⟨by unfold jitV; rw [HJ.out]; rfl, hw⟩
  have HJ := Lib.hid (show jitB ca fa la cb fb lb = true from by unfold jitB; rw [hoa, hob]; simp [hlen])
  have hne : ((la.length : Int) != (lb.length : Int)) = false := by simp; omega
  have HL := Lib.hid hlen
  clear hoa hob hlen
  go_enter Try.func31, Try.ntmps31
  go_wp2_with fail
  have hw : Below w.heap.size w w := Below.refl _ _
  have Ba := Blk.new w 26 #[.int .i64 ca, .int .i64 fa, .slice pa la.length capa]
  replace hw := hw.alloc hw.size (.cells #[.int .i64 ca, .int .i64 fa, .slice pa la.length capa] 26)
  have Bb := Blk.new (w.alloc (.cells #[.int .i64 ca, .int .i64 fa, .slice pa la.length capa] 26)) 26 #[.int .i64 cb, .int .i64 fb, .slice pb lb.length capb]
  replace Ba := Ba.keep ((Below.refl _ (w.alloc (.cells #[.int .i64 ca, .int .i64 fa, .slice pa la.length capa] 26))).alloc (Nat.le_refl _) (.cells #[.int .i64 cb, .int .i64 fb, .slice pb lb.length capb] 26))
  replace hw := hw.alloc hw.size (.cells #[.int .i64 cb, .int .i64 fb, .slice pb lb.length capb] 26)
  have e1 : (w.alloc (.cells #[.int .i64 ca, .int .i64 fa, .slice pa la.length capa] 26)).heap.size = w.heap.size + 1 := by simp
  rw [e1] at Bb
  have z0 : w.heap.size + 2 ≤ ((w.alloc (.cells #[.int .i64 ca, .int .i64 fa, .slice pa la.length capa] 26)).alloc (.cells #[.int .i64 cb, .int .i64 fb, .slice pb lb.length capb] 26)).heap.size := by simp
  generalize ((w.alloc (.cells #[.int .i64 ca, .int .i64 fa, .slice pa la.length capa] 26)).alloc (.cells #[.int .i64 cb, .int .i64 fb, .slice pb lb.length capb] 26)) = w0 at Ba Bb hw z0 ⊢
  obtain ⟨ca0, ca1, ca2⟩ := Ba.cell3
  have lta := Ba.lt
  obtain ⟨cb0, cb1, cb2⟩ := Bb.cell3
  have ltb := Bb.lt
  go_wp2_with fail
  refine (impl_ValidFlux ca fa pa la capa _ (hIa.below hw) hma).mono ?_
  rintro e w1 ⟨rfl, hb⟩
  rw [Ha.out]
  have z1 := hb.size
  replace Ba := Ba.keep hb
  replace Bb := Bb.keep hb
  replace hw := below_st hw hb (Nat.le_refl _)
  clear hb
  clear ca0 ca1 ca2 lta cb0 cb1 cb2 ltb
  obtain ⟨ca0, ca1, ca2⟩ := Ba.cell3
  have lta := Ba.lt
  obtain ⟨cb0, cb1, cb2⟩ := Bb.cell3
  have ltb := Bb.lt
  go_wp2_with fail
  refine (impl_ValidFlux cb fb pb lb capb _ (hIb.below hw) hmb).mono ?_
  rintro e w2 ⟨rfl, hb⟩
  rw [Hb.out]
  have z2 := hb.size
  replace Ba := Ba.keep hb
  replace Bb := Bb.keep hb
  replace hw := below_st hw hb (Nat.le_refl _)
  clear hb
  clear ca0 ca1 ca2 lta cb0 cb1 cb2 ltb
  obtain ⟨ca0, ca1, ca2⟩ := Ba.cell3
  have lta := Ba.lt
  obtain ⟨cb0, cb1, cb2⟩ := Bb.cell3
  have ltb := Bb.lt
  go_wp2_with fail
  go_cut [6, 7] (fun v0 v1 wx => (∃ qx dx qy dy, v0 = .slice qx (chgL fa la).length dx ∧ v1 = .slice qy (chgL fb lb).length dy ∧ OwnS wx w.heap.size qx (chgL fa la) ∧ OwnS wx w.heap.size qy (chgL fb lb)) ∧ Below w2.heap.size w2 wx)
  case first =>
    have keepS : ∀ y1 y2 : World, ((w.heap.size < y1.heap.size ∧ y1.cell? ⟨w.heap.size, 0, none⟩ = some (.int .i64 ca) ∧ y1.cell? ⟨w.heap.size, 1, none⟩ = some (.int .i64 fa) ∧ y1.cell? ⟨w.heap.size, 2, none⟩ = some (.slice pa la.length capa)) ∧ (w.heap.size + 1 < y1.heap.size ∧ y1.cell? ⟨w.heap.size + 1, 0, none⟩ = some (.int .i64 cb) ∧ y1.cell? ⟨w.heap.size + 1, 1, none⟩ = some (.int .i64 fb) ∧ y1.cell? ⟨w.heap.size + 1, 2, none⟩ = some (.slice pb lb.length capb)) ∧ Below w.heap.size w y1) → Below y1.heap.size y1 y2 → ((w.heap.size < y2.heap.size ∧ y2.cell? ⟨w.heap.size, 0, none⟩ = some (.int .i64 ca) ∧ y2.cell? ⟨w.heap.size, 1, none⟩ = some (.int .i64 fa) ∧ y2.cell? ⟨w.heap.size, 2, none⟩ = some (.slice pa la.length capa)) ∧ (w.heap.size + 1 < y2.heap.size ∧ y2.cell? ⟨w.heap.size + 1, 0, none⟩ = some (.int .i64 cb) ∧ y2.cell? ⟨w.heap.size + 1, 1, none⟩ = some (.int .i64 fb) ∧ y2.cell? ⟨w.heap.size + 1, 2, none⟩ = some (.slice pb lb.length capb)) ∧ Below w.heap.size w y2) := by
      rintro y1 y2 ⟨⟨s0, s0_0, s0_1, s0_2⟩, ⟨s1, s1_0, s1_1, s1_2⟩, hv⟩ hb
      obtain ⟨hc, -⟩ := bcell hb
      have := hb.size
      exact ⟨⟨by omega, (hc _ _ s0).trans s0_0, (hc _ _ s0).trans s0_1, (hc _ _ s0).trans s0_2⟩, ⟨by omega, (hc _ _ s1).trans s1_0, (hc _ _ s1).trans s1_1, (hc _ _ s1).trans s1_2⟩, below_st hv hb (Nat.le_refl _)⟩
    have S0 : (w.heap.size < w2.drew.heap.size ∧ w2.drew.cell? ⟨w.heap.size, 0, none⟩ = some (.int .i64 ca) ∧ w2.drew.cell? ⟨w.heap.size, 1, none⟩ = some (.int .i64 fa) ∧ w2.drew.cell? ⟨w.heap.size, 2, none⟩ = some (.slice pa la.length capa)) ∧ (w.heap.size + 1 < w2.drew.heap.size ∧ w2.drew.cell? ⟨w.heap.size + 1, 0, none⟩ = some (.int .i64 cb) ∧ w2.drew.cell? ⟨w.heap.size + 1, 1, none⟩ = some (.int .i64 fb) ∧ w2.drew.cell? ⟨w.heap.size + 1, 2, none⟩ = some (.slice pb lb.length capb)) ∧ Below w.heap.size w w2.drew := ⟨⟨Ba.lt, ca0, ca1, ca2⟩, ⟨Bb.lt, cb0, cb1, cb2⟩, hw.drew⟩
    go_region_held3 (fun w' => (w.heap.size < w'.heap.size ∧ w'.cell? ⟨w.heap.size, 0, none⟩ = some (.int .i64 ca) ∧ w'.cell? ⟨w.heap.size, 1, none⟩ = some (.int .i64 fa) ∧ w'.cell? ⟨w.heap.size, 2, none⟩ = some (.slice pa la.length capa)) ∧ (w.heap.size + 1 < w'.heap.size ∧ w'.cell? ⟨w.heap.size + 1, 0, none⟩ = some (.int .i64 cb) ∧ w'.cell? ⟨w.heap.size + 1, 1, none⟩ = some (.int .i64 fb) ∧ w'.cell? ⟨w.heap.size + 1, 2, none⟩ = some (.slice pb lb.length capb)) ∧ Below w.heap.size w w')
      (first | exact S0 | (refine keepS _ _ ?_ (by assumption); assumption) | go_keep)
      (first | (go_at_call 49; refine (impl_changes cb fb pb lb capb _ (hIb.below S1.2.2) hmb (fluxOk_sums Hb.out).2).mono ?_; rintro e y2 ⟨qy, dy, rfl, Ry, hb2⟩; have S2 := keepS _ _ S1 hb2) | (go_at_call 49; refine (impl_changes ca fa pa la capa _ (hIa.below S0.2.2) hma (fluxOk_sums Ha.out).2).mono ?_; rintro e y1 ⟨qx, dx, rfl, Rx, hb1⟩; have S1 := keepS _ _ S0 hb1))
    all_goals
      go_wp2_with fail
      go_meet
      exact ⟨⟨_, _, _, _, rfl, rfl, (Rx.below hb2).mono S0.2.2.size, Ry.mono S1.2.2.size⟩, (below_st (below_st (Below.refl _ w2).drew hb1 (Nat.le_refl _)) hb2 (Nat.le_refl _))⟩
  case rest =>
    obtain ⟨⟨qx, dx, qy, dy, rfl, rfl, Rx, Ry⟩, hb⟩ := hcut
    obtain ⟨w3, hwc⟩ : ∃ w3, w3 = wc := ⟨_, rfl⟩
    subst hwc
    have z3 := hb.size
    replace Ba := Ba.keep hb
    replace Bb := Bb.keep hb
    replace hw := below_st hw hb (Nat.le_refl _)
    clear hb
    clear ca0 ca1 ca2 lta cb0 cb1 cb2 ltb
    obtain ⟨ca0, ca1, ca2⟩ := Ba.cell3
    have lta := Ba.lt
    obtain ⟨cb0, cb1, cb2⟩ := Bb.cell3
    have ltb := Bb.lt
    have ex : (chgL fa la).length = la.length := chgL_len _ _
    have ey : (chgL fb lb).length = la.length := by rw [chgL_len, HL.out]
    have Ix := Rx.ints
    have Iy := Ry.ints
    have HV := Lib.hid (show jitV ca fa la cb fb lb = jitP (chgL fa la) (chgL fb lb) la.length from by unfold jitV; rw [HJ.out]; rfl)
    have hbx := chg_bd Ha.out
    have hby := chg_bd Hb.out
    generalize (chgL fa la) = X at ex Ix Rx HV hbx ⊢
    generalize (chgL fb lb) = Y at ey Iy Ry HV hby ⊢
    have HBX := Lib.hid hbx; have HBY := Lib.hid hby; clear hbx hby
    have EX := Lib.hid ex; have EY := Lib.hid ey
    rw [ex, ey]
    clear ex ey hne
    go_wp2_with fail
    go_loopw [8, 33] (fun m i wr => ∃ k : Nat, k ≤ la.length ∧ i = .int .i64 k ∧ m = .int .i64 (jitP X Y k) ∧ (0 ≤ jitP X Y k ∧ jitP X Y k ≤ 4000000) ∧ Below w3.heap.size w3 wr) (fun _ i _ => la.length - (intOf i).toNat)
    case atStart => exact ⟨0, Nat.zero_le _, rfl, rfl, by simp [jitP], Below.refl _ _⟩
    case round =>
      obtain ⟨k, hk, rfl, rfl, hm, hbel⟩ := hrel
      by_cases hlt : k < la.length
      · have hkx : k < X.length := by rw [EX.out]; exact hlt
        have hky : k < Y.length := by rw [EY.out]; exact hlt
        obtain ⟨a, rfl, hx⟩ := (Ix.below hbel).at_ hkx
        obtain ⟨b, rfl, hy⟩ := (Iy.below hbel).at_ hky
        have hs := jitP_succ hkx hky
        have h1 := HBX.out k hkx
        have h2 := HBY.out k hky
        obtain ⟨x, hex⟩ : ∃ x, X[k] = x := ⟨_, rfl⟩
        obtain ⟨y, hey⟩ : ∃ y, Y[k] = y := ⟨_, rfl⟩
        rw [hex] at hx hs h1
        rw [hey] at hy hs h2
        obtain ⟨m, hem⟩ : ∃ m, jitP X Y k = m := ⟨_, rfl⟩
        rw [hem] at hs hm
        simp only [hem]
        have HS := Lib.hid hs
        clear hs hem hex hey
        have q1 : IntKind.i64.wrap (x - y) = x - y := IntWalk.i64_in _ (by omega)
        have q2 : IntKind.i64.wrap (y - x) = y - x := IntWalk.i64_in _ (by omega)
        go_wp2_with fail
        go_region
        clear q1 q2
        go_wp2_with fail
        refine ⟨⟨k + 1, by omega, by go_num, ?_, ?_, ?_⟩, by simp [intOf]; omega⟩
        · rw [HS.out]; try (congr 1; omega)
        · rw [HS.out]; omega
        · exact hbel.drew
      · have ek : k = la.length := by omega
        subst ek
        go_wp2_with fail
        go_returns
        exact ⟨by rw [HV.out, HJ.out]; rfl, below_st hw hbel (Nat.le_refl _)⟩
end Go.Proofs.Ytfdcainjppljhaa
namespace Go.Proofs.Ytfdcainjppljhaa
open Go.RowKit
set_option maxHeartbeats 400000 in
theorem slices_Equal (p q : Option Addr) (l m : List Int) (cap dap : Nat) (w : World) (hI : IntsAt w p l) (hJ : IntsAt w q m) (hl : l.length ≤ 9000000) :
    Calls Try.prog 66 #[.slice p l.length cap, .slice q m.length dap] w fun e w' => e = .returned (.bool (decide (l = m))) ∧ Below w.heap.size w w' := by
  by_cases hlen : l.length = m.length
  · go_enter Try.func66, Try.ntmps66
    go_wp2
    go_loopw [13] (fun i wr => ∃ k : Nat, k ≤ l.length ∧ i = .int .i64 k ∧ l.take k = m.take k ∧ Below w.heap.size w wr) (fun i _ => l.length - (intOf i).toNat)
    case atStart => exact ⟨0, Nat.zero_le _, rfl, rfl, Below.refl _ _⟩
    case round =>
      obtain ⟨k, hk, rfl, heq, hbel⟩ := hrel
      by_cases hlt : k < l.length
      · have hlm : k < m.length := by omega
        obtain ⟨a, rfl, hc⟩ := (hI.below hbel).at_ hlt
        obtain ⟨b, rfl, hd⟩ := (hJ.below hbel).at_ hlm
        have H := Lib.hid hlen
        clear hlen
        by_cases hxy : l[k] = m[k]
        · have hb : (l[k] != m[k]) = false := by simp [hxy]
          have H2 := Lib.hid hxy
          clear hxy
          go_wp2
          go_region
          go_wp2
          have hstep : l.take (k + 1) = m.take (k + 1) := by rw [takeI_snoc hlt, takeI_snoc hlm, heq, H2.out]
          exact ⟨⟨k + 1, by omega, by go_num, hstep, hbel.drew⟩, by simp [intOf]; omega⟩
        · have hb : (l[k] != m[k]) = true := by simp [hxy]
          have H2 := Lib.hid hxy
          clear hxy
          go_wp2
          go_region
          go_wp2
          go_ret
          refine ⟨ret_bool (Eq.symm (decide_eq_false fun e => H2.out (by simp only [e]))), hbel.drew⟩
      · rw [List.take_of_length_le (by omega), List.take_of_length_le (by omega)] at heq
        have H := Lib.hid heq
        clear heq
        go_wp2
        go_ret
        exact ⟨ret_bool (by simp [H.out]), hbel⟩
  · have hd : (l.length : Int) ≠ (m.length : Int) := by omega
    have hd2 : ((l.length : Int) != (m.length : Int)) = true := by simp [hd]
    have H := Lib.hid hlen
    clear hlen hd
    go_enter Try.func66, Try.ntmps66
    go_wp2
    go_ret
    exact ⟨ret_bool (Eq.symm (decide_eq_false fun e => H.out (by rw [e]))), Below.refl _ _⟩
def sameV (c f : Int) (l : List Int) (c' f' : Int) (l' : List Int) : Bool := decide (c = c') && (decide (f = f') && decide (l = l'))
set_option maxHeartbeats 1000000 in
set_option maxRecDepth 20000 in
theorem impl_SameFlux (c f : Int) (p : Option Addr) (l : List Int) (cap : Nat) (c' f' : Int) (p' : Option Addr) (l' : List Int) (cap' : Nat) (w : World) (hI : IntsAt w p l) (hJ : IntsAt w p' l') (hl : l.length ≤ 9000000) (hl' : l'.length ≤ 9000000) :
    Calls Try.prog 28 #[.agg #[.int .i64 c, .int .i64 f, .slice p l.length cap], .agg #[.int .i64 c', .int .i64 f', .slice p' l'.length cap']] w fun e w' => e = .returned (.bool (sameV c f l c' f' l')) ∧ Below w.heap.size w w' := by
  by_cases h1 : c = c'
  · by_cases h2 : f = f'
    · subst h1
      subst h2
      go_enter Try.func28, Try.ntmps28
      go_wp2_with (go_at_call 66; refine (slices_Equal p p' l l' cap cap' _ ((hI.alloc _).alloc _) ((hJ.alloc _).alloc _) hl).mono ?_; rintro e w1 ⟨rfl, hb1⟩)
      go_ret
      exact ⟨ret_bool (by simp [sameV]), below_al (((Below.refl _ _).alloc (Nat.le_refl _) _)) hb1 (Nat.le_refl _)⟩
    · subst h1
      have hq : (f == f') = false := by simp [h2]
      have H := Lib.hid h2
      clear h2
      go_enter Try.func28, Try.ntmps28
      go_wp2
      go_ret
      refine ⟨ret_bool (by simp [sameV, H.out]), ?_⟩
      go_grown
  · have hq : (c == c') = false := by simp [h1]
    have H := Lib.hid h1
    clear h1
    go_enter Try.func28, Try.ntmps28
    go_wp2
    go_ret
    refine ⟨ret_bool (by simp [sameV, H.out]), ?_⟩
    go_grown
end Go.Proofs.Ytfdcainjppljhaa
namespace Go.Proofs.Ytfdcainjppljhaa
open Go.RowKit
set_option linter.unusedVariables false
theorem wrap_in {x : Int} (h : -9223372036854775808 ≤ x ∧ x ≤ 9223372036854775807) : IntKind.i64.wrap x = x := IntWalk.i64_in _ h
theorem diff_chg : ∀ (l : List Int) (f : Int), (∀ x ∈ l, 1 ≤ x ∧ x ≤ 2000000) → diffW (chgL f l) = l.dropLast
  | [], f, _ => rfl
  | [a], f, _ => rfl
  | a :: b :: l, f, h => by
    have ha := h a (by simp)
    show IntKind.i64.wrap (f + a - f) :: diffW (chgL (f + a) (b :: l)) = a :: (b :: l).dropLast
    rw [diff_chg (b :: l) (f + a) (fun x hx => h x (List.mem_cons_of_mem _ hx)), show f + a - f = a by omega, wrap_in (by omega)]
theorem last_chg : ∀ (l : List Int) (f : Int), l ≠ [] → (chgL f l).getLastD 0 = f + l.dropLast.sum
  | [], _, h => absurd rfl h
  | [a], f, _ => by simp [chgL]
  | a :: b :: l, f, _ => by
    have h := last_chg (b :: l) (f + a) (by simp)
    have e : (chgL f (a :: b :: l)).getLastD 0 = (chgL (f + a) (b :: l)).getLastD 0 := rfl
    rw [e, h]
    show f + a + (b :: l).dropLast.sum = f + (a :: (b :: l).dropLast).sum
    rw [List.sum_cons]
    omega
theorem drop_sum {l : List Int} (h : l ≠ []) : l.dropLast.sum + l.getLastD 0 = l.sum := by
  have e := List.dropLast_concat_getLast h
  have e2 : l.getLastD 0 = l.getLast h := by rw [List.getLastD_eq_getLast?, List.getLast?_eq_some_getLast h]; rfl
  rw [e2]
  have := congrArg List.sum e
  rw [List.sum_append] at this
  simpa using this
theorem chg_head (f : Int) {l : List Int} (h : l ≠ []) : (chgL f l).headD 0 = f := by
  cases l with
  | nil => exact absurd rfl h
  | cons a l => rfl
theorem gaps_chg {c f : Int} {l : List Int} (h : fluxOk c f l = true) : gapsT (chgL f l) l.sum = l := by
  obtain ⟨-, hl, hm, -, hf, hs⟩ := fluxOk_bd h
  have hne : l ≠ [] := by intro e; rw [e] at hl; simp at hl
  have hd := drop_sum hne
  have hlast := hm _ (lastD_mem hl.1)
  unfold gapsT
  rw [diff_chg l f hm, last_chg l f hne, chg_head f hne]
  have e1 : l.sum - (f + l.dropLast.sum) = l.getLastD 0 - f := by omega
  rw [e1, wrap_in (x := l.getLastD 0 - f) (by omega), show l.getLastD 0 - f + f = l.getLastD 0 by omega, wrap_in (by omega)]
  have e := List.dropLast_concat_getLast hne
  have e2 : l.getLastD 0 = l.getLast hne := by rw [List.getLastD_eq_getLast?, List.getLast?_eq_some_getLast hne]; rfl
  rw [e2]
  exact e
theorem chg_hi {c f : Int} {l : List Int} (h : fluxOk c f l = true) : ∀ x ∈ chgL f l, 0 ≤ x ∧ x ≤ l.sum - 1 := by
  obtain ⟨-, hl, hm, hp, hf, hs⟩ := fluxOk_bd h
  obtain ⟨-, -, -, -, -, -, h7⟩ := fluxOk_iff.1 h
  have hne : l ≠ [] := by intro e; rw [e] at hl; simp at hl
  have hd := drop_sum hne
  intro x hx
  obtain ⟨i, hi, rfl⟩ := List.getElem_of_mem hx
  have hcl := chgL_len f l
  have hrise := chg_rises h
  have hat := chgL_at f l i hi
  have h1 := hp i
  have hlastv : (chgL f l)[l.length - 1]'(by omega) = f + l.dropLast.sum := by
    rw [chgL_at, List.dropLast_eq_take]
  have h2 : (chgL f l)[i] ≤ (chgL f l)[l.length - 1]'(by omega) := by
    rcases Nat.lt_or_ge i (l.length - 1) with h3 | h3
    · have := List.pairwise_iff_getElem.1 hrise i (l.length - 1) hi (by omega) h3
      omega
    · have : i = l.length - 1 := by omega
      subst this; exact Int.le_refl _
  omega
theorem times_chg {c f : Int} {l : List Int} (h : fluxOk c f l = true) : timesOk (chgL f l) l.sum c = true := by
  obtain ⟨-, hl, hm, -, hf, hs⟩ := fluxOk_bd h
  obtain ⟨-, -, -, h4, -⟩ := fluxOk_iff.1 h
  have hne : l ≠ [] := by intro e; rw [e] at hl; simp at hl
  have hgs := gapsIn_sum h4
  unfold timesOk
  rw [gaps_chg h, chg_head f hne, h, Bool.and_true]
  have a1 : inB l.sum 1 2000000 = true := inB_iff.2 (by omega)
  have a2 : risesB (chgL f l) 0 (l.sum - 1) = true := by
    unfold risesB
    rw [Bool.and_eq_true, decide_eq_true_eq, List.all_eq_true]
    exact ⟨fun x hx => inB_iff.2 (chg_hi h x hx), chg_rises h⟩
  rw [a1, a2]; rfl
theorem tm_chg {c f : Int} {l : List Int} (h : fluxOk c f l = true) : tmC (chgL f l) l.sum c = c ∧ tmF (chgL f l) l.sum c = f ∧ tmL (chgL f l) l.sum c = l ∧ tmE 1 (chgL f l) l.sum c = 0 := by
  obtain ⟨-, hl, -⟩ := fluxOk_bd h
  have hne : l ≠ [] := by intro e; rw [e] at hl; simp at hl
  have he : (chgL f l).isEmpty = false := by
    cases l with
    | nil => exact absurd rfl hne
    | cons a l => rfl
  have hb : tmB (chgL f l) l.sum c = true := by unfold tmB; rw [he, times_chg h]; rfl
  unfold tmC tmF tmL tmE
  rw [hb, he, times_chg h]
  exact ⟨rfl, chg_head f hne, gaps_chg h, rfl⟩
theorem jitP_self (x : List Int) : ∀ k, k ≤ x.length → jitP x x k = 0
  | 0, _ => by simp [jitP]
  | k + 1, h => by
    have hk : k < x.length := by omega
    rw [jitP_succ hk hk, jitP_self x k (by omega)]
    omega
theorem jit_self {c f : Int} {l : List Int} (h : fluxOk c f l = true) : jitB c f l c f l = true ∧ jitV c f l c f l = 0 := by
  have hb : jitB c f l c f l = true := by unfold jitB; rw [h]; simp
  refine ⟨hb, ?_⟩
  unfold jitV
  rw [hb]
  exact jitP_self _ _ (by rw [chgL_len]; exact Nat.le_refl _)
theorem com_self {c f : Int} {l : List Int} (h : fluxOk c f l = true) : comV c f l c f l = (l.length : Int) := by
  unfold comV
  rw [h]
  show comP (chgL f l) (chgL f l) l.length = _
  unfold comP
  rw [List.take_of_length_le (by rw [chgL_len]; exact Nat.le_refl _), List.filter_eq_self.2 (fun a ha => decide_eq_true ha), chgL_len]
theorem same_self (c f : Int) (l : List Int) : sameV c f l c f l = true := by unfold sameV; simp
theorem rev_ok {c f : Int} {l : List Int} (h : fluxOk c f l = true) : revV c f l = l.sum ∧ chV c f l = chgL f l := by
  unfold revV chV
  rw [h]; exact ⟨rfl, rfl⟩
end Go.Proofs.Ytfdcainjppljhaa
namespace Go.Proofs.Ytfdcainjppljhaa
open Go.RowKit
/-- A source of choices in block b, of which at most n have been drawn. -/
def Src (w : World) (b n : Nat) : Prop := ∃ (p : Option Addr) (l : List UInt8) (cap : Nat) (q s : Int), Blk w b 104 #[.slice p l.length cap, .int .i64 q, .int .u64 s] ∧ (0 ≤ q ∧ q ≤ n) ∧ (0 ≤ s ∧ s < 18446744073709551616) ∧ l.length ≤ 1048576 ∧
  (l ≠ [] → ∃ a, p = some a ∧ a.block < b ∧ ∀ i (h : i < l.length), w.cell? (a.add i) = some (.int .u8 (l[i].toNat : Int)))
theorem Src.lt {w : World} {b n : Nat} (h : Src w b n) : b < w.heap.size := by
  obtain ⟨p, l, cap, q, s, hB, -⟩ := h
  exact hB.lt
theorem Src.mono {w : World} {b n m : Nat} (h : Src w b n) (hm : n ≤ m) : Src w b m := by
  obtain ⟨p, l, cap, q, s, hB, hq, r⟩ := h
  exact ⟨p, l, cap, q, s, hB, by omega, r⟩
theorem Src.asides {w w' : World} {b n : Nat} {o : Option Nat} (h : Src w b n) (ha : Aside o w w') (ho : ∀ g, o = some g → b < g) : Src w' b n := by
  obtain ⟨p, l, cap, q, s, hB, hq, hs, hl, hc⟩ := h
  refine ⟨p, l, cap, q, s, hB.asides ha (fun e => by have := ho _ e; omega), hq, hs, hl, fun hne => ?_⟩
  obtain ⟨a, ha', hlt, hcell⟩ := hc hne
  refine ⟨a, ha', hlt, fun i hi => ?_⟩
  rw [← hcell i hi]
  have hbl := hB.lt
  exact World.cell?_of_block (ha.block _ (by rw [Go.ChangeShapes.block_add]; omega) (fun e => by have := ho _ e; rw [Go.ChangeShapes.block_add] at this; omega))
theorem Src.below {w w' : World} {b n : Nat} (h : Src w b n) (hb : Below w.heap.size w w') : Src w' b n := h.asides (o := none) (Aside.of_below hb) (fun g e => by cases e)
theorem Src.drew {w : World} {b n : Nat} (h : Src w b n) : Src w.drew b n := h
theorem and255 (x : Int) : 0 ≤ bits .and .u64 x 255 ∧ bits .and .u64 x 255 ≤ 255 := by
  show 0 ≤ IntKind.u64.wrap ((BitVec.ofInt 64 x &&& BitVec.ofInt 64 255).toNat : Int) ∧ IntKind.u64.wrap ((BitVec.ofInt 64 x &&& BitVec.ofInt 64 255).toNat : Int) ≤ 255
  rw [IntKind.wrap_u64, BitVec.toNat_and]
  have e : (BitVec.ofInt 64 255).toNat = 255 := by decide
  have h := Nat.and_le_right (n := (BitVec.ofInt 64 x).toNat) (m := (BitVec.ofInt 64 255).toNat)
  omega
theorem wrap_u64 (x : Int) : 0 ≤ IntKind.u64.wrap x ∧ IntKind.u64.wrap x < 18446744073709551616 := by
  rw [IntKind.wrap_u64]
  omega
theorem src_set {w : World} {b n : Nat} {p : Option Addr} {l : List UInt8} {cap : Nat} {q s q' s' : Int} (hB : Blk w b 104 #[.slice p l.length cap, .int .i64 q, .int .u64 s])
    (hc : l ≠ [] → ∃ a, p = some a ∧ a.block < b ∧ ∀ i (h : i < l.length), w.cell? (a.add i) = some (.int .u8 (l[i].toNat : Int))) (hl : l.length ≤ 1048576) (hq : 0 ≤ q' ∧ q' ≤ n) (hs : 0 ≤ s' ∧ s' < 18446744073709551616) :
    Src ((w.setCell ⟨b, 1, none⟩ (.int .i64 q')).setCell ⟨b, 2, none⟩ (.int .u64 s')) b n ∧ Aside (some b) w ((w.setCell ⟨b, 1, none⟩ (.int .i64 q')).setCell ⟨b, 2, none⟩ (.int .u64 s')) := by
  have ha : Aside (some b) w ((w.setCell ⟨b, 1, none⟩ (.int .i64 q')).setCell ⟨b, 2, none⟩ (.int .u64 s')) := (Aside.setCell b 1 _).trans (Aside.setCell b 2 _)
  refine ⟨⟨p, l, cap, q', s', ?_, hq, hs, hl, fun hne => ?_⟩, ha⟩
  · have hB' : w.heap[b]? = some (.cells #[.slice p l.length cap, .int .i64 q, .int .u64 s] 104 (0, 0)) := hB
    unfold Blk
    simp [World.setCell, Array.getElem?_modify, hB']
  · obtain ⟨a, ha', hlt, hcell⟩ := hc hne
    refine ⟨a, ha', hlt, fun i hi => ?_⟩
    rw [← hcell i hi]
    exact World.cell?_of_block (ha.block _ (by rw [Go.ChangeShapes.block_add]; have := hB.lt; omega) (fun e => by injection e with e; rw [Go.ChangeShapes.block_add] at e; omega))
set_option maxHeartbeats 1000000 in
set_option maxRecDepth 20000 in
theorem src_next (b n : Nat) (w : World) (hS : Src w b n) (hn : n ≤ 1000000000) :
    Calls Try.prog 93 #[.pointer (some ⟨b, 0, none⟩)] w fun e w' => ∃ x, e = .returned (.int .i64 x) ∧ (0 ≤ x ∧ x ≤ 255) ∧ Src w' b (n + 1) ∧ Aside (some b) w w' := by
  obtain ⟨p, l, cap, q, s, hB, hq, hs, hl, hc⟩ := hS
  obtain ⟨b0, b1, b2⟩ := hB.cell3
  have bf := hB.frozen
  obtain ⟨qn, rfl⟩ : ∃ qn : Nat, q = (qn : Int) := ⟨q.toNat, by omega⟩
  by_cases hlt : qn < l.length
  · obtain ⟨a, rfl, hab, hcell⟩ := hc (by intro e; rw [e] at hlt; exact absurd hlt (Nat.not_lt_zero _))
    have hx := hcell qn hlt
    have hxb := u8_bd (l[qn])
    obtain ⟨x, ex⟩ : ∃ x : Int, (l[qn].toNat : Int) = x := ⟨_, rfl⟩
    rw [ex] at hx hxb
    have hd : decide ((qn : Int) < (l.length : Int)) = true := by simp; omega
    have hd2 : decide (((qn : Int) + 1) ≤ (l.length : Int)) = true := by simp; omega
    have hsn := wrap_u64 (IntKind.u64.wrap (IntKind.u64.wrap (s * 6364136223846793005) + x) + 1442695040888963407)
    obtain ⟨sn, esn⟩ : ∃ sn, IntKind.u64.wrap (IntKind.u64.wrap (IntKind.u64.wrap (s * 6364136223846793005) + x) + 1442695040888963407) = sn := ⟨_, rfl⟩
    rw [esn] at hsn
    have hset := src_set hB hc hl (show (0 : Int) ≤ (qn : Int) + 1 ∧ (qn : Int) + 1 ≤ ((n + 1 : Nat) : Int) by omega) hsn
    go_enter Try.func93, Try.ntmps93
    go_wp2
    go_region
    go_wp2
    go_region
    go_wp2
    go_region
    go_wp2
    go_ret
    exact ⟨x, rfl, by omega, hset.1, hset.2.trans (Aside.of_below (Below.refl _ _).drew.drew.drew)⟩
  · have hd : decide ((qn : Int) < (l.length : Int)) = false := by simp; omega
    have hd2 : decide (((qn : Int) + 1) ≤ (l.length : Int)) = false := by simp; omega
    have hsn := wrap_u64 (IntKind.u64.wrap (IntKind.u64.wrap (s * 6364136223846793005) + 0) + 1442695040888963407)
    obtain ⟨sn, esn⟩ : ∃ sn, IntKind.u64.wrap (IntKind.u64.wrap (IntKind.u64.wrap (s * 6364136223846793005) + 0) + 1442695040888963407) = sn := ⟨_, rfl⟩
    rw [esn] at hsn
    have hset := src_set hB hc hl (show (0 : Int) ≤ (qn : Int) + 1 ∧ (qn : Int) + 1 ≤ ((n + 1 : Nat) : Int) by omega) hsn
    rw [Int.add_zero] at esn
    go_enter Try.func93, Try.ntmps93
    go_wp2
    go_region
    go_wp2
    go_region
    go_wp2
    go_ret
    have h255 := and255 (sn / 1099511627776)
    refine ⟨_, rfl, ?_, hset.1, hset.2.trans (Aside.of_below (Below.refl _ _).drew.drew)⟩
    rw [wrap64_of (by omega) (by omega)]
    exact h255
theorem Aside.trans_below {o : Option Nat} {a b c : World} (h : Aside o a b) {B : Nat} (hb : Below B b c) (hB : a.heap.size ≤ B) : Aside o a c :=
  ⟨hb.os.trans h.os, hb.tape.trans h.tape, hb.output.trans h.output, Nat.le_trans h.size hb.size, fun i hi ho => (hb.block i (by omega)).trans (h.block i hi ho)⟩
theorem Src.belowB {w w' : World} {b n B : Nat} (h : Src w b n) (hb : Below B w w') (hB : b < B) : Src w' b n := by
  obtain ⟨p, l, cap, q, s, hK, hq, hs, hl, hc⟩ := h
  refine ⟨p, l, cap, q, s, hK.below hb hB, hq, hs, hl, fun hne => ?_⟩
  obtain ⟨a, ha', hlt, hcell⟩ := hc hne
  refine ⟨a, ha', hlt, fun i hi => ?_⟩
  rw [hb.cell (p := a.add i) (by rw [Go.ChangeShapes.block_add]; omega)]
  exact hcell i hi
theorem IntsAt.asides {o : Option Nat} {w w' : World} {p : Option Addr} {l : List Int} (h : IntsAt w p l) (ha : Aside o w w') (hne : ∀ a, p = some a → o ≠ some a.block) : IntsAt w' p l := by
  intro hl
  obtain ⟨a, hp, hlt, hc⟩ := h hl
  refine ⟨a, hp, Nat.lt_of_lt_of_le hlt ha.size, fun i hi => ?_⟩
  rw [← hc i hi]
  exact World.cell?_of_block (ha.block _ (by rw [Go.ChangeShapes.block_add]; exact hlt) (by rw [Go.ChangeShapes.block_add]; exact hne a hp))
theorem OwnB.asides {o : Option Nat} {w w' : World} {base : Nat} {v : Value} {l : List UInt8} (h : OwnB w base v l) (ha : Aside o w w') (hne : ∀ g, o = some g → g < base) : OwnB w' base v l := by
  obtain ⟨h1, h2⟩ := h
  refine ⟨h1, ?_⟩
  rcases h2 with h2 | ⟨g, cap, cur, hv, hg, hh, r⟩
  · exact .inl h2
  · have hlt : g < w.heap.size := by
      rcases Nat.lt_or_ge g w.heap.size with hlt | hge
      · exact hlt
      · rw [Array.getElem?_eq_none hge] at hh; cases hh
    exact .inr ⟨g, cap, cur, hv, hg, (ha.block g hlt (fun e => by have := hne g e; omega)).trans hh, r⟩
set_option maxHeartbeats 1000000 in
set_option maxRecDepth 20000 in
theorem src_pick (b n : Nat) (m : Int) (w : World) (hS : Src w b n) (hn : n ≤ 900000000) (hm : m ≤ 65536) :
    Calls Try.prog 67 #[.pointer (some ⟨b, 0, none⟩), .int .i64 m] w fun e w' => ∃ x, e = .returned (.int .i64 x) ∧ (0 ≤ x ∧ (x < m ∨ x = 0)) ∧ Src w' b (n + 2) ∧ Aside (some b) w w' := by
  by_cases h1 : m ≤ 1
  · have hd : decide (m ≤ 1) = true := by simp [h1]
    go_enter Try.func67, Try.ntmps67
    go_wp2
    go_ret
    exact ⟨0, rfl, by omega, hS.mono (by omega), Aside.refl _ _⟩
  · have hd : decide (m ≤ 1) = false := by simp; omega
    have hm0 : m ≠ 0 := by omega
    by_cases h2 : m ≤ 200
    · have hd2 : decide (200 < m) = false := by simp; omega
      go_enter Try.func67, Try.ntmps67
      go_wp2_with (go_at_call 93; refine (src_next b n _ hS (by omega)).mono ?_; rintro e w1 ⟨x, rfl, hx, hS1, ha1⟩; have ht : x.tmod m = x % m := Int.tmod_eq_emod_of_nonneg (by omega))
      go_ret
      have h3 := Int.emod_nonneg x (b := m) (by omega)
      have h4 := Int.emod_lt_of_pos x (b := m) (by omega)
      exact ⟨_, rfl, by omega, hS1.mono (by omega), ha1⟩
    · have hd2 : decide (200 < m) = true := by simp; omega
      go_enter Try.func67, Try.ntmps67
      go_wp2_with fail
      refine (src_next b n _ hS (by omega)).mono ?_
      rintro e w1 ⟨x, rfl, hx, hS1, ha1⟩
      go_wp2_with fail
      refine (src_next b (n + 1) _ hS1 (by omega)).mono ?_
      rintro e w2 ⟨y, rfl, hy, hS2, ha2⟩
      have ht : (x * 256 + y).tmod m = (x * 256 + y) % m := Int.tmod_eq_emod_of_nonneg (by omega)
      go_wp2_with fail
      go_ret
      have h3 := Int.emod_nonneg (x * 256 + y) (b := m) (by omega)
      have h4 := Int.emod_lt_of_pos (x * 256 + y) (b := m) (by omega)
      exact ⟨_, rfl, by omega, hS2.mono (by omega), ha1.trans ha2⟩
set_option maxHeartbeats 1000000 in
theorem src_one (b n : Nat) (m : Int) (w : World) (hS : Src w b n) (hn : n ≤ 900000000) (hm : m ≤ 65536) :
    Calls Try.prog 87 #[.pointer (some ⟨b, 0, none⟩), .int .i64 m] w fun e w' => ∃ x, e = .returned (.bool x) ∧ Src w' b (n + 2) ∧ Aside (some b) w w' := by
  go_enter Try.func87, Try.ntmps87
  go_wp2_with (go_at_call 67; refine (src_pick b n m _ hS hn hm).mono ?_; rintro e w1 ⟨x, rfl, hx, hS1, ha1⟩)
  go_ret
  exact ⟨_, rfl, hS1, ha1⟩
set_option maxHeartbeats 1000000 in
theorem src_among (b n : Nat) (p : Option Addr) (l : List Int) (cap : Nat) (w : World) (hS : Src w b n) (hn : n ≤ 900000000) (hI : IntsAt w p l) (hp : ∀ a, p = some a → a.block ≠ b) (h0 : 0 < l.length) (hl : l.length ≤ 200) :
    Calls Try.prog 86 #[.pointer (some ⟨b, 0, none⟩), .slice p l.length cap] w fun e w' => ∃ x, e = .returned (.int .i64 x) ∧ x ∈ l ∧ Src w' b (n + 2) ∧ Aside (some b) w w' := by
  obtain ⟨a, rfl, -⟩ := hI (by intro e; rw [e] at h0; exact absurd h0 (Nat.lt_irrefl _))
  go_enter Try.func86, Try.ntmps86
  go_wp2_with fail
  refine (src_pick b n l.length _ hS hn (by omega)).mono ?_
  rintro e w1 ⟨x, rfl, hx, hS1, ha1⟩
  obtain ⟨xn, rfl⟩ : ∃ xn : Nat, x = (xn : Int) := ⟨x.toNat, by omega⟩
  have hlt : xn < l.length := by omega
  obtain ⟨a', ha', hc⟩ := (hI.asides ha1 (fun a e => by injection e with e; subst e; intro h; injection h with h; exact hp _ rfl h.symm)).at_ hlt
  cases ha'
  have hmem := List.getElem_mem hlt
  go_wp2_with fail
  go_ret
  exact ⟨_, rfl, hmem, hS1, ha1⟩
end Go.Proofs.Ytfdcainjppljhaa
namespace Go.Proofs.Ytfdcainjppljhaa
open Go.RowKit
def BytesAt (w : World) (p : Option Addr) (l : List UInt8) : Prop := l ≠ [] → ∃ a, p = some a ∧ a.block < w.heap.size ∧ ∀ i (h : i < l.length), w.cell? (a.add i) = some (.int .u8 (l[i].toNat : Int))
theorem BytesAt.below {w w' : World} {p : Option Addr} {l : List UInt8} (h : BytesAt w p l) (hb : Below w.heap.size w w') : BytesAt w' p l := by
  intro hne
  obtain ⟨a, ha, hlt, hc⟩ := h hne
  refine ⟨a, ha, Nat.lt_of_lt_of_le hlt hb.size, fun i hi => ?_⟩
  rw [hb.cell (p := a.add i) (by rw [Go.ChangeShapes.block_add]; exact hlt)]
  exact hc i hi
theorem BytesAt.at_ {w : World} {p : Option Addr} {l : List UInt8} (h : BytesAt w p l) {k : Nat} (hk : k < l.length) : ∃ a, p = some a ∧ w.cell? (a.add k) = some (.int .u8 (l[k].toNat : Int)) := by
  obtain ⟨a, ha, _, hc⟩ := h (by intro e; rw [e] at hk; exact absurd hk (Nat.not_lt_zero k))
  exact ⟨a, ha, hc k hk⟩
theorem lit_ints (w : World) (l : List Int) : IntsAt (w.alloc (.cells (l.map (Value.int .i64)).toArray 2)) (some ⟨w.heap.size, 0, none⟩) l := by
  have B := Blk.new w 2 (l.map (Value.int .i64)).toArray
  intro _
  refine ⟨_, rfl, B.lt, fun i hi => ?_⟩
  rw [Addr.add_lit, Nat.zero_add, B.cell i]
  simp [hi]
/-- The length of a string in a slot. -/
def strLen : Value → Int | .string s => s.size | _ => 0
theorem u8w_bd (x : Int) : 0 ≤ IntKind.u8.wrap x ∧ IntKind.u8.wrap x < 256 := by
  simp [IntKind.wrap, IntKind.bits, IntKind.signed]
  omega
set_option maxHeartbeats 1000000 in
theorem spec_l00From (p : Option Addr) (l : List UInt8) (cap : Nat) (w : World) (hI : BytesAt w p l) (hl : l.length ≤ 1048576) :
    Calls Try.prog 56 #[.slice p l.length cap] w fun e w' => e = .returned (.pointer (some ⟨w.heap.size, 0, none⟩)) ∧ Src w' w.heap.size 0 ∧ Below w.heap.size w w' := by
  go_enter Try.func56, Try.ntmps56
  go_wp2
  go_ret
  refine ⟨rfl, ⟨p, l, cap, 0, 0, Blk.new _ _ _, by omega, by omega, hl, fun hne => ?_⟩, (Below.refl _ _).alloc (Nat.le_refl _) _⟩
  obtain ⟨a, ha, hlt, hc⟩ := hI hne
  refine ⟨a, ha, hlt, fun i hi => ?_⟩
  rw [((Below.refl _ _).alloc (Nat.le_refl _) _).cell (p := a.add i) (by rw [Go.ChangeShapes.block_add]; exact hlt)]
  exact hc i hi
end Go.Proofs.Ytfdcainjppljhaa
namespace Go.Proofs.Ytfdcainjppljhaa
open Go.RowKit
set_option linter.unusedVariables false
set_option maxHeartbeats 2000000 in
theorem src_l02Draw (b n : Nat) (m : Int) (w : World) (hS : Src w b n) (hn : n ≤ 100000000) (hm : 1 ≤ m ∧ m ≤ 100) :
    Calls Try.prog 82 #[.pointer (some ⟨b, 0, none⟩), .int .i64 m] w fun e w' => ∃ s : ByteArray, e = .returned (.string s) ∧ (s.size : Int) ≤ 4 * m + 3 ∧ Src w' b (n + 1000) ∧ Aside (some b) w w' := by
  have hbl := hS.lt
  go_enter Try.func82, Try.ntmps82
  go_wp2_with fail
  have ha0 : Aside (some b) w (w.alloc (.cells #[] 5)) := Aside.of_below ((Below.refl _ _).alloc (Nat.le_refl _) _)
  refine (src_pick b n m _ (hS.below ((Below.refl _ _).alloc (Nat.le_refl _) _)) (by omega) (by omega)).mono ?_
  rintro e w1 ⟨k0, rfl, hk0, hS1, ha1⟩
  have hown := (OwnB.nil0 w).asides ha1 (fun g e => by injection e with e; omega)
  have ha2 := ha0.trans ha1
  clear ha0 ha1
  go_wp2_with fail
  go_loopw [5, 6] (fun v i wr => ∃ k : Int, (0 ≤ k ∧ k ≤ m) ∧ i = .int .i64 k ∧ (∃ L : List UInt8, OwnB wr w.heap.size v L ∧ (L.length : Int) + 4 * k ≤ 4 * m) ∧ Src wr b (n + 2 + 2 * (m - k).toNat) ∧ Aside (some b) w wr) (fun _ i _ => (intOf i).toNat)
  case atStart => exact ⟨1 + k0, by omega, by go_num, ⟨[], hown, by simp; omega⟩, hS1.mono (by omega), ha2⟩
  case round =>
    obtain ⟨k, hk, rfl, ⟨L, hL, hLk⟩, hSr, har⟩ := hrel
    by_cases h0 : 0 < k
    · have hd : decide (0 < k) = true := decide_eq_true h0
      have hzr := har.size
      go_wp2_with fail
      refine (src_pick b _ 4 _ hSr (by omega) (by omega)).mono ?_
      rintro e w3 ⟨z0, rfl, hz0, hS3, ha3⟩
      have hL3 := hL.asides ha3 (fun g e => by injection e with e; omega)
      have hb3 := har.trans ha3
      have hz3 := hb3.size
      clear ha3
      go_wp2_with fail
      go_loopw [5, 7] (fun v i wq => ∃ z : Int, (0 ≤ z ∧ z ≤ 3) ∧ i = .int .i64 z ∧ (∃ L : List UInt8, OwnB wq w.heap.size v L ∧ (L.length : Int) + z + 1 + 4 * (k - 1) ≤ 4 * m) ∧ Src wq b (n + 4 + 2 * (m - k).toNat) ∧ Aside (some b) w wq) (fun _ i _ => (intOf i).toNat)
      case atStart => exact ⟨z0, by omega, rfl, ⟨L, hL3, by omega⟩, hS3.mono (by omega), hb3⟩
      case round =>
        clear hL hLk hSr har hL3 hS3 hb3
        obtain ⟨z, hz, rfl, ⟨L, hL, hLk⟩, hSr, har⟩ := hrel
        have hzr := har.size
        by_cases h1 : 0 < z
        · have hd : decide (0 < z) = true := decide_eq_true h1
          go_wp2_with (at_builtin; refine append_byte _ rfl _ _ rfl w.heap.size u5 L _ rfl rfl hL (by omega) (by omega) hzr ?_; intro v4 w4 hL4 hb4; have hS4 := hSr.belowB hb4 hbl; have hb5 := har.trans_below hb4 (Nat.le_refl _))
          go_roundw
          case rel => exact ⟨z - 1, by omega, by go_num, ⟨_, hL4, by simp; omega⟩, hS4, hb5⟩
          case measure => simp [intOf]; omega
        · have hz1 : z = 0 := by omega
          subst hz1
          have hd : decide ((0 : Int) < 0) = false := by decide
          go_wp2_with (at_builtin; refine append_byte _ rfl _ _ rfl w.heap.size u5 L _ rfl rfl hL (by omega) (by omega) hzr ?_; intro v4 w4 hL4 hb4; have hS4 := hSr.belowB hb4 hbl; have hb5 := har.trans_below hb4 (Nat.le_refl _))
          go_roundw
          case rel => exact ⟨k - 1, by omega, by go_num, ⟨_, hL4, by simp; omega⟩, hS4.mono (by omega), hb5⟩
          case measure => simp [intOf]; omega
    · have hk0 : k = 0 := by omega
      subst hk0
      have hzr := har.size
      have hd : decide ((0 : Int) < 0) = false := by decide
      go_wp2_with fail
      refine (src_pick b _ 4 _ hSr (by omega) (by omega)).mono ?_
      rintro e w3 ⟨z0, rfl, hz0, hS3, ha3⟩
      have hL3 := hL.asides ha3 (fun g e => by injection e with e; omega)
      have hb3 := har.trans ha3
      clear ha3
      go_wp2_with fail
      go_loopw [5, 8] (fun v i wq => ∃ z : Int, (0 ≤ z ∧ z ≤ 3) ∧ i = .int .i64 z ∧ (∃ L : List UInt8, OwnB wq w.heap.size v L ∧ (L.length : Int) + z ≤ 4 * m + 3) ∧ Src wq b (n + 500) ∧ Aside (some b) w wq) (fun _ i _ => (intOf i).toNat)
      case atStart => exact ⟨z0, by omega, rfl, ⟨L, hL3, by omega⟩, hS3.mono (by omega), hb3⟩
      case round =>
        clear hL hLk hSr har hL3 hS3 hb3
        obtain ⟨z, hz, rfl, ⟨L, hL, hLk⟩, hSr, har⟩ := hrel
        have hzr := har.size
        by_cases h1 : 0 < z
        · have hd : decide (0 < z) = true := decide_eq_true h1
          go_wp2_with (at_builtin; refine append_byte _ rfl _ _ rfl w.heap.size u5 L _ rfl rfl hL (by omega) (by omega) hzr ?_; intro v4 w4 hL4 hb4; have hS4 := hSr.belowB hb4 hbl; have hb5 := har.trans_below hb4 (Nat.le_refl _))
          go_roundw
          case rel => exact ⟨z - 1, by omega, by go_num, ⟨_, hL4, by simp; omega⟩, hS4, hb5⟩
          case measure => simp [intOf]; omega
        · have hz1 : z = 0 := by omega
          subst hz1
          have hd : decide ((0 : Int) < 0) = false := by decide
          go_wp2_with fail
          refine (src_one b _ 40 _ hSr (by omega) (by omega)).mono ?_
          rintro e w4 ⟨x, rfl, hS4, ha4⟩
          have hL4 := hL.asides ha4 (fun g e => by injection e with e; omega)
          have hb4 := har.trans ha4
          have hcv := hL4.str
          cases x
          · go_wp2_with fail
            go_ret
            refine ⟨_, rfl, ?_, hS4.mono (by omega), hb4⟩
            have : (⟨L.toArray⟩ : ByteArray).size = L.length := by show L.toArray.size = _; simp
            omega
          · go_wp2_with fail
            go_ret
            exact ⟨_, rfl, by have : (⟨#[48, 48, 48]⟩ : ByteArray).size = 3 := rfl; omega, hS4.mono (by omega), hb4⟩
end Go.Proofs.Ytfdcainjppljhaa
namespace Go.Proofs.Ytfdcainjppljhaa
open Go.RowKit
set_option linter.unusedVariables false
theorem indexByte_is (c : UInt8) : ∀ l : List UInt8, (Lib.indexByte l c = -1 ∧ ∀ i, i < l.length → l.getD i 0 ≠ c) ∨ (∃ n : Nat, Lib.indexByte l c = (n : Int) ∧ n < l.length ∧ l.getD n 0 = c ∧ ∀ i, i < n → l.getD i 0 ≠ c)
  | [] => .inl ⟨rfl, fun i h => absurd h (Nat.not_lt_zero i)⟩
  | b :: l => by
    unfold Lib.indexByte
    cases h : (b == c)
    · have hbc : b ≠ c := by intro e; rw [e] at h; simp at h
      rcases indexByte_is c l with ⟨e, ha⟩ | ⟨n, e, hn, hc, ha⟩
      · rw [e]
        refine .inl ⟨rfl, fun i hi => ?_⟩
        cases i with
        | zero => simpa using hbc
        | succ i => simpa using ha i (by simpa using hi)
      · rw [e]
        refine .inr ⟨n + 1, ?_, by simp; omega, by simpa using hc, fun i hi => ?_⟩
        · have : ((n : Int) == -1) = false := by rw [beq_eq_false_iff_ne]; omega
          rw [if_neg (by simp), this]
          simp
        · cases i with
          | zero => simpa using hbc
          | succ i => simpa using ha i (by omega)
    · have hbc : b = c := by simpa using h
      exact .inr ⟨0, rfl, by simp, by simpa using hbc, fun i hi => absurd hi (Nat.not_lt_zero i)⟩
/-- The places of the ones below k. -/
def onesL (l : List UInt8) (k : Nat) : List Nat := (List.range k).filter fun i => l.getD i 0 == 49
theorem onesL_yes {l : List UInt8} {k : Nat} (h : l.getD k 0 = 49) : onesL l (k + 1) = onesL l k ++ [k] := by
  unfold onesL
  rw [List.range_succ, List.filter_append, List.filter_cons, if_pos (by rw [h]; rfl)]
  rfl
theorem onesL_no {l : List UInt8} {k : Nat} (h : l.getD k 0 ≠ 49) : onesL l (k + 1) = onesL l k := by
  unfold onesL
  rw [List.range_succ, List.filter_append, List.filter_cons, if_neg (by simpa using h)]
  simp
theorem onesL_skip {l : List UInt8} {a : Nat} : ∀ n : Nat, (∀ i, i < n → l.getD (a + i) 0 ≠ 49) → onesL l (a + n) = onesL l a
  | 0, _ => rfl
  | n + 1, h => by
    rw [show a + (n + 1) = a + n + 1 from rfl, onesL_no (h n (by omega)), onesL_skip n fun i hi => h i (by omega)]
theorem onesL_len (l : List UInt8) (k : Nat) : (onesL l k).length ≤ k := by
  unfold onesL
  have := List.length_filter_le (fun i => l.getD i 0 == 49) (List.range k)
  rw [List.length_range] at this
  exact this
/-- The differences of neighbours. -/
def gapL : List Nat → List Int
  | a :: b :: r => ((b : Int) - (a : Int)) :: gapL (b :: r)
  | _ => []
theorem gapL_snoc (x y : Nat) : ∀ p : List Nat, gapL (p ++ [x] ++ [y]) = gapL (p ++ [x]) ++ [(y : Int) - (x : Int)]
  | [] => rfl
  | [a] => rfl
  | a :: b :: p => by
    show _ :: gapL ((b :: p) ++ [x] ++ [y]) = _ :: gapL ((b :: p) ++ [x]) ++ _
    rw [gapL_snoc x y (b :: p)]
    rfl
theorem gapL_len : ∀ p : List Nat, (gapL p).length ≤ p.length
  | [] => by simp [gapL]
  | [a] => by simp [gapL]
  | a :: b :: r => by
    have := gapL_len (b :: r)
    simp only [gapL, List.length_cons] at this ⊢
    omega
theorem getD_at {s : ByteArray} {k : Nat} (h : k < s.size) : s.data.toList.getD k 0 = s[k]'h := by
  rw [List.getD_eq_getElem?_getD, List.getElem?_eq_getElem (by simpa using h)]; rfl
theorem getD_ext {s : ByteArray} {a i : Nat} (h : a + i < s.size) : (s.extract a s.size).data.toList.getD i 0 = s.data.toList.getD (a + i) 0 := by
  rw [getD_at h]
  have h2 : i < (s.extract a s.size).size := by rw [ByteArray.size_extract]; omega
  rw [getD_at h2]
  rw [ByteArray.getElem_extract]
theorem ofNat_49 {c : UInt8} (h : (c.toNat : Int) = 49) : c = 49 := by
  have : c.toNat = 49 := by omega
  exact UInt8.toNat_inj.1 this
theorem ofNat_not49 {c : UInt8} (h : (c.toNat : Int) ≠ 49) : c ≠ 49 := by
  rintro rfl; exact h rfl
end Go.Proofs.Ytfdcainjppljhaa
namespace Go.Proofs.Ytfdcainjppljhaa
open Go.RowKit
set_option linter.unusedVariables false
/-- The times of the changes of the first k cells. -/
def timesZ (l : List UInt8) (cell : Int) (k : Nat) : List Int := (onesL l k).map fun (i : Nat) => (i : Int) * cell + cell / 2
theorem timesZ_len (l : List UInt8) (cell : Int) (k : Nat) : (timesZ l cell k).length = (onesL l k).length := by simp [timesZ]
theorem timesZ_yes {l : List UInt8} {k : Nat} (cell : Int) (h : l.getD k 0 = 49) : timesZ l cell (k + 1) = timesZ l cell k ++ [(k : Int) * cell + cell / 2] := by
  unfold timesZ
  rw [onesL_yes h]
  simp
theorem timesZ_no {l : List UInt8} {k : Nat} (cell : Int) (h : l.getD k 0 ≠ 49) : timesZ l cell (k + 1) = timesZ l cell k := by
  unfold timesZ
  rw [onesL_no h]
set_option maxHeartbeats 1000000 in
theorem spec_l02Ones (s : ByteArray) (w : World) (hs : s.size ≤ 1048576) :
    Calls Try.prog 83 #[.string s] w fun e w' => e = .returned (.int .i64 ((onesL s.data.toList s.size).length : Int)) ∧ w = w' := by
  go_enter Try.func83, Try.ntmps83
  go_wp2_with fail
  go_loopw [3, 4] (fun v i wr => ∃ k : Nat, k ≤ s.size ∧ i = .int .i64 k ∧ v = .int .i64 ((onesL s.data.toList k).length : Int) ∧ wr = w) (fun _ i _ => s.size - (intOf i).toNat)
  case atStart => exact ⟨0, by omega, rfl, rfl, rfl⟩
  case round =>
    obtain ⟨k, hk, rfl, rfl, rfl⟩ := hrel
    by_cases hlt : k < s.size
    · have hgd := getD_at hlt
      have hol := onesL_len s.data.toList k
      by_cases hc : ((s[k]'hlt).toNat : Int) = 49
      · have hy := onesL_yes (l := s.data.toList) (k := k) (by rw [hgd]; exact ofNat_49 hc)
        have HY : Hid ((onesL s.data.toList (k + 1)).length = (onesL s.data.toList k).length + 1) := Lib.hid (by rw [hy]; simp)
        clear hy hgd
        generalize (onesL s.data.toList k).length = n at *
        go_wp2_with fail
        go_roundw
        case rel => exact ⟨k + 1, by omega, by go_num, by rw [HY.out]; go_num, trivial⟩
        case measure => simp [intOf]; omega
      · have hno := onesL_no (l := s.data.toList) (k := k) (by rw [hgd]; exact ofNat_not49 hc)
        have HY : Hid ((onesL s.data.toList (k + 1)).length = (onesL s.data.toList k).length) := Lib.hid (by rw [hno])
        have hne : (((s[k]'hlt).toNat : Int) == 49) = false := by rw [beq_eq_false_iff_ne]; exact hc
        clear hno hgd
        go_wp2_with fail
        go_roundw
        case rel => exact ⟨k + 1, by omega, by go_num, by rw [HY.out], trivial⟩
        case measure => simp [intOf]; omega
    · have hk2 : k = s.size := by omega
      subst hk2
      go_wp2_with fail
      go_ret
      exact ⟨rfl, rfl⟩
set_option maxHeartbeats 2000000 in
set_option maxRecDepth 20000 in
theorem spec_l02Flux (s : ByteArray) (cell : Int) (w : World) (hs : s.size ≤ 1048576) (hc : 0 ≤ cell ∧ cell ≤ 1000) (h1 : 1 ≤ (onesL s.data.toList s.size).length) :
    Calls Try.prog 84 #[.string s, .int .i64 cell] w fun e w' => ∃ q dq, e = .returned (.agg #[.int .i64 cell, .int .i64 ((timesZ s.data.toList cell s.size).headD 0), .slice q (gapsT (timesZ s.data.toList cell s.size) ((s.size : Int) * cell)).length dq]) ∧ OwnS w' w.heap.size q (gapsT (timesZ s.data.toList cell s.size) ((s.size : Int) * cell)) ∧ Below w.heap.size w w' := by
  have hq : cell.tdiv 2 = cell / 2 := Int.tdiv_eq_ediv_of_nonneg (by omega)
  obtain ⟨h2, eh⟩ : ∃ h2, cell / 2 = h2 := ⟨_, rfl⟩
  have hh : 0 ≤ h2 ∧ h2 ≤ 1000 := by omega
  have HH := Lib.hid eh
  rw [eh] at hq
  clear eh
  have R0 := Blk.new w 26 #[.int .i64 0, .int .i64 0, .slice none 0 0]
  have W0 : Below w.heap.size w (w.alloc (.cells #[.int .i64 0, .int .i64 0, .slice none 0 0] 26)) := (Below.refl _ _).alloc (Nat.le_refl _) _
  have z0 : (w.alloc (.cells #[.int .i64 0, .int .i64 0, .slice none 0 0] 26)).heap.size = w.heap.size + 1 := by simp
  go_enter Try.func84, Try.ntmps84
  go_wp2_with fail
  generalize w.alloc (.cells #[.int .i64 0, .int .i64 0, .slice none 0 0] 26) = w0 at R0 W0 z0 ⊢
  go_loopw [5, 6] (fun v i wr => ∃ k : Nat, k ≤ s.size ∧ i = .int .i64 k ∧ OwnI wr (w.heap.size + 1) v (timesZ s.data.toList cell k) ∧ Blk wr w.heap.size 26 #[.int .i64 0, .int .i64 0, .slice none 0 0] ∧ Below (w.heap.size + 1) w0 wr) (fun _ i _ => s.size - (intOf i).toNat)
  case atStart => exact ⟨0, by omega, rfl, by have := OwnI.nil0 w0; rw [z0] at this; exact this, R0.alloc' _, (Below.refl _ _).alloc (by omega) _⟩
  case round =>
    obtain ⟨k, hk, rfl, hown, hR, hbel⟩ := hrel
    have hz : w.heap.size + 1 ≤ wr.heap.size := by have := hbel.size; omega
    by_cases hlt : k < s.size
    · have hgd := getD_at hlt
      have hol := onesL_len s.data.toList k
      rw [← timesZ_len s.data.toList cell k] at hol
      by_cases hc1 : ((s[k]'hlt).toNat : Int) = 49
      · have hy := timesZ_yes (l := s.data.toList) (k := k) cell (by rw [hgd]; exact ofNat_49 hc1)
        rw [HH.out] at hy
        have HY := Lib.hid hy
        obtain ⟨kc, ekc⟩ : ∃ kc, (k : Int) * cell = kc := ⟨_, rfl⟩
        have hkc : 0 ≤ kc ∧ kc ≤ 1048576000 := by
          rw [← ekc]
          refine ⟨Int.mul_nonneg (by omega) hc.1, ?_⟩
          calc (k : Int) * cell ≤ (k : Int) * 1000 := Int.mul_le_mul_of_nonneg_left hc.2 (by omega)
            _ ≤ 1048576000 := by omega
        have q1 : IntKind.i64.wrap ((k : Int) * cell) = kc := by rw [ekc, IntWalk.i64_in _ (by omega)]
        have q2 : IntKind.i64.wrap (kc + h2) = kc + h2 := IntWalk.i64_in _ (by omega)
        have q3 : IntKind.i64.wrap h2 = h2 := IntWalk.i64_in _ (by omega)
        rw [ekc] at hy
        replace HY := Lib.hid hy
        clear hy hgd
        go_wp2_with (at_builtin; refine append_int _ rfl (.tmp 18) (.tmp 25) rfl (w.heap.size + 1) u5 (timesZ s.data.toList cell k) _ rfl rfl hown (by omega) hz ?_; intro v1 w1 hown1 hbel1)
        rw [← HY.out] at hown1
        go_roundw
        case rel => exact ⟨k + 1, by omega, by go_num, hown1, hR.below hbel1 (Nat.lt_succ_self _), hbel.trans (hbel1.mono (Nat.le_refl _))⟩
        case measure => simp [intOf]; omega
      · have hno := timesZ_no (l := s.data.toList) (k := k) cell (by rw [hgd]; exact ofNat_not49 hc1)
        have HY := Lib.hid hno
        have hne : (((s[k]'hlt).toNat : Int) == 49) = false := by rw [beq_eq_false_iff_ne]; exact hc1
        clear hno hgd
        go_wp2_with fail
        go_roundw
        case rel => exact ⟨k + 1, by omega, by go_num, by rw [HY.out]; exact hown, hR, hbel⟩
        case measure => simp [intOf]; omega
    · have hk2 : k = s.size := by omega
      subst hk2
      have htl := timesZ_len s.data.toList cell s.size
      have hol := onesL_len s.data.toList s.size
      obtain ⟨q, d, rfl, hS⟩ := hown.open_
      obtain ⟨sc, esc⟩ : ∃ sc, (s.size : Int) * cell = sc := ⟨_, rfl⟩
      have hsc : 0 ≤ sc ∧ sc ≤ 1048576000 := by
        rw [← esc]
        refine ⟨Int.mul_nonneg (by omega) hc.1, ?_⟩
        calc (s.size : Int) * cell ≤ (s.size : Int) * 1000 := Int.mul_le_mul_of_nonneg_left hc.2 (by omega)
          _ ≤ 1048576000 := by omega
      have q1 : IntKind.i64.wrap ((s.size : Int) * cell) = sc := by rw [esc, IntWalk.i64_in _ (by omega)]
      have HSC := Lib.hid esc
      have hcon := fun w' hI => spec_l02Times q (timesZ s.data.toList cell s.size) d sc cell w' hI (by omega) (by omega)
      clear htl hol
      have W1 : Below w.heap.size w wr := W0.trans (hbel.mono (Nat.le_succ _))
      obtain ⟨f0, f1, f2⟩ := hR.cell3
      have rlt := hR.lt
      go_wp2_with fail
      with_reducible refine (hcon _ hS.ints).mono ?_
      rintro e w5 ⟨q5, d5, rfl, hS5, hb5⟩
      generalize hG : gapsT (timesZ s.data.toList cell s.size) sc = G at *
      generalize hy : (timesZ s.data.toList cell s.size).headD 0 = y at *
      have R5 := hR.keep hb5
      have W5 := below_st W1 hb5 (Nat.le_refl _)
      have hs1 := ((W5.setCell (p := ⟨w.heap.size, 0, none⟩) (Nat.le_refl _) (.int .i64 cell)).setCell (p := ⟨w.heap.size, 1, none⟩) (Nat.le_refl _) (.int .i64 y)).setCell (p := ⟨w.heap.size, 2, none⟩) (Nat.le_refl _) (.slice q5 G.length d5)
      obtain ⟨r0, r1', r2⟩ := R5.cell3
      have rf := R5.frozen
      have rlt5 := R5.lt
      obtain ⟨e0, e1, e2⟩ := (R5.set3 (.int .i64 cell) (.int .i64 y) (.slice q5 G.length d5)).cell3
      have S5 := ((hS5.offS (g' := w.heap.size) rlt 0 (.int .i64 cell)).offS (g' := w.heap.size) rlt 1 (.int .i64 y)).offS (g' := w.heap.size) rlt 2 (.slice q5 G.length d5)
      go_wp2_with fail
      refine bodyPost_ret (v := .agg #[.int .i64 cell, .int .i64 y, .slice q5 G.length d5]) (by simp [results, Try.results84, go_sem, e0, e1, e2]) rfl ?_
      rw [HSC.out, hG, hy]
      exact ⟨q5, d5, rfl, S5.mono (by omega), hs1⟩
end Go.Proofs.Ytfdcainjppljhaa
namespace Go.Proofs.Ytfdcainjppljhaa
open Go.RowKit
set_option linter.unusedVariables false
theorem src_l02DrawCell (b n : Nat) (w : World) (hS : Src w b n) (hn : n ≤ 100000000) :
    Calls Try.prog 85 #[.pointer (some ⟨b, 0, none⟩)] w fun e w' => ∃ x, e = .returned (.int .i64 x) ∧ (4 ≤ x ∧ x ≤ 200) ∧ Src w' b (n + 2) ∧ Aside (some b) w w' := by
  have hbl := hS.lt
  go_enter Try.func85, Try.ntmps85
  go_wp2_with fail
  refine (src_among b _ _ [4, 10, 16, 20, 25, 40, 200] 7 _ (hS.below ((Below.refl _ _).alloc (Nat.le_refl _) _)) (by omega) (lit_ints w [4, 10, 16, 20, 25, 40, 200]) (fun a e => by injection e with e; subst e; simp; omega) (by decide) (by decide)).mono ?_
  rintro e w1 ⟨x, rfl, hx, hS1, ha1⟩
  go_wp2_with fail
  go_ret
  exact ⟨x, rfl, by simp at hx; omega, hS1, (Aside.of_below ((Below.refl _ _).alloc (Nat.le_refl _) _)).trans ha1⟩
/-- Flux under way: the variable's block bf, the result's block. -/
structure DrF (b n : Nat) (w : World) (bf : Nat) (wx : World) (cf f : Int) (q : Option Addr) (l : List Int) (cap : Nat) : Prop where
  src : Src wx b n
  r : Blk wx w.heap.size 26 #[.int .i64 0, .int .i64 0, .slice none 0 0]
  blk : Blk wx bf 26 #[.int .i64 cf, .int .i64 f, .slice q l.length cap]
  own : OwnS wx (w.heap.size + 1) q l
  ne : ∀ g, q = some ⟨g, 0, none⟩ → g ≠ bf
  aside : Aside (some b) w wx
  hb : b < w.heap.size
  hbf : w.heap.size < bf
  len : l.length ≤ 84
theorem DrF.step {b n m : Nat} {w : World} {bf : Nat} {wx wy : World} {cf f : Int} {q : Option Addr} {l : List Int} {cap : Nat} (h : DrF b n w bf wx cf f q l cap) (ha : Aside (some b) wx wy) (hs : Src wy b m) : DrF b m w bf wy cf f q l cap :=
  ⟨hs, h.r.asides ha (fun e => by injection e with e; have := h.hb; omega), h.blk.asides ha (fun e => by injection e with e; have := h.hb; have := h.hbf; omega), h.own.asides ha (fun hl g hp e => by injection e with e; have h1 := (h.own.lt hl hp).1; have := h.hb; omega), h.ne, h.aside.trans ha, h.hb, h.hbf, h.len⟩
theorem DrF.drew {b n : Nat} {w : World} {bf : Nat} {wx : World} {cf f : Int} {q : Option Addr} {l : List Int} {cap : Nat} (h : DrF b n w bf wx cf f q l cap) : DrF b n w bf wx.drew cf f q l cap := h.step (Aside.of_below (Below.refl _ _).drew) h.src.drew
theorem DrF.al {b n : Nat} {w : World} {bf : Nat} {wx : World} {cf f : Int} {q : Option Addr} {l : List Int} {cap : Nat} (h : DrF b n w bf wx cf f q l cap) (o : Obj) : DrF b n w bf (wx.alloc o) cf f q l cap :=
  h.step (Aside.of_below ((Below.refl _ _).alloc (Nat.le_refl _) o)) (h.src.below ((Below.refl _ _).alloc (Nat.le_refl _) o))
theorem DrF.mono {b n m : Nat} {w : World} {bf : Nat} {wx : World} {cf f : Int} {q : Option Addr} {l : List Int} {cap : Nat} (h : DrF b n w bf wx cf f q l cap) (hm : n ≤ m) : DrF b m w bf wx cf f q l cap := { h with src := h.src.mono hm }
theorem Blk.set30 {w : World} {g : Nat} {t : TypeId} {a b c : Value} (h : Blk w g t #[a, b, c]) (x : Value) : Blk (w.setCell ⟨g, 0, none⟩ x) g t #[x, b, c] := by
  have hB' : w.heap[g]? = some (.cells #[a, b, c] t (0, 0)) := h
  unfold Blk
  simp [World.setCell, Array.getElem?_modify, hB']
theorem Blk.set31 {w : World} {g : Nat} {t : TypeId} {a b c : Value} (h : Blk w g t #[a, b, c]) (x : Value) : Blk (w.setCell ⟨g, 1, none⟩ x) g t #[a, x, c] := by
  have hB' : w.heap[g]? = some (.cells #[a, b, c] t (0, 0)) := h
  unfold Blk
  simp [World.setCell, Array.getElem?_modify, hB']
theorem Blk.set32' {w : World} {g : Nat} {t : TypeId} {a b c : Value} (h : Blk w g t #[a, b, c]) (x : Value) : Blk (w.setCell ⟨g, 2, none⟩ x) g t #[a, b, x] := by
  have hB' : w.heap[g]? = some (.cells #[a, b, c] t (0, 0)) := h
  unfold Blk
  simp [World.setCell, Array.getElem?_modify, hB']
theorem DrF.setG {b n : Nat} {w : World} {bf : Nat} {wx : World} {cf f : Int} {g : Nat} {l : List Int} {cap : Nat} (h : DrF b n w bf wx cf f (some ⟨g, 0, none⟩) l cap) (hl : l ≠ []) (i : Nat) (V : Int) : DrF b n w bf (wx.setCell ⟨g, i, none⟩ (.int .i64 V)) cf f (some ⟨g, 0, none⟩) (l.set i V) cap := by
  obtain ⟨g', e, hg, hrow⟩ := h.own hl
  injection e with e; injection e with e
  subst e
  have hb := h.hb
  have hne := h.ne g rfl
  have hB := (Below.refl g wx).setCell (p := ⟨g, i, none⟩) (Nat.le_refl _) (.int .i64 V)
  refine ⟨h.src.belowB hB (by omega), h.r.off (by omega) i _, ?_, OwnS.of_row (hrow.set_ i V) hg, h.ne, h.aside.trans_below hB (by omega), h.hb, h.hbf, by rw [List.length_set]; exact h.len⟩
  rw [List.length_set]
  exact h.blk.off (fun e => hne e.symm) i _
theorem DrF.setC {b n : Nat} {w : World} {bf : Nat} {wx : World} {cf f : Int} {q : Option Addr} {l : List Int} {cap : Nat} (h : DrF b n w bf wx cf f q l cap) (x : Int) : DrF b n w bf (wx.setCell ⟨bf, 0, none⟩ (.int .i64 x)) x f q l cap := by
  have hb := h.hb; have hbf := h.hbf
  have hB := (Below.refl bf wx).setCell (p := ⟨bf, 0, none⟩) (Nat.le_refl _) (.int .i64 x)
  exact ⟨h.src.belowB hB (by omega), h.r.off (by omega) _ _, h.blk.set30 _, h.own.asides (Aside.setCell bf 0 _) (fun hl g hp e => by injection e with e; exact h.ne g hp e.symm), h.ne, h.aside.trans_below hB (by omega), h.hb, h.hbf, h.len⟩
theorem DrF.setF {b n : Nat} {w : World} {bf : Nat} {wx : World} {cf f : Int} {q : Option Addr} {l : List Int} {cap : Nat} (h : DrF b n w bf wx cf f q l cap) (x : Int) : DrF b n w bf (wx.setCell ⟨bf, 1, none⟩ (.int .i64 x)) cf x q l cap := by
  have hb := h.hb; have hbf := h.hbf
  have hB := (Below.refl bf wx).setCell (p := ⟨bf, 1, none⟩) (Nat.le_refl _) (.int .i64 x)
  exact ⟨h.src.belowB hB (by omega), h.r.off (by omega) _ _, h.blk.set31 _, h.own.asides (Aside.setCell bf 1 _) (fun hl g hp e => by injection e with e; exact h.ne g hp e.symm), h.ne, h.aside.trans_below hB (by omega), h.hb, h.hbf, h.len⟩
theorem DrF.setN {b n : Nat} {w : World} {bf : Nat} {wx : World} {cf f : Int} {q : Option Addr} {l : List Int} {cap : Nat} (h : DrF b n w bf wx cf f q l cap) : DrF b n w bf (wx.setCell ⟨bf, 2, none⟩ (.slice none 0 0)) cf f none [] 0 := by
  have hb := h.hb; have hbf := h.hbf
  have hB := (Below.refl bf wx).setCell (p := ⟨bf, 2, none⟩) (Nat.le_refl _) (.slice none 0 0)
  exact ⟨h.src.belowB hB (by omega), h.r.off (by omega) _ _, h.blk.set32' _, OwnS.nil_ _ _ _, (fun g e => by cases e), h.aside.trans_below hB (by omega), h.hb, h.hbf, Nat.zero_le _⟩
/-- What the function leaves. -/
theorem DrF.done {b n : Nat} {w : World} {bf : Nat} {wx : World} {cf f : Int} {q : Option Addr} {l : List Int} {cap : Nat} (h : DrF b n w bf wx cf f q l cap) (x y z : Value) :
    OwnS (((wx.setCell ⟨w.heap.size, 0, none⟩ x).setCell ⟨w.heap.size, 1, none⟩ y).setCell ⟨w.heap.size, 2, none⟩ z) w.heap.size q l ∧ l.length ≤ 84 ∧ Src (((wx.setCell ⟨w.heap.size, 0, none⟩ x).setCell ⟨w.heap.size, 1, none⟩ y).setCell ⟨w.heap.size, 2, none⟩ z) b n ∧ Aside (some b) w (((wx.setCell ⟨w.heap.size, 0, none⟩ x).setCell ⟨w.heap.size, 1, none⟩ y).setCell ⟨w.heap.size, 2, none⟩ z) := by
  have hb := h.hb
  have hB := (((Below.refl w.heap.size wx).setCell (p := ⟨w.heap.size, 0, none⟩) (Nat.le_refl _) x).setCell (p := ⟨w.heap.size, 1, none⟩) (Nat.le_refl _) y).setCell (p := ⟨w.heap.size, 2, none⟩) (Nat.le_refl _) z
  exact ⟨(((h.own.offS (g' := w.heap.size) (Nat.lt_succ_self _) 0 x).offS (g' := w.heap.size) (Nat.lt_succ_self _) 1 y).offS (g' := w.heap.size) (Nat.lt_succ_self _) 2 z).mono (Nat.le_succ _), h.len, h.src.belowB hB hb, h.aside.trans_below hB (Nat.le_refl _)⟩
set_option maxHeartbeats 4000000 in
set_option maxRecDepth 20000 in
theorem src_l02DrawFlux (b n : Nat) (w : World) (hS : Src w b n) (hn : n ≤ 10000000) :
    Calls Try.prog 57 #[.pointer (some ⟨b, 0, none⟩)] w fun e w' => ∃ (cf f : Int) (q : Option Addr) (l : List Int) (cap : Nat), e = .returned (.agg #[.int .i64 cf, .int .i64 f, .slice q l.length cap]) ∧ OwnS w' w.heap.size q l ∧ l.length ≤ 84 ∧ Src w' b (n + 3000) ∧ Aside (some b) w w' := by
  have hbl := hS.lt
  have R0 := Blk.new w 26 #[.int .i64 0, .int .i64 0, .slice none 0 0]
  have A0 : Aside (some b) w (w.alloc (.cells #[.int .i64 0, .int .i64 0, .slice none 0 0] 26)) := Aside.of_below ((Below.refl _ _).alloc (Nat.le_refl _) _)
  have S0 := hS.below ((Below.refl _ w).alloc (Nat.le_refl _) (.cells #[.int .i64 0, .int .i64 0, .slice none 0 0] 26))
  have z0 : w.heap.size + 1 ≤ (w.alloc (.cells #[.int .i64 0, .int .i64 0, .slice none 0 0] 26)).heap.size := by simp
  go_enter Try.func57, Try.ntmps57
  go_wp2_with fail
  generalize w.alloc (.cells #[.int .i64 0, .int .i64 0, .slice none 0 0] 26) = w0 at *
  refine (src_l02Draw b n 20 _ S0 (by omega) (by omega)).mono ?_
  rintro e w1 ⟨s, rfl, hs, hS1, ha1⟩
  have R1 := R0.asides ha1 (fun e => by injection e with e; omega)
  have A1 := A0.trans ha1
  have z1 := ha1.size
  clear ha1 R0 A0 S0
  have hbg : b < w1.heap.size := by omega
  have D1 : DrF b (n + 1000) w (w1.heap.size + 1) ((w1.alloc (.cells #[.int .i64 30] 2)).alloc (.cells #[.int .i64 10, .int .i64 5, .slice (some ⟨w1.heap.size, 0, none⟩) 1 1] 26)) 10 5 (some ⟨w1.heap.size, 0, none⟩) [30] 1 := by
    have ha : Aside (some b) w1 ((w1.alloc (.cells #[.int .i64 30] 2)).alloc (.cells #[.int .i64 10, .int .i64 5, .slice (some ⟨w1.heap.size, 0, none⟩) 1 1] 26)) := (Aside.of_below ((Below.refl _ _).alloc (Nat.le_refl _) _)).trans (Aside.of_below ((Below.refl _ _).alloc (Nat.le_refl _) _))
    have hbz := Blk.new (w1.alloc (.cells #[.int .i64 30] 2)) 26 #[.int .i64 10, .int .i64 5, .slice (some ⟨w1.heap.size, 0, none⟩) 1 1]
    have e1 : (w1.alloc (.cells #[.int .i64 30] 2)).heap.size = w1.heap.size + 1 := by simp
    rw [e1] at hbz
    have hrow : RowI (w1.alloc (.cells #[.int .i64 30] 2)) w1.heap.size [30] := by
      have B := Blk.new w1 2 #[.int .i64 30]
      refine ⟨B.lt, fun i hi => ?_⟩
      have : i = 0 := by simp at hi; omega
      subst this
      exact ⟨by rw [B.cell 0]; rfl, B.frozen 0⟩
    exact ⟨hS1.below ((Below.refl _ w1).alloc (Nat.le_refl _) _) |>.below ((Below.refl _ _).alloc (Nat.le_refl _) _), R1.asides ha (fun e => by injection e with e; omega), hbz, (OwnS.of_row hrow (by omega)).below ((Below.refl _ _).alloc (Nat.le_refl _) _), fun g e => by injection e with e; injection e with e; omega, A1.trans ha, hbl, by omega, by simp⟩
  go_upto_if 13 with (go_at_call 83; refine (spec_l02Ones s _ (by omega)).mono ?_; rintro e w2 ⟨rfl, rfl⟩)
  go_cut [14] (fun _ wx => ∃ (cf f : Int) (q : Option Addr) (l : List Int) (cap : Nat), DrF b (n + 1100) w (w1.heap.size + 1) wx cf f q l cap ∧ 1 ≤ l.length)
  case first =>
    have hol := onesL_len s.data.toList s.size
    have hflux := fun cell w' hc h1 => spec_l02Flux s cell w' (by omega) hc h1
    have hgl := fun cell (h1 : 1 ≤ (onesL s.data.toList s.size).length) => (gapsT_len (timesZ s.data.toList cell s.size) ((s.size : Int) * cell) (by rw [timesZ_len]; exact h1)).trans (timesZ_len s.data.toList cell s.size)
    obtain ⟨m, hm⟩ : ∃ m, (onesL s.data.toList s.size).length = m := ⟨_, rfl⟩
    rw [hm] at hol hflux hgl ⊢
    by_cases h0 : m = 0
    · subst h0
      go_wp2_with fail
      go_meet
      exact ⟨_, _, _, [30], _, D1.mono (by omega), by simp⟩
    · have d0 : decide (0 < (m : Int)) = true := decide_eq_true (by omega)
      have d1 : 0 < m := by omega
      clear hm
      go_wp2_with fail
      refine (src_l02DrawCell b _ _ D1.src (by omega)).mono ?_
      rintro e w3 ⟨cell, rfl, hc, hS3, ha3⟩
      have D3 := D1.step ha3 hS3
      go_wp2_with fail
      refine (hflux cell _ (by omega) (by omega)).mono ?_
      rintro e w4 ⟨q4, d4, rfl, S4, hb4⟩
      have hgl := hgl cell (by omega)
      generalize gapsT (timesZ s.data.toList cell s.size) ((s.size : Int) * cell) = G at *
      generalize (timesZ s.data.toList cell s.size).headD 0 = y at *
      have D4 := D3.step (Aside.of_below hb4) (D3.src.below hb4)
      have hlt3 := D3.blk.lt
      obtain ⟨c0, c1, c2⟩ := D4.blk.cell3
      have cf4 := D4.blk.frozen
      have clt := D4.blk.lt
      have hGne : G ≠ [] := by intro e; rw [e] at hgl; simp at hgl; omega
      have HG := Lib.hid hgl
      clear hgl
      go_wp2_with fail
      go_meet
      have hBw := (((Below.refl (w1.heap.size + 1) w4).setCell (p := ⟨w1.heap.size + 1, 0, none⟩) (Nat.le_refl _) (.int .i64 cell)).setCell (p := ⟨w1.heap.size + 1, 1, none⟩) (Nat.le_refl _) (.int .i64 y)).setCell (p := ⟨w1.heap.size + 1, 2, none⟩) (Nat.le_refl _) (.slice q4 G.length d4)
      exact ⟨cell, y, q4, G, d4, ⟨(D4.src.belowB hBw (by omega)).mono (by omega), ((D4.r.off (g' := w1.heap.size + 1) (by omega) _ _).off (g' := w1.heap.size + 1) (by omega) _ _).off (g' := w1.heap.size + 1) (by omega) _ _, D4.blk.set3 _ _ _,
        (((S4.offS (g' := w1.heap.size + 1) hlt3 0 _).offS (g' := w1.heap.size + 1) hlt3 1 _).offS (g' := w1.heap.size + 1) hlt3 2 _).mono (show w.heap.size + 1 ≤ w3.heap.size by omega),
        fun g e => by obtain ⟨g', e2, hge, -⟩ := S4 hGne; rw [e] at e2; injection e2 with e2; injection e2 with e2; omega, D4.aside.trans_below hBw (by omega), hbl, by omega, by have := HG.out; omega⟩, by have := HG.out; omega⟩
  case rest =>
    obtain ⟨cf, f, q, l, cap, D, h1⟩ := hcut
    obtain ⟨wx, hwc⟩ : ∃ wx, wx = wc := ⟨_, rfl⟩
    subst hwc
    clear D1 hS1 R1 A1
    generalize w1.heap.size + 1 = bf at *
    go_wp2_with fail
    refine (src_pick b _ 4 _ D.src (by omega) (by omega)).mono ?_
    rintro e w2 ⟨k0, rfl, hk0, hS2, ha2⟩
    replace D := D.step ha2 hS2
    clear ha2 hS2
    go_wp2_with fail
    go_loopw [5] (fun kv wr => ∃ (k cf f : Int) (q : Option Addr) (l : List Int) (cap : Nat), (0 ≤ k ∧ k ≤ 3) ∧ kv = .int .i64 k ∧ DrF b (n + 1200 - 6 * k.toNat) w bf wr cf f q l cap ∧ 1 ≤ l.length) (fun kv _ => (intOf kv).toNat)
    case atStart => exact ⟨k0, cf, f, q, l, cap, by omega, rfl, D.mono (by omega), h1⟩
    case round =>
      clear D h1
      obtain ⟨k, cf, f, q, l, cap, hk, rfl, D, h1⟩ := hrel
      have hll := D.len
      obtain ⟨c0, c1, c2⟩ := D.blk.cell3
      have clt := D.blk.lt
      by_cases h0 : 0 < k
      · have hd : decide (0 < k) = true := decide_eq_true h0
        go_wp2_with fail
        refine (src_pick b _ (l.length : Int) _ D.src (by omega) (by omega)).mono ?_
        rintro e w3 ⟨y, rfl, hy, hS3, ha3⟩
        replace D := D.step ha3 hS3
        obtain ⟨i, rfl⟩ : ∃ i : Nat, y = (i : Int) := ⟨y.toNat, by omega⟩
        have hil : i < l.length := by omega
        clear c0 c1 c2 clt ha3 hS3
        obtain ⟨g, rfl, hg, hrow⟩ := D.own (by intro e; rw [e] at h1; simp at h1)
        obtain ⟨c0, c1, c2⟩ := D.blk.cell3
        have clt := D.blk.lt
        obtain ⟨hx, hxf⟩ := hrow.cell hil
        go_wp2_with fail
        go_region_with (go_at_call 67; refine (src_pick b _ 5 _ (by first | exact D.src.drew | exact D.src) (by omega) (by omega)).mono ?_; rintro e w5 ⟨z, rfl, hz, hS5, ha5⟩; have D5 := D.drew.step ha5 hS5; obtain ⟨c0', c1', c2'⟩ := D5.blk.cell3; have clt' := D5.blk.lt; have hrow5 := (hrow.drew).asides ha5 (fun e => by injection e with e; have := D.hb; omega); obtain ⟨hx5, hxf5⟩ := hrow5.cell hil)
        all_goals
          go_wp2_with fail
          go_roundw
          case rel => exact ⟨k - 1, cf, f, _, l.set i _, cap, by omega, by go_num, (D5.setG (by intro e; rw [e] at h1; simp at h1) i _).mono (by omega), by rw [List.length_set]; exact h1⟩
          case measure => simp [intOf]; omega
      · have hk0 : k = 0 := by omega
        subst hk0
        have hd : decide ((0 : Int) < 0) = false := by decide
        go_wp2_with fail
        refine (src_pick b _ 20 _ D.src (by omega) (by omega)).mono ?_
        rintro e w3 ⟨x, rfl, hx, hS3, ha3⟩
        replace D := D.step ha3 hS3
        clear c0 c1 c2 clt ha3 hS3
        obtain ⟨c0, c1, c2⟩ := D.blk.cell3
        have clt := D.blk.lt
        have cfr := D.blk.frozen
        have hbf := D.hbf
        have hne : bf ≠ w.heap.size := by omega
        have hne2 : w.heap.size ≠ bf := by omega
        by_cases e0 : x = 0
        · subst e0
          clear cfr
          go_wp2_with fail
          refine (src_among b _ _ [3, 201, 0] 3 _ (D.al _).src (by omega) (lit_ints w3 [3, 201, 0]) (fun a e => by injection e with e; subst e; have := D.aside.size; simp; omega) (by decide) (by decide)).mono ?_
          rintro e w4 ⟨z, rfl, hz, hS4, ha4⟩
          have D4 := (D.al (.cells #[.int .i64 3, .int .i64 201, .int .i64 0] 2)).step ha4 hS4
          obtain ⟨k0', k1, k2⟩ := D4.blk.cell3
          have kf := D4.blk.frozen
          have klt := D4.blk.lt
          obtain ⟨r0, r1', r2⟩ := (D4.setC z).r.cell3
          have rf := (D4.setC z).r.frozen
          have rlt := (D4.setC z).r.lt
          obtain ⟨e0, e1, e2⟩ := ((D4.setC z).r.set3 (.int .i64 z) (.int .i64 f) (.slice q l.length cap)).cell3
          have hfin := (D4.setC z).done (.int .i64 z) (.int .i64 f) (.slice q l.length cap)
          go_wp2_with fail
          refine bodyPost_ret (v := .agg #[.int .i64 z, .int .i64 f, .slice q l.length cap]) (by simp [results, Try.results57, go_sem, e0, e1, e2]) rfl ?_
          exact ⟨z, f, q, l, cap, rfl, hfin.1, hfin.2.1, hfin.2.2.1.mono (by omega), hfin.2.2.2⟩
        have d0 : (x == 0) = false := by rw [beq_eq_false_iff_ne]; exact e0
        by_cases e1 : x = 1
        · subst e1
          obtain ⟨g, rfl, hg, hrow⟩ := D.own (by intro e; rw [e] at h1; simp at h1)
          obtain ⟨jm, ejm⟩ : ∃ jm, l.length - 1 = jm := ⟨_, rfl⟩
          obtain ⟨hx0, -⟩ := hrow.cell (k := jm) (by omega)
          obtain ⟨z0, ez0⟩ : ∃ z0, l[jm]'(by omega) = z0 := ⟨_, rfl⟩
          rw [ez0] at hx0
          have q0 : IntKind.i64.wrap ((l.length : Int) - 1) = (jm : Int) := by rw [IntWalk.i64_in _ (by omega)]; omega
          have q1 : (l.length : Int) - 1 = (jm : Int) := by omega
          have i0 : (jm : Int) < (l.length : Int) := by omega
          clear cfr ez0 ejm
          go_wp2_with fail
          refine (src_among b _ _ [-1, 1000, z0] 3 _ (D.al _).src (by omega) (lit_ints w3 [-1, 1000, z0]) (fun a e => by injection e with e; subst e; have := D.aside.size; simp; omega) (Nat.zero_lt_succ _) (by simp)).mono ?_
          rintro e w4 ⟨z, rfl, hz, hS4, ha4⟩
          have D4 := (D.al (.cells #[.int .i64 (-1), .int .i64 1000, .int .i64 z0] 2)).step ha4 hS4
          clear c0 c1 c2
          obtain ⟨c0, c1, c2⟩ := D4.blk.cell3
          have kf := D4.blk.frozen
          have klt := D4.blk.lt
          obtain ⟨r0, r1', r2⟩ := (D4.setF z).r.cell3
          have rf := (D4.setF z).r.frozen
          have rlt := (D4.setF z).r.lt
          obtain ⟨e0, e1, e2⟩ := ((D4.setF z).r.set3 (.int .i64 cf) (.int .i64 z) (.slice (some ⟨g, 0, none⟩) l.length cap)).cell3
          have hfin := (D4.setF z).done (.int .i64 cf) (.int .i64 z) (.slice (some ⟨g, 0, none⟩) l.length cap)
          go_wp2_with fail
          refine bodyPost_ret (v := .agg #[.int .i64 cf, .int .i64 z, .slice (some ⟨g, 0, none⟩) l.length cap]) (by simp [results, Try.results57, go_sem, e0, e1, e2]) rfl ?_
          exact ⟨cf, z, (some ⟨g, 0, none⟩), l, cap, rfl, hfin.1, hfin.2.1, hfin.2.2.1.mono (by omega), hfin.2.2.2⟩
        have d1 : (x == 1) = false := by rw [beq_eq_false_iff_ne]; exact e1
        by_cases e2 : x = 2
        · subst e2
          obtain ⟨g, rfl, hg, hrow⟩ := D.own (by intro e; rw [e] at h1; simp at h1)
          have hl0 : l ≠ [] := by intro e; rw [e] at h1; simp at h1
          have i0 : (0 : Int) < (l.length : Int) := by omega
          have i1 : 0 < l.length := by omega
          have D0 := D
          clear cfr
          go_wp2_with fail
          go_region_with (go_at_call 86; refine (src_among b _ _ [0, -5, 2000000, 2000001] 4 _ (by first | exact (D.al _).drew.src | exact (D.drew.al _).src | exact (D.al _).src) (by omega) (by first | exact (lit_ints w3 _).drew | exact lit_ints w3.drew _ | exact lit_ints w3 _) (fun a e => by injection e with e; subst e; have := D.aside.size; show w3.heap.size ≠ b; omega) (by decide) (by decide)).mono ?_; rintro e w5 ⟨z, rfl, hz, hS5, ha5⟩; have D5 := (D.al (.cells #[.int .i64 0, .int .i64 (-5), .int .i64 2000000, .int .i64 2000001] 2)).drew.step ha5 hS5; obtain ⟨k0', k1, k2⟩ := D5.blk.cell3; have klt := D5.blk.lt; have hrow5 := ((hrow.alloc (.cells #[.int .i64 0, .int .i64 (-5), .int .i64 2000000, .int .i64 2000001] 2)).drew).asides ha5 (fun e => by injection e with e; have := D.hb; omega); obtain ⟨hx5, hxf5⟩ := hrow5.cell (k := 0) (by omega))
          all_goals
            have D6 := D5.setG hl0 0 z
            obtain ⟨r0, r1', r2⟩ := D6.r.cell3
            have rf := D6.r.frozen
            have rlt := D6.r.lt
            obtain ⟨e0, e1, e2⟩ := (D6.r.set3 (.int .i64 cf) (.int .i64 f) (.slice (some ⟨g, 0, none⟩) l.length cap)).cell3
            have hfin := D6.done (.int .i64 cf) (.int .i64 f) (.slice (some ⟨g, 0, none⟩) l.length cap)
            have hgbf := D.ne g rfl
            have hgw : g ≠ w.heap.size := by omega
            go_wp2_with fail
            refine bodyPost_ret (v := .agg #[.int .i64 cf, .int .i64 f, .slice (some ⟨g, 0, none⟩) l.length cap]) (by simp [results, Try.results57, go_sem, e0, e1, e2]) rfl ?_
            exact ⟨cf, f, some ⟨g, 0, none⟩, l.set 0 z, cap, by rw [List.length_set], hfin.1, hfin.2.1, hfin.2.2.1.mono (by omega), hfin.2.2.2⟩
        have d2 : (x == 2) = false := by rw [beq_eq_false_iff_ne]; exact e2
        by_cases e3 : x = 3
        · subst e3
          obtain ⟨r0, r1', r2⟩ := D.setN.r.cell3
          have rf := D.setN.r.frozen
          have rlt := D.setN.r.lt
          obtain ⟨e0, e1, e2⟩ := (D.setN.r.set3 (.int .i64 cf) (.int .i64 f) (.slice none 0 0)).cell3
          have hfin := D.setN.done (.int .i64 cf) (.int .i64 f) (.slice none 0 0)
          go_wp2_with fail
          refine bodyPost_ret (v := .agg #[.int .i64 cf, .int .i64 f, .slice none 0 0]) (by simp [results, Try.results57, go_sem, e0, e1, e2]) rfl ?_
          exact ⟨cf, f, none, [], 0, rfl, hfin.1, hfin.2.1, hfin.2.2.1.mono (by omega), hfin.2.2.2⟩
        have d3 : (x == 3) = false := by rw [beq_eq_false_iff_ne]; exact e3
        obtain ⟨r0, r1', r2⟩ := D.r.cell3
        have rf := D.r.frozen
        have rlt := D.r.lt
        obtain ⟨e0, e1, e2⟩ := (D.r.set3 (.int .i64 cf) (.int .i64 f) (.slice q l.length cap)).cell3
        have hfin := D.done (.int .i64 cf) (.int .i64 f) (.slice q l.length cap)
        go_wp2_with fail
        refine bodyPost_ret (v := .agg #[.int .i64 cf, .int .i64 f, .slice q l.length cap]) (by simp [results, Try.results57, go_sem, e0, e1, e2]) rfl ?_
        exact ⟨cf, f, q, l, cap, rfl, hfin.1, hfin.2.1, hfin.2.2.1.mono (by omega), hfin.2.2.2⟩
end Go.Proofs.Ytfdcainjppljhaa
