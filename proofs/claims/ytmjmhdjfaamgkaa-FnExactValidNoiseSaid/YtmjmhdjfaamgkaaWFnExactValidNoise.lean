/- The law's walk: FnExactValidNoise. Printed by lawsr3.py. -/
import Derived.Test.YtmjmhdjfaamgkaaNzC
import Derived.Test.YtmjmhdjfaamgkaaOpenN
import Derived.Test.YtmjmhdjfaamgkaaMarksW
import Derived.Test.YtmjmhdjfaamgkaaOpenF
import Derived.Test.YtmjmhdjfaamgkaaLawAid
import Derived.Deep.RegionHeld3
import Derived.Deep.DeepCutAuto
namespace Go.Proofs.Ytmjmhdjfaamgkaa
open Go.RowKit
set_option linter.unusedVariables false
set_option maxHeartbeats 4000000 in
set_option maxRecDepth 20000 in
theorem walk_FnExactValidNoise (xn : Noi) (w : World) (hxn : xn.ok w) :
    Calls Try.prog 5 #[xn.val] w fun e w' => e = .returned (.bool true) ∧ Below w.heap.size w w' := by
  obtain ⟨d, ⟨pj, j, cj⟩, ⟨pd, e, cd⟩, ps, L, cs⟩ := xn
  obtain ⟨-, ⟨hIj, hlj, -⟩, ⟨hId, hld, -⟩, hIs, hls, hgs⟩ := hxn
  simp only [Num.val] at hIj hlj hId hld hIs hls
  have hgl : ∀ s ∈ L, s.g.l.length ≤ maxLen := fun s hs => (hgs s hs).2.2.1
  clear hgs
  simp only [Noi.val, Num.val]
  by_cases ht : (1048576 : Int) < j.length + e.length + L.length + lensL L
  · have hz : Hid (szNz 1048576 j e L = -1) := Lib.hid (by unfold szNz; rw [if_pos ht])
    go_enter Try.func5, Try.ntmps5
    go_wp2_with fail
    have hw : Below w.heap.size w w := Below.refl _ _
    have Bn := Blk.new w 40 #[.int .i64 d, .slice pj j.length cj, .slice pd e.length cd, .slice ps L.length cs]
    replace hw := hw.alloc hw.size (.cells #[.int .i64 d, .slice pj j.length cj, .slice pd e.length cd, .slice ps L.length cs] 40)
    have z0 : w.heap.size + 1 ≤ (w.alloc (.cells #[.int .i64 d, .slice pj j.length cj, .slice pd e.length cd, .slice ps L.length cs] 40)).heap.size := by simp
    generalize (w.alloc (.cells #[.int .i64 d, .slice pj j.length cj, .slice pd e.length cd, .slice ps L.length cs] 40)) = w0 at Bn hw z0 ⊢
    obtain ⟨cn0, cn1, cn2, cn3⟩ := Bn.cell4
    have ltn := Bn.lt
    go_wp2_with fail
    refine (laws_szNoise _ _ _ _ _ _ _ _ _ _ _ _ (hIs.below hw) hlj hld hls hgl (by omega)).mono ?_
    rintro e w1 ⟨rfl, hb⟩
    rw [hz.out]
    have z1 := hb.size
    replace Bn := Bn.keep hb
    replace hw := below_st hw hb (Nat.le_refl _)
    clear hb
    clear cn0 cn1 cn2 cn3 ltn
    obtain ⟨cn0, cn1, cn2, cn3⟩ := Bn.cell4
    have ltn := Bn.lt
    go_wp2_with fail
    go_ret
    exact ⟨rfl, hw⟩
  have hz : Hid (szNz 1048576 j e L = 1048576 - (j.length : Int) - e.length - L.length - lensL L) := Lib.hid (by unfold szNz; rw [if_neg ht])
  have hy : decide (1048576 - (j.length : Int) - (e.length : Int) - (L.length : Int) - (lensL L : Int) < 0) = false := decide_eq_false (by omega)
  have hmj : j.length ≤ 1048576 := by omega
  have hmd : e.length ≤ 1048576 := by omega
  have hms : L.length ≤ 1048576 := by omega
  have hmg : ∀ s ∈ L, s.g.l.length ≤ 1048576 := fun s hs => by have := lensL_mem hs; omega
  go_enter Try.func5, Try.ntmps5
  go_wp2_with fail
  have hw : Below w.heap.size w w := Below.refl _ _
  have Bn := Blk.new w 40 #[.int .i64 d, .slice pj j.length cj, .slice pd e.length cd, .slice ps L.length cs]
  replace hw := hw.alloc hw.size (.cells #[.int .i64 d, .slice pj j.length cj, .slice pd e.length cd, .slice ps L.length cs] 40)
  have z0 : w.heap.size + 1 ≤ (w.alloc (.cells #[.int .i64 d, .slice pj j.length cj, .slice pd e.length cd, .slice ps L.length cs] 40)).heap.size := by simp
  generalize (w.alloc (.cells #[.int .i64 d, .slice pj j.length cj, .slice pd e.length cd, .slice ps L.length cs] 40)) = w0 at Bn hw z0 ⊢
  obtain ⟨cn0, cn1, cn2, cn3⟩ := Bn.cell4
  have ltn := Bn.lt
  go_wp2_with fail
  refine (laws_szNoise _ _ _ _ _ _ _ _ _ _ _ _ (hIs.below hw) hlj hld hls hgl (by omega)).mono ?_
  rintro e w1 ⟨rfl, hb⟩
  rw [hz.out]
  have z1 := hb.size
  replace Bn := Bn.keep hb
  replace hw := below_st hw hb (Nat.le_refl _)
  clear hb
  clear cn0 cn1 cn2 cn3 ltn
  obtain ⟨cn0, cn1, cn2, cn3⟩ := Bn.cell4
  have ltn := Bn.lt
  go_wp2_with fail
  refine (laws_toNoiseC _ _ _ _ _ _ _ _ _ _ _ (hIj.below hw) (hId.below hw) (hIs.below hw) hmj hmd hms hmg).mono ?_
  rintro e w2 ⟨ga1, ga2, ga3, Lga, rfl, Nga, hb⟩
  have z2 := hb.size
  replace Bn := Bn.keep hb
  replace hw := below_st hw hb (Nat.le_refl _)
  clear hb
  clear cn0 cn1 cn2 cn3 ltn
  obtain ⟨cn0, cn1, cn2, cn3⟩ := Bn.cell4
  have ltn := Bn.lt
  go_wp2_with fail
  refine (spec_ValidNoiseC _ _ _ _ _ _ _ _ _ _ Nga hmj hmd hms hmg).mono ?_
  rintro e w3 ⟨rfl, hb⟩
  have z3 := hb.size
  replace Bn := Bn.keep hb
  replace Nga := Nga.below hb
  replace hw := below_st hw hb (Nat.le_refl _)
  clear hb
  clear Nga
  clear cn0 cn1 cn2 cn3 ltn
  obtain ⟨cn0, cn1, cn2, cn3⟩ := Bn.cell4
  have ltn := Bn.lt
  go_wp2_with fail
  refine (laws_toNoiseC _ _ _ _ _ _ _ _ _ _ _ (hIj.below hw) (hId.below hw) (hIs.below hw) hmj hmd hms hmg).mono ?_
  rintro e w4 ⟨gx1, gx2, gx3, Lgx, rfl, Ngx, hb⟩
  have z4 := hb.size
  replace Bn := Bn.keep hb
  replace hw := below_st hw hb (Nat.le_refl _)
  clear hb
  clear cn0 cn1 cn2 cn3 ltn
  obtain ⟨cn0, cn1, cn2, cn3⟩ := Bn.cell4
  have ltn := Bn.lt
  go_wp2_with fail
  have Bx0 := Blk.new w4 45 #[.int .i64 d, .slice (some ⟨gx1, 0, none⟩) j.length j.length, .slice (some ⟨gx2, 0, none⟩) e.length e.length, .slice (some ⟨gx3, 0, none⟩) L.length L.length]
  replace Bn := Bn.keep ((Below.refl _ w4).alloc (Nat.le_refl _) (.cells #[.int .i64 d, .slice (some ⟨gx1, 0, none⟩) j.length j.length, .slice (some ⟨gx2, 0, none⟩) e.length e.length, .slice (some ⟨gx3, 0, none⟩) L.length L.length] 45))
  replace Ngx := Ngx.below ((Below.refl _ w4).alloc (Nat.le_refl _) (.cells #[.int .i64 d, .slice (some ⟨gx1, 0, none⟩) j.length j.length, .slice (some ⟨gx2, 0, none⟩) e.length e.length, .slice (some ⟨gx3, 0, none⟩) L.length L.length] 45))
  replace hw := hw.alloc hw.size (.cells #[.int .i64 d, .slice (some ⟨gx1, 0, none⟩) j.length j.length, .slice (some ⟨gx2, 0, none⟩) e.length e.length, .slice (some ⟨gx3, 0, none⟩) L.length L.length] 45)
  have z5 : w4.heap.size + 1 ≤ (w4.alloc (.cells #[.int .i64 d, .slice (some ⟨gx1, 0, none⟩) j.length j.length, .slice (some ⟨gx2, 0, none⟩) e.length e.length, .slice (some ⟨gx3, 0, none⟩) L.length L.length] 45)).heap.size := by simp
  generalize w4.alloc (.cells #[.int .i64 d, .slice (some ⟨gx1, 0, none⟩) j.length j.length, .slice (some ⟨gx2, 0, none⟩) e.length e.length, .slice (some ⟨gx3, 0, none⟩) L.length L.length] 45) = w5 at Bn Bx0 Ngx hw z5 ⊢
  clear cn0 cn1 cn2 cn3 ltn
  obtain ⟨cn0, cn1, cn2, cn3⟩ := Bn.cell4
  have ltn := Bn.lt
  obtain ⟨cx00, cx01, cx02, cx03⟩ := Bx0.cell4
  have ltx0 := Bx0.lt
  go_wp2_with fail
  refine (impl_ValidNoiseC _ _ _ _ _ _ _ _ _ _ Ngx hmj hmd hms hmg).mono ?_
  rintro e w6 ⟨rfl, hb⟩
  have z6 := hb.size
  replace Bn := Bn.keep hb
  replace Bx0 := Bx0.keep hb
  replace Ngx := Ngx.below hb
  replace hw := below_st hw hb (Nat.le_refl _)
  clear hb
  clear cn0 cn1 cn2 cn3 ltn cx00 cx01 cx02 cx03 ltx0
  obtain ⟨cn0, cn1, cn2, cn3⟩ := Bn.cell4
  have ltn := Bn.lt
  obtain ⟨cx00, cx01, cx02, cx03⟩ := Bx0.cell4
  have ltx0 := Bx0.lt
  go_wp2_with fail
  go_cut [26] (fun v0 wx => v0 = .bool false ∧ Below w6.heap.size w6 wx)
  case first =>
    have keepS : ∀ y1 y2 : World, ((w.heap.size < y1.heap.size ∧ y1.cell? ⟨w.heap.size, 0, none⟩ = some (.int .i64 d) ∧ y1.cell? ⟨w.heap.size, 1, none⟩ = some (.slice pj j.length cj) ∧ y1.cell? ⟨w.heap.size, 2, none⟩ = some (.slice pd e.length cd) ∧ y1.cell? ⟨w.heap.size, 3, none⟩ = some (.slice ps L.length cs)) ∧ (w4.heap.size < y1.heap.size ∧ y1.cell? ⟨w4.heap.size, 0, none⟩ = some (.int .i64 d) ∧ y1.cell? ⟨w4.heap.size, 1, none⟩ = some (.slice (some ⟨gx1, 0, none⟩) j.length j.length) ∧ y1.cell? ⟨w4.heap.size, 2, none⟩ = some (.slice (some ⟨gx2, 0, none⟩) e.length e.length) ∧ y1.cell? ⟨w4.heap.size, 3, none⟩ = some (.slice (some ⟨gx3, 0, none⟩) L.length L.length)) ∧ NzC y1 w3.heap.size gx1 gx2 gx3 j e L Lgx ∧ Below w.heap.size w y1) → Below y1.heap.size y1 y2 → ((w.heap.size < y2.heap.size ∧ y2.cell? ⟨w.heap.size, 0, none⟩ = some (.int .i64 d) ∧ y2.cell? ⟨w.heap.size, 1, none⟩ = some (.slice pj j.length cj) ∧ y2.cell? ⟨w.heap.size, 2, none⟩ = some (.slice pd e.length cd) ∧ y2.cell? ⟨w.heap.size, 3, none⟩ = some (.slice ps L.length cs)) ∧ (w4.heap.size < y2.heap.size ∧ y2.cell? ⟨w4.heap.size, 0, none⟩ = some (.int .i64 d) ∧ y2.cell? ⟨w4.heap.size, 1, none⟩ = some (.slice (some ⟨gx1, 0, none⟩) j.length j.length) ∧ y2.cell? ⟨w4.heap.size, 2, none⟩ = some (.slice (some ⟨gx2, 0, none⟩) e.length e.length) ∧ y2.cell? ⟨w4.heap.size, 3, none⟩ = some (.slice (some ⟨gx3, 0, none⟩) L.length L.length)) ∧ NzC y2 w3.heap.size gx1 gx2 gx3 j e L Lgx ∧ Below w.heap.size w y2) := by
      rintro y1 y2 ⟨⟨s0, s0_0, s0_1, s0_2, s0_3⟩, ⟨s1, s1_0, s1_1, s1_2, s1_3⟩, t0, hv⟩ hb
      obtain ⟨hc, -⟩ := bcell hb
      have := hb.size
      exact ⟨⟨by omega, (hc _ _ s0).trans s0_0, (hc _ _ s0).trans s0_1, (hc _ _ s0).trans s0_2, (hc _ _ s0).trans s0_3⟩, ⟨by omega, (hc _ _ s1).trans s1_0, (hc _ _ s1).trans s1_1, (hc _ _ s1).trans s1_2, (hc _ _ s1).trans s1_3⟩, t0.below hb, below_st hv hb (Nat.le_refl _)⟩
    have S0 : (w.heap.size < w6.drew.heap.size ∧ w6.drew.cell? ⟨w.heap.size, 0, none⟩ = some (.int .i64 d) ∧ w6.drew.cell? ⟨w.heap.size, 1, none⟩ = some (.slice pj j.length cj) ∧ w6.drew.cell? ⟨w.heap.size, 2, none⟩ = some (.slice pd e.length cd) ∧ w6.drew.cell? ⟨w.heap.size, 3, none⟩ = some (.slice ps L.length cs)) ∧ (w4.heap.size < w6.drew.heap.size ∧ w6.drew.cell? ⟨w4.heap.size, 0, none⟩ = some (.int .i64 d) ∧ w6.drew.cell? ⟨w4.heap.size, 1, none⟩ = some (.slice (some ⟨gx1, 0, none⟩) j.length j.length) ∧ w6.drew.cell? ⟨w4.heap.size, 2, none⟩ = some (.slice (some ⟨gx2, 0, none⟩) e.length e.length) ∧ w6.drew.cell? ⟨w4.heap.size, 3, none⟩ = some (.slice (some ⟨gx3, 0, none⟩) L.length L.length)) ∧ NzC w6.drew w3.heap.size gx1 gx2 gx3 j e L Lgx ∧ Below w.heap.size w w6.drew := ⟨⟨Bn.lt, cn0, cn1, cn2, cn3⟩, ⟨Bx0.lt, cx00, cx01, cx02, cx03⟩, Ngx.below (Below.refl _ _).drew, hw.drew⟩
    go_region_held3 (fun w' => (w.heap.size < w'.heap.size ∧ w'.cell? ⟨w.heap.size, 0, none⟩ = some (.int .i64 d) ∧ w'.cell? ⟨w.heap.size, 1, none⟩ = some (.slice pj j.length cj) ∧ w'.cell? ⟨w.heap.size, 2, none⟩ = some (.slice pd e.length cd) ∧ w'.cell? ⟨w.heap.size, 3, none⟩ = some (.slice ps L.length cs)) ∧ (w4.heap.size < w'.heap.size ∧ w'.cell? ⟨w4.heap.size, 0, none⟩ = some (.int .i64 d) ∧ w'.cell? ⟨w4.heap.size, 1, none⟩ = some (.slice (some ⟨gx1, 0, none⟩) j.length j.length) ∧ w'.cell? ⟨w4.heap.size, 2, none⟩ = some (.slice (some ⟨gx2, 0, none⟩) e.length e.length) ∧ w'.cell? ⟨w4.heap.size, 3, none⟩ = some (.slice (some ⟨gx3, 0, none⟩) L.length L.length)) ∧ NzC w' w3.heap.size gx1 gx2 gx3 j e L Lgx ∧ Below w.heap.size w w')
      (first | exact S0 | (refine keepS _ _ ?_ (by assumption); assumption) | go_keep)
      (first | (go_at_call 29; refine (laws_eqNoiseC _ _ _ _ _ _ _ _ _ _ _ _ _ _ _ S1.2.2.1 Nk hmj hmd hms hmg).mono ?_; rintro e y2 ⟨rfl, hb2⟩; have S2 := keepS _ _ S1 hb2) | (go_at_call 27; refine (laws_toNoiseC _ _ _ _ _ _ _ _ _ _ _ (hIj.below S0.2.2.2) (hId.below S0.2.2.2) (hIs.below S0.2.2.2) hmj hmd hms hmg).mono ?_; rintro e y1 ⟨k1, k2, k3, Lk, rfl, Nk, hb1⟩; have S1 := keepS _ _ S0 hb1))
    all_goals
      go_wp2_with fail
      go_meet
      exact ⟨rfl, (below_st (below_st (Below.refl _ w6).drew hb1 (Nat.le_refl _)) hb2 (Nat.le_refl _))⟩
  case rest =>
    obtain ⟨rfl, hb⟩ := hcut
    obtain ⟨w7, hwc⟩ : ∃ w7, w7 = wc := ⟨_, rfl⟩
    subst hwc
    have z7 := hb.size
    replace Bn := Bn.keep hb
    replace Bx0 := Bx0.keep hb
    replace Ngx := Ngx.below hb
    replace hw := below_st hw hb (Nat.le_refl _)
    clear hb
    clear cn0 cn1 cn2 cn3 ltn cx00 cx01 cx02 cx03 ltx0
    obtain ⟨cn0, cn1, cn2, cn3⟩ := Bn.cell4
    have ltn := Bn.lt
    obtain ⟨cx00, cx01, cx02, cx03⟩ := Bx0.cell4
    have ltx0 := Bx0.lt
    go_wp2_with fail
    go_ret
    exact ⟨rfl, hw⟩
end Go.Proofs.Ytmjmhdjfaamgkaa
