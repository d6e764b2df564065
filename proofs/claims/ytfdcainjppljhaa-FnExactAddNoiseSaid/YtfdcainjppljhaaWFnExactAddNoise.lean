/- The law's walk: FnExactAddNoise. Printed by lawsr3.py. -/
import Derived.Test.YtfdcainjppljhaaAddC
import Derived.Test.YtfdcainjppljhaaOpenN
import Derived.Test.YtfdcainjppljhaaMarksW
import Derived.Test.YtfdcainjppljhaaCutA
import Derived.Test.YtfdcainjppljhaaOpenF
import Derived.Test.YtfdcainjppljhaaLawAid
import Derived.Deep.RegionHeld3
import Derived.Deep.DeepCutAuto
namespace Go.Proofs.Ytfdcainjppljhaa
open Go.RowKit
set_option linter.unusedVariables false
set_option maxHeartbeats 4000000 in
set_option maxRecDepth 20000 in
theorem walk_FnExactAddNoise (x : Flx) (xn : Noi) (w : World) (hx : x.ok w) (hxn : xn.ok w) :
    Calls Try.prog 7 #[x.val, xn.val] w fun e w' => e = .returned (.bool true) ∧ Below w.heap.size w w' := by
  obtain ⟨c, f, p, l, cap⟩ := x
  obtain ⟨-, hI, hlen, hwf⟩ := hx
  simp only [Flx.val, Num.val] at hI hlen hwf
  obtain ⟨nd, ⟨pj, j, cj⟩, ⟨pd, ee, cd⟩, ps, L, cs⟩ := xn
  obtain ⟨-, ⟨hIj, hlj, -⟩, ⟨hId, hld, -⟩, hIs, hls, hgs⟩ := hxn
  simp only [Num.val] at hIj hlj hId hld hIs hls
  have hgl : ∀ s ∈ L, s.g.l.length ≤ maxLen := fun s hs => (hgs s hs).2.2.1
  clear hgs
  simp only [Noi.val, Num.val, Flx.val]
  by_cases hl : (1048576 : Int) < l.length
  · have hz0 : Hid (szL 1048576 l.length = -1) := Lib.hid (by unfold szL; rw [if_pos hl])
    go_enter Try.func7, Try.ntmps7
    go_wp2_with fail
    have hw : Below w.heap.size w w := Below.refl _ _
    have Bx := Blk.new w 24 #[.int .i64 c, .int .i64 f, .slice p l.length cap]
    replace hw := hw.alloc hw.size (.cells #[.int .i64 c, .int .i64 f, .slice p l.length cap] 24)
    have Bn := Blk.new (w.alloc (.cells #[.int .i64 c, .int .i64 f, .slice p l.length cap] 24)) 61 #[.int .i64 nd, .slice pj j.length cj, .slice pd ee.length cd, .slice ps L.length cs]
    replace Bx := Bx.keep ((Below.refl _ (w.alloc (.cells #[.int .i64 c, .int .i64 f, .slice p l.length cap] 24))).alloc (Nat.le_refl _) (.cells #[.int .i64 nd, .slice pj j.length cj, .slice pd ee.length cd, .slice ps L.length cs] 61))
    replace hw := hw.alloc hw.size (.cells #[.int .i64 nd, .slice pj j.length cj, .slice pd ee.length cd, .slice ps L.length cs] 61)
    have e1 : (w.alloc (.cells #[.int .i64 c, .int .i64 f, .slice p l.length cap] 24)).heap.size = w.heap.size + 1 := by simp
    rw [e1] at Bn
    have z0 : w.heap.size + 2 ≤ ((w.alloc (.cells #[.int .i64 c, .int .i64 f, .slice p l.length cap] 24)).alloc (.cells #[.int .i64 nd, .slice pj j.length cj, .slice pd ee.length cd, .slice ps L.length cs] 61)).heap.size := by simp
    generalize ((w.alloc (.cells #[.int .i64 c, .int .i64 f, .slice p l.length cap] 24)).alloc (.cells #[.int .i64 nd, .slice pj j.length cj, .slice pd ee.length cd, .slice ps L.length cs] 61)) = w0 at Bx Bn hw z0 ⊢
    obtain ⟨cx0, cx1, cx2⟩ := Bx.cell3
    have ltx := Bx.lt
    obtain ⟨cn0, cn1, cn2, cn3⟩ := Bn.cell4
    have ltn := Bn.lt
    go_wp2_with fail
    refine (laws_szFlux _ _ _ _ _ _ _ hlen (by omega)).mono ?_
    rintro e w1 ⟨rfl, hb⟩
    rw [hz0.out]
    have z1 := hb.size
    replace Bx := Bx.keep hb
    replace Bn := Bn.keep hb
    replace hw := below_st hw hb (Nat.le_refl _)
    clear hb
    clear cx0 cx1 cx2 ltx cn0 cn1 cn2 cn3 ltn
    obtain ⟨cx0, cx1, cx2⟩ := Bx.cell3
    have ltx := Bx.lt
    obtain ⟨cn0, cn1, cn2, cn3⟩ := Bn.cell4
    have ltn := Bn.lt
    go_wp2_with fail
    go_ret
    exact ⟨rfl, hw⟩
  have hz0 : Hid (szL 1048576 l.length = 1048576 - (l.length : Int)) := Lib.hid (by unfold szL; rw [if_neg hl])
  have hy0 : decide (1048576 - (l.length : Int) < 0) = false := decide_eq_false (by omega)
  by_cases ht : (1048576 : Int) - l.length < j.length + ee.length + L.length + lensL L
  · have hz : Hid (szNz (1048576 - l.length) j ee L = -1) := Lib.hid (by unfold szNz; rw [if_pos ht])
    go_enter Try.func7, Try.ntmps7
    go_wp2_with fail
    have hw : Below w.heap.size w w := Below.refl _ _
    have Bx := Blk.new w 24 #[.int .i64 c, .int .i64 f, .slice p l.length cap]
    replace hw := hw.alloc hw.size (.cells #[.int .i64 c, .int .i64 f, .slice p l.length cap] 24)
    have Bn := Blk.new (w.alloc (.cells #[.int .i64 c, .int .i64 f, .slice p l.length cap] 24)) 61 #[.int .i64 nd, .slice pj j.length cj, .slice pd ee.length cd, .slice ps L.length cs]
    replace Bx := Bx.keep ((Below.refl _ (w.alloc (.cells #[.int .i64 c, .int .i64 f, .slice p l.length cap] 24))).alloc (Nat.le_refl _) (.cells #[.int .i64 nd, .slice pj j.length cj, .slice pd ee.length cd, .slice ps L.length cs] 61))
    replace hw := hw.alloc hw.size (.cells #[.int .i64 nd, .slice pj j.length cj, .slice pd ee.length cd, .slice ps L.length cs] 61)
    have e1 : (w.alloc (.cells #[.int .i64 c, .int .i64 f, .slice p l.length cap] 24)).heap.size = w.heap.size + 1 := by simp
    rw [e1] at Bn
    have z0 : w.heap.size + 2 ≤ ((w.alloc (.cells #[.int .i64 c, .int .i64 f, .slice p l.length cap] 24)).alloc (.cells #[.int .i64 nd, .slice pj j.length cj, .slice pd ee.length cd, .slice ps L.length cs] 61)).heap.size := by simp
    generalize ((w.alloc (.cells #[.int .i64 c, .int .i64 f, .slice p l.length cap] 24)).alloc (.cells #[.int .i64 nd, .slice pj j.length cj, .slice pd ee.length cd, .slice ps L.length cs] 61)) = w0 at Bx Bn hw z0 ⊢
    obtain ⟨cx0, cx1, cx2⟩ := Bx.cell3
    have ltx := Bx.lt
    obtain ⟨cn0, cn1, cn2, cn3⟩ := Bn.cell4
    have ltn := Bn.lt
    go_wp2_with fail
    refine (laws_szFlux _ _ _ _ _ _ _ hlen (by omega)).mono ?_
    rintro e w1 ⟨rfl, hb⟩
    rw [hz0.out]
    have z1 := hb.size
    replace Bx := Bx.keep hb
    replace Bn := Bn.keep hb
    replace hw := below_st hw hb (Nat.le_refl _)
    clear hb
    clear cx0 cx1 cx2 ltx cn0 cn1 cn2 cn3 ltn
    obtain ⟨cx0, cx1, cx2⟩ := Bx.cell3
    have ltx := Bx.lt
    obtain ⟨cn0, cn1, cn2, cn3⟩ := Bn.cell4
    have ltn := Bn.lt
    go_wp2_with fail
    refine (laws_szNoise _ _ _ _ _ _ _ _ _ _ _ _ (hIs.below hw) hlj hld hls hgl (by omega)).mono ?_
    rintro e w2 ⟨rfl, hb⟩
    rw [hz.out]
    have z2 := hb.size
    replace Bx := Bx.keep hb
    replace Bn := Bn.keep hb
    replace hw := below_st hw hb (Nat.le_refl _)
    clear hb
    clear cx0 cx1 cx2 ltx cn0 cn1 cn2 cn3 ltn
    obtain ⟨cx0, cx1, cx2⟩ := Bx.cell3
    have ltx := Bx.lt
    obtain ⟨cn0, cn1, cn2, cn3⟩ := Bn.cell4
    have ltn := Bn.lt
    go_wp2_with fail
    go_ret
    exact ⟨rfl, hw⟩
  have hz : Hid (szNz (1048576 - l.length) j ee L = 1048576 - (l.length : Int) - j.length - ee.length - L.length - lensL L) := Lib.hid (by unfold szNz; rw [if_neg ht])
  have hy : decide (1048576 - (l.length : Int) - (j.length : Int) - (ee.length : Int) - (L.length : Int) - (lensL L : Int) < 0) = false := decide_eq_false (by omega)
  have hmj : j.length ≤ 1048576 := by omega
  have hmd : ee.length ≤ 1048576 := by omega
  have hms : L.length ≤ 1048576 := by omega
  have hmg : ∀ s ∈ L, s.g.l.length ≤ 1048576 := fun s hs => by have := lensL_mem hs; omega
  have hm : l.length ≤ 1048576 := by omega
  have hsm : l.length + lensL L ≤ 1048576 := by omega
  have hR : (anS c f l nd j ee L).l.length ≤ 1048576 := Nat.le_trans (anS_len c f l nd j ee L) hsm
  have hk1 : decide (1 + (l.length : Int) + (j.length : Int) + (ee.length : Int) + 2 * (L.length : Int) + (lensL L : Int) < 0) = false := decide_eq_false (by omega)
  have hk2 : decide (1 + ((anS c f l nd j ee L).l.length : Int) < 0) = false := decide_eq_false (by omega)
  go_enter Try.func7, Try.ntmps7
  go_wp2_with fail
  have hw : Below w.heap.size w w := Below.refl _ _
  have Bx := Blk.new w 24 #[.int .i64 c, .int .i64 f, .slice p l.length cap]
  replace hw := hw.alloc hw.size (.cells #[.int .i64 c, .int .i64 f, .slice p l.length cap] 24)
  have Bn := Blk.new (w.alloc (.cells #[.int .i64 c, .int .i64 f, .slice p l.length cap] 24)) 61 #[.int .i64 nd, .slice pj j.length cj, .slice pd ee.length cd, .slice ps L.length cs]
  replace Bx := Bx.keep ((Below.refl _ (w.alloc (.cells #[.int .i64 c, .int .i64 f, .slice p l.length cap] 24))).alloc (Nat.le_refl _) (.cells #[.int .i64 nd, .slice pj j.length cj, .slice pd ee.length cd, .slice ps L.length cs] 61))
  replace hw := hw.alloc hw.size (.cells #[.int .i64 nd, .slice pj j.length cj, .slice pd ee.length cd, .slice ps L.length cs] 61)
  have e1 : (w.alloc (.cells #[.int .i64 c, .int .i64 f, .slice p l.length cap] 24)).heap.size = w.heap.size + 1 := by simp
  rw [e1] at Bn
  have z0 : w.heap.size + 2 ≤ ((w.alloc (.cells #[.int .i64 c, .int .i64 f, .slice p l.length cap] 24)).alloc (.cells #[.int .i64 nd, .slice pj j.length cj, .slice pd ee.length cd, .slice ps L.length cs] 61)).heap.size := by simp
  generalize ((w.alloc (.cells #[.int .i64 c, .int .i64 f, .slice p l.length cap] 24)).alloc (.cells #[.int .i64 nd, .slice pj j.length cj, .slice pd ee.length cd, .slice ps L.length cs] 61)) = w0 at Bx Bn hw z0 ⊢
  obtain ⟨cx0, cx1, cx2⟩ := Bx.cell3
  have ltx := Bx.lt
  obtain ⟨cn0, cn1, cn2, cn3⟩ := Bn.cell4
  have ltn := Bn.lt
  go_wp2_with fail
  refine (laws_szFlux _ _ _ _ _ _ _ hlen (by omega)).mono ?_
  rintro e w1 ⟨rfl, hb⟩
  rw [hz0.out]
  have z1 := hb.size
  replace Bx := Bx.keep hb
  replace Bn := Bn.keep hb
  replace hw := below_st hw hb (Nat.le_refl _)
  clear hb
  clear cx0 cx1 cx2 ltx cn0 cn1 cn2 cn3 ltn
  obtain ⟨cx0, cx1, cx2⟩ := Bx.cell3
  have ltx := Bx.lt
  obtain ⟨cn0, cn1, cn2, cn3⟩ := Bn.cell4
  have ltn := Bn.lt
  go_wp2_with fail
  refine (laws_szNoise _ _ _ _ _ _ _ _ _ _ _ _ (hIs.below hw) hlj hld hls hgl (by omega)).mono ?_
  rintro e w2 ⟨rfl, hb⟩
  rw [hz.out]
  have z2 := hb.size
  replace Bx := Bx.keep hb
  replace Bn := Bn.keep hb
  replace hw := below_st hw hb (Nat.le_refl _)
  clear hb
  clear cx0 cx1 cx2 ltx cn0 cn1 cn2 cn3 ltn
  obtain ⟨cx0, cx1, cx2⟩ := Bx.cell3
  have ltx := Bx.lt
  obtain ⟨cn0, cn1, cn2, cn3⟩ := Bn.cell4
  have ltn := Bn.lt
  go_wp2_with fail
  go_cut [6, 7] (fun v0 v1 wx => ∃ ga q d, v0 = .pointer (some ⟨ga, 0, none⟩) ∧ v1 = .int .i64 (anS c f l nd j ee L).e ∧ w2.heap.size ≤ ga ∧ Blk wx ga 26 #[.int .i64 (anS c f l nd j ee L).c, .int .i64 (anS c f l nd j ee L).f, .slice q (anS c f l nd j ee L).l.length d] ∧ OwnS wx w2.heap.size q (anS c f l nd j ee L).l ∧ Below w2.heap.size w2 wx)
  case first =>
    have keepS : ∀ y1 y2 : World, ((w.heap.size < y1.heap.size ∧ y1.cell? ⟨w.heap.size, 0, none⟩ = some (.int .i64 c) ∧ y1.cell? ⟨w.heap.size, 1, none⟩ = some (.int .i64 f) ∧ y1.cell? ⟨w.heap.size, 2, none⟩ = some (.slice p l.length cap)) ∧ (w.heap.size + 1 < y1.heap.size ∧ y1.cell? ⟨w.heap.size + 1, 0, none⟩ = some (.int .i64 nd) ∧ y1.cell? ⟨w.heap.size + 1, 1, none⟩ = some (.slice pj j.length cj) ∧ y1.cell? ⟨w.heap.size + 1, 2, none⟩ = some (.slice pd ee.length cd) ∧ y1.cell? ⟨w.heap.size + 1, 3, none⟩ = some (.slice ps L.length cs)) ∧ Below w.heap.size w y1) → Below y1.heap.size y1 y2 → ((w.heap.size < y2.heap.size ∧ y2.cell? ⟨w.heap.size, 0, none⟩ = some (.int .i64 c) ∧ y2.cell? ⟨w.heap.size, 1, none⟩ = some (.int .i64 f) ∧ y2.cell? ⟨w.heap.size, 2, none⟩ = some (.slice p l.length cap)) ∧ (w.heap.size + 1 < y2.heap.size ∧ y2.cell? ⟨w.heap.size + 1, 0, none⟩ = some (.int .i64 nd) ∧ y2.cell? ⟨w.heap.size + 1, 1, none⟩ = some (.slice pj j.length cj) ∧ y2.cell? ⟨w.heap.size + 1, 2, none⟩ = some (.slice pd ee.length cd) ∧ y2.cell? ⟨w.heap.size + 1, 3, none⟩ = some (.slice ps L.length cs)) ∧ Below w.heap.size w y2) := by
      rintro y1 y2 ⟨⟨s0, s0_0, s0_1, s0_2⟩, ⟨s1, s1_0, s1_1, s1_2, s1_3⟩, hv⟩ hb
      obtain ⟨hc, -⟩ := bcell hb
      have := hb.size
      exact ⟨⟨by omega, (hc _ _ s0).trans s0_0, (hc _ _ s0).trans s0_1, (hc _ _ s0).trans s0_2⟩, ⟨by omega, (hc _ _ s1).trans s1_0, (hc _ _ s1).trans s1_1, (hc _ _ s1).trans s1_2, (hc _ _ s1).trans s1_3⟩, below_st hv hb (Nat.le_refl _)⟩
    have keepW : ∀ (y : World) (ga i : Nat) (v : Value), w2.heap.size ≤ ga → ((w.heap.size < y.heap.size ∧ y.cell? ⟨w.heap.size, 0, none⟩ = some (.int .i64 c) ∧ y.cell? ⟨w.heap.size, 1, none⟩ = some (.int .i64 f) ∧ y.cell? ⟨w.heap.size, 2, none⟩ = some (.slice p l.length cap)) ∧ (w.heap.size + 1 < y.heap.size ∧ y.cell? ⟨w.heap.size + 1, 0, none⟩ = some (.int .i64 nd) ∧ y.cell? ⟨w.heap.size + 1, 1, none⟩ = some (.slice pj j.length cj) ∧ y.cell? ⟨w.heap.size + 1, 2, none⟩ = some (.slice pd ee.length cd) ∧ y.cell? ⟨w.heap.size + 1, 3, none⟩ = some (.slice ps L.length cs)) ∧ Below w.heap.size w y) → ((w.heap.size < (y.setCell ⟨ga, i, none⟩ v).heap.size ∧ (y.setCell ⟨ga, i, none⟩ v).cell? ⟨w.heap.size, 0, none⟩ = some (.int .i64 c) ∧ (y.setCell ⟨ga, i, none⟩ v).cell? ⟨w.heap.size, 1, none⟩ = some (.int .i64 f) ∧ (y.setCell ⟨ga, i, none⟩ v).cell? ⟨w.heap.size, 2, none⟩ = some (.slice p l.length cap)) ∧ (w.heap.size + 1 < (y.setCell ⟨ga, i, none⟩ v).heap.size ∧ (y.setCell ⟨ga, i, none⟩ v).cell? ⟨w.heap.size + 1, 0, none⟩ = some (.int .i64 nd) ∧ (y.setCell ⟨ga, i, none⟩ v).cell? ⟨w.heap.size + 1, 1, none⟩ = some (.slice pj j.length cj) ∧ (y.setCell ⟨ga, i, none⟩ v).cell? ⟨w.heap.size + 1, 2, none⟩ = some (.slice pd ee.length cd) ∧ (y.setCell ⟨ga, i, none⟩ v).cell? ⟨w.heap.size + 1, 3, none⟩ = some (.slice ps L.length cs)) ∧ Below w.heap.size w (y.setCell ⟨ga, i, none⟩ v)) := by
      rintro y ga i v hga ⟨⟨s0, s0_0, s0_1, s0_2⟩, ⟨s1, s1_0, s1_1, s1_2, s1_3⟩, hv⟩
      have ho : ∀ b j, b < w2.heap.size → (y.setCell ⟨ga, i, none⟩ v).cell? ⟨b, j, none⟩ = y.cell? ⟨b, j, none⟩ := fun b j hb => World.cell?_setCell_other _ _ _ _ (by intro h'; injection h' with h2; omega)
      exact ⟨⟨by simpa [World.setCell] using s0, (ho _ _ ltx).trans s0_0, (ho _ _ ltx).trans s0_1, (ho _ _ ltx).trans s0_2⟩, ⟨by simpa [World.setCell] using s1, (ho _ _ ltn).trans s1_0, (ho _ _ ltn).trans s1_1, (ho _ _ ltn).trans s1_2, (ho _ _ ltn).trans s1_3⟩, hv.setCell (p := ⟨ga, i, none⟩) (by show w.heap.size ≤ ga; have := hw.size; omega) _⟩
    have S0 : (w.heap.size < w2.drew.heap.size ∧ w2.drew.cell? ⟨w.heap.size, 0, none⟩ = some (.int .i64 c) ∧ w2.drew.cell? ⟨w.heap.size, 1, none⟩ = some (.int .i64 f) ∧ w2.drew.cell? ⟨w.heap.size, 2, none⟩ = some (.slice p l.length cap)) ∧ (w.heap.size + 1 < w2.drew.heap.size ∧ w2.drew.cell? ⟨w.heap.size + 1, 0, none⟩ = some (.int .i64 nd) ∧ w2.drew.cell? ⟨w.heap.size + 1, 1, none⟩ = some (.slice pj j.length cj) ∧ w2.drew.cell? ⟨w.heap.size + 1, 2, none⟩ = some (.slice pd ee.length cd) ∧ w2.drew.cell? ⟨w.heap.size + 1, 3, none⟩ = some (.slice ps L.length cs)) ∧ Below w.heap.size w w2.drew := ⟨⟨Bx.lt, cx0, cx1, cx2⟩, ⟨Bn.lt, cn0, cn1, cn2, cn3⟩, hw.drew⟩
    have SA : (w.heap.size < (w2.alloc (.cells #[.int .i64 0, .int .i64 0, .slice none 0 0] 26)).drew.heap.size ∧ (w2.alloc (.cells #[.int .i64 0, .int .i64 0, .slice none 0 0] 26)).drew.cell? ⟨w.heap.size, 0, none⟩ = some (.int .i64 c) ∧ (w2.alloc (.cells #[.int .i64 0, .int .i64 0, .slice none 0 0] 26)).drew.cell? ⟨w.heap.size, 1, none⟩ = some (.int .i64 f) ∧ (w2.alloc (.cells #[.int .i64 0, .int .i64 0, .slice none 0 0] 26)).drew.cell? ⟨w.heap.size, 2, none⟩ = some (.slice p l.length cap)) ∧ (w.heap.size + 1 < (w2.alloc (.cells #[.int .i64 0, .int .i64 0, .slice none 0 0] 26)).drew.heap.size ∧ (w2.alloc (.cells #[.int .i64 0, .int .i64 0, .slice none 0 0] 26)).drew.cell? ⟨w.heap.size + 1, 0, none⟩ = some (.int .i64 nd) ∧ (w2.alloc (.cells #[.int .i64 0, .int .i64 0, .slice none 0 0] 26)).drew.cell? ⟨w.heap.size + 1, 1, none⟩ = some (.slice pj j.length cj) ∧ (w2.alloc (.cells #[.int .i64 0, .int .i64 0, .slice none 0 0] 26)).drew.cell? ⟨w.heap.size + 1, 2, none⟩ = some (.slice pd ee.length cd) ∧ (w2.alloc (.cells #[.int .i64 0, .int .i64 0, .slice none 0 0] 26)).drew.cell? ⟨w.heap.size + 1, 3, none⟩ = some (.slice ps L.length cs)) ∧ Below w.heap.size w (w2.alloc (.cells #[.int .i64 0, .int .i64 0, .slice none 0 0] 26)).drew := keepS _ _ S0 (by exact ((Below.refl _ w2.drew).alloc (Nat.le_refl _) (.cells #[.int .i64 0, .int .i64 0, .slice none 0 0] 26)))
    have U0 : Below w2.heap.size w2 w2.drew := (Below.refl _ _).drew
    have UA : Below w2.heap.size w2 (w2.alloc (.cells #[.int .i64 0, .int .i64 0, .slice none 0 0] 26)).drew := ((Below.refl _ _).alloc (Nat.le_refl _) _).drew
    go_region_held3 (fun w' => (w.heap.size < w'.heap.size ∧ w'.cell? ⟨w.heap.size, 0, none⟩ = some (.int .i64 c) ∧ w'.cell? ⟨w.heap.size, 1, none⟩ = some (.int .i64 f) ∧ w'.cell? ⟨w.heap.size, 2, none⟩ = some (.slice p l.length cap)) ∧ (w.heap.size + 1 < w'.heap.size ∧ w'.cell? ⟨w.heap.size + 1, 0, none⟩ = some (.int .i64 nd) ∧ w'.cell? ⟨w.heap.size + 1, 1, none⟩ = some (.slice pj j.length cj) ∧ w'.cell? ⟨w.heap.size + 1, 2, none⟩ = some (.slice pd ee.length cd) ∧ w'.cell? ⟨w.heap.size + 1, 3, none⟩ = some (.slice ps L.length cs)) ∧ Below w.heap.size w w')
      (first | with_reducible exact S0 | with_reducible exact SA | assumption | (with_reducible refine keepS _ _ ?_ ((Below.refl _ _).alloc (Nat.le_refl _) _); assumption) | (with_reducible refine keepW _ _ _ _ ?_ (keepW _ _ _ _ ?_ (keepW _ _ _ _ ?_ ?_)); (first | exact Nat.le_refl _ | exact U1.size | exact U2.size | exact U3.size | omega); (first | exact Nat.le_refl _ | exact U1.size | exact U2.size | exact U3.size | omega); (first | exact Nat.le_refl _ | exact U1.size | exact U2.size | exact U3.size | omega); assumption) | go_keep)
      (first | (go_at_call 10; (first | refine (laws_toFlux _ _ _ _ _ _ (hI.below S0.2.2) hm).mono ?_ | refine (laws_toFlux _ _ _ _ _ _ (hI.below SA.2.2) hm).mono ?_); rintro e y1 ⟨g1, rfl, hg1, r1, hb1⟩; obtain ⟨S1, U1⟩ : ((w.heap.size < y1.heap.size ∧ y1.cell? ⟨w.heap.size, 0, none⟩ = some (.int .i64 c) ∧ y1.cell? ⟨w.heap.size, 1, none⟩ = some (.int .i64 f) ∧ y1.cell? ⟨w.heap.size, 2, none⟩ = some (.slice p l.length cap)) ∧ (w.heap.size + 1 < y1.heap.size ∧ y1.cell? ⟨w.heap.size + 1, 0, none⟩ = some (.int .i64 nd) ∧ y1.cell? ⟨w.heap.size + 1, 1, none⟩ = some (.slice pj j.length cj) ∧ y1.cell? ⟨w.heap.size + 1, 2, none⟩ = some (.slice pd ee.length cd) ∧ y1.cell? ⟨w.heap.size + 1, 3, none⟩ = some (.slice ps L.length cs)) ∧ Below w.heap.size w y1) ∧ Below w2.heap.size w2 y1 := (by first | exact ⟨keepS _ _ S0 hb1, below_st U0 hb1 (Nat.le_refl _)⟩ | exact ⟨keepS _ _ SA hb1, UA.trans (hb1.mono UA.size)⟩); try (have A1 := (Blk_drewA (Blk.new w2 26 #[.int .i64 0, .int .i64 0, .slice none 0 0])).keep hb1); have zu1 := U1.size; have zz1 := hb1.size; (try simp at zz1); try (obtain ⟨u0, u1, u2⟩ := A1.cell3; have uf := A1.frozen; have ul := A1.lt)) | (go_at_call 36; (first | refine (laws_toNoiseC _ _ _ _ _ _ _ _ _ _ _ (hIj.below S1.2.2) (hId.below S1.2.2) (hIs.below S1.2.2) hmj hmd hms hmg).mono ?_ | refine (laws_toNoiseC _ _ _ _ _ _ _ _ _ _ _ (hIj.below (keepS _ _ S1 ((Below.refl _ y1).alloc (Nat.le_refl _) (.cells #[.int .i64 0, .int .i64 0, .slice none 0 0] 26))).2.2) (hId.below (keepS _ _ S1 ((Below.refl _ y1).alloc (Nat.le_refl _) (.cells #[.int .i64 0, .int .i64 0, .slice none 0 0] 26))).2.2) (hIs.below (keepS _ _ S1 ((Below.refl _ y1).alloc (Nat.le_refl _) (.cells #[.int .i64 0, .int .i64 0, .slice none 0 0] 26))).2.2) hmj hmd hms hmg).mono ?_); rintro e y2 ⟨k1, k2, k3, Lk, rfl, Nk, hb2⟩; obtain ⟨S2, U2⟩ : ((w.heap.size < y2.heap.size ∧ y2.cell? ⟨w.heap.size, 0, none⟩ = some (.int .i64 c) ∧ y2.cell? ⟨w.heap.size, 1, none⟩ = some (.int .i64 f) ∧ y2.cell? ⟨w.heap.size, 2, none⟩ = some (.slice p l.length cap)) ∧ (w.heap.size + 1 < y2.heap.size ∧ y2.cell? ⟨w.heap.size + 1, 0, none⟩ = some (.int .i64 nd) ∧ y2.cell? ⟨w.heap.size + 1, 1, none⟩ = some (.slice pj j.length cj) ∧ y2.cell? ⟨w.heap.size + 1, 2, none⟩ = some (.slice pd ee.length cd) ∧ y2.cell? ⟨w.heap.size + 1, 3, none⟩ = some (.slice ps L.length cs)) ∧ Below w.heap.size w y2) ∧ Below w2.heap.size w2 y2 := (by first | exact ⟨keepS _ _ S1 hb2, below_st U1 hb2 (Nat.le_refl _)⟩ | exact ⟨keepS _ _ (keepS _ _ S1 ((Below.refl _ y1).alloc (Nat.le_refl _) (.cells #[.int .i64 0, .int .i64 0, .slice none 0 0] 26))) hb2, below_al U1 hb2 (Nat.le_refl _)⟩); (first | (have A2 := A1.keep hb2) | (have A2 := (Blk.new y1 26 #[.int .i64 0, .int .i64 0, .slice none 0 0]).keep hb2) | skip); have zu2 := U2.size; have zz2 := hb2.size; (try simp at zz2); try (obtain ⟨u0, u1, u2⟩ := A2.cell3; have uf := A2.frozen; have ul := A2.lt)) | (go_at_call 35; (first | refine (spec_AddNoiseC _ _ _ _ _ _ _ _ _ _ _ _ _ _ _ (by first | exact (r1.below hb2).ints | exact ((r1.alloc _).below hb2).ints | exact ((r1.below hb2).alloc _).ints) (by first | exact Nk | exact Nk.below ((Below.refl _ _).alloc (Nat.le_refl _) _)) hsm hmj hmd hms).mono ?_); rintro e y3 ⟨q3, d3, rfl, Rr, hb3⟩; obtain ⟨S3, U3⟩ : ((w.heap.size < y3.heap.size ∧ y3.cell? ⟨w.heap.size, 0, none⟩ = some (.int .i64 c) ∧ y3.cell? ⟨w.heap.size, 1, none⟩ = some (.int .i64 f) ∧ y3.cell? ⟨w.heap.size, 2, none⟩ = some (.slice p l.length cap)) ∧ (w.heap.size + 1 < y3.heap.size ∧ y3.cell? ⟨w.heap.size + 1, 0, none⟩ = some (.int .i64 nd) ∧ y3.cell? ⟨w.heap.size + 1, 1, none⟩ = some (.slice pj j.length cj) ∧ y3.cell? ⟨w.heap.size + 1, 2, none⟩ = some (.slice pd ee.length cd) ∧ y3.cell? ⟨w.heap.size + 1, 3, none⟩ = some (.slice ps L.length cs)) ∧ Below w.heap.size w y3) ∧ Below w2.heap.size w2 y3 := (by first | exact ⟨keepS _ _ S2 hb3, below_st U2 hb3 (Nat.le_refl _)⟩ | exact ⟨keepS _ _ (keepS _ _ S2 ((Below.refl _ y2).alloc (Nat.le_refl _) (.cells #[.int .i64 0, .int .i64 0, .slice none 0 0] 26))) hb3, below_al U2 hb3 (Nat.le_refl _)⟩); (first | (have A3 := A2.keep hb3) | (have A3 := (Blk.new y2 26 #[.int .i64 0, .int .i64 0, .slice none 0 0]).keep hb3) | skip); have zu3 := U3.size; have zz3 := hb3.size; (try simp at zz3); try (obtain ⟨u0, u1, u2⟩ := A3.cell3; have uf := A3.frozen; have ul := A3.lt)))
    all_goals
      go_wp2_with fail
      go_meet
      refine ⟨_, q3, d3, rfl, rfl, ?_⟩
      first | exact cutA A3 Rr (by first | exact A2.lt | (simp; done) | omega) (by first | exact Nat.le_refl _ | exact U1.size | exact U2.size | omega) U3 | exact cutB Rr (by first | exact U2.size | omega | (simp; done) | (simp; omega)) (by omega) U3
  case rest =>
    obtain ⟨gaw0, qw0, dw0, rfl, rfl, hggaw0, Bw0, Rw0, hb⟩ := hcut
    obtain ⟨w3, hwc⟩ : ∃ w3, w3 = wc := ⟨_, rfl⟩
    subst hwc
    have z3 := hb.size
    have hlgaw0 := Bw0.lt
    replace Bx := Bx.keep hb
    replace Bn := Bn.keep hb
    replace hw := below_st hw hb (Nat.le_refl _)
    clear hb
    have hOw0 : ∀ g, ownOf qw0 (anS c f l nd j ee L).l = some g → w2.heap.size ≤ g ∧ g < w3.heap.size := fun g hg => ownOf_at Rw0 hg
    have hNw0 : (anS c f l nd j ee L).l ≠ [] → ∀ g, qw0 = some (⟨g, 0, none⟩ : Addr) → w2.heap.size ≤ g ∧ g < w3.heap.size := fun hl g hp => OwnS.lt Rw0 hl hp
    clear cx0 cx1 cx2 ltx cn0 cn1 cn2 cn3 ltn
    obtain ⟨cx0, cx1, cx2⟩ := Bx.cell3
    have ltx := Bx.lt
    obtain ⟨cn0, cn1, cn2, cn3⟩ := Bn.cell4
    have ltn := Bn.lt
    obtain ⟨cw00, cw01, cw02⟩ := Bw0.cell3
    have ltw0 := Bw0.lt
    go_wp2_with fail
    refine (laws_toFlux _ _ _ _ _ _ (hI.below hw) hm).mono ?_
    rintro e w4 ⟨gqx0, rfl, hgqx0, hr, hb⟩
    have Rqx0 := OwnS.of_row hr hgqx0; clear hr
    have z4 := hb.size
    replace Bx := Bx.keep hb
    replace Bn := Bn.keep hb
    replace Bw0 := Bw0.keep hb
    replace Rw0 := Rw0.below hb
    replace hw := below_st hw hb (Nat.le_refl _)
    clear hb
    have hOqx0 : ∀ g, ownOf (some (⟨gqx0, 0, none⟩ : Addr)) l = some g → w3.heap.size ≤ g ∧ g < w4.heap.size := fun g hg => ownOf_at Rqx0 hg
    have hNqx0 : l ≠ [] → ∀ g, (some (⟨gqx0, 0, none⟩ : Addr)) = some (⟨g, 0, none⟩ : Addr) → w3.heap.size ≤ g ∧ g < w4.heap.size := fun hl g hp => OwnS.lt Rqx0 hl hp
    clear cx0 cx1 cx2 ltx cn0 cn1 cn2 cn3 ltn cw00 cw01 cw02 ltw0
    obtain ⟨cx0, cx1, cx2⟩ := Bx.cell3
    have ltx := Bx.lt
    obtain ⟨cn0, cn1, cn2, cn3⟩ := Bn.cell4
    have ltn := Bn.lt
    obtain ⟨cw00, cw01, cw02⟩ := Bw0.cell3
    have ltw0 := Bw0.lt
    go_wp2_with fail
    have Bx0 := Blk.new w4 26 #[.int .i64 c, .int .i64 f, .slice (some ⟨gqx0, 0, none⟩) l.length l.length]
    replace Bx := Bx.keep ((Below.refl _ w4).alloc (Nat.le_refl _) (.cells #[.int .i64 c, .int .i64 f, .slice (some ⟨gqx0, 0, none⟩) l.length l.length] 26))
    replace Bn := Bn.keep ((Below.refl _ w4).alloc (Nat.le_refl _) (.cells #[.int .i64 c, .int .i64 f, .slice (some ⟨gqx0, 0, none⟩) l.length l.length] 26))
    replace Bw0 := Bw0.keep ((Below.refl _ w4).alloc (Nat.le_refl _) (.cells #[.int .i64 c, .int .i64 f, .slice (some ⟨gqx0, 0, none⟩) l.length l.length] 26))
    replace Rw0 := Rw0.below ((Below.refl _ w4).alloc (Nat.le_refl _) (.cells #[.int .i64 c, .int .i64 f, .slice (some ⟨gqx0, 0, none⟩) l.length l.length] 26))
    replace Rqx0 := Rqx0.below ((Below.refl _ w4).alloc (Nat.le_refl _) (.cells #[.int .i64 c, .int .i64 f, .slice (some ⟨gqx0, 0, none⟩) l.length l.length] 26))
    replace hw := hw.alloc hw.size (.cells #[.int .i64 c, .int .i64 f, .slice (some ⟨gqx0, 0, none⟩) l.length l.length] 26)
    have z5 : w4.heap.size + 1 ≤ (w4.alloc (.cells #[.int .i64 c, .int .i64 f, .slice (some ⟨gqx0, 0, none⟩) l.length l.length] 26)).heap.size := by simp
    generalize w4.alloc (.cells #[.int .i64 c, .int .i64 f, .slice (some ⟨gqx0, 0, none⟩) l.length l.length] 26) = w5 at Bx Bn Bw0 Bx0 Rw0 Rqx0 hw z5 ⊢
    clear cx0 cx1 cx2 ltx cn0 cn1 cn2 cn3 ltn cw00 cw01 cw02 ltw0
    obtain ⟨cx0, cx1, cx2⟩ := Bx.cell3
    have ltx := Bx.lt
    obtain ⟨cn0, cn1, cn2, cn3⟩ := Bn.cell4
    have ltn := Bn.lt
    obtain ⟨cw00, cw01, cw02⟩ := Bw0.cell3
    have ltw0 := Bw0.lt
    obtain ⟨cx00, cx01, cx02⟩ := Bx0.cell3
    have ltx0 := Bx0.lt
    go_wp2_with fail
    refine (laws_toNoiseC _ _ _ _ _ _ _ _ _ _ _ (hIj.below hw) (hId.below hw) (hIs.below hw) hmj hmd hms hmg).mono ?_
    rintro e w6 ⟨gx1, gx2, gx3, Lgx, rfl, Ngx, hb⟩
    have z6 := hb.size
    replace Bx := Bx.keep hb
    replace Bn := Bn.keep hb
    replace Bw0 := Bw0.keep hb
    replace Bx0 := Bx0.keep hb
    replace Rw0 := Rw0.below hb
    replace Rqx0 := Rqx0.below hb
    replace hw := below_st hw hb (Nat.le_refl _)
    clear hb
    have hT := Ngx.top
    have hTb := Ngx.b1
    have hTc := Ngx.b2
    have hTd := Ngx.b3
    have hT1 := hT.1
    have HT := Lib.hid hT
    clear hT
    clear cx0 cx1 cx2 ltx cn0 cn1 cn2 cn3 ltn cw00 cw01 cw02 ltw0 cx00 cx01 cx02 ltx0
    obtain ⟨cx0, cx1, cx2⟩ := Bx.cell3
    have ltx := Bx.lt
    obtain ⟨cn0, cn1, cn2, cn3⟩ := Bn.cell4
    have ltn := Bn.lt
    obtain ⟨cw00, cw01, cw02⟩ := Bw0.cell3
    have ltw0 := Bw0.lt
    obtain ⟨cx00, cx01, cx02⟩ := Bx0.cell3
    have ltx0 := Bx0.lt
    go_wp2_with fail
    have Bx1 := Blk.new w6 53 #[.int .i64 nd, .slice (some ⟨gx1, 0, none⟩) j.length j.length, .slice (some ⟨gx2, 0, none⟩) ee.length ee.length, .slice (some ⟨gx3, 0, none⟩) L.length L.length]
    replace Bx := Bx.keep ((Below.refl _ w6).alloc (Nat.le_refl _) (.cells #[.int .i64 nd, .slice (some ⟨gx1, 0, none⟩) j.length j.length, .slice (some ⟨gx2, 0, none⟩) ee.length ee.length, .slice (some ⟨gx3, 0, none⟩) L.length L.length] 53))
    replace Bn := Bn.keep ((Below.refl _ w6).alloc (Nat.le_refl _) (.cells #[.int .i64 nd, .slice (some ⟨gx1, 0, none⟩) j.length j.length, .slice (some ⟨gx2, 0, none⟩) ee.length ee.length, .slice (some ⟨gx3, 0, none⟩) L.length L.length] 53))
    replace Bw0 := Bw0.keep ((Below.refl _ w6).alloc (Nat.le_refl _) (.cells #[.int .i64 nd, .slice (some ⟨gx1, 0, none⟩) j.length j.length, .slice (some ⟨gx2, 0, none⟩) ee.length ee.length, .slice (some ⟨gx3, 0, none⟩) L.length L.length] 53))
    replace Bx0 := Bx0.keep ((Below.refl _ w6).alloc (Nat.le_refl _) (.cells #[.int .i64 nd, .slice (some ⟨gx1, 0, none⟩) j.length j.length, .slice (some ⟨gx2, 0, none⟩) ee.length ee.length, .slice (some ⟨gx3, 0, none⟩) L.length L.length] 53))
    replace Rw0 := Rw0.below ((Below.refl _ w6).alloc (Nat.le_refl _) (.cells #[.int .i64 nd, .slice (some ⟨gx1, 0, none⟩) j.length j.length, .slice (some ⟨gx2, 0, none⟩) ee.length ee.length, .slice (some ⟨gx3, 0, none⟩) L.length L.length] 53))
    replace Rqx0 := Rqx0.below ((Below.refl _ w6).alloc (Nat.le_refl _) (.cells #[.int .i64 nd, .slice (some ⟨gx1, 0, none⟩) j.length j.length, .slice (some ⟨gx2, 0, none⟩) ee.length ee.length, .slice (some ⟨gx3, 0, none⟩) L.length L.length] 53))
    replace Ngx := Ngx.below ((Below.refl _ w6).alloc (Nat.le_refl _) (.cells #[.int .i64 nd, .slice (some ⟨gx1, 0, none⟩) j.length j.length, .slice (some ⟨gx2, 0, none⟩) ee.length ee.length, .slice (some ⟨gx3, 0, none⟩) L.length L.length] 53))
    replace hw := hw.alloc hw.size (.cells #[.int .i64 nd, .slice (some ⟨gx1, 0, none⟩) j.length j.length, .slice (some ⟨gx2, 0, none⟩) ee.length ee.length, .slice (some ⟨gx3, 0, none⟩) L.length L.length] 53)
    have z7 : w6.heap.size + 1 ≤ (w6.alloc (.cells #[.int .i64 nd, .slice (some ⟨gx1, 0, none⟩) j.length j.length, .slice (some ⟨gx2, 0, none⟩) ee.length ee.length, .slice (some ⟨gx3, 0, none⟩) L.length L.length] 53)).heap.size := by simp
    generalize w6.alloc (.cells #[.int .i64 nd, .slice (some ⟨gx1, 0, none⟩) j.length j.length, .slice (some ⟨gx2, 0, none⟩) ee.length ee.length, .slice (some ⟨gx3, 0, none⟩) L.length L.length] 53) = w7 at Bx Bn Bw0 Bx0 Bx1 Rw0 Rqx0 Ngx hw z7 ⊢
    clear cx0 cx1 cx2 ltx cn0 cn1 cn2 cn3 ltn cw00 cw01 cw02 ltw0 cx00 cx01 cx02 ltx0
    obtain ⟨cx0, cx1, cx2⟩ := Bx.cell3
    have ltx := Bx.lt
    obtain ⟨cn0, cn1, cn2, cn3⟩ := Bn.cell4
    have ltn := Bn.lt
    obtain ⟨cw00, cw01, cw02⟩ := Bw0.cell3
    have ltw0 := Bw0.lt
    obtain ⟨cx00, cx01, cx02⟩ := Bx0.cell3
    have ltx0 := Bx0.lt
    obtain ⟨cx10, cx11, cx12, cx13⟩ := Bx1.cell4
    have ltx1 := Bx1.lt
    go_wp2_with fail
    refine (impl_AddNoiseC _ _ _ _ _ _ _ _ _ _ _ _ _ _ _ Rqx0.ints Ngx hsm hmj hmd hms).mono ?_
    rintro e w8 ⟨qg0, dg0, rfl, Rg0, hb⟩
    have z8 := hb.size
    replace Bx := Bx.keep hb
    replace Bn := Bn.keep hb
    replace Bw0 := Bw0.keep hb
    replace Bx0 := Bx0.keep hb
    replace Bx1 := Bx1.keep hb
    replace Rw0 := Rw0.below hb
    replace Rqx0 := Rqx0.below hb
    replace Ngx := Ngx.below hb
    replace hw := below_st hw hb (Nat.le_refl _)
    clear hb
    have hOg0 : ∀ g, ownOf qg0 (anS c f l nd j ee L).l = some g → w7.heap.size ≤ g ∧ g < w8.heap.size := fun g hg => ownOf_at Rg0 hg
    have hNg0 : (anS c f l nd j ee L).l ≠ [] → ∀ g, qg0 = some (⟨g, 0, none⟩ : Addr) → w7.heap.size ≤ g ∧ g < w8.heap.size := fun hl g hp => OwnS.lt Rg0 hl hp
    clear cx0 cx1 cx2 ltx cn0 cn1 cn2 cn3 ltn cw00 cw01 cw02 ltw0 cx00 cx01 cx02 ltx0 cx10 cx11 cx12 cx13 ltx1
    obtain ⟨cx0, cx1, cx2⟩ := Bx.cell3
    have ltx := Bx.lt
    obtain ⟨cn0, cn1, cn2, cn3⟩ := Bn.cell4
    have ltn := Bn.lt
    obtain ⟨cw00, cw01, cw02⟩ := Bw0.cell3
    have ltw0 := Bw0.lt
    obtain ⟨cx00, cx01, cx02⟩ := Bx0.cell3
    have ltx0 := Bx0.lt
    obtain ⟨cx10, cx11, cx12, cx13⟩ := Bx1.cell4
    have ltx1 := Bx1.lt
    go_wp2_with fail
    have Bg0 := Blk.new w8 26 #[.int .i64 (anS c f l nd j ee L).c, .int .i64 (anS c f l nd j ee L).f, .slice qg0 (anS c f l nd j ee L).l.length dg0]
    replace Bx := Bx.keep ((Below.refl _ w8).alloc (Nat.le_refl _) (.cells #[.int .i64 (anS c f l nd j ee L).c, .int .i64 (anS c f l nd j ee L).f, .slice qg0 (anS c f l nd j ee L).l.length dg0] 26))
    replace Bn := Bn.keep ((Below.refl _ w8).alloc (Nat.le_refl _) (.cells #[.int .i64 (anS c f l nd j ee L).c, .int .i64 (anS c f l nd j ee L).f, .slice qg0 (anS c f l nd j ee L).l.length dg0] 26))
    replace Bw0 := Bw0.keep ((Below.refl _ w8).alloc (Nat.le_refl _) (.cells #[.int .i64 (anS c f l nd j ee L).c, .int .i64 (anS c f l nd j ee L).f, .slice qg0 (anS c f l nd j ee L).l.length dg0] 26))
    replace Bx0 := Bx0.keep ((Below.refl _ w8).alloc (Nat.le_refl _) (.cells #[.int .i64 (anS c f l nd j ee L).c, .int .i64 (anS c f l nd j ee L).f, .slice qg0 (anS c f l nd j ee L).l.length dg0] 26))
    replace Bx1 := Bx1.keep ((Below.refl _ w8).alloc (Nat.le_refl _) (.cells #[.int .i64 (anS c f l nd j ee L).c, .int .i64 (anS c f l nd j ee L).f, .slice qg0 (anS c f l nd j ee L).l.length dg0] 26))
    replace Rw0 := Rw0.below ((Below.refl _ w8).alloc (Nat.le_refl _) (.cells #[.int .i64 (anS c f l nd j ee L).c, .int .i64 (anS c f l nd j ee L).f, .slice qg0 (anS c f l nd j ee L).l.length dg0] 26))
    replace Rqx0 := Rqx0.below ((Below.refl _ w8).alloc (Nat.le_refl _) (.cells #[.int .i64 (anS c f l nd j ee L).c, .int .i64 (anS c f l nd j ee L).f, .slice qg0 (anS c f l nd j ee L).l.length dg0] 26))
    replace Rg0 := Rg0.below ((Below.refl _ w8).alloc (Nat.le_refl _) (.cells #[.int .i64 (anS c f l nd j ee L).c, .int .i64 (anS c f l nd j ee L).f, .slice qg0 (anS c f l nd j ee L).l.length dg0] 26))
    replace Ngx := Ngx.below ((Below.refl _ w8).alloc (Nat.le_refl _) (.cells #[.int .i64 (anS c f l nd j ee L).c, .int .i64 (anS c f l nd j ee L).f, .slice qg0 (anS c f l nd j ee L).l.length dg0] 26))
    replace hw := hw.alloc hw.size (.cells #[.int .i64 (anS c f l nd j ee L).c, .int .i64 (anS c f l nd j ee L).f, .slice qg0 (anS c f l nd j ee L).l.length dg0] 26)
    have z9 : w8.heap.size + 1 ≤ (w8.alloc (.cells #[.int .i64 (anS c f l nd j ee L).c, .int .i64 (anS c f l nd j ee L).f, .slice qg0 (anS c f l nd j ee L).l.length dg0] 26)).heap.size := by simp
    generalize w8.alloc (.cells #[.int .i64 (anS c f l nd j ee L).c, .int .i64 (anS c f l nd j ee L).f, .slice qg0 (anS c f l nd j ee L).l.length dg0] 26) = w9 at Bx Bn Bw0 Bx0 Bx1 Bg0 Rw0 Rqx0 Rg0 Ngx hw z9 ⊢
    clear cx0 cx1 cx2 ltx cn0 cn1 cn2 cn3 ltn cw00 cw01 cw02 ltw0 cx00 cx01 cx02 ltx0 cx10 cx11 cx12 cx13 ltx1
    obtain ⟨cx0, cx1, cx2⟩ := Bx.cell3
    have ltx := Bx.lt
    obtain ⟨cn0, cn1, cn2, cn3⟩ := Bn.cell4
    have ltn := Bn.lt
    obtain ⟨cw00, cw01, cw02⟩ := Bw0.cell3
    have ltw0 := Bw0.lt
    obtain ⟨cx00, cx01, cx02⟩ := Bx0.cell3
    have ltx0 := Bx0.lt
    obtain ⟨cx10, cx11, cx12, cx13⟩ := Bx1.cell4
    have ltx1 := Bx1.lt
    obtain ⟨cg00, cg01, cg02⟩ := Bg0.cell3
    have ltg0 := Bg0.lt
    go_wp2_with fail
    refine (laws_eqFlux_same _ _ _ _ _ _ _ _ Rg0.ints Rw0.ints (by omega)).mono ?_
    rintro e w10 ⟨rfl, hb⟩
    have z10 := hb.size
    replace Bx := Bx.keep hb
    replace Bn := Bn.keep hb
    replace Bw0 := Bw0.keep hb
    replace Bx0 := Bx0.keep hb
    replace Bx1 := Bx1.keep hb
    replace Bg0 := Bg0.keep hb
    replace Rw0 := Rw0.below hb
    replace Rqx0 := Rqx0.below hb
    replace Rg0 := Rg0.below hb
    replace Ngx := Ngx.below hb
    replace hw := below_st hw hb (Nat.le_refl _)
    clear hb
    clear cx0 cx1 cx2 ltx cn0 cn1 cn2 cn3 ltn cw00 cw01 cw02 ltw0 cx00 cx01 cx02 ltx0 cx10 cx11 cx12 cx13 ltx1 cg00 cg01 cg02 ltg0
    obtain ⟨cx0, cx1, cx2⟩ := Bx.cell3
    have ltx := Bx.lt
    obtain ⟨cn0, cn1, cn2, cn3⟩ := Bn.cell4
    have ltn := Bn.lt
    obtain ⟨cw00, cw01, cw02⟩ := Bw0.cell3
    have ltw0 := Bw0.lt
    obtain ⟨cx00, cx01, cx02⟩ := Bx0.cell3
    have ltx0 := Bx0.lt
    obtain ⟨cx10, cx11, cx12, cx13⟩ := Bx1.cell4
    have ltx1 := Bx1.lt
    obtain ⟨cg00, cg01, cg02⟩ := Bg0.cell3
    have ltg0 := Bg0.lt
    go_wp2_with fail
    go_cut [58] (fun v0 wx => v0 = .bool false ∧ Below w10.heap.size w10 wx)
    case first =>
      have keepS : ∀ y1 y2 : World, ((w.heap.size < y1.heap.size ∧ y1.cell? ⟨w.heap.size, 0, none⟩ = some (.int .i64 c) ∧ y1.cell? ⟨w.heap.size, 1, none⟩ = some (.int .i64 f) ∧ y1.cell? ⟨w.heap.size, 2, none⟩ = some (.slice p l.length cap)) ∧ (w4.heap.size < y1.heap.size ∧ y1.cell? ⟨w4.heap.size, 0, none⟩ = some (.int .i64 c) ∧ y1.cell? ⟨w4.heap.size, 1, none⟩ = some (.int .i64 f) ∧ y1.cell? ⟨w4.heap.size, 2, none⟩ = some (.slice (some ⟨gqx0, 0, none⟩) l.length l.length)) ∧ OwnS y1 w3.heap.size (some (⟨gqx0, 0, none⟩ : Addr)) l ∧ Below w.heap.size w y1) → Below y1.heap.size y1 y2 → ((w.heap.size < y2.heap.size ∧ y2.cell? ⟨w.heap.size, 0, none⟩ = some (.int .i64 c) ∧ y2.cell? ⟨w.heap.size, 1, none⟩ = some (.int .i64 f) ∧ y2.cell? ⟨w.heap.size, 2, none⟩ = some (.slice p l.length cap)) ∧ (w4.heap.size < y2.heap.size ∧ y2.cell? ⟨w4.heap.size, 0, none⟩ = some (.int .i64 c) ∧ y2.cell? ⟨w4.heap.size, 1, none⟩ = some (.int .i64 f) ∧ y2.cell? ⟨w4.heap.size, 2, none⟩ = some (.slice (some ⟨gqx0, 0, none⟩) l.length l.length)) ∧ OwnS y2 w3.heap.size (some (⟨gqx0, 0, none⟩ : Addr)) l ∧ Below w.heap.size w y2) := by
        rintro y1 y2 ⟨⟨s0, s0_0, s0_1, s0_2⟩, ⟨s1, s1_0, s1_1, s1_2⟩, t0, hv⟩ hb
        obtain ⟨hc, -⟩ := bcell hb
        have := hb.size
        exact ⟨⟨by omega, (hc _ _ s0).trans s0_0, (hc _ _ s0).trans s0_1, (hc _ _ s0).trans s0_2⟩, ⟨by omega, (hc _ _ s1).trans s1_0, (hc _ _ s1).trans s1_1, (hc _ _ s1).trans s1_2⟩, t0.below hb, below_st hv hb (Nat.le_refl _)⟩
      have S0 : (w.heap.size < w10.drew.heap.size ∧ w10.drew.cell? ⟨w.heap.size, 0, none⟩ = some (.int .i64 c) ∧ w10.drew.cell? ⟨w.heap.size, 1, none⟩ = some (.int .i64 f) ∧ w10.drew.cell? ⟨w.heap.size, 2, none⟩ = some (.slice p l.length cap)) ∧ (w4.heap.size < w10.drew.heap.size ∧ w10.drew.cell? ⟨w4.heap.size, 0, none⟩ = some (.int .i64 c) ∧ w10.drew.cell? ⟨w4.heap.size, 1, none⟩ = some (.int .i64 f) ∧ w10.drew.cell? ⟨w4.heap.size, 2, none⟩ = some (.slice (some ⟨gqx0, 0, none⟩) l.length l.length)) ∧ OwnS w10.drew w3.heap.size (some (⟨gqx0, 0, none⟩ : Addr)) l ∧ Below w.heap.size w w10.drew := ⟨⟨Bx.lt, cx0, cx1, cx2⟩, ⟨Bx0.lt, cx00, cx01, cx02⟩, Rqx0.below (Below.refl _ _).drew, hw.drew⟩
      go_region_held3 (fun w' => (w.heap.size < w'.heap.size ∧ w'.cell? ⟨w.heap.size, 0, none⟩ = some (.int .i64 c) ∧ w'.cell? ⟨w.heap.size, 1, none⟩ = some (.int .i64 f) ∧ w'.cell? ⟨w.heap.size, 2, none⟩ = some (.slice p l.length cap)) ∧ (w4.heap.size < w'.heap.size ∧ w'.cell? ⟨w4.heap.size, 0, none⟩ = some (.int .i64 c) ∧ w'.cell? ⟨w4.heap.size, 1, none⟩ = some (.int .i64 f) ∧ w'.cell? ⟨w4.heap.size, 2, none⟩ = some (.slice (some ⟨gqx0, 0, none⟩) l.length l.length)) ∧ OwnS w' w3.heap.size (some (⟨gqx0, 0, none⟩ : Addr)) l ∧ Below w.heap.size w w')
        (first | exact S0 | (refine keepS _ _ ?_ (by assumption); assumption) | go_keep)
        (first | (go_at_call 12; refine (laws_eqFlux_same _ _ _ _ _ _ _ _ S1.2.2.1.ints r6.ints (by omega)).mono ?_; rintro e y2 ⟨rfl, hb2⟩; have S2 := keepS _ _ S1 hb2) | (go_at_call 10; refine (laws_toFlux _ _ _ _ _ _ (hI.below S0.2.2.2) hm).mono ?_; rintro e y1 ⟨g6, rfl, hg6, r6, hb1⟩; have S1 := keepS _ _ S0 hb1))
      all_goals
        go_wp2_with fail
        go_meet
        exact ⟨rfl, (below_st (below_st (Below.refl _ w10).drew hb1 (Nat.le_refl _)) hb2 (Nat.le_refl _))⟩
    case rest =>
      obtain ⟨rfl, hb⟩ := hcut
      obtain ⟨w11, hwc⟩ : ∃ w11, w11 = wc := ⟨_, rfl⟩
      subst hwc
      have z11 := hb.size
      replace Bx := Bx.keep hb
      replace Bn := Bn.keep hb
      replace Bw0 := Bw0.keep hb
      replace Bx0 := Bx0.keep hb
      replace Bx1 := Bx1.keep hb
      replace Bg0 := Bg0.keep hb
      replace Rw0 := Rw0.below hb
      replace Rqx0 := Rqx0.below hb
      replace Rg0 := Rg0.below hb
      replace Ngx := Ngx.below hb
      replace hw := below_st hw hb (Nat.le_refl _)
      clear hb
      clear cx0 cx1 cx2 ltx cn0 cn1 cn2 cn3 ltn cw00 cw01 cw02 ltw0 cx00 cx01 cx02 ltx0 cx10 cx11 cx12 cx13 ltx1 cg00 cg01 cg02 ltg0
      obtain ⟨cx0, cx1, cx2⟩ := Bx.cell3
      have ltx := Bx.lt
      obtain ⟨cn0, cn1, cn2, cn3⟩ := Bn.cell4
      have ltn := Bn.lt
      obtain ⟨cw00, cw01, cw02⟩ := Bw0.cell3
      have ltw0 := Bw0.lt
      obtain ⟨cx00, cx01, cx02⟩ := Bx0.cell3
      have ltx0 := Bx0.lt
      obtain ⟨cx10, cx11, cx12, cx13⟩ := Bx1.cell4
      have ltx1 := Bx1.lt
      obtain ⟨cg00, cg01, cg02⟩ := Bg0.cell3
      have ltg0 := Bg0.lt
      go_wp2_with fail
      go_cut [63] (fun v0 wx => v0 = .bool false ∧ Below w11.heap.size w11 wx)
      case first =>
        have keepS : ∀ y1 y2 : World, ((w.heap.size + 1 < y1.heap.size ∧ y1.cell? ⟨w.heap.size + 1, 0, none⟩ = some (.int .i64 nd) ∧ y1.cell? ⟨w.heap.size + 1, 1, none⟩ = some (.slice pj j.length cj) ∧ y1.cell? ⟨w.heap.size + 1, 2, none⟩ = some (.slice pd ee.length cd) ∧ y1.cell? ⟨w.heap.size + 1, 3, none⟩ = some (.slice ps L.length cs)) ∧ (w6.heap.size < y1.heap.size ∧ y1.cell? ⟨w6.heap.size, 0, none⟩ = some (.int .i64 nd) ∧ y1.cell? ⟨w6.heap.size, 1, none⟩ = some (.slice (some ⟨gx1, 0, none⟩) j.length j.length) ∧ y1.cell? ⟨w6.heap.size, 2, none⟩ = some (.slice (some ⟨gx2, 0, none⟩) ee.length ee.length) ∧ y1.cell? ⟨w6.heap.size, 3, none⟩ = some (.slice (some ⟨gx3, 0, none⟩) L.length L.length)) ∧ NzC y1 w5.heap.size gx1 gx2 gx3 j ee L Lgx ∧ Below w.heap.size w y1) → Below y1.heap.size y1 y2 → ((w.heap.size + 1 < y2.heap.size ∧ y2.cell? ⟨w.heap.size + 1, 0, none⟩ = some (.int .i64 nd) ∧ y2.cell? ⟨w.heap.size + 1, 1, none⟩ = some (.slice pj j.length cj) ∧ y2.cell? ⟨w.heap.size + 1, 2, none⟩ = some (.slice pd ee.length cd) ∧ y2.cell? ⟨w.heap.size + 1, 3, none⟩ = some (.slice ps L.length cs)) ∧ (w6.heap.size < y2.heap.size ∧ y2.cell? ⟨w6.heap.size, 0, none⟩ = some (.int .i64 nd) ∧ y2.cell? ⟨w6.heap.size, 1, none⟩ = some (.slice (some ⟨gx1, 0, none⟩) j.length j.length) ∧ y2.cell? ⟨w6.heap.size, 2, none⟩ = some (.slice (some ⟨gx2, 0, none⟩) ee.length ee.length) ∧ y2.cell? ⟨w6.heap.size, 3, none⟩ = some (.slice (some ⟨gx3, 0, none⟩) L.length L.length)) ∧ NzC y2 w5.heap.size gx1 gx2 gx3 j ee L Lgx ∧ Below w.heap.size w y2) := by
          rintro y1 y2 ⟨⟨s0, s0_0, s0_1, s0_2, s0_3⟩, ⟨s1, s1_0, s1_1, s1_2, s1_3⟩, t0, hv⟩ hb
          obtain ⟨hc, -⟩ := bcell hb
          have := hb.size
          exact ⟨⟨by omega, (hc _ _ s0).trans s0_0, (hc _ _ s0).trans s0_1, (hc _ _ s0).trans s0_2, (hc _ _ s0).trans s0_3⟩, ⟨by omega, (hc _ _ s1).trans s1_0, (hc _ _ s1).trans s1_1, (hc _ _ s1).trans s1_2, (hc _ _ s1).trans s1_3⟩, t0.below hb, below_st hv hb (Nat.le_refl _)⟩
        have S0 : (w.heap.size + 1 < w11.drew.heap.size ∧ w11.drew.cell? ⟨w.heap.size + 1, 0, none⟩ = some (.int .i64 nd) ∧ w11.drew.cell? ⟨w.heap.size + 1, 1, none⟩ = some (.slice pj j.length cj) ∧ w11.drew.cell? ⟨w.heap.size + 1, 2, none⟩ = some (.slice pd ee.length cd) ∧ w11.drew.cell? ⟨w.heap.size + 1, 3, none⟩ = some (.slice ps L.length cs)) ∧ (w6.heap.size < w11.drew.heap.size ∧ w11.drew.cell? ⟨w6.heap.size, 0, none⟩ = some (.int .i64 nd) ∧ w11.drew.cell? ⟨w6.heap.size, 1, none⟩ = some (.slice (some ⟨gx1, 0, none⟩) j.length j.length) ∧ w11.drew.cell? ⟨w6.heap.size, 2, none⟩ = some (.slice (some ⟨gx2, 0, none⟩) ee.length ee.length) ∧ w11.drew.cell? ⟨w6.heap.size, 3, none⟩ = some (.slice (some ⟨gx3, 0, none⟩) L.length L.length)) ∧ NzC w11.drew w5.heap.size gx1 gx2 gx3 j ee L Lgx ∧ Below w.heap.size w w11.drew := ⟨⟨Bn.lt, cn0, cn1, cn2, cn3⟩, ⟨Bx1.lt, cx10, cx11, cx12, cx13⟩, Ngx.below (Below.refl _ _).drew, hw.drew⟩
        go_region_held3 (fun w' => (w.heap.size + 1 < w'.heap.size ∧ w'.cell? ⟨w.heap.size + 1, 0, none⟩ = some (.int .i64 nd) ∧ w'.cell? ⟨w.heap.size + 1, 1, none⟩ = some (.slice pj j.length cj) ∧ w'.cell? ⟨w.heap.size + 1, 2, none⟩ = some (.slice pd ee.length cd) ∧ w'.cell? ⟨w.heap.size + 1, 3, none⟩ = some (.slice ps L.length cs)) ∧ (w6.heap.size < w'.heap.size ∧ w'.cell? ⟨w6.heap.size, 0, none⟩ = some (.int .i64 nd) ∧ w'.cell? ⟨w6.heap.size, 1, none⟩ = some (.slice (some ⟨gx1, 0, none⟩) j.length j.length) ∧ w'.cell? ⟨w6.heap.size, 2, none⟩ = some (.slice (some ⟨gx2, 0, none⟩) ee.length ee.length) ∧ w'.cell? ⟨w6.heap.size, 3, none⟩ = some (.slice (some ⟨gx3, 0, none⟩) L.length L.length)) ∧ NzC w' w5.heap.size gx1 gx2 gx3 j ee L Lgx ∧ Below w.heap.size w w')
          (first | exact S0 | (refine keepS _ _ ?_ (by assumption); assumption) | go_keep)
          (first | (go_at_call 37; refine (laws_eqNoiseC _ _ _ _ _ _ _ _ _ _ _ _ _ _ _ S1.2.2.1 Nk hmj hmd hms hmg).mono ?_; rintro e y2 ⟨rfl, hb2⟩; have S2 := keepS _ _ S1 hb2) | (go_at_call 36; refine (laws_toNoiseC _ _ _ _ _ _ _ _ _ _ _ (hIj.below S0.2.2.2) (hId.below S0.2.2.2) (hIs.below S0.2.2.2) hmj hmd hms hmg).mono ?_; rintro e y1 ⟨k1, k2, k3, Lk, rfl, Nk, hb1⟩; have S1 := keepS _ _ S0 hb1))
        all_goals
          go_wp2_with fail
          go_meet
          exact ⟨rfl, (below_st (below_st (Below.refl _ w11).drew hb1 (Nat.le_refl _)) hb2 (Nat.le_refl _))⟩
      case rest =>
        obtain ⟨rfl, hb⟩ := hcut
        obtain ⟨w12, hwc⟩ : ∃ w12, w12 = wc := ⟨_, rfl⟩
        subst hwc
        have z12 := hb.size
        replace Bx := Bx.keep hb
        replace Bn := Bn.keep hb
        replace Bw0 := Bw0.keep hb
        replace Bx0 := Bx0.keep hb
        replace Bx1 := Bx1.keep hb
        replace Bg0 := Bg0.keep hb
        replace Rw0 := Rw0.below hb
        replace Rqx0 := Rqx0.below hb
        replace Rg0 := Rg0.below hb
        replace Ngx := Ngx.below hb
        replace hw := below_st hw hb (Nat.le_refl _)
        clear hb
        clear cx0 cx1 cx2 ltx cn0 cn1 cn2 cn3 ltn cw00 cw01 cw02 ltw0 cx00 cx01 cx02 ltx0 cx10 cx11 cx12 cx13 ltx1 cg00 cg01 cg02 ltg0
        obtain ⟨cx0, cx1, cx2⟩ := Bx.cell3
        have ltx := Bx.lt
        obtain ⟨cn0, cn1, cn2, cn3⟩ := Bn.cell4
        have ltn := Bn.lt
        obtain ⟨cw00, cw01, cw02⟩ := Bw0.cell3
        have ltw0 := Bw0.lt
        obtain ⟨cx00, cx01, cx02⟩ := Bx0.cell3
        have ltx0 := Bx0.lt
        obtain ⟨cx10, cx11, cx12, cx13⟩ := Bx1.cell4
        have ltx1 := Bx1.lt
        obtain ⟨cg00, cg01, cg02⟩ := Bg0.cell3
        have ltg0 := Bg0.lt
        go_wp2_with fail
        refine (laws_markFlux _ _ _ _ _ _ _ _ Rqx0 (by omega) (by omega)).mono ?_
        rintro e w13 ⟨rfl, Rnew, ha⟩
        have z13 := ha.size
        replace Bx := Bx.asides ha (fun e => by have := hOqx0 _ e; omega)
        replace Bn := Bn.asides ha (fun e => by have := hOqx0 _ e; omega)
        replace Bw0 := Bw0.asides ha (fun e => by have := hOqx0 _ e; omega)
        replace Bx0 := Bx0.asides ha (fun e => by have := hOqx0 _ e; omega)
        replace Bx1 := Bx1.asides ha (fun e => by have := hOqx0 _ e; omega)
        replace Bg0 := Bg0.asides ha (fun e => by have := hOqx0 _ e; omega)
        replace Rw0 := Rw0.asides ha (fun hl g hp e => by have h1 := hNw0 hl g hp; have h2 := hOqx0 g e; omega)
        replace Rg0 := Rg0.asides ha (fun hl g hp e => by have h1 := hNg0 hl g hp; have h2 := hOqx0 g e; omega)
        replace Ngx : NzC w13 w5.heap.size gx1 gx2 gx3 j ee L Lgx := ⟨Ngx.len, Ngx.b1, Ngx.b2, Ngx.b3, Ngx.r1.asides ha (fun e => by have := hOqx0 _ e; omega), Ngx.r2.asides ha (fun e => by have := hOqx0 _ e; omega), Ngx.r3.asides ha (fun g' e => by have := hOqx0 _ e; omega)⟩
        replace hw := hw.trans (ha.below hw.size (fun g e => by have := hOqx0 _ e; omega))
        clear ha Rnew Rqx0
        clear cx0 cx1 cx2 ltx cn0 cn1 cn2 cn3 ltn cw00 cw01 cw02 ltw0 cx00 cx01 cx02 ltx0 cx10 cx11 cx12 cx13 ltx1 cg00 cg01 cg02 ltg0
        obtain ⟨cx0, cx1, cx2⟩ := Bx.cell3
        have ltx := Bx.lt
        obtain ⟨cn0, cn1, cn2, cn3⟩ := Bn.cell4
        have ltn := Bn.lt
        obtain ⟨cw00, cw01, cw02⟩ := Bw0.cell3
        have ltw0 := Bw0.lt
        obtain ⟨cx00, cx01, cx02⟩ := Bx0.cell3
        have ltx0 := Bx0.lt
        obtain ⟨cx10, cx11, cx12, cx13⟩ := Bx1.cell4
        have ltx1 := Bx1.lt
        obtain ⟨cg00, cg01, cg02⟩ := Bg0.cell3
        have ltg0 := Bg0.lt
        go_wp2_with fail
        refine (laws_markNoiseC _ _ _ _ _ w6.heap.size _ _ _ _ _ _ Ngx HT.out hmj hmd hms (by omega) (by omega) (by omega)).mono ?_
        rintro e w14 ⟨rfl, ha⟩
        have z14 := ha.size
        replace Bx := Bx.asideR ha (by omega)
        replace Bn := Bn.asideR ha (by omega)
        replace Bw0 := Bw0.asideR ha (by omega)
        replace Bx0 := Bx0.asideR ha (by omega)
        replace Bx1 := Bx1.asideR ha (by omega)
        replace Bg0 := Bg0.asideR ha (by omega)
        replace Rw0 := Rw0.asideR ha (fun hl g hp => by have h1 := hNw0 hl g hp; omega)
        replace Rg0 := Rg0.asideR ha (fun hl g hp => by have h1 := hNg0 hl g hp; omega)
        replace hw := hw.trans (ha.below hw.size (by omega))
        clear ha Ngx
        clear cx0 cx1 cx2 ltx cn0 cn1 cn2 cn3 ltn cw00 cw01 cw02 ltw0 cx00 cx01 cx02 ltx0 cx10 cx11 cx12 cx13 ltx1 cg00 cg01 cg02 ltg0
        obtain ⟨cx0, cx1, cx2⟩ := Bx.cell3
        have ltx := Bx.lt
        obtain ⟨cn0, cn1, cn2, cn3⟩ := Bn.cell4
        have ltn := Bn.lt
        obtain ⟨cw00, cw01, cw02⟩ := Bw0.cell3
        have ltw0 := Bw0.lt
        obtain ⟨cx00, cx01, cx02⟩ := Bx0.cell3
        have ltx0 := Bx0.lt
        obtain ⟨cx10, cx11, cx12, cx13⟩ := Bx1.cell4
        have ltx1 := Bx1.lt
        obtain ⟨cg00, cg01, cg02⟩ := Bg0.cell3
        have ltg0 := Bg0.lt
        go_wp2_with fail
        refine (laws_eqFlux_same _ _ _ _ _ _ _ _ Rg0.ints Rw0.ints (by omega)).mono ?_
        rintro e w15 ⟨rfl, hb⟩
        have z15 := hb.size
        replace Bx := Bx.keep hb
        replace Bn := Bn.keep hb
        replace Bw0 := Bw0.keep hb
        replace Bx0 := Bx0.keep hb
        replace Bx1 := Bx1.keep hb
        replace Bg0 := Bg0.keep hb
        replace Rw0 := Rw0.below hb
        replace Rg0 := Rg0.below hb
        replace hw := below_st hw hb (Nat.le_refl _)
        clear hb
        clear cx0 cx1 cx2 ltx cn0 cn1 cn2 cn3 ltn cw00 cw01 cw02 ltw0 cx00 cx01 cx02 ltx0 cx10 cx11 cx12 cx13 ltx1 cg00 cg01 cg02 ltg0
        obtain ⟨cx0, cx1, cx2⟩ := Bx.cell3
        have ltx := Bx.lt
        obtain ⟨cn0, cn1, cn2, cn3⟩ := Bn.cell4
        have ltn := Bn.lt
        obtain ⟨cw00, cw01, cw02⟩ := Bw0.cell3
        have ltw0 := Bw0.lt
        obtain ⟨cx00, cx01, cx02⟩ := Bx0.cell3
        have ltx0 := Bx0.lt
        obtain ⟨cx10, cx11, cx12, cx13⟩ := Bx1.cell4
        have ltx1 := Bx1.lt
        obtain ⟨cg00, cg01, cg02⟩ := Bg0.cell3
        have ltg0 := Bg0.lt
        go_wp2_with fail
        refine (laws_markFlux _ _ _ _ _ _ _ _ Rg0 (by omega) (by omega)).mono ?_
        rintro e w16 ⟨rfl, Rnew, ha⟩
        have z16 := ha.size
        replace Bx := Bx.asides ha (fun e => by have := hOg0 _ e; omega)
        replace Bn := Bn.asides ha (fun e => by have := hOg0 _ e; omega)
        replace Bw0 := Bw0.asides ha (fun e => by have := hOg0 _ e; omega)
        replace Bx0 := Bx0.asides ha (fun e => by have := hOg0 _ e; omega)
        replace Bx1 := Bx1.asides ha (fun e => by have := hOg0 _ e; omega)
        replace Bg0 := Bg0.asides ha (fun e => by have := hOg0 _ e; omega)
        replace Rw0 := Rw0.asides ha (fun hl g hp e => by have h1 := hNw0 hl g hp; have h2 := hOg0 g e; omega)
        replace hw := hw.trans (ha.below hw.size (fun g e => by have := hOg0 g e; omega))
        replace Rg0 := Rnew
        clear ha
        clear cx0 cx1 cx2 ltx cn0 cn1 cn2 cn3 ltn cw00 cw01 cw02 ltw0 cx00 cx01 cx02 ltx0 cx10 cx11 cx12 cx13 ltx1 cg00 cg01 cg02 ltg0
        obtain ⟨cx0, cx1, cx2⟩ := Bx.cell3
        have ltx := Bx.lt
        obtain ⟨cn0, cn1, cn2, cn3⟩ := Bn.cell4
        have ltn := Bn.lt
        obtain ⟨cw00, cw01, cw02⟩ := Bw0.cell3
        have ltw0 := Bw0.lt
        obtain ⟨cx00, cx01, cx02⟩ := Bx0.cell3
        have ltx0 := Bx0.lt
        obtain ⟨cx10, cx11, cx12, cx13⟩ := Bx1.cell4
        have ltx1 := Bx1.lt
        obtain ⟨cg00, cg01, cg02⟩ := Bg0.cell3
        have ltg0 := Bg0.lt
        go_wp2_with fail
        refine (laws_heldFlux _ _ _ _ _ _ _ Rg0.ints (by omega) (by omega)).mono ?_
        rintro e w17 ⟨rfl, hb⟩
        have z17 := hb.size
        replace Bx := Bx.keep hb
        replace Bn := Bn.keep hb
        replace Bw0 := Bw0.keep hb
        replace Bx0 := Bx0.keep hb
        replace Bx1 := Bx1.keep hb
        replace Bg0 := Bg0.keep hb
        replace Rw0 := Rw0.below hb
        replace Rg0 := Rg0.below hb
        replace hw := below_st hw hb (Nat.le_refl _)
        clear hb
        clear cx0 cx1 cx2 ltx cn0 cn1 cn2 cn3 ltn cw00 cw01 cw02 ltw0 cx00 cx01 cx02 ltx0 cx10 cx11 cx12 cx13 ltx1 cg00 cg01 cg02 ltg0
        obtain ⟨cx0, cx1, cx2⟩ := Bx.cell3
        have ltx := Bx.lt
        obtain ⟨cn0, cn1, cn2, cn3⟩ := Bn.cell4
        have ltn := Bn.lt
        obtain ⟨cw00, cw01, cw02⟩ := Bw0.cell3
        have ltw0 := Bw0.lt
        obtain ⟨cx00, cx01, cx02⟩ := Bx0.cell3
        have ltx0 := Bx0.lt
        obtain ⟨cx10, cx11, cx12, cx13⟩ := Bx1.cell4
        have ltx1 := Bx1.lt
        obtain ⟨cg00, cg01, cg02⟩ := Bg0.cell3
        have ltg0 := Bg0.lt
        go_wp2_with fail
        go_cut [15, 16] (fun v0 v1 wx => ∃ ga q d, v0 = .pointer (some ⟨ga, 0, none⟩) ∧ v1 = .int .i64 (anS c f l nd j ee L).e ∧ w17.heap.size ≤ ga ∧ Blk wx ga 26 #[.int .i64 (anS c f l nd j ee L).c, .int .i64 (anS c f l nd j ee L).f, .slice q (anS c f l nd j ee L).l.length d] ∧ OwnS wx w17.heap.size q (anS c f l nd j ee L).l ∧ Below w17.heap.size w17 wx)
        case first =>
          have keepS : ∀ y1 y2 : World, ((w.heap.size < y1.heap.size ∧ y1.cell? ⟨w.heap.size, 0, none⟩ = some (.int .i64 c) ∧ y1.cell? ⟨w.heap.size, 1, none⟩ = some (.int .i64 f) ∧ y1.cell? ⟨w.heap.size, 2, none⟩ = some (.slice p l.length cap)) ∧ (w.heap.size + 1 < y1.heap.size ∧ y1.cell? ⟨w.heap.size + 1, 0, none⟩ = some (.int .i64 nd) ∧ y1.cell? ⟨w.heap.size + 1, 1, none⟩ = some (.slice pj j.length cj) ∧ y1.cell? ⟨w.heap.size + 1, 2, none⟩ = some (.slice pd ee.length cd) ∧ y1.cell? ⟨w.heap.size + 1, 3, none⟩ = some (.slice ps L.length cs)) ∧ Below w.heap.size w y1) → Below y1.heap.size y1 y2 → ((w.heap.size < y2.heap.size ∧ y2.cell? ⟨w.heap.size, 0, none⟩ = some (.int .i64 c) ∧ y2.cell? ⟨w.heap.size, 1, none⟩ = some (.int .i64 f) ∧ y2.cell? ⟨w.heap.size, 2, none⟩ = some (.slice p l.length cap)) ∧ (w.heap.size + 1 < y2.heap.size ∧ y2.cell? ⟨w.heap.size + 1, 0, none⟩ = some (.int .i64 nd) ∧ y2.cell? ⟨w.heap.size + 1, 1, none⟩ = some (.slice pj j.length cj) ∧ y2.cell? ⟨w.heap.size + 1, 2, none⟩ = some (.slice pd ee.length cd) ∧ y2.cell? ⟨w.heap.size + 1, 3, none⟩ = some (.slice ps L.length cs)) ∧ Below w.heap.size w y2) := by
            rintro y1 y2 ⟨⟨s0, s0_0, s0_1, s0_2⟩, ⟨s1, s1_0, s1_1, s1_2, s1_3⟩, hv⟩ hb
            obtain ⟨hc, -⟩ := bcell hb
            have := hb.size
            exact ⟨⟨by omega, (hc _ _ s0).trans s0_0, (hc _ _ s0).trans s0_1, (hc _ _ s0).trans s0_2⟩, ⟨by omega, (hc _ _ s1).trans s1_0, (hc _ _ s1).trans s1_1, (hc _ _ s1).trans s1_2, (hc _ _ s1).trans s1_3⟩, below_st hv hb (Nat.le_refl _)⟩
          have keepW : ∀ (y : World) (ga i : Nat) (v : Value), w17.heap.size ≤ ga → ((w.heap.size < y.heap.size ∧ y.cell? ⟨w.heap.size, 0, none⟩ = some (.int .i64 c) ∧ y.cell? ⟨w.heap.size, 1, none⟩ = some (.int .i64 f) ∧ y.cell? ⟨w.heap.size, 2, none⟩ = some (.slice p l.length cap)) ∧ (w.heap.size + 1 < y.heap.size ∧ y.cell? ⟨w.heap.size + 1, 0, none⟩ = some (.int .i64 nd) ∧ y.cell? ⟨w.heap.size + 1, 1, none⟩ = some (.slice pj j.length cj) ∧ y.cell? ⟨w.heap.size + 1, 2, none⟩ = some (.slice pd ee.length cd) ∧ y.cell? ⟨w.heap.size + 1, 3, none⟩ = some (.slice ps L.length cs)) ∧ Below w.heap.size w y) → ((w.heap.size < (y.setCell ⟨ga, i, none⟩ v).heap.size ∧ (y.setCell ⟨ga, i, none⟩ v).cell? ⟨w.heap.size, 0, none⟩ = some (.int .i64 c) ∧ (y.setCell ⟨ga, i, none⟩ v).cell? ⟨w.heap.size, 1, none⟩ = some (.int .i64 f) ∧ (y.setCell ⟨ga, i, none⟩ v).cell? ⟨w.heap.size, 2, none⟩ = some (.slice p l.length cap)) ∧ (w.heap.size + 1 < (y.setCell ⟨ga, i, none⟩ v).heap.size ∧ (y.setCell ⟨ga, i, none⟩ v).cell? ⟨w.heap.size + 1, 0, none⟩ = some (.int .i64 nd) ∧ (y.setCell ⟨ga, i, none⟩ v).cell? ⟨w.heap.size + 1, 1, none⟩ = some (.slice pj j.length cj) ∧ (y.setCell ⟨ga, i, none⟩ v).cell? ⟨w.heap.size + 1, 2, none⟩ = some (.slice pd ee.length cd) ∧ (y.setCell ⟨ga, i, none⟩ v).cell? ⟨w.heap.size + 1, 3, none⟩ = some (.slice ps L.length cs)) ∧ Below w.heap.size w (y.setCell ⟨ga, i, none⟩ v)) := by
            rintro y ga i v hga ⟨⟨s0, s0_0, s0_1, s0_2⟩, ⟨s1, s1_0, s1_1, s1_2, s1_3⟩, hv⟩
            have ho : ∀ b j, b < w17.heap.size → (y.setCell ⟨ga, i, none⟩ v).cell? ⟨b, j, none⟩ = y.cell? ⟨b, j, none⟩ := fun b j hb => World.cell?_setCell_other _ _ _ _ (by intro h'; injection h' with h2; omega)
            exact ⟨⟨by simpa [World.setCell] using s0, (ho _ _ ltx).trans s0_0, (ho _ _ ltx).trans s0_1, (ho _ _ ltx).trans s0_2⟩, ⟨by simpa [World.setCell] using s1, (ho _ _ ltn).trans s1_0, (ho _ _ ltn).trans s1_1, (ho _ _ ltn).trans s1_2, (ho _ _ ltn).trans s1_3⟩, hv.setCell (p := ⟨ga, i, none⟩) (by show w.heap.size ≤ ga; have := hw.size; omega) _⟩
          have S0 : (w.heap.size < w17.drew.heap.size ∧ w17.drew.cell? ⟨w.heap.size, 0, none⟩ = some (.int .i64 c) ∧ w17.drew.cell? ⟨w.heap.size, 1, none⟩ = some (.int .i64 f) ∧ w17.drew.cell? ⟨w.heap.size, 2, none⟩ = some (.slice p l.length cap)) ∧ (w.heap.size + 1 < w17.drew.heap.size ∧ w17.drew.cell? ⟨w.heap.size + 1, 0, none⟩ = some (.int .i64 nd) ∧ w17.drew.cell? ⟨w.heap.size + 1, 1, none⟩ = some (.slice pj j.length cj) ∧ w17.drew.cell? ⟨w.heap.size + 1, 2, none⟩ = some (.slice pd ee.length cd) ∧ w17.drew.cell? ⟨w.heap.size + 1, 3, none⟩ = some (.slice ps L.length cs)) ∧ Below w.heap.size w w17.drew := ⟨⟨Bx.lt, cx0, cx1, cx2⟩, ⟨Bn.lt, cn0, cn1, cn2, cn3⟩, hw.drew⟩
          have SA : (w.heap.size < (w17.alloc (.cells #[.int .i64 0, .int .i64 0, .slice none 0 0] 26)).drew.heap.size ∧ (w17.alloc (.cells #[.int .i64 0, .int .i64 0, .slice none 0 0] 26)).drew.cell? ⟨w.heap.size, 0, none⟩ = some (.int .i64 c) ∧ (w17.alloc (.cells #[.int .i64 0, .int .i64 0, .slice none 0 0] 26)).drew.cell? ⟨w.heap.size, 1, none⟩ = some (.int .i64 f) ∧ (w17.alloc (.cells #[.int .i64 0, .int .i64 0, .slice none 0 0] 26)).drew.cell? ⟨w.heap.size, 2, none⟩ = some (.slice p l.length cap)) ∧ (w.heap.size + 1 < (w17.alloc (.cells #[.int .i64 0, .int .i64 0, .slice none 0 0] 26)).drew.heap.size ∧ (w17.alloc (.cells #[.int .i64 0, .int .i64 0, .slice none 0 0] 26)).drew.cell? ⟨w.heap.size + 1, 0, none⟩ = some (.int .i64 nd) ∧ (w17.alloc (.cells #[.int .i64 0, .int .i64 0, .slice none 0 0] 26)).drew.cell? ⟨w.heap.size + 1, 1, none⟩ = some (.slice pj j.length cj) ∧ (w17.alloc (.cells #[.int .i64 0, .int .i64 0, .slice none 0 0] 26)).drew.cell? ⟨w.heap.size + 1, 2, none⟩ = some (.slice pd ee.length cd) ∧ (w17.alloc (.cells #[.int .i64 0, .int .i64 0, .slice none 0 0] 26)).drew.cell? ⟨w.heap.size + 1, 3, none⟩ = some (.slice ps L.length cs)) ∧ Below w.heap.size w (w17.alloc (.cells #[.int .i64 0, .int .i64 0, .slice none 0 0] 26)).drew := keepS _ _ S0 (by exact ((Below.refl _ w17.drew).alloc (Nat.le_refl _) (.cells #[.int .i64 0, .int .i64 0, .slice none 0 0] 26)))
          have U0 : Below w17.heap.size w17 w17.drew := (Below.refl _ _).drew
          have UA : Below w17.heap.size w17 (w17.alloc (.cells #[.int .i64 0, .int .i64 0, .slice none 0 0] 26)).drew := ((Below.refl _ _).alloc (Nat.le_refl _) _).drew
          go_region_held3 (fun w' => (w.heap.size < w'.heap.size ∧ w'.cell? ⟨w.heap.size, 0, none⟩ = some (.int .i64 c) ∧ w'.cell? ⟨w.heap.size, 1, none⟩ = some (.int .i64 f) ∧ w'.cell? ⟨w.heap.size, 2, none⟩ = some (.slice p l.length cap)) ∧ (w.heap.size + 1 < w'.heap.size ∧ w'.cell? ⟨w.heap.size + 1, 0, none⟩ = some (.int .i64 nd) ∧ w'.cell? ⟨w.heap.size + 1, 1, none⟩ = some (.slice pj j.length cj) ∧ w'.cell? ⟨w.heap.size + 1, 2, none⟩ = some (.slice pd ee.length cd) ∧ w'.cell? ⟨w.heap.size + 1, 3, none⟩ = some (.slice ps L.length cs)) ∧ Below w.heap.size w w')
            (first | with_reducible exact S0 | with_reducible exact SA | assumption | (with_reducible refine keepS _ _ ?_ ((Below.refl _ _).alloc (Nat.le_refl _) _); assumption) | (with_reducible refine keepW _ _ _ _ ?_ (keepW _ _ _ _ ?_ (keepW _ _ _ _ ?_ ?_)); (first | exact Nat.le_refl _ | exact U1.size | exact U2.size | exact U3.size | omega); (first | exact Nat.le_refl _ | exact U1.size | exact U2.size | exact U3.size | omega); (first | exact Nat.le_refl _ | exact U1.size | exact U2.size | exact U3.size | omega); assumption) | go_keep)
            (first | (go_at_call 10; (first | refine (laws_toFlux _ _ _ _ _ _ (hI.below S0.2.2) hm).mono ?_ | refine (laws_toFlux _ _ _ _ _ _ (hI.below SA.2.2) hm).mono ?_); rintro e y1 ⟨g1, rfl, hg1, r1, hb1⟩; obtain ⟨S1, U1⟩ : ((w.heap.size < y1.heap.size ∧ y1.cell? ⟨w.heap.size, 0, none⟩ = some (.int .i64 c) ∧ y1.cell? ⟨w.heap.size, 1, none⟩ = some (.int .i64 f) ∧ y1.cell? ⟨w.heap.size, 2, none⟩ = some (.slice p l.length cap)) ∧ (w.heap.size + 1 < y1.heap.size ∧ y1.cell? ⟨w.heap.size + 1, 0, none⟩ = some (.int .i64 nd) ∧ y1.cell? ⟨w.heap.size + 1, 1, none⟩ = some (.slice pj j.length cj) ∧ y1.cell? ⟨w.heap.size + 1, 2, none⟩ = some (.slice pd ee.length cd) ∧ y1.cell? ⟨w.heap.size + 1, 3, none⟩ = some (.slice ps L.length cs)) ∧ Below w.heap.size w y1) ∧ Below w17.heap.size w17 y1 := (by first | exact ⟨keepS _ _ S0 hb1, below_st U0 hb1 (Nat.le_refl _)⟩ | exact ⟨keepS _ _ SA hb1, UA.trans (hb1.mono UA.size)⟩); try (have A1 := (Blk_drewA (Blk.new w17 26 #[.int .i64 0, .int .i64 0, .slice none 0 0])).keep hb1); have zu1 := U1.size; have zz1 := hb1.size; (try simp at zz1); try (obtain ⟨u0, u1, u2⟩ := A1.cell3; have uf := A1.frozen; have ul := A1.lt)) | (go_at_call 36; (first | refine (laws_toNoiseC _ _ _ _ _ _ _ _ _ _ _ (hIj.below S1.2.2) (hId.below S1.2.2) (hIs.below S1.2.2) hmj hmd hms hmg).mono ?_ | refine (laws_toNoiseC _ _ _ _ _ _ _ _ _ _ _ (hIj.below (keepS _ _ S1 ((Below.refl _ y1).alloc (Nat.le_refl _) (.cells #[.int .i64 0, .int .i64 0, .slice none 0 0] 26))).2.2) (hId.below (keepS _ _ S1 ((Below.refl _ y1).alloc (Nat.le_refl _) (.cells #[.int .i64 0, .int .i64 0, .slice none 0 0] 26))).2.2) (hIs.below (keepS _ _ S1 ((Below.refl _ y1).alloc (Nat.le_refl _) (.cells #[.int .i64 0, .int .i64 0, .slice none 0 0] 26))).2.2) hmj hmd hms hmg).mono ?_); rintro e y2 ⟨k1, k2, k3, Lk, rfl, Nk, hb2⟩; obtain ⟨S2, U2⟩ : ((w.heap.size < y2.heap.size ∧ y2.cell? ⟨w.heap.size, 0, none⟩ = some (.int .i64 c) ∧ y2.cell? ⟨w.heap.size, 1, none⟩ = some (.int .i64 f) ∧ y2.cell? ⟨w.heap.size, 2, none⟩ = some (.slice p l.length cap)) ∧ (w.heap.size + 1 < y2.heap.size ∧ y2.cell? ⟨w.heap.size + 1, 0, none⟩ = some (.int .i64 nd) ∧ y2.cell? ⟨w.heap.size + 1, 1, none⟩ = some (.slice pj j.length cj) ∧ y2.cell? ⟨w.heap.size + 1, 2, none⟩ = some (.slice pd ee.length cd) ∧ y2.cell? ⟨w.heap.size + 1, 3, none⟩ = some (.slice ps L.length cs)) ∧ Below w.heap.size w y2) ∧ Below w17.heap.size w17 y2 := (by first | exact ⟨keepS _ _ S1 hb2, below_st U1 hb2 (Nat.le_refl _)⟩ | exact ⟨keepS _ _ (keepS _ _ S1 ((Below.refl _ y1).alloc (Nat.le_refl _) (.cells #[.int .i64 0, .int .i64 0, .slice none 0 0] 26))) hb2, below_al U1 hb2 (Nat.le_refl _)⟩); (first | (have A2 := A1.keep hb2) | (have A2 := (Blk.new y1 26 #[.int .i64 0, .int .i64 0, .slice none 0 0]).keep hb2) | skip); have zu2 := U2.size; have zz2 := hb2.size; (try simp at zz2); try (obtain ⟨u0, u1, u2⟩ := A2.cell3; have uf := A2.frozen; have ul := A2.lt)) | (go_at_call 27; (first | refine (impl_AddNoiseC _ _ _ _ _ _ _ _ _ _ _ _ _ _ _ (by first | exact (r1.below hb2).ints | exact ((r1.alloc _).below hb2).ints | exact ((r1.below hb2).alloc _).ints) (by first | exact Nk | exact Nk.below ((Below.refl _ _).alloc (Nat.le_refl _) _)) hsm hmj hmd hms).mono ?_); rintro e y3 ⟨q3, d3, rfl, Rr, hb3⟩; obtain ⟨S3, U3⟩ : ((w.heap.size < y3.heap.size ∧ y3.cell? ⟨w.heap.size, 0, none⟩ = some (.int .i64 c) ∧ y3.cell? ⟨w.heap.size, 1, none⟩ = some (.int .i64 f) ∧ y3.cell? ⟨w.heap.size, 2, none⟩ = some (.slice p l.length cap)) ∧ (w.heap.size + 1 < y3.heap.size ∧ y3.cell? ⟨w.heap.size + 1, 0, none⟩ = some (.int .i64 nd) ∧ y3.cell? ⟨w.heap.size + 1, 1, none⟩ = some (.slice pj j.length cj) ∧ y3.cell? ⟨w.heap.size + 1, 2, none⟩ = some (.slice pd ee.length cd) ∧ y3.cell? ⟨w.heap.size + 1, 3, none⟩ = some (.slice ps L.length cs)) ∧ Below w.heap.size w y3) ∧ Below w17.heap.size w17 y3 := (by first | exact ⟨keepS _ _ S2 hb3, below_st U2 hb3 (Nat.le_refl _)⟩ | exact ⟨keepS _ _ (keepS _ _ S2 ((Below.refl _ y2).alloc (Nat.le_refl _) (.cells #[.int .i64 0, .int .i64 0, .slice none 0 0] 26))) hb3, below_al U2 hb3 (Nat.le_refl _)⟩); (first | (have A3 := A2.keep hb3) | (have A3 := (Blk.new y2 26 #[.int .i64 0, .int .i64 0, .slice none 0 0]).keep hb3) | skip); have zu3 := U3.size; have zz3 := hb3.size; (try simp at zz3); try (obtain ⟨u0, u1, u2⟩ := A3.cell3; have uf := A3.frozen; have ul := A3.lt)))
          all_goals
            go_wp2_with fail
            go_meet
            refine ⟨_, q3, d3, rfl, rfl, ?_⟩
            first | exact cutA A3 Rr (by first | exact A2.lt | (simp; done) | omega) (by first | exact Nat.le_refl _ | exact U1.size | exact U2.size | omega) U3 | exact cutB Rr (by first | exact U2.size | omega | (simp; done) | (simp; omega)) (by omega) U3
        case rest =>
          obtain ⟨gah0, qh0, dh0, rfl, rfl, hggah0, Bh0, Rh0, hb⟩ := hcut
          obtain ⟨w18, hwc⟩ : ∃ w18, w18 = wc := ⟨_, rfl⟩
          subst hwc
          have z18 := hb.size
          have hlgah0 := Bh0.lt
          replace Bx := Bx.keep hb
          replace Bn := Bn.keep hb
          replace Bw0 := Bw0.keep hb
          replace Bx0 := Bx0.keep hb
          replace Bx1 := Bx1.keep hb
          replace Bg0 := Bg0.keep hb
          replace Rw0 := Rw0.below hb
          replace Rg0 := Rg0.below hb
          replace hw := below_st hw hb (Nat.le_refl _)
          clear hb
          have hOh0 : ∀ g, ownOf qh0 (anS c f l nd j ee L).l = some g → w17.heap.size ≤ g ∧ g < w18.heap.size := fun g hg => ownOf_at Rh0 hg
          have hNh0 : (anS c f l nd j ee L).l ≠ [] → ∀ g, qh0 = some (⟨g, 0, none⟩ : Addr) → w17.heap.size ≤ g ∧ g < w18.heap.size := fun hl g hp => OwnS.lt Rh0 hl hp
          clear cx0 cx1 cx2 ltx cn0 cn1 cn2 cn3 ltn cw00 cw01 cw02 ltw0 cx00 cx01 cx02 ltx0 cx10 cx11 cx12 cx13 ltx1 cg00 cg01 cg02 ltg0
          obtain ⟨cx0, cx1, cx2⟩ := Bx.cell3
          have ltx := Bx.lt
          obtain ⟨cn0, cn1, cn2, cn3⟩ := Bn.cell4
          have ltn := Bn.lt
          obtain ⟨cw00, cw01, cw02⟩ := Bw0.cell3
          have ltw0 := Bw0.lt
          obtain ⟨cx00, cx01, cx02⟩ := Bx0.cell3
          have ltx0 := Bx0.lt
          obtain ⟨cx10, cx11, cx12, cx13⟩ := Bx1.cell4
          have ltx1 := Bx1.lt
          obtain ⟨cg00, cg01, cg02⟩ := Bg0.cell3
          have ltg0 := Bg0.lt
          obtain ⟨ch00, ch01, ch02⟩ := Bh0.cell3
          have lth0 := Bh0.lt
          go_wp2_with fail
          refine (laws_eqFlux_same _ _ _ _ _ _ _ _ Rh0.ints Rw0.ints (by omega)).mono ?_
          rintro e w19 ⟨rfl, hb⟩
          have z19 := hb.size
          replace Bx := Bx.keep hb
          replace Bn := Bn.keep hb
          replace Bw0 := Bw0.keep hb
          replace Bx0 := Bx0.keep hb
          replace Bx1 := Bx1.keep hb
          replace Bg0 := Bg0.keep hb
          replace Bh0 := Bh0.keep hb
          replace Rw0 := Rw0.below hb
          replace Rg0 := Rg0.below hb
          replace Rh0 := Rh0.below hb
          replace hw := below_st hw hb (Nat.le_refl _)
          clear hb
          clear cx0 cx1 cx2 ltx cn0 cn1 cn2 cn3 ltn cw00 cw01 cw02 ltw0 cx00 cx01 cx02 ltx0 cx10 cx11 cx12 cx13 ltx1 cg00 cg01 cg02 ltg0 ch00 ch01 ch02 lth0
          obtain ⟨cx0, cx1, cx2⟩ := Bx.cell3
          have ltx := Bx.lt
          obtain ⟨cn0, cn1, cn2, cn3⟩ := Bn.cell4
          have ltn := Bn.lt
          obtain ⟨cw00, cw01, cw02⟩ := Bw0.cell3
          have ltw0 := Bw0.lt
          obtain ⟨cx00, cx01, cx02⟩ := Bx0.cell3
          have ltx0 := Bx0.lt
          obtain ⟨cx10, cx11, cx12, cx13⟩ := Bx1.cell4
          have ltx1 := Bx1.lt
          obtain ⟨cg00, cg01, cg02⟩ := Bg0.cell3
          have ltg0 := Bg0.lt
          obtain ⟨ch00, ch01, ch02⟩ := Bh0.cell3
          have lth0 := Bh0.lt
          go_wp2_with fail
          refine (laws_heldFlux _ _ _ _ _ _ _ Rg0.ints (by omega) (by omega)).mono ?_
          rintro e w20 ⟨rfl, hb⟩
          have z20 := hb.size
          replace Bx := Bx.keep hb
          replace Bn := Bn.keep hb
          replace Bw0 := Bw0.keep hb
          replace Bx0 := Bx0.keep hb
          replace Bx1 := Bx1.keep hb
          replace Bg0 := Bg0.keep hb
          replace Bh0 := Bh0.keep hb
          replace Rw0 := Rw0.below hb
          replace Rg0 := Rg0.below hb
          replace Rh0 := Rh0.below hb
          replace hw := below_st hw hb (Nat.le_refl _)
          clear hb
          clear cx0 cx1 cx2 ltx cn0 cn1 cn2 cn3 ltn cw00 cw01 cw02 ltw0 cx00 cx01 cx02 ltx0 cx10 cx11 cx12 cx13 ltx1 cg00 cg01 cg02 ltg0 ch00 ch01 ch02 lth0
          obtain ⟨cx0, cx1, cx2⟩ := Bx.cell3
          have ltx := Bx.lt
          obtain ⟨cn0, cn1, cn2, cn3⟩ := Bn.cell4
          have ltn := Bn.lt
          obtain ⟨cw00, cw01, cw02⟩ := Bw0.cell3
          have ltw0 := Bw0.lt
          obtain ⟨cx00, cx01, cx02⟩ := Bx0.cell3
          have ltx0 := Bx0.lt
          obtain ⟨cx10, cx11, cx12, cx13⟩ := Bx1.cell4
          have ltx1 := Bx1.lt
          obtain ⟨cg00, cg01, cg02⟩ := Bg0.cell3
          have ltg0 := Bg0.lt
          obtain ⟨ch00, ch01, ch02⟩ := Bh0.cell3
          have lth0 := Bh0.lt
          go_wp2_with fail
          go_ret
          exact ⟨rfl, hw⟩
end Go.Proofs.Ytfdcainjppljhaa
