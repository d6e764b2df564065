/- The law's walk: FnExactDropChanges. Printed by lawsr3.py. -/
import Derived.Test.YtmjmhdjfaamgkaaDropW
import Derived.Test.YtmjmhdjfaamgkaaMarksW
import Derived.Test.YtmjmhdjfaamgkaaOpenF
import Derived.Test.YtmjmhdjfaamgkaaLawAid
import Derived.Deep.RegionHeld3
import Derived.Deep.DeepCutAuto
namespace Go.Proofs.Ytmjmhdjfaamgkaa
open Go.RowKit
set_option linter.unusedVariables false
set_option maxHeartbeats 4000000 in
set_option maxRecDepth 20000 in
theorem walk_FnExactDropChanges (x : Flx) (xj : Num) (w : World) (hx : x.ok w) (hxj : xj.ok w) :
    Calls Try.prog 9 #[x.val, xj.val] w fun e w' => e = .returned (.bool true) ∧ Below w.heap.size w w' := by
  obtain ⟨c, f, p, l, cap⟩ := x
  obtain ⟨-, hI, hlen, hwf⟩ := hx
  simp only [Flx.val, Num.val] at hI hlen hwf
  obtain ⟨pj, lj, capj⟩ := xj
  obtain ⟨hIj, hlenj, hwfj⟩ := hxj
  simp only [Num.val] at hIj hlenj hwfj
  simp only [Flx.val, Num.val, Clk.val]
  by_cases hmj : lj.length ≤ 1048576
  rotate_left
  · have hdj : decide (1048576 < (lj.length : Int)) = true := decide_eq_true (by omega)
    go_enter Try.func9, Try.ntmps9
    go_wp2_with fail
    go_ret
    exact ⟨rfl, ((Below.refl _ _).alloc (by simp) _)⟩
  have hdj : decide (1048576 < (lj.length : Int)) = false := decide_eq_false (by omega)
  by_cases hl : (l.length : Int) ≤ 1048576
  rotate_left
  · have hz0 : szL (1048576) l.length = -1 := by unfold szL; rw [if_pos (by omega)]
    go_enter Try.func9, Try.ntmps9
    go_wp2_with fail
    have hw : Below w.heap.size w w := Below.refl _ _
    have Bx := Blk.new w 33 #[.int .i64 c, .int .i64 f, .slice p l.length cap]
    replace hw := hw.alloc hw.size (.cells #[.int .i64 c, .int .i64 f, .slice p l.length cap] 33)
    have z0 : w.heap.size + 1 ≤ (w.alloc (.cells #[.int .i64 c, .int .i64 f, .slice p l.length cap] 33)).heap.size := by simp
    generalize (w.alloc (.cells #[.int .i64 c, .int .i64 f, .slice p l.length cap] 33)) = w0 at Bx hw z0 ⊢
    obtain ⟨cx0, cx1, cx2⟩ := Bx.cell3
    have ltx := Bx.lt
    go_wp2_with fail
    refine (laws_szFlux _ _ _ _ _ _ _ hlen (by omega)).mono ?_
    rintro e w1 ⟨rfl, hb⟩
    rw [hz0]
    have z1 := hb.size
    replace Bx := Bx.keep hb
    replace hw := below_st hw hb (Nat.le_refl _)
    clear hb
    clear cx0 cx1 cx2 ltx
    obtain ⟨cx0, cx1, cx2⟩ := Bx.cell3
    have ltx := Bx.lt
    go_wp2_with fail
    go_ret
    exact ⟨rfl, hw⟩
  have hz0 : szL (1048576) l.length = 1048576 - (l.length : Int) := by unfold szL; rw [if_neg (by omega)]
  have hy0 : decide (1048576 - (l.length : Int) < 0) = false := by simp; omega
  have hm : l.length ≤ 1048576 := by omega
  go_enter Try.func9, Try.ntmps9
  go_wp2_with fail
  have hw : Below w.heap.size w w := Below.refl _ _
  have Bx := Blk.new w 33 #[.int .i64 c, .int .i64 f, .slice p l.length cap]
  replace hw := hw.alloc hw.size (.cells #[.int .i64 c, .int .i64 f, .slice p l.length cap] 33)
  have z0 : w.heap.size + 1 ≤ (w.alloc (.cells #[.int .i64 c, .int .i64 f, .slice p l.length cap] 33)).heap.size := by simp
  generalize (w.alloc (.cells #[.int .i64 c, .int .i64 f, .slice p l.length cap] 33)) = w0 at Bx hw z0 ⊢
  obtain ⟨cx0, cx1, cx2⟩ := Bx.cell3
  have ltx := Bx.lt
  go_wp2_with fail
  refine (laws_szFlux _ _ _ _ _ _ _ hlen (by omega)).mono ?_
  rintro e w1 ⟨rfl, hb⟩
  rw [hz0]
  have z1 := hb.size
  replace Bx := Bx.keep hb
  replace hw := below_st hw hb (Nat.le_refl _)
  clear hb
  have hR : (fxL (drV c f l lj) (drT f l lj) l.sum c).length ≤ 1048576 := Nat.le_trans (fxL_len _ _ _ _) (Nat.le_trans (drT_len _ _ _) hm)
  have hk1 : decide (1 + (l.length : Int) + (lj.length : Int) < 0) = false := decide_eq_false (by omega)
  have hk2 : decide (1 + ((fxL (drV c f l lj) (drT f l lj) l.sum c).length : Int) < 0) = false := decide_eq_false (by omega)
  clear cx0 cx1 cx2 ltx
  obtain ⟨cx0, cx1, cx2⟩ := Bx.cell3
  have ltx := Bx.lt
  go_wp2_with fail
  refine (laws_toFlux _ _ _ _ _ _ (hI.below hw) hm).mono ?_
  rintro e w2 ⟨ga, rfl, hga, hr, hb⟩
  have Ra := OwnS.of_row hr hga; clear hr
  have z2 := hb.size
  replace Bx := Bx.keep hb
  replace hw := below_st hw hb (Nat.le_refl _)
  clear hb
  have hOa : ∀ g, ownOf (some (⟨ga, 0, none⟩ : Addr)) l = some g → w1.heap.size ≤ g ∧ g < w2.heap.size := fun g hg => ownOf_at Ra hg
  have hNa : l ≠ [] → ∀ g, (some (⟨ga, 0, none⟩ : Addr)) = some (⟨g, 0, none⟩ : Addr) → w1.heap.size ≤ g ∧ g < w2.heap.size := fun hl g hp => OwnS.lt Ra hl hp
  clear cx0 cx1 cx2 ltx
  obtain ⟨cx0, cx1, cx2⟩ := Bx.cell3
  have ltx := Bx.lt
  go_wp2_with fail
  refine (laws_toInt64S _ _ _ _ (hIj.below hw) hmj).mono ?_
  rintro e w3 ⟨rfl, hr, hb⟩
  have Ruj := OwnS.of_row (base := w2.heap.size) hr (Nat.le_refl _); clear hr
  have z3 := hb.size
  replace Bx := Bx.keep hb
  replace Ra := Ra.below hb
  replace hw := below_st hw hb (Nat.le_refl _)
  clear hb
  have hOuj : ∀ g, ownOf (some (⟨w2.heap.size, 0, none⟩ : Addr)) lj = some g → w2.heap.size ≤ g ∧ g < w3.heap.size := fun g hg => ownOf_at Ruj hg
  have hNuj : lj ≠ [] → ∀ g, (some (⟨w2.heap.size, 0, none⟩ : Addr)) = some (⟨g, 0, none⟩ : Addr) → w2.heap.size ≤ g ∧ g < w3.heap.size := fun hl g hp => OwnS.lt Ruj hl hp
  clear cx0 cx1 cx2 ltx
  obtain ⟨cx0, cx1, cx2⟩ := Bx.cell3
  have ltx := Bx.lt
  go_wp2_with fail
  refine (spec_DropChanges _ _ _ _ _ _ _ _ _ Ra.ints hm Ruj.ints hmj).mono ?_
  rintro e w4 ⟨qw0, dw0, rfl, Rw0, hb⟩
  have z4 := hb.size
  replace Bx := Bx.keep hb
  replace Ra := Ra.below hb
  replace Ruj := Ruj.below hb
  replace hw := below_st hw hb (Nat.le_refl _)
  clear hb
  have hOw0 : ∀ g, ownOf qw0 (fxL (drV c f l lj) (drT f l lj) l.sum c) = some g → w3.heap.size ≤ g ∧ g < w4.heap.size := fun g hg => ownOf_at Rw0 hg
  have hNw0 : (fxL (drV c f l lj) (drT f l lj) l.sum c) ≠ [] → ∀ g, qw0 = some (⟨g, 0, none⟩ : Addr) → w3.heap.size ≤ g ∧ g < w4.heap.size := fun hl g hp => OwnS.lt Rw0 hl hp
  clear Ra hOa hNa
  clear Ruj hOuj hNuj
  clear cx0 cx1 cx2 ltx
  obtain ⟨cx0, cx1, cx2⟩ := Bx.cell3
  have ltx := Bx.lt
  go_wp2_with fail
  have Bw0 := Blk.new w4 24 #[.int .i64 (fxC (drV c f l lj) (drT f l lj) l.sum c), .int .i64 (fxF (drV c f l lj) (drT f l lj) l.sum c), .slice qw0 (fxL (drV c f l lj) (drT f l lj) l.sum c).length dw0]
  replace Bx := Bx.keep ((Below.refl _ w4).alloc (Nat.le_refl _) (.cells #[.int .i64 (fxC (drV c f l lj) (drT f l lj) l.sum c), .int .i64 (fxF (drV c f l lj) (drT f l lj) l.sum c), .slice qw0 (fxL (drV c f l lj) (drT f l lj) l.sum c).length dw0] 24))
  replace Rw0 := Rw0.below ((Below.refl _ w4).alloc (Nat.le_refl _) (.cells #[.int .i64 (fxC (drV c f l lj) (drT f l lj) l.sum c), .int .i64 (fxF (drV c f l lj) (drT f l lj) l.sum c), .slice qw0 (fxL (drV c f l lj) (drT f l lj) l.sum c).length dw0] 24))
  replace hw := hw.alloc hw.size (.cells #[.int .i64 (fxC (drV c f l lj) (drT f l lj) l.sum c), .int .i64 (fxF (drV c f l lj) (drT f l lj) l.sum c), .slice qw0 (fxL (drV c f l lj) (drT f l lj) l.sum c).length dw0] 24)
  have z5 : w4.heap.size + 1 ≤ (w4.alloc (.cells #[.int .i64 (fxC (drV c f l lj) (drT f l lj) l.sum c), .int .i64 (fxF (drV c f l lj) (drT f l lj) l.sum c), .slice qw0 (fxL (drV c f l lj) (drT f l lj) l.sum c).length dw0] 24)).heap.size := by simp
  generalize w4.alloc (.cells #[.int .i64 (fxC (drV c f l lj) (drT f l lj) l.sum c), .int .i64 (fxF (drV c f l lj) (drT f l lj) l.sum c), .slice qw0 (fxL (drV c f l lj) (drT f l lj) l.sum c).length dw0] 24) = w5 at Bx Bw0 Rw0 hw z5 ⊢
  clear cx0 cx1 cx2 ltx
  obtain ⟨cx0, cx1, cx2⟩ := Bx.cell3
  have ltx := Bx.lt
  obtain ⟨cw00, cw01, cw02⟩ := Bw0.cell3
  have ltw0 := Bw0.lt
  go_wp2_with fail
  refine (laws_toFlux _ _ _ _ _ _ (hI.below hw) hm).mono ?_
  rintro e w6 ⟨gqx0, rfl, hgqx0, hr, hb⟩
  have Rqx0 := OwnS.of_row hr hgqx0; clear hr
  have z6 := hb.size
  replace Bx := Bx.keep hb
  replace Bw0 := Bw0.keep hb
  replace Rw0 := Rw0.below hb
  replace hw := below_st hw hb (Nat.le_refl _)
  clear hb
  have hOqx0 : ∀ g, ownOf (some (⟨gqx0, 0, none⟩ : Addr)) l = some g → w5.heap.size ≤ g ∧ g < w6.heap.size := fun g hg => ownOf_at Rqx0 hg
  have hNqx0 : l ≠ [] → ∀ g, (some (⟨gqx0, 0, none⟩ : Addr)) = some (⟨g, 0, none⟩ : Addr) → w5.heap.size ≤ g ∧ g < w6.heap.size := fun hl g hp => OwnS.lt Rqx0 hl hp
  clear cx0 cx1 cx2 ltx cw00 cw01 cw02 ltw0
  obtain ⟨cx0, cx1, cx2⟩ := Bx.cell3
  have ltx := Bx.lt
  obtain ⟨cw00, cw01, cw02⟩ := Bw0.cell3
  have ltw0 := Bw0.lt
  go_wp2_with fail
  have Bx0 := Blk.new w6 24 #[.int .i64 c, .int .i64 f, .slice (some ⟨gqx0, 0, none⟩) l.length l.length]
  replace Bx := Bx.keep ((Below.refl _ w6).alloc (Nat.le_refl _) (.cells #[.int .i64 c, .int .i64 f, .slice (some ⟨gqx0, 0, none⟩) l.length l.length] 24))
  replace Bw0 := Bw0.keep ((Below.refl _ w6).alloc (Nat.le_refl _) (.cells #[.int .i64 c, .int .i64 f, .slice (some ⟨gqx0, 0, none⟩) l.length l.length] 24))
  replace Rw0 := Rw0.below ((Below.refl _ w6).alloc (Nat.le_refl _) (.cells #[.int .i64 c, .int .i64 f, .slice (some ⟨gqx0, 0, none⟩) l.length l.length] 24))
  replace Rqx0 := Rqx0.below ((Below.refl _ w6).alloc (Nat.le_refl _) (.cells #[.int .i64 c, .int .i64 f, .slice (some ⟨gqx0, 0, none⟩) l.length l.length] 24))
  replace hw := hw.alloc hw.size (.cells #[.int .i64 c, .int .i64 f, .slice (some ⟨gqx0, 0, none⟩) l.length l.length] 24)
  have z7 : w6.heap.size + 1 ≤ (w6.alloc (.cells #[.int .i64 c, .int .i64 f, .slice (some ⟨gqx0, 0, none⟩) l.length l.length] 24)).heap.size := by simp
  generalize w6.alloc (.cells #[.int .i64 c, .int .i64 f, .slice (some ⟨gqx0, 0, none⟩) l.length l.length] 24) = w7 at Bx Bw0 Bx0 Rw0 Rqx0 hw z7 ⊢
  clear cx0 cx1 cx2 ltx cw00 cw01 cw02 ltw0
  obtain ⟨cx0, cx1, cx2⟩ := Bx.cell3
  have ltx := Bx.lt
  obtain ⟨cw00, cw01, cw02⟩ := Bw0.cell3
  have ltw0 := Bw0.lt
  obtain ⟨cx00, cx01, cx02⟩ := Bx0.cell3
  have ltx0 := Bx0.lt
  go_wp2_with fail
  refine (laws_toInt64S _ _ _ _ (hIj.below hw) hmj).mono ?_
  rintro e w8 ⟨rfl, hr, hb⟩
  have Rxj := OwnS.of_row (base := w7.heap.size) hr (Nat.le_refl _); clear hr
  have z8 := hb.size
  replace Bx := Bx.keep hb
  replace Bw0 := Bw0.keep hb
  replace Bx0 := Bx0.keep hb
  replace Rw0 := Rw0.below hb
  replace Rqx0 := Rqx0.below hb
  replace hw := below_st hw hb (Nat.le_refl _)
  clear hb
  have hOxj : ∀ g, ownOf (some (⟨w7.heap.size, 0, none⟩ : Addr)) lj = some g → w7.heap.size ≤ g ∧ g < w8.heap.size := fun g hg => ownOf_at Rxj hg
  have hNxj : lj ≠ [] → ∀ g, (some (⟨w7.heap.size, 0, none⟩ : Addr)) = some (⟨g, 0, none⟩ : Addr) → w7.heap.size ≤ g ∧ g < w8.heap.size := fun hl g hp => OwnS.lt Rxj hl hp
  clear cx0 cx1 cx2 ltx cw00 cw01 cw02 ltw0 cx00 cx01 cx02 ltx0
  obtain ⟨cx0, cx1, cx2⟩ := Bx.cell3
  have ltx := Bx.lt
  obtain ⟨cw00, cw01, cw02⟩ := Bw0.cell3
  have ltw0 := Bw0.lt
  obtain ⟨cx00, cx01, cx02⟩ := Bx0.cell3
  have ltx0 := Bx0.lt
  go_wp2_with fail
  refine (impl_DropChanges _ _ _ _ _ _ _ _ _ Rqx0.ints hm Rxj.ints hmj).mono ?_
  rintro e w9 ⟨qg0, dg0, rfl, Rg0, hb⟩
  have z9 := hb.size
  replace Bx := Bx.keep hb
  replace Bw0 := Bw0.keep hb
  replace Bx0 := Bx0.keep hb
  replace Rw0 := Rw0.below hb
  replace Rqx0 := Rqx0.below hb
  replace Rxj := Rxj.below hb
  replace hw := below_st hw hb (Nat.le_refl _)
  clear hb
  have hOg0 : ∀ g, ownOf qg0 (fxL (drV c f l lj) (drT f l lj) l.sum c) = some g → w8.heap.size ≤ g ∧ g < w9.heap.size := fun g hg => ownOf_at Rg0 hg
  have hNg0 : (fxL (drV c f l lj) (drT f l lj) l.sum c) ≠ [] → ∀ g, qg0 = some (⟨g, 0, none⟩ : Addr) → w8.heap.size ≤ g ∧ g < w9.heap.size := fun hl g hp => OwnS.lt Rg0 hl hp
  clear cx0 cx1 cx2 ltx cw00 cw01 cw02 ltw0 cx00 cx01 cx02 ltx0
  obtain ⟨cx0, cx1, cx2⟩ := Bx.cell3
  have ltx := Bx.lt
  obtain ⟨cw00, cw01, cw02⟩ := Bw0.cell3
  have ltw0 := Bw0.lt
  obtain ⟨cx00, cx01, cx02⟩ := Bx0.cell3
  have ltx0 := Bx0.lt
  go_wp2_with fail
  have Bg0 := Blk.new w9 24 #[.int .i64 (fxC (drV c f l lj) (drT f l lj) l.sum c), .int .i64 (fxF (drV c f l lj) (drT f l lj) l.sum c), .slice qg0 (fxL (drV c f l lj) (drT f l lj) l.sum c).length dg0]
  replace Bx := Bx.keep ((Below.refl _ w9).alloc (Nat.le_refl _) (.cells #[.int .i64 (fxC (drV c f l lj) (drT f l lj) l.sum c), .int .i64 (fxF (drV c f l lj) (drT f l lj) l.sum c), .slice qg0 (fxL (drV c f l lj) (drT f l lj) l.sum c).length dg0] 24))
  replace Bw0 := Bw0.keep ((Below.refl _ w9).alloc (Nat.le_refl _) (.cells #[.int .i64 (fxC (drV c f l lj) (drT f l lj) l.sum c), .int .i64 (fxF (drV c f l lj) (drT f l lj) l.sum c), .slice qg0 (fxL (drV c f l lj) (drT f l lj) l.sum c).length dg0] 24))
  replace Bx0 := Bx0.keep ((Below.refl _ w9).alloc (Nat.le_refl _) (.cells #[.int .i64 (fxC (drV c f l lj) (drT f l lj) l.sum c), .int .i64 (fxF (drV c f l lj) (drT f l lj) l.sum c), .slice qg0 (fxL (drV c f l lj) (drT f l lj) l.sum c).length dg0] 24))
  replace Rw0 := Rw0.below ((Below.refl _ w9).alloc (Nat.le_refl _) (.cells #[.int .i64 (fxC (drV c f l lj) (drT f l lj) l.sum c), .int .i64 (fxF (drV c f l lj) (drT f l lj) l.sum c), .slice qg0 (fxL (drV c f l lj) (drT f l lj) l.sum c).length dg0] 24))
  replace Rqx0 := Rqx0.below ((Below.refl _ w9).alloc (Nat.le_refl _) (.cells #[.int .i64 (fxC (drV c f l lj) (drT f l lj) l.sum c), .int .i64 (fxF (drV c f l lj) (drT f l lj) l.sum c), .slice qg0 (fxL (drV c f l lj) (drT f l lj) l.sum c).length dg0] 24))
  replace Rxj := Rxj.below ((Below.refl _ w9).alloc (Nat.le_refl _) (.cells #[.int .i64 (fxC (drV c f l lj) (drT f l lj) l.sum c), .int .i64 (fxF (drV c f l lj) (drT f l lj) l.sum c), .slice qg0 (fxL (drV c f l lj) (drT f l lj) l.sum c).length dg0] 24))
  replace Rg0 := Rg0.below ((Below.refl _ w9).alloc (Nat.le_refl _) (.cells #[.int .i64 (fxC (drV c f l lj) (drT f l lj) l.sum c), .int .i64 (fxF (drV c f l lj) (drT f l lj) l.sum c), .slice qg0 (fxL (drV c f l lj) (drT f l lj) l.sum c).length dg0] 24))
  replace hw := hw.alloc hw.size (.cells #[.int .i64 (fxC (drV c f l lj) (drT f l lj) l.sum c), .int .i64 (fxF (drV c f l lj) (drT f l lj) l.sum c), .slice qg0 (fxL (drV c f l lj) (drT f l lj) l.sum c).length dg0] 24)
  have z10 : w9.heap.size + 1 ≤ (w9.alloc (.cells #[.int .i64 (fxC (drV c f l lj) (drT f l lj) l.sum c), .int .i64 (fxF (drV c f l lj) (drT f l lj) l.sum c), .slice qg0 (fxL (drV c f l lj) (drT f l lj) l.sum c).length dg0] 24)).heap.size := by simp
  generalize w9.alloc (.cells #[.int .i64 (fxC (drV c f l lj) (drT f l lj) l.sum c), .int .i64 (fxF (drV c f l lj) (drT f l lj) l.sum c), .slice qg0 (fxL (drV c f l lj) (drT f l lj) l.sum c).length dg0] 24) = w10 at Bx Bw0 Bx0 Bg0 Rw0 Rqx0 Rxj Rg0 hw z10 ⊢
  clear cx0 cx1 cx2 ltx cw00 cw01 cw02 ltw0 cx00 cx01 cx02 ltx0
  obtain ⟨cx0, cx1, cx2⟩ := Bx.cell3
  have ltx := Bx.lt
  obtain ⟨cw00, cw01, cw02⟩ := Bw0.cell3
  have ltw0 := Bw0.lt
  obtain ⟨cx00, cx01, cx02⟩ := Bx0.cell3
  have ltx0 := Bx0.lt
  obtain ⟨cg00, cg01, cg02⟩ := Bg0.cell3
  have ltg0 := Bg0.lt
  go_wp2_with fail
  refine (laws_eqFlux_same _ _ _ _ _ _ _ _ Rg0.ints Rw0.ints (by omega)).mono ?_
  rintro e w11 ⟨rfl, hb⟩
  have z11 := hb.size
  replace Bx := Bx.keep hb
  replace Bw0 := Bw0.keep hb
  replace Bx0 := Bx0.keep hb
  replace Bg0 := Bg0.keep hb
  replace Rw0 := Rw0.below hb
  replace Rqx0 := Rqx0.below hb
  replace Rxj := Rxj.below hb
  replace Rg0 := Rg0.below hb
  replace hw := below_st hw hb (Nat.le_refl _)
  clear hb
  clear cx0 cx1 cx2 ltx cw00 cw01 cw02 ltw0 cx00 cx01 cx02 ltx0 cg00 cg01 cg02 ltg0
  obtain ⟨cx0, cx1, cx2⟩ := Bx.cell3
  have ltx := Bx.lt
  obtain ⟨cw00, cw01, cw02⟩ := Bw0.cell3
  have ltw0 := Bw0.lt
  obtain ⟨cx00, cx01, cx02⟩ := Bx0.cell3
  have ltx0 := Bx0.lt
  obtain ⟨cg00, cg01, cg02⟩ := Bg0.cell3
  have ltg0 := Bg0.lt
  go_wp2_with fail
  go_cut [56] (fun v0 wx => v0 = .bool false ∧ Below w11.heap.size w11 wx)
  case first =>
    have keepS : ∀ y1 y2 : World, ((w.heap.size < y1.heap.size ∧ y1.cell? ⟨w.heap.size, 0, none⟩ = some (.int .i64 c) ∧ y1.cell? ⟨w.heap.size, 1, none⟩ = some (.int .i64 f) ∧ y1.cell? ⟨w.heap.size, 2, none⟩ = some (.slice p l.length cap)) ∧ (w6.heap.size < y1.heap.size ∧ y1.cell? ⟨w6.heap.size, 0, none⟩ = some (.int .i64 c) ∧ y1.cell? ⟨w6.heap.size, 1, none⟩ = some (.int .i64 f) ∧ y1.cell? ⟨w6.heap.size, 2, none⟩ = some (.slice (some ⟨gqx0, 0, none⟩) l.length l.length)) ∧ OwnS y1 w5.heap.size (some (⟨gqx0, 0, none⟩ : Addr)) l ∧ Below w.heap.size w y1) → Below y1.heap.size y1 y2 → ((w.heap.size < y2.heap.size ∧ y2.cell? ⟨w.heap.size, 0, none⟩ = some (.int .i64 c) ∧ y2.cell? ⟨w.heap.size, 1, none⟩ = some (.int .i64 f) ∧ y2.cell? ⟨w.heap.size, 2, none⟩ = some (.slice p l.length cap)) ∧ (w6.heap.size < y2.heap.size ∧ y2.cell? ⟨w6.heap.size, 0, none⟩ = some (.int .i64 c) ∧ y2.cell? ⟨w6.heap.size, 1, none⟩ = some (.int .i64 f) ∧ y2.cell? ⟨w6.heap.size, 2, none⟩ = some (.slice (some ⟨gqx0, 0, none⟩) l.length l.length)) ∧ OwnS y2 w5.heap.size (some (⟨gqx0, 0, none⟩ : Addr)) l ∧ Below w.heap.size w y2) := by
      rintro y1 y2 ⟨⟨s0, s0_0, s0_1, s0_2⟩, ⟨s1, s1_0, s1_1, s1_2⟩, t0, hv⟩ hb
      obtain ⟨hc, -⟩ := bcell hb
      have := hb.size
      exact ⟨⟨by omega, (hc _ _ s0).trans s0_0, (hc _ _ s0).trans s0_1, (hc _ _ s0).trans s0_2⟩, ⟨by omega, (hc _ _ s1).trans s1_0, (hc _ _ s1).trans s1_1, (hc _ _ s1).trans s1_2⟩, t0.below hb, below_st hv hb (Nat.le_refl _)⟩
    have S0 : (w.heap.size < w11.drew.heap.size ∧ w11.drew.cell? ⟨w.heap.size, 0, none⟩ = some (.int .i64 c) ∧ w11.drew.cell? ⟨w.heap.size, 1, none⟩ = some (.int .i64 f) ∧ w11.drew.cell? ⟨w.heap.size, 2, none⟩ = some (.slice p l.length cap)) ∧ (w6.heap.size < w11.drew.heap.size ∧ w11.drew.cell? ⟨w6.heap.size, 0, none⟩ = some (.int .i64 c) ∧ w11.drew.cell? ⟨w6.heap.size, 1, none⟩ = some (.int .i64 f) ∧ w11.drew.cell? ⟨w6.heap.size, 2, none⟩ = some (.slice (some ⟨gqx0, 0, none⟩) l.length l.length)) ∧ OwnS w11.drew w5.heap.size (some (⟨gqx0, 0, none⟩ : Addr)) l ∧ Below w.heap.size w w11.drew := ⟨⟨Bx.lt, cx0, cx1, cx2⟩, ⟨Bx0.lt, cx00, cx01, cx02⟩, Rqx0.below (Below.refl _ _).drew, hw.drew⟩
    go_region_held3 (fun w' => (w.heap.size < w'.heap.size ∧ w'.cell? ⟨w.heap.size, 0, none⟩ = some (.int .i64 c) ∧ w'.cell? ⟨w.heap.size, 1, none⟩ = some (.int .i64 f) ∧ w'.cell? ⟨w.heap.size, 2, none⟩ = some (.slice p l.length cap)) ∧ (w6.heap.size < w'.heap.size ∧ w'.cell? ⟨w6.heap.size, 0, none⟩ = some (.int .i64 c) ∧ w'.cell? ⟨w6.heap.size, 1, none⟩ = some (.int .i64 f) ∧ w'.cell? ⟨w6.heap.size, 2, none⟩ = some (.slice (some ⟨gqx0, 0, none⟩) l.length l.length)) ∧ OwnS w' w5.heap.size (some (⟨gqx0, 0, none⟩ : Addr)) l ∧ Below w.heap.size w w')
      (first | exact S0 | (refine keepS _ _ ?_ (by assumption); assumption) | go_keep)
      (first | (go_at_call 16; refine (laws_eqFlux_same _ _ _ _ _ _ _ _ S1.2.2.1.ints r6.ints (by omega)).mono ?_; rintro e y2 ⟨rfl, hb2⟩; have S2 := keepS _ _ S1 hb2) | (go_at_call 23; refine (laws_toFlux _ _ _ _ _ _ (hI.below S0.2.2.2) hm).mono ?_; rintro e y1 ⟨g6, rfl, hg6, r6, hb1⟩; have S1 := keepS _ _ S0 hb1))
    all_goals
      go_wp2_with fail
      go_meet
      exact ⟨rfl, (below_st (below_st (Below.refl _ w11).drew hb1 (Nat.le_refl _)) hb2 (Nat.le_refl _))⟩
  case rest =>
    obtain ⟨rfl, hb⟩ := hcut
    obtain ⟨w12, hwc⟩ : ∃ w12, w12 = wc := ⟨_, rfl⟩
    subst hwc
    have z12 := hb.size
    replace Bx := Bx.keep hb
    replace Bw0 := Bw0.keep hb
    replace Bx0 := Bx0.keep hb
    replace Bg0 := Bg0.keep hb
    replace Rw0 := Rw0.below hb
    replace Rqx0 := Rqx0.below hb
    replace Rxj := Rxj.below hb
    replace Rg0 := Rg0.below hb
    replace hw := below_st hw hb (Nat.le_refl _)
    clear hb
    clear cx0 cx1 cx2 ltx cw00 cw01 cw02 ltw0 cx00 cx01 cx02 ltx0 cg00 cg01 cg02 ltg0
    obtain ⟨cx0, cx1, cx2⟩ := Bx.cell3
    have ltx := Bx.lt
    obtain ⟨cw00, cw01, cw02⟩ := Bw0.cell3
    have ltw0 := Bw0.lt
    obtain ⟨cx00, cx01, cx02⟩ := Bx0.cell3
    have ltx0 := Bx0.lt
    obtain ⟨cg00, cg01, cg02⟩ := Bg0.cell3
    have ltg0 := Bg0.lt
    go_wp2_with fail
    refine (laws_toInt64S _ _ _ _ (hIj.below hw) hmj).mono ?_
    rintro e w13 ⟨rfl, hr, hb⟩
    have Rvj := OwnS.of_row (base := w12.heap.size) hr (Nat.le_refl _); clear hr
    have z13 := hb.size
    replace Bx := Bx.keep hb
    replace Bw0 := Bw0.keep hb
    replace Bx0 := Bx0.keep hb
    replace Bg0 := Bg0.keep hb
    replace Rw0 := Rw0.below hb
    replace Rqx0 := Rqx0.below hb
    replace Rxj := Rxj.below hb
    replace Rg0 := Rg0.below hb
    replace hw := below_st hw hb (Nat.le_refl _)
    clear hb
    have hOvj : ∀ g, ownOf (some (⟨w12.heap.size, 0, none⟩ : Addr)) lj = some g → w12.heap.size ≤ g ∧ g < w13.heap.size := fun g hg => ownOf_at Rvj hg
    have hNvj : lj ≠ [] → ∀ g, (some (⟨w12.heap.size, 0, none⟩ : Addr)) = some (⟨g, 0, none⟩ : Addr) → w12.heap.size ≤ g ∧ g < w13.heap.size := fun hl g hp => OwnS.lt Rvj hl hp
    clear cx0 cx1 cx2 ltx cw00 cw01 cw02 ltw0 cx00 cx01 cx02 ltx0 cg00 cg01 cg02 ltg0
    obtain ⟨cx0, cx1, cx2⟩ := Bx.cell3
    have ltx := Bx.lt
    obtain ⟨cw00, cw01, cw02⟩ := Bw0.cell3
    have ltw0 := Bw0.lt
    obtain ⟨cx00, cx01, cx02⟩ := Bx0.cell3
    have ltx0 := Bx0.lt
    obtain ⟨cg00, cg01, cg02⟩ := Bg0.cell3
    have ltg0 := Bg0.lt
    go_wp2_with fail
    refine (laws_eqInt64S _ _ _ _ _ _ _ Rxj.ints Rvj.ints (by omega)).mono ?_
    rintro e w14 ⟨rfl, hb⟩
    rw [decide_eq_true rfl]
    have z14 := hb.size
    replace Bx := Bx.keep hb
    replace Bw0 := Bw0.keep hb
    replace Bx0 := Bx0.keep hb
    replace Bg0 := Bg0.keep hb
    replace Rw0 := Rw0.below hb
    replace Rqx0 := Rqx0.below hb
    replace Rxj := Rxj.below hb
    replace Rg0 := Rg0.below hb
    replace Rvj := Rvj.below hb
    replace hw := below_st hw hb (Nat.le_refl _)
    clear hb
    clear Rvj hOvj hNvj
    clear cx0 cx1 cx2 ltx cw00 cw01 cw02 ltw0 cx00 cx01 cx02 ltx0 cg00 cg01 cg02 ltg0
    obtain ⟨cx0, cx1, cx2⟩ := Bx.cell3
    have ltx := Bx.lt
    obtain ⟨cw00, cw01, cw02⟩ := Bw0.cell3
    have ltw0 := Bw0.lt
    obtain ⟨cx00, cx01, cx02⟩ := Bx0.cell3
    have ltx0 := Bx0.lt
    obtain ⟨cg00, cg01, cg02⟩ := Bg0.cell3
    have ltg0 := Bg0.lt
    go_wp2_with fail
    refine (laws_markFlux _ _ _ _ _ _ _ _ Rqx0 (by omega) (by omega)).mono ?_
    rintro e w15 ⟨rfl, Rnew, ha⟩
    have z15 := ha.size
    replace Bx := Bx.asides ha (fun e => by have := hOqx0 _ e; omega)
    replace Bw0 := Bw0.asides ha (fun e => by have := hOqx0 _ e; omega)
    replace Bx0 := Bx0.asides ha (fun e => by have := hOqx0 _ e; omega)
    replace Bg0 := Bg0.asides ha (fun e => by have := hOqx0 _ e; omega)
    replace Rw0 := Rw0.asides ha (fun hl g hp e => by have h1 := hNw0 hl g hp; have h2 := hOqx0 g e; omega)
    replace Rxj := Rxj.asides ha (fun hl g hp e => by have h1 := hNxj hl g hp; have h2 := hOqx0 g e; omega)
    replace Rg0 := Rg0.asides ha (fun hl g hp e => by have h1 := hNg0 hl g hp; have h2 := hOqx0 g e; omega)
    replace hw := hw.trans (ha.below hw.size (fun g e => by have := hOqx0 g e; omega))
    replace Rqx0 := Rnew
    clear ha
    clear Rqx0 hOqx0 hNqx0
    clear cx0 cx1 cx2 ltx cw00 cw01 cw02 ltw0 cx00 cx01 cx02 ltx0 cg00 cg01 cg02 ltg0
    obtain ⟨cx0, cx1, cx2⟩ := Bx.cell3
    have ltx := Bx.lt
    obtain ⟨cw00, cw01, cw02⟩ := Bw0.cell3
    have ltw0 := Bw0.lt
    obtain ⟨cx00, cx01, cx02⟩ := Bx0.cell3
    have ltx0 := Bx0.lt
    obtain ⟨cg00, cg01, cg02⟩ := Bg0.cell3
    have ltg0 := Bg0.lt
    go_wp2_with fail
    refine (laws_markInt64S _ _ _ _ _ _ Rxj (by omega) (by omega)).mono ?_
    rintro e w16 ⟨rfl, Rnew, ha⟩
    have z16 := ha.size
    replace Bx := Bx.asides ha (fun e => by have := hOxj _ e; omega)
    replace Bw0 := Bw0.asides ha (fun e => by have := hOxj _ e; omega)
    replace Bx0 := Bx0.asides ha (fun e => by have := hOxj _ e; omega)
    replace Bg0 := Bg0.asides ha (fun e => by have := hOxj _ e; omega)
    replace Rw0 := Rw0.asides ha (fun hl g hp e => by have h1 := hNw0 hl g hp; have h2 := hOxj g e; omega)
    replace Rg0 := Rg0.asides ha (fun hl g hp e => by have h1 := hNg0 hl g hp; have h2 := hOxj g e; omega)
    replace hw := hw.trans (ha.below hw.size (fun g e => by have := hOxj g e; omega))
    replace Rxj := Rnew
    clear ha
    clear Rxj hOxj hNxj
    clear cx0 cx1 cx2 ltx cw00 cw01 cw02 ltw0 cx00 cx01 cx02 ltx0 cg00 cg01 cg02 ltg0
    obtain ⟨cx0, cx1, cx2⟩ := Bx.cell3
    have ltx := Bx.lt
    obtain ⟨cw00, cw01, cw02⟩ := Bw0.cell3
    have ltw0 := Bw0.lt
    obtain ⟨cx00, cx01, cx02⟩ := Bx0.cell3
    have ltx0 := Bx0.lt
    obtain ⟨cg00, cg01, cg02⟩ := Bg0.cell3
    have ltg0 := Bg0.lt
    go_wp2_with fail
    refine (laws_eqFlux_same _ _ _ _ _ _ _ _ Rg0.ints Rw0.ints (by omega)).mono ?_
    rintro e w17 ⟨rfl, hb⟩
    have z17 := hb.size
    replace Bx := Bx.keep hb
    replace Bw0 := Bw0.keep hb
    replace Bx0 := Bx0.keep hb
    replace Bg0 := Bg0.keep hb
    replace Rw0 := Rw0.below hb
    replace Rg0 := Rg0.below hb
    replace hw := below_st hw hb (Nat.le_refl _)
    clear hb
    clear cx0 cx1 cx2 ltx cw00 cw01 cw02 ltw0 cx00 cx01 cx02 ltx0 cg00 cg01 cg02 ltg0
    obtain ⟨cx0, cx1, cx2⟩ := Bx.cell3
    have ltx := Bx.lt
    obtain ⟨cw00, cw01, cw02⟩ := Bw0.cell3
    have ltw0 := Bw0.lt
    obtain ⟨cx00, cx01, cx02⟩ := Bx0.cell3
    have ltx0 := Bx0.lt
    obtain ⟨cg00, cg01, cg02⟩ := Bg0.cell3
    have ltg0 := Bg0.lt
    go_wp2_with fail
    refine (laws_markFlux _ _ _ _ _ _ _ _ Rg0 (by omega) (by omega)).mono ?_
    rintro e w18 ⟨rfl, Rnew, ha⟩
    have z18 := ha.size
    replace Bx := Bx.asides ha (fun e => by have := hOg0 _ e; omega)
    replace Bw0 := Bw0.asides ha (fun e => by have := hOg0 _ e; omega)
    replace Bx0 := Bx0.asides ha (fun e => by have := hOg0 _ e; omega)
    replace Bg0 := Bg0.asides ha (fun e => by have := hOg0 _ e; omega)
    replace Rw0 := Rw0.asides ha (fun hl g hp e => by have h1 := hNw0 hl g hp; have h2 := hOg0 g e; omega)
    replace hw := hw.trans (ha.below hw.size (fun g e => by have := hOg0 g e; omega))
    replace Rg0 := Rnew
    clear ha
    clear cx0 cx1 cx2 ltx cw00 cw01 cw02 ltw0 cx00 cx01 cx02 ltx0 cg00 cg01 cg02 ltg0
    obtain ⟨cx0, cx1, cx2⟩ := Bx.cell3
    have ltx := Bx.lt
    obtain ⟨cw00, cw01, cw02⟩ := Bw0.cell3
    have ltw0 := Bw0.lt
    obtain ⟨cx00, cx01, cx02⟩ := Bx0.cell3
    have ltx0 := Bx0.lt
    obtain ⟨cg00, cg01, cg02⟩ := Bg0.cell3
    have ltg0 := Bg0.lt
    go_wp2_with fail
    refine (laws_heldFlux _ _ _ _ _ _ _ Rg0.ints (by omega) (by omega)).mono ?_
    rintro e w19 ⟨rfl, hb⟩
    have z19 := hb.size
    replace Bx := Bx.keep hb
    replace Bw0 := Bw0.keep hb
    replace Bx0 := Bx0.keep hb
    replace Bg0 := Bg0.keep hb
    replace Rw0 := Rw0.below hb
    replace Rg0 := Rg0.below hb
    replace hw := below_st hw hb (Nat.le_refl _)
    clear hb
    clear cx0 cx1 cx2 ltx cw00 cw01 cw02 ltw0 cx00 cx01 cx02 ltx0 cg00 cg01 cg02 ltg0
    obtain ⟨cx0, cx1, cx2⟩ := Bx.cell3
    have ltx := Bx.lt
    obtain ⟨cw00, cw01, cw02⟩ := Bw0.cell3
    have ltw0 := Bw0.lt
    obtain ⟨cx00, cx01, cx02⟩ := Bx0.cell3
    have ltx0 := Bx0.lt
    obtain ⟨cg00, cg01, cg02⟩ := Bg0.cell3
    have ltg0 := Bg0.lt
    go_wp2_with fail
    refine (laws_toFlux _ _ _ _ _ _ (hI.below hw) hm).mono ?_
    rintro e w20 ⟨gb, rfl, hgb, hr, hb⟩
    have Rb := OwnS.of_row hr hgb; clear hr
    have z20 := hb.size
    replace Bx := Bx.keep hb
    replace Bw0 := Bw0.keep hb
    replace Bx0 := Bx0.keep hb
    replace Bg0 := Bg0.keep hb
    replace Rw0 := Rw0.below hb
    replace Rg0 := Rg0.below hb
    replace hw := below_st hw hb (Nat.le_refl _)
    clear hb
    have hOb : ∀ g, ownOf (some (⟨gb, 0, none⟩ : Addr)) l = some g → w19.heap.size ≤ g ∧ g < w20.heap.size := fun g hg => ownOf_at Rb hg
    have hNb : l ≠ [] → ∀ g, (some (⟨gb, 0, none⟩ : Addr)) = some (⟨g, 0, none⟩ : Addr) → w19.heap.size ≤ g ∧ g < w20.heap.size := fun hl g hp => OwnS.lt Rb hl hp
    clear cx0 cx1 cx2 ltx cw00 cw01 cw02 ltw0 cx00 cx01 cx02 ltx0 cg00 cg01 cg02 ltg0
    obtain ⟨cx0, cx1, cx2⟩ := Bx.cell3
    have ltx := Bx.lt
    obtain ⟨cw00, cw01, cw02⟩ := Bw0.cell3
    have ltw0 := Bw0.lt
    obtain ⟨cx00, cx01, cx02⟩ := Bx0.cell3
    have ltx0 := Bx0.lt
    obtain ⟨cg00, cg01, cg02⟩ := Bg0.cell3
    have ltg0 := Bg0.lt
    go_wp2_with fail
    refine (laws_toInt64S _ _ _ _ (hIj.below hw) hmj).mono ?_
    rintro e w21 ⟨rfl, hr, hb⟩
    have Ryj := OwnS.of_row (base := w20.heap.size) hr (Nat.le_refl _); clear hr
    have z21 := hb.size
    replace Bx := Bx.keep hb
    replace Bw0 := Bw0.keep hb
    replace Bx0 := Bx0.keep hb
    replace Bg0 := Bg0.keep hb
    replace Rw0 := Rw0.below hb
    replace Rg0 := Rg0.below hb
    replace Rb := Rb.below hb
    replace hw := below_st hw hb (Nat.le_refl _)
    clear hb
    have hOyj : ∀ g, ownOf (some (⟨w20.heap.size, 0, none⟩ : Addr)) lj = some g → w20.heap.size ≤ g ∧ g < w21.heap.size := fun g hg => ownOf_at Ryj hg
    have hNyj : lj ≠ [] → ∀ g, (some (⟨w20.heap.size, 0, none⟩ : Addr)) = some (⟨g, 0, none⟩ : Addr) → w20.heap.size ≤ g ∧ g < w21.heap.size := fun hl g hp => OwnS.lt Ryj hl hp
    clear cx0 cx1 cx2 ltx cw00 cw01 cw02 ltw0 cx00 cx01 cx02 ltx0 cg00 cg01 cg02 ltg0
    obtain ⟨cx0, cx1, cx2⟩ := Bx.cell3
    have ltx := Bx.lt
    obtain ⟨cw00, cw01, cw02⟩ := Bw0.cell3
    have ltw0 := Bw0.lt
    obtain ⟨cx00, cx01, cx02⟩ := Bx0.cell3
    have ltx0 := Bx0.lt
    obtain ⟨cg00, cg01, cg02⟩ := Bg0.cell3
    have ltg0 := Bg0.lt
    go_wp2_with fail
    refine (impl_DropChanges _ _ _ _ _ _ _ _ _ Rb.ints hm Ryj.ints hmj).mono ?_
    rintro e w22 ⟨qh0, dh0, rfl, Rh0, hb⟩
    have z22 := hb.size
    replace Bx := Bx.keep hb
    replace Bw0 := Bw0.keep hb
    replace Bx0 := Bx0.keep hb
    replace Bg0 := Bg0.keep hb
    replace Rw0 := Rw0.below hb
    replace Rg0 := Rg0.below hb
    replace Rb := Rb.below hb
    replace Ryj := Ryj.below hb
    replace hw := below_st hw hb (Nat.le_refl _)
    clear hb
    have hOh0 : ∀ g, ownOf qh0 (fxL (drV c f l lj) (drT f l lj) l.sum c) = some g → w21.heap.size ≤ g ∧ g < w22.heap.size := fun g hg => ownOf_at Rh0 hg
    have hNh0 : (fxL (drV c f l lj) (drT f l lj) l.sum c) ≠ [] → ∀ g, qh0 = some (⟨g, 0, none⟩ : Addr) → w21.heap.size ≤ g ∧ g < w22.heap.size := fun hl g hp => OwnS.lt Rh0 hl hp
    clear cx0 cx1 cx2 ltx cw00 cw01 cw02 ltw0 cx00 cx01 cx02 ltx0 cg00 cg01 cg02 ltg0
    obtain ⟨cx0, cx1, cx2⟩ := Bx.cell3
    have ltx := Bx.lt
    obtain ⟨cw00, cw01, cw02⟩ := Bw0.cell3
    have ltw0 := Bw0.lt
    obtain ⟨cx00, cx01, cx02⟩ := Bx0.cell3
    have ltx0 := Bx0.lt
    obtain ⟨cg00, cg01, cg02⟩ := Bg0.cell3
    have ltg0 := Bg0.lt
    go_wp2_with fail
    have Bh0 := Blk.new w22 24 #[.int .i64 (fxC (drV c f l lj) (drT f l lj) l.sum c), .int .i64 (fxF (drV c f l lj) (drT f l lj) l.sum c), .slice qh0 (fxL (drV c f l lj) (drT f l lj) l.sum c).length dh0]
    replace Bx := Bx.keep ((Below.refl _ w22).alloc (Nat.le_refl _) (.cells #[.int .i64 (fxC (drV c f l lj) (drT f l lj) l.sum c), .int .i64 (fxF (drV c f l lj) (drT f l lj) l.sum c), .slice qh0 (fxL (drV c f l lj) (drT f l lj) l.sum c).length dh0] 24))
    replace Bw0 := Bw0.keep ((Below.refl _ w22).alloc (Nat.le_refl _) (.cells #[.int .i64 (fxC (drV c f l lj) (drT f l lj) l.sum c), .int .i64 (fxF (drV c f l lj) (drT f l lj) l.sum c), .slice qh0 (fxL (drV c f l lj) (drT f l lj) l.sum c).length dh0] 24))
    replace Bx0 := Bx0.keep ((Below.refl _ w22).alloc (Nat.le_refl _) (.cells #[.int .i64 (fxC (drV c f l lj) (drT f l lj) l.sum c), .int .i64 (fxF (drV c f l lj) (drT f l lj) l.sum c), .slice qh0 (fxL (drV c f l lj) (drT f l lj) l.sum c).length dh0] 24))
    replace Bg0 := Bg0.keep ((Below.refl _ w22).alloc (Nat.le_refl _) (.cells #[.int .i64 (fxC (drV c f l lj) (drT f l lj) l.sum c), .int .i64 (fxF (drV c f l lj) (drT f l lj) l.sum c), .slice qh0 (fxL (drV c f l lj) (drT f l lj) l.sum c).length dh0] 24))
    replace Rw0 := Rw0.below ((Below.refl _ w22).alloc (Nat.le_refl _) (.cells #[.int .i64 (fxC (drV c f l lj) (drT f l lj) l.sum c), .int .i64 (fxF (drV c f l lj) (drT f l lj) l.sum c), .slice qh0 (fxL (drV c f l lj) (drT f l lj) l.sum c).length dh0] 24))
    replace Rg0 := Rg0.below ((Below.refl _ w22).alloc (Nat.le_refl _) (.cells #[.int .i64 (fxC (drV c f l lj) (drT f l lj) l.sum c), .int .i64 (fxF (drV c f l lj) (drT f l lj) l.sum c), .slice qh0 (fxL (drV c f l lj) (drT f l lj) l.sum c).length dh0] 24))
    replace Rb := Rb.below ((Below.refl _ w22).alloc (Nat.le_refl _) (.cells #[.int .i64 (fxC (drV c f l lj) (drT f l lj) l.sum c), .int .i64 (fxF (drV c f l lj) (drT f l lj) l.sum c), .slice qh0 (fxL (drV c f l lj) (drT f l lj) l.sum c).length dh0] 24))
    replace Ryj := Ryj.below ((Below.refl _ w22).alloc (Nat.le_refl _) (.cells #[.int .i64 (fxC (drV c f l lj) (drT f l lj) l.sum c), .int .i64 (fxF (drV c f l lj) (drT f l lj) l.sum c), .slice qh0 (fxL (drV c f l lj) (drT f l lj) l.sum c).length dh0] 24))
    replace Rh0 := Rh0.below ((Below.refl _ w22).alloc (Nat.le_refl _) (.cells #[.int .i64 (fxC (drV c f l lj) (drT f l lj) l.sum c), .int .i64 (fxF (drV c f l lj) (drT f l lj) l.sum c), .slice qh0 (fxL (drV c f l lj) (drT f l lj) l.sum c).length dh0] 24))
    replace hw := hw.alloc hw.size (.cells #[.int .i64 (fxC (drV c f l lj) (drT f l lj) l.sum c), .int .i64 (fxF (drV c f l lj) (drT f l lj) l.sum c), .slice qh0 (fxL (drV c f l lj) (drT f l lj) l.sum c).length dh0] 24)
    have z23 : w22.heap.size + 1 ≤ (w22.alloc (.cells #[.int .i64 (fxC (drV c f l lj) (drT f l lj) l.sum c), .int .i64 (fxF (drV c f l lj) (drT f l lj) l.sum c), .slice qh0 (fxL (drV c f l lj) (drT f l lj) l.sum c).length dh0] 24)).heap.size := by simp
    generalize w22.alloc (.cells #[.int .i64 (fxC (drV c f l lj) (drT f l lj) l.sum c), .int .i64 (fxF (drV c f l lj) (drT f l lj) l.sum c), .slice qh0 (fxL (drV c f l lj) (drT f l lj) l.sum c).length dh0] 24) = w23 at Bx Bw0 Bx0 Bg0 Bh0 Rw0 Rg0 Rb Ryj Rh0 hw z23 ⊢
    clear cx0 cx1 cx2 ltx cw00 cw01 cw02 ltw0 cx00 cx01 cx02 ltx0 cg00 cg01 cg02 ltg0
    obtain ⟨cx0, cx1, cx2⟩ := Bx.cell3
    have ltx := Bx.lt
    obtain ⟨cw00, cw01, cw02⟩ := Bw0.cell3
    have ltw0 := Bw0.lt
    obtain ⟨cx00, cx01, cx02⟩ := Bx0.cell3
    have ltx0 := Bx0.lt
    obtain ⟨cg00, cg01, cg02⟩ := Bg0.cell3
    have ltg0 := Bg0.lt
    obtain ⟨ch00, ch01, ch02⟩ := Bh0.cell3
    have lth0 := Bh0.lt
    go_wp2_with fail
    refine (laws_eqFlux_same _ _ _ _ _ _ _ _ Rh0.ints Rw0.ints (by omega)).mono ?_
    rintro e w24 ⟨rfl, hb⟩
    have z24 := hb.size
    replace Bx := Bx.keep hb
    replace Bw0 := Bw0.keep hb
    replace Bx0 := Bx0.keep hb
    replace Bg0 := Bg0.keep hb
    replace Bh0 := Bh0.keep hb
    replace Rw0 := Rw0.below hb
    replace Rg0 := Rg0.below hb
    replace Rb := Rb.below hb
    replace Ryj := Ryj.below hb
    replace Rh0 := Rh0.below hb
    replace hw := below_st hw hb (Nat.le_refl _)
    clear hb
    clear cx0 cx1 cx2 ltx cw00 cw01 cw02 ltw0 cx00 cx01 cx02 ltx0 cg00 cg01 cg02 ltg0 ch00 ch01 ch02 lth0
    obtain ⟨cx0, cx1, cx2⟩ := Bx.cell3
    have ltx := Bx.lt
    obtain ⟨cw00, cw01, cw02⟩ := Bw0.cell3
    have ltw0 := Bw0.lt
    obtain ⟨cx00, cx01, cx02⟩ := Bx0.cell3
    have ltx0 := Bx0.lt
    obtain ⟨cg00, cg01, cg02⟩ := Bg0.cell3
    have ltg0 := Bg0.lt
    obtain ⟨ch00, ch01, ch02⟩ := Bh0.cell3
    have lth0 := Bh0.lt
    go_wp2_with fail
    refine (laws_heldFlux _ _ _ _ _ _ _ Rg0.ints (by omega) (by omega)).mono ?_
    rintro e w25 ⟨rfl, hb⟩
    have z25 := hb.size
    replace Bx := Bx.keep hb
    replace Bw0 := Bw0.keep hb
    replace Bx0 := Bx0.keep hb
    replace Bg0 := Bg0.keep hb
    replace Bh0 := Bh0.keep hb
    replace Rw0 := Rw0.below hb
    replace Rg0 := Rg0.below hb
    replace Rb := Rb.below hb
    replace Ryj := Ryj.below hb
    replace Rh0 := Rh0.below hb
    replace hw := below_st hw hb (Nat.le_refl _)
    clear hb
    clear cx0 cx1 cx2 ltx cw00 cw01 cw02 ltw0 cx00 cx01 cx02 ltx0 cg00 cg01 cg02 ltg0 ch00 ch01 ch02 lth0
    obtain ⟨cx0, cx1, cx2⟩ := Bx.cell3
    have ltx := Bx.lt
    obtain ⟨cw00, cw01, cw02⟩ := Bw0.cell3
    have ltw0 := Bw0.lt
    obtain ⟨cx00, cx01, cx02⟩ := Bx0.cell3
    have ltx0 := Bx0.lt
    obtain ⟨cg00, cg01, cg02⟩ := Bg0.cell3
    have ltg0 := Bg0.lt
    obtain ⟨ch00, ch01, ch02⟩ := Bh0.cell3
    have lth0 := Bh0.lt
    go_wp2_with fail
    go_ret
    exact ⟨rfl, hw⟩
end Go.Proofs.Ytmjmhdjfaamgkaa
