/- The law's walk: FnExactFluxOfTimes. Printed by lawsr3.py. -/
import Derived.Test.YtmjmhdjfaamgkaaMake2W
import Derived.Test.YtmjmhdjfaamgkaaMarksW
import Derived.Test.YtmjmhdjfaamgkaaOpenF
import Derived.Test.YtmjmhdjfaamgkaaLawAid
import Derived.Deep.RegionHeld3
import Derived.Deep.DeepCutAuto
namespace Go.Proofs.Ytmjmhdjfaamgkaa
open Go.RowKit
set_option linter.unusedVariables false
set_option maxHeartbeats 4000000 in
set_option maxRecDepth 20000 in
theorem walk_FnExactFluxOfTimes (x : Num) (nrev ncell : Int) (w : World) (hx : x.ok w) (hrev : (Lit.int .i64 nrev).wf = true) (hcell : (Lit.int .i64 ncell).wf = true) :
    Calls Try.prog 3 #[x.val, .int .i64 nrev, .int .i64 ncell] w fun e w' => e = .returned (.bool true) ∧ Below w.heap.size w w' := by
  obtain ⟨p, l, cap⟩ := x
  obtain ⟨hI, hlen, hwf⟩ := hx
  simp only [Num.val] at hI hlen hwf ⊢
  have hrv := i64_bd hrev
  by_cases hm : l.length ≤ 1048576
  rotate_left
  · have hd : decide (1048576 < (l.length : Int)) = true := by simp; omega
    go_enter Try.func3, Try.ntmps3
    go_wp2_with fail
    go_ret
    exact ⟨rfl, Below.refl _ _⟩
  have hd : decide (1048576 < (l.length : Int)) = false := by simp; omega
  have hR := tmL_len l nrev ncell
  have hk1 : decide (1 + (l.length : Int) < 0) = false := by simp; omega
  have hk2 : decide (1 + ((tmL l nrev ncell).length : Int) < 0) = false := by simp; omega
  go_enter Try.func3, Try.ntmps3
  have hw : Below w.heap.size w w := Below.refl _ _
  have z0 : w.heap.size ≤ w.heap.size := Nat.le_refl _
  go_wp2_with fail
  refine (laws_toInt64S _ _ _ _ (hI.below hw) hm).mono ?_
  rintro e w0 ⟨rfl, hr, hb⟩
  have Ra := OwnS.of_row (base := w.heap.size) hr (Nat.le_refl _); clear hr
  have z0 := hb.size
  replace hw := below_st hw hb (Nat.le_refl _)
  clear hb
  have hOa : ∀ g, ownOf (some (⟨w.heap.size, 0, none⟩ : Addr)) l = some g → w.heap.size ≤ g ∧ g < w0.heap.size := fun g hg => ownOf_at Ra hg
  have hNa : l ≠ [] → ∀ g, (some (⟨w.heap.size, 0, none⟩ : Addr)) = some (⟨g, 0, none⟩ : Addr) → w.heap.size ≤ g ∧ g < w0.heap.size := fun hl g hp => OwnS.lt Ra hl hp
  go_wp2_with fail
  refine (spec_FluxOfTimes _ _ _ _ _ _ Ra.ints hm hrv).mono ?_
  rintro e w1 ⟨qw0, dw0, rfl, Rw0, hb⟩
  have z1 := hb.size
  replace Ra := Ra.below hb
  replace hw := below_st hw hb (Nat.le_refl _)
  clear hb
  have hOw0 : ∀ g, ownOf qw0 (tmL l nrev ncell) = some g → w0.heap.size ≤ g ∧ g < w1.heap.size := fun g hg => ownOf_at Rw0 hg
  have hNw0 : (tmL l nrev ncell) ≠ [] → ∀ g, qw0 = some (⟨g, 0, none⟩ : Addr) → w0.heap.size ≤ g ∧ g < w1.heap.size := fun hl g hp => OwnS.lt Rw0 hl hp
  clear Ra hOa hNa
  go_wp2_with fail
  have Bw0 := Blk.new w1 24 #[.int .i64 (tmC l nrev ncell), .int .i64 (tmF l nrev ncell), .slice qw0 (tmL l nrev ncell).length dw0]
  replace Rw0 := Rw0.below ((Below.refl _ w1).alloc (Nat.le_refl _) (.cells #[.int .i64 (tmC l nrev ncell), .int .i64 (tmF l nrev ncell), .slice qw0 (tmL l nrev ncell).length dw0] 24))
  replace hw := hw.alloc hw.size (.cells #[.int .i64 (tmC l nrev ncell), .int .i64 (tmF l nrev ncell), .slice qw0 (tmL l nrev ncell).length dw0] 24)
  have z2 : w1.heap.size + 1 ≤ (w1.alloc (.cells #[.int .i64 (tmC l nrev ncell), .int .i64 (tmF l nrev ncell), .slice qw0 (tmL l nrev ncell).length dw0] 24)).heap.size := by simp
  generalize w1.alloc (.cells #[.int .i64 (tmC l nrev ncell), .int .i64 (tmF l nrev ncell), .slice qw0 (tmL l nrev ncell).length dw0] 24) = w2 at Bw0 Rw0 hw z2 ⊢
  obtain ⟨cw00, cw01, cw02⟩ := Bw0.cell3
  have ltw0 := Bw0.lt
  go_wp2_with fail
  refine (laws_toInt64S _ _ _ _ (hI.below hw) hm).mono ?_
  rintro e w3 ⟨rfl, hr, hb⟩
  have Rx0 := OwnS.of_row (base := w2.heap.size) hr (Nat.le_refl _); clear hr
  have z3 := hb.size
  replace Bw0 := Bw0.keep hb
  replace Rw0 := Rw0.below hb
  replace hw := below_st hw hb (Nat.le_refl _)
  clear hb
  have hOx0 : ∀ g, ownOf (some (⟨w2.heap.size, 0, none⟩ : Addr)) l = some g → w2.heap.size ≤ g ∧ g < w3.heap.size := fun g hg => ownOf_at Rx0 hg
  have hNx0 : l ≠ [] → ∀ g, (some (⟨w2.heap.size, 0, none⟩ : Addr)) = some (⟨g, 0, none⟩ : Addr) → w2.heap.size ≤ g ∧ g < w3.heap.size := fun hl g hp => OwnS.lt Rx0 hl hp
  clear cw00 cw01 cw02 ltw0
  obtain ⟨cw00, cw01, cw02⟩ := Bw0.cell3
  have ltw0 := Bw0.lt
  go_wp2_with fail
  refine (impl_FluxOfTimes _ _ _ _ _ _ Rx0.ints hm hrv).mono ?_
  rintro e w4 ⟨qg0, dg0, rfl, Rg0, hb⟩
  have z4 := hb.size
  replace Bw0 := Bw0.keep hb
  replace Rw0 := Rw0.below hb
  replace Rx0 := Rx0.below hb
  replace hw := below_st hw hb (Nat.le_refl _)
  clear hb
  have hOg0 : ∀ g, ownOf qg0 (tmL l nrev ncell) = some g → w3.heap.size ≤ g ∧ g < w4.heap.size := fun g hg => ownOf_at Rg0 hg
  have hNg0 : (tmL l nrev ncell) ≠ [] → ∀ g, qg0 = some (⟨g, 0, none⟩ : Addr) → w3.heap.size ≤ g ∧ g < w4.heap.size := fun hl g hp => OwnS.lt Rg0 hl hp
  clear cw00 cw01 cw02 ltw0
  obtain ⟨cw00, cw01, cw02⟩ := Bw0.cell3
  have ltw0 := Bw0.lt
  go_wp2_with fail
  have Bg0 := Blk.new w4 24 #[.int .i64 (tmC l nrev ncell), .int .i64 (tmF l nrev ncell), .slice qg0 (tmL l nrev ncell).length dg0]
  replace Bw0 := Bw0.keep ((Below.refl _ w4).alloc (Nat.le_refl _) (.cells #[.int .i64 (tmC l nrev ncell), .int .i64 (tmF l nrev ncell), .slice qg0 (tmL l nrev ncell).length dg0] 24))
  replace Rw0 := Rw0.below ((Below.refl _ w4).alloc (Nat.le_refl _) (.cells #[.int .i64 (tmC l nrev ncell), .int .i64 (tmF l nrev ncell), .slice qg0 (tmL l nrev ncell).length dg0] 24))
  replace Rx0 := Rx0.below ((Below.refl _ w4).alloc (Nat.le_refl _) (.cells #[.int .i64 (tmC l nrev ncell), .int .i64 (tmF l nrev ncell), .slice qg0 (tmL l nrev ncell).length dg0] 24))
  replace Rg0 := Rg0.below ((Below.refl _ w4).alloc (Nat.le_refl _) (.cells #[.int .i64 (tmC l nrev ncell), .int .i64 (tmF l nrev ncell), .slice qg0 (tmL l nrev ncell).length dg0] 24))
  replace hw := hw.alloc hw.size (.cells #[.int .i64 (tmC l nrev ncell), .int .i64 (tmF l nrev ncell), .slice qg0 (tmL l nrev ncell).length dg0] 24)
  have z5 : w4.heap.size + 1 ≤ (w4.alloc (.cells #[.int .i64 (tmC l nrev ncell), .int .i64 (tmF l nrev ncell), .slice qg0 (tmL l nrev ncell).length dg0] 24)).heap.size := by simp
  generalize w4.alloc (.cells #[.int .i64 (tmC l nrev ncell), .int .i64 (tmF l nrev ncell), .slice qg0 (tmL l nrev ncell).length dg0] 24) = w5 at Bw0 Bg0 Rw0 Rx0 Rg0 hw z5 ⊢
  clear cw00 cw01 cw02 ltw0
  obtain ⟨cw00, cw01, cw02⟩ := Bw0.cell3
  have ltw0 := Bw0.lt
  obtain ⟨cg00, cg01, cg02⟩ := Bg0.cell3
  have ltg0 := Bg0.lt
  go_wp2_with fail
  refine (laws_eqFlux_same _ _ _ _ _ _ _ _ Rg0.ints Rw0.ints (by omega)).mono ?_
  rintro e w6 ⟨rfl, hb⟩
  have z6 := hb.size
  replace Bw0 := Bw0.keep hb
  replace Bg0 := Bg0.keep hb
  replace Rw0 := Rw0.below hb
  replace Rx0 := Rx0.below hb
  replace Rg0 := Rg0.below hb
  replace hw := below_st hw hb (Nat.le_refl _)
  clear hb
  clear cw00 cw01 cw02 ltw0 cg00 cg01 cg02 ltg0
  obtain ⟨cw00, cw01, cw02⟩ := Bw0.cell3
  have ltw0 := Bw0.lt
  obtain ⟨cg00, cg01, cg02⟩ := Bg0.cell3
  have ltg0 := Bg0.lt
  go_wp2_with fail
  refine (laws_toInt64S _ _ _ _ (hI.below hw) hm).mono ?_
  rintro e w7 ⟨rfl, hr, hb⟩
  have Rb := OwnS.of_row (base := w6.heap.size) hr (Nat.le_refl _); clear hr
  have z7 := hb.size
  replace Bw0 := Bw0.keep hb
  replace Bg0 := Bg0.keep hb
  replace Rw0 := Rw0.below hb
  replace Rx0 := Rx0.below hb
  replace Rg0 := Rg0.below hb
  replace hw := below_st hw hb (Nat.le_refl _)
  clear hb
  have hOb : ∀ g, ownOf (some (⟨w6.heap.size, 0, none⟩ : Addr)) l = some g → w6.heap.size ≤ g ∧ g < w7.heap.size := fun g hg => ownOf_at Rb hg
  have hNb : l ≠ [] → ∀ g, (some (⟨w6.heap.size, 0, none⟩ : Addr)) = some (⟨g, 0, none⟩ : Addr) → w6.heap.size ≤ g ∧ g < w7.heap.size := fun hl g hp => OwnS.lt Rb hl hp
  clear cw00 cw01 cw02 ltw0 cg00 cg01 cg02 ltg0
  obtain ⟨cw00, cw01, cw02⟩ := Bw0.cell3
  have ltw0 := Bw0.lt
  obtain ⟨cg00, cg01, cg02⟩ := Bg0.cell3
  have ltg0 := Bg0.lt
  go_wp2_with fail
  refine (laws_eqInt64S _ _ _ _ _ _ _ Rx0.ints Rb.ints (by omega)).mono ?_
  rintro e w8 ⟨rfl, hb⟩
  rw [decide_eq_true rfl]
  have z8 := hb.size
  replace Bw0 := Bw0.keep hb
  replace Bg0 := Bg0.keep hb
  replace Rw0 := Rw0.below hb
  replace Rx0 := Rx0.below hb
  replace Rg0 := Rg0.below hb
  replace Rb := Rb.below hb
  replace hw := below_st hw hb (Nat.le_refl _)
  clear hb
  clear Rb hOb hNb
  clear cw00 cw01 cw02 ltw0 cg00 cg01 cg02 ltg0
  obtain ⟨cw00, cw01, cw02⟩ := Bw0.cell3
  have ltw0 := Bw0.lt
  obtain ⟨cg00, cg01, cg02⟩ := Bg0.cell3
  have ltg0 := Bg0.lt
  go_wp2_with fail
  refine (laws_markInt64S _ _ _ _ _ _ Rx0 (by omega) (by omega)).mono ?_
  rintro e w9 ⟨rfl, Rnew, ha⟩
  have z9 := ha.size
  replace Bw0 := Bw0.asides ha (fun e => by have := hOx0 _ e; omega)
  replace Bg0 := Bg0.asides ha (fun e => by have := hOx0 _ e; omega)
  replace Rw0 := Rw0.asides ha (fun hl g hp e => by have h1 := hNw0 hl g hp; have h2 := hOx0 g e; omega)
  replace Rg0 := Rg0.asides ha (fun hl g hp e => by have h1 := hNg0 hl g hp; have h2 := hOx0 g e; omega)
  replace hw := hw.trans (ha.below hw.size (fun g e => by have := hOx0 g e; omega))
  replace Rx0 := Rnew
  clear ha
  clear Rx0 hOx0 hNx0
  clear cw00 cw01 cw02 ltw0 cg00 cg01 cg02 ltg0
  obtain ⟨cw00, cw01, cw02⟩ := Bw0.cell3
  have ltw0 := Bw0.lt
  obtain ⟨cg00, cg01, cg02⟩ := Bg0.cell3
  have ltg0 := Bg0.lt
  go_wp2_with fail
  refine (laws_eqFlux_same _ _ _ _ _ _ _ _ Rg0.ints Rw0.ints (by omega)).mono ?_
  rintro e w10 ⟨rfl, hb⟩
  have z10 := hb.size
  replace Bw0 := Bw0.keep hb
  replace Bg0 := Bg0.keep hb
  replace Rw0 := Rw0.below hb
  replace Rg0 := Rg0.below hb
  replace hw := below_st hw hb (Nat.le_refl _)
  clear hb
  clear cw00 cw01 cw02 ltw0 cg00 cg01 cg02 ltg0
  obtain ⟨cw00, cw01, cw02⟩ := Bw0.cell3
  have ltw0 := Bw0.lt
  obtain ⟨cg00, cg01, cg02⟩ := Bg0.cell3
  have ltg0 := Bg0.lt
  go_wp2_with fail
  refine (laws_markFlux _ _ _ _ _ _ _ _ Rg0 (by omega) (by omega)).mono ?_
  rintro e w11 ⟨rfl, Rnew, ha⟩
  have z11 := ha.size
  replace Bw0 := Bw0.asides ha (fun e => by have := hOg0 _ e; omega)
  replace Bg0 := Bg0.asides ha (fun e => by have := hOg0 _ e; omega)
  replace Rw0 := Rw0.asides ha (fun hl g hp e => by have h1 := hNw0 hl g hp; have h2 := hOg0 g e; omega)
  replace hw := hw.trans (ha.below hw.size (fun g e => by have := hOg0 g e; omega))
  replace Rg0 := Rnew
  clear ha
  clear cw00 cw01 cw02 ltw0 cg00 cg01 cg02 ltg0
  obtain ⟨cw00, cw01, cw02⟩ := Bw0.cell3
  have ltw0 := Bw0.lt
  obtain ⟨cg00, cg01, cg02⟩ := Bg0.cell3
  have ltg0 := Bg0.lt
  go_wp2_with fail
  refine (laws_heldFlux _ _ _ _ _ _ _ Rg0.ints (by omega) (by omega)).mono ?_
  rintro e w12 ⟨rfl, hb⟩
  have z12 := hb.size
  replace Bw0 := Bw0.keep hb
  replace Bg0 := Bg0.keep hb
  replace Rw0 := Rw0.below hb
  replace Rg0 := Rg0.below hb
  replace hw := below_st hw hb (Nat.le_refl _)
  clear hb
  clear cw00 cw01 cw02 ltw0 cg00 cg01 cg02 ltg0
  obtain ⟨cw00, cw01, cw02⟩ := Bw0.cell3
  have ltw0 := Bw0.lt
  obtain ⟨cg00, cg01, cg02⟩ := Bg0.cell3
  have ltg0 := Bg0.lt
  go_wp2_with fail
  refine (laws_toInt64S _ _ _ _ (hI.below hw) hm).mono ?_
  rintro e w13 ⟨rfl, hr, hb⟩
  have Rc := OwnS.of_row (base := w12.heap.size) hr (Nat.le_refl _); clear hr
  have z13 := hb.size
  replace Bw0 := Bw0.keep hb
  replace Bg0 := Bg0.keep hb
  replace Rw0 := Rw0.below hb
  replace Rg0 := Rg0.below hb
  replace hw := below_st hw hb (Nat.le_refl _)
  clear hb
  have hOc : ∀ g, ownOf (some (⟨w12.heap.size, 0, none⟩ : Addr)) l = some g → w12.heap.size ≤ g ∧ g < w13.heap.size := fun g hg => ownOf_at Rc hg
  have hNc : l ≠ [] → ∀ g, (some (⟨w12.heap.size, 0, none⟩ : Addr)) = some (⟨g, 0, none⟩ : Addr) → w12.heap.size ≤ g ∧ g < w13.heap.size := fun hl g hp => OwnS.lt Rc hl hp
  clear cw00 cw01 cw02 ltw0 cg00 cg01 cg02 ltg0
  obtain ⟨cw00, cw01, cw02⟩ := Bw0.cell3
  have ltw0 := Bw0.lt
  obtain ⟨cg00, cg01, cg02⟩ := Bg0.cell3
  have ltg0 := Bg0.lt
  go_wp2_with fail
  refine (impl_FluxOfTimes _ _ _ _ _ _ Rc.ints hm hrv).mono ?_
  rintro e w14 ⟨qh0, dh0, rfl, Rh0, hb⟩
  have z14 := hb.size
  replace Bw0 := Bw0.keep hb
  replace Bg0 := Bg0.keep hb
  replace Rw0 := Rw0.below hb
  replace Rg0 := Rg0.below hb
  replace Rc := Rc.below hb
  replace hw := below_st hw hb (Nat.le_refl _)
  clear hb
  have hOh0 : ∀ g, ownOf qh0 (tmL l nrev ncell) = some g → w13.heap.size ≤ g ∧ g < w14.heap.size := fun g hg => ownOf_at Rh0 hg
  have hNh0 : (tmL l nrev ncell) ≠ [] → ∀ g, qh0 = some (⟨g, 0, none⟩ : Addr) → w13.heap.size ≤ g ∧ g < w14.heap.size := fun hl g hp => OwnS.lt Rh0 hl hp
  clear cw00 cw01 cw02 ltw0 cg00 cg01 cg02 ltg0
  obtain ⟨cw00, cw01, cw02⟩ := Bw0.cell3
  have ltw0 := Bw0.lt
  obtain ⟨cg00, cg01, cg02⟩ := Bg0.cell3
  have ltg0 := Bg0.lt
  go_wp2_with fail
  have Bh0 := Blk.new w14 24 #[.int .i64 (tmC l nrev ncell), .int .i64 (tmF l nrev ncell), .slice qh0 (tmL l nrev ncell).length dh0]
  replace Bw0 := Bw0.keep ((Below.refl _ w14).alloc (Nat.le_refl _) (.cells #[.int .i64 (tmC l nrev ncell), .int .i64 (tmF l nrev ncell), .slice qh0 (tmL l nrev ncell).length dh0] 24))
  replace Bg0 := Bg0.keep ((Below.refl _ w14).alloc (Nat.le_refl _) (.cells #[.int .i64 (tmC l nrev ncell), .int .i64 (tmF l nrev ncell), .slice qh0 (tmL l nrev ncell).length dh0] 24))
  replace Rw0 := Rw0.below ((Below.refl _ w14).alloc (Nat.le_refl _) (.cells #[.int .i64 (tmC l nrev ncell), .int .i64 (tmF l nrev ncell), .slice qh0 (tmL l nrev ncell).length dh0] 24))
  replace Rg0 := Rg0.below ((Below.refl _ w14).alloc (Nat.le_refl _) (.cells #[.int .i64 (tmC l nrev ncell), .int .i64 (tmF l nrev ncell), .slice qh0 (tmL l nrev ncell).length dh0] 24))
  replace Rc := Rc.below ((Below.refl _ w14).alloc (Nat.le_refl _) (.cells #[.int .i64 (tmC l nrev ncell), .int .i64 (tmF l nrev ncell), .slice qh0 (tmL l nrev ncell).length dh0] 24))
  replace Rh0 := Rh0.below ((Below.refl _ w14).alloc (Nat.le_refl _) (.cells #[.int .i64 (tmC l nrev ncell), .int .i64 (tmF l nrev ncell), .slice qh0 (tmL l nrev ncell).length dh0] 24))
  replace hw := hw.alloc hw.size (.cells #[.int .i64 (tmC l nrev ncell), .int .i64 (tmF l nrev ncell), .slice qh0 (tmL l nrev ncell).length dh0] 24)
  have z15 : w14.heap.size + 1 ≤ (w14.alloc (.cells #[.int .i64 (tmC l nrev ncell), .int .i64 (tmF l nrev ncell), .slice qh0 (tmL l nrev ncell).length dh0] 24)).heap.size := by simp
  generalize w14.alloc (.cells #[.int .i64 (tmC l nrev ncell), .int .i64 (tmF l nrev ncell), .slice qh0 (tmL l nrev ncell).length dh0] 24) = w15 at Bw0 Bg0 Bh0 Rw0 Rg0 Rc Rh0 hw z15 ⊢
  clear cw00 cw01 cw02 ltw0 cg00 cg01 cg02 ltg0
  obtain ⟨cw00, cw01, cw02⟩ := Bw0.cell3
  have ltw0 := Bw0.lt
  obtain ⟨cg00, cg01, cg02⟩ := Bg0.cell3
  have ltg0 := Bg0.lt
  obtain ⟨ch00, ch01, ch02⟩ := Bh0.cell3
  have lth0 := Bh0.lt
  go_wp2_with fail
  refine (laws_eqFlux_same _ _ _ _ _ _ _ _ Rh0.ints Rw0.ints (by omega)).mono ?_
  rintro e w16 ⟨rfl, hb⟩
  have z16 := hb.size
  replace Bw0 := Bw0.keep hb
  replace Bg0 := Bg0.keep hb
  replace Bh0 := Bh0.keep hb
  replace Rw0 := Rw0.below hb
  replace Rg0 := Rg0.below hb
  replace Rc := Rc.below hb
  replace Rh0 := Rh0.below hb
  replace hw := below_st hw hb (Nat.le_refl _)
  clear hb
  clear cw00 cw01 cw02 ltw0 cg00 cg01 cg02 ltg0 ch00 ch01 ch02 lth0
  obtain ⟨cw00, cw01, cw02⟩ := Bw0.cell3
  have ltw0 := Bw0.lt
  obtain ⟨cg00, cg01, cg02⟩ := Bg0.cell3
  have ltg0 := Bg0.lt
  obtain ⟨ch00, ch01, ch02⟩ := Bh0.cell3
  have lth0 := Bh0.lt
  go_wp2_with fail
  refine (laws_heldFlux _ _ _ _ _ _ _ Rg0.ints (by omega) (by omega)).mono ?_
  rintro e w17 ⟨rfl, hb⟩
  have z17 := hb.size
  replace Bw0 := Bw0.keep hb
  replace Bg0 := Bg0.keep hb
  replace Bh0 := Bh0.keep hb
  replace Rw0 := Rw0.below hb
  replace Rg0 := Rg0.below hb
  replace Rc := Rc.below hb
  replace Rh0 := Rh0.below hb
  replace hw := below_st hw hb (Nat.le_refl _)
  clear hb
  clear cw00 cw01 cw02 ltw0 cg00 cg01 cg02 ltg0 ch00 ch01 ch02 lth0
  obtain ⟨cw00, cw01, cw02⟩ := Bw0.cell3
  have ltw0 := Bw0.lt
  obtain ⟨cg00, cg01, cg02⟩ := Bg0.cell3
  have ltg0 := Bg0.lt
  obtain ⟨ch00, ch01, ch02⟩ := Bh0.cell3
  have lth0 := Bh0.lt
  go_wp2_with fail
  go_ret
  exact ⟨rfl, hw⟩
end Go.Proofs.Ytmjmhdjfaamgkaa
