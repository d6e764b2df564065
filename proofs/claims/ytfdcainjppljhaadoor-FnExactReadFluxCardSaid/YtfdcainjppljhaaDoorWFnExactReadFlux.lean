/- The law's walk: FnExactReadFlux. After the walk of FluxOf. -/
import Derived.Test.YtfdcainjppljhaaDoorRf3W
import Derived.Test.YtfdcainjppljhaaDoorFluxW
import Derived.Test.YtfdcainjppljhaaDoorMarksW
import Derived.Test.YtfdcainjppljhaaDoorLawAid
import Derived.Deep.RegionHeld3
import Derived.Deep.DeepCutAuto
namespace Go.Proofs.YtfdcainjppljhaaDoor
open Go.RowKit
set_option linter.unusedVariables false
set_option maxHeartbeats 4000000 in
set_option maxRecDepth 20000 in
theorem walk_FnExactReadFlux (s : ByteArray) (w : World) (hs : s.size ≤ maxLen) (hV : Vrs w) :
    Calls Tryd.prog 4 #[.string s] w fun e w' => e = .returned (.bool true) ∧ Below w.heap.size w w' := by
  unfold maxLen at hs
  by_cases hm : s.size ≤ 1048576
  rotate_left
  · have hd : decide ((1048576 : Int) < (s.size : Int)) = true := decide_eq_true (by omega)
    go_enter Tryd.func4, Tryd.ntmps4
    go_wp2_with fail
    go_ret
    exact ⟨rfl, Below.refl _ _⟩
  have hd : decide ((1048576 : Int) < (s.size : Int)) = false := decide_eq_false (by omega)
  have hR := rfL_len s
  have hk2 : decide (1 + ((rfL s).length : Int) < 0) = false := decide_eq_false (by omega)
  go_enter Tryd.func4, Tryd.ntmps4
  have hw : Below w.heap.size w w := Below.refl _ _
  have z0 : w.heap.size ≤ w.heap.size := Nat.le_refl _
  go_wp2_with fail
  refine (spec_ReadFlux s _ hm).mono ?_
  rintro e w0 ⟨qw0, dw0, rfl, Rw0, hb⟩
  have z0 := hb.size
  replace hw := below_st hw hb (Nat.le_refl _)
  clear hb
  have hOw0 : ∀ g, ownOf qw0 (rfL s) = some g → w.heap.size ≤ g ∧ g < w0.heap.size := fun g hg => ownOf_at Rw0 hg
  have hNw0 : (rfL s) ≠ [] → ∀ g, qw0 = some (⟨g, 0, none⟩ : Addr) → w.heap.size ≤ g ∧ g < w0.heap.size := fun hl g hp => OwnS.lt Rw0 hl hp
  go_wp2_with fail
  have Bw0 := Blk.new w0 27 #[.int .i64 (rfC s), .int .i64 (rfF s), .slice qw0 (rfL s).length dw0]
  replace Rw0 := Rw0.below ((Below.refl _ w0).alloc (Nat.le_refl _) (.cells #[.int .i64 (rfC s), .int .i64 (rfF s), .slice qw0 (rfL s).length dw0] 27))
  replace hw := hw.alloc hw.size (.cells #[.int .i64 (rfC s), .int .i64 (rfF s), .slice qw0 (rfL s).length dw0] 27)
  have z1 : w0.heap.size + 1 ≤ (w0.alloc (.cells #[.int .i64 (rfC s), .int .i64 (rfF s), .slice qw0 (rfL s).length dw0] 27)).heap.size := by simp
  generalize w0.alloc (.cells #[.int .i64 (rfC s), .int .i64 (rfF s), .slice qw0 (rfL s).length dw0] 27) = w1 at Bw0 Rw0 hw z1 ⊢
  obtain ⟨cw00, cw01, cw02⟩ := Bw0.cell3
  have ltw0 := Bw0.lt
  go_wp2_with fail
  refine (impl_ReadFlux s _ hm (hV.below hw)).mono ?_
  rintro e w2 ⟨qg0, dg0, rfl, Rg0, hb⟩
  have z2 := hb.size
  replace Bw0 := Bw0.keep hb
  replace Rw0 := Rw0.below hb
  replace hw := below_st hw hb (Nat.le_refl _)
  clear hb
  have hOg0 : ∀ g, ownOf qg0 (rfL s) = some g → w1.heap.size ≤ g ∧ g < w2.heap.size := fun g hg => ownOf_at Rg0 hg
  have hNg0 : (rfL s) ≠ [] → ∀ g, qg0 = some (⟨g, 0, none⟩ : Addr) → w1.heap.size ≤ g ∧ g < w2.heap.size := fun hl g hp => OwnS.lt Rg0 hl hp
  clear cw00 cw01 cw02 ltw0
  obtain ⟨cw00, cw01, cw02⟩ := Bw0.cell3
  have ltw0 := Bw0.lt
  go_wp2_with fail
  have Bg0 := Blk.new w2 27 #[.int .i64 (rfC s), .int .i64 (rfF s), .slice qg0 (rfL s).length dg0]
  replace Bw0 := Bw0.keep ((Below.refl _ w2).alloc (Nat.le_refl _) (.cells #[.int .i64 (rfC s), .int .i64 (rfF s), .slice qg0 (rfL s).length dg0] 27))
  replace Rw0 := Rw0.below ((Below.refl _ w2).alloc (Nat.le_refl _) (.cells #[.int .i64 (rfC s), .int .i64 (rfF s), .slice qg0 (rfL s).length dg0] 27))
  replace Rg0 := Rg0.below ((Below.refl _ w2).alloc (Nat.le_refl _) (.cells #[.int .i64 (rfC s), .int .i64 (rfF s), .slice qg0 (rfL s).length dg0] 27))
  replace hw := hw.alloc hw.size (.cells #[.int .i64 (rfC s), .int .i64 (rfF s), .slice qg0 (rfL s).length dg0] 27)
  have z3 : w2.heap.size + 1 ≤ (w2.alloc (.cells #[.int .i64 (rfC s), .int .i64 (rfF s), .slice qg0 (rfL s).length dg0] 27)).heap.size := by simp
  generalize w2.alloc (.cells #[.int .i64 (rfC s), .int .i64 (rfF s), .slice qg0 (rfL s).length dg0] 27) = w3 at Bw0 Bg0 Rw0 Rg0 hw z3 ⊢
  clear cw00 cw01 cw02 ltw0
  obtain ⟨cw00, cw01, cw02⟩ := Bw0.cell3
  have ltw0 := Bw0.lt
  obtain ⟨cg00, cg01, cg02⟩ := Bg0.cell3
  have ltg0 := Bg0.lt
  go_wp2_with fail
  refine (laws_eqFlux_same _ _ _ _ _ _ _ _ Rg0.ints Rw0.ints (by omega)).mono ?_
  rintro e w4 ⟨rfl, hb⟩
  have z4 := hb.size
  replace Bw0 := Bw0.keep hb
  replace Bg0 := Bg0.keep hb
  replace Rw0 := Rw0.below hb
  replace Rg0 := Rg0.below hb
  replace hw := below_st hw hb (Nat.le_refl _)
  clear hb
  clear cw00 cw01 cw02 ltw0 cg00 cg01 cg02 ltg0
  obtain ⟨cw00, cw01, cw02⟩ := Bw0.cell3
  have ltw0 := Bw0.lt
  obtain ⟨cg00, cg01, cg02⟩ := Bg0.cell3
  have ltg0 := Bg0.lt
  go_wp2_with fail
  refine (laws_markFlux _ _ _ _ _ _ _ _ Rg0 (by omega) (by omega)).mono ?_
  rintro e w5 ⟨rfl, Rnew, ha⟩
  have z5 := ha.size
  replace Bw0 := Bw0.asides ha (fun e => by have := hOg0 _ e; omega)
  replace Bg0 := Bg0.asides ha (fun e => by have := hOg0 _ e; omega)
  replace Rw0 := Rw0.asides ha (fun hl g hp e => by have h1 := hNw0 hl g hp; have h2 := hOg0 g e; omega)
  replace hw := hw.trans (ha.below hw.size (fun g e => by have := hOg0 g e; omega))
  replace Rg0 := Rnew
  clear ha
  clear cw00 cw01 cw02 ltw0 cg00 cg01 cg02 ltg0
  obtain ⟨cw00, cw01, cw02⟩ := Bw0.cell3
  have ltw0 := Bw0.lt
  obtain ⟨cg00, cg01, cg02⟩ := Bg0.cell3
  have ltg0 := Bg0.lt
  go_wp2_with fail
  refine (laws_heldFlux _ _ _ _ _ _ _ Rg0.ints (by omega) (by omega)).mono ?_
  rintro e w6 ⟨rfl, hb⟩
  have z6 := hb.size
  replace Bw0 := Bw0.keep hb
  replace Bg0 := Bg0.keep hb
  replace Rw0 := Rw0.below hb
  replace Rg0 := Rg0.below hb
  replace hw := below_st hw hb (Nat.le_refl _)
  clear hb
  clear cw00 cw01 cw02 ltw0 cg00 cg01 cg02 ltg0
  obtain ⟨cw00, cw01, cw02⟩ := Bw0.cell3
  have ltw0 := Bw0.lt
  obtain ⟨cg00, cg01, cg02⟩ := Bg0.cell3
  have ltg0 := Bg0.lt
  go_wp2_with fail
  refine (impl_ReadFlux s _ hm (hV.below hw)).mono ?_
  rintro e w7 ⟨qh0, dh0, rfl, Rh0, hb⟩
  have z7 := hb.size
  replace Bw0 := Bw0.keep hb
  replace Bg0 := Bg0.keep hb
  replace Rw0 := Rw0.below hb
  replace Rg0 := Rg0.below hb
  replace hw := below_st hw hb (Nat.le_refl _)
  clear hb
  have hOh0 : ∀ g, ownOf qh0 (rfL s) = some g → w6.heap.size ≤ g ∧ g < w7.heap.size := fun g hg => ownOf_at Rh0 hg
  have hNh0 : (rfL s) ≠ [] → ∀ g, qh0 = some (⟨g, 0, none⟩ : Addr) → w6.heap.size ≤ g ∧ g < w7.heap.size := fun hl g hp => OwnS.lt Rh0 hl hp
  clear cw00 cw01 cw02 ltw0 cg00 cg01 cg02 ltg0
  obtain ⟨cw00, cw01, cw02⟩ := Bw0.cell3
  have ltw0 := Bw0.lt
  obtain ⟨cg00, cg01, cg02⟩ := Bg0.cell3
  have ltg0 := Bg0.lt
  go_wp2_with fail
  have Bh0 := Blk.new w7 27 #[.int .i64 (rfC s), .int .i64 (rfF s), .slice qh0 (rfL s).length dh0]
  replace Bw0 := Bw0.keep ((Below.refl _ w7).alloc (Nat.le_refl _) (.cells #[.int .i64 (rfC s), .int .i64 (rfF s), .slice qh0 (rfL s).length dh0] 27))
  replace Bg0 := Bg0.keep ((Below.refl _ w7).alloc (Nat.le_refl _) (.cells #[.int .i64 (rfC s), .int .i64 (rfF s), .slice qh0 (rfL s).length dh0] 27))
  replace Rw0 := Rw0.below ((Below.refl _ w7).alloc (Nat.le_refl _) (.cells #[.int .i64 (rfC s), .int .i64 (rfF s), .slice qh0 (rfL s).length dh0] 27))
  replace Rg0 := Rg0.below ((Below.refl _ w7).alloc (Nat.le_refl _) (.cells #[.int .i64 (rfC s), .int .i64 (rfF s), .slice qh0 (rfL s).length dh0] 27))
  replace Rh0 := Rh0.below ((Below.refl _ w7).alloc (Nat.le_refl _) (.cells #[.int .i64 (rfC s), .int .i64 (rfF s), .slice qh0 (rfL s).length dh0] 27))
  replace hw := hw.alloc hw.size (.cells #[.int .i64 (rfC s), .int .i64 (rfF s), .slice qh0 (rfL s).length dh0] 27)
  have z8 : w7.heap.size + 1 ≤ (w7.alloc (.cells #[.int .i64 (rfC s), .int .i64 (rfF s), .slice qh0 (rfL s).length dh0] 27)).heap.size := by simp
  generalize w7.alloc (.cells #[.int .i64 (rfC s), .int .i64 (rfF s), .slice qh0 (rfL s).length dh0] 27) = w8 at Bw0 Bg0 Bh0 Rw0 Rg0 Rh0 hw z8 ⊢
  clear cw00 cw01 cw02 ltw0 cg00 cg01 cg02 ltg0
  obtain ⟨cw00, cw01, cw02⟩ := Bw0.cell3
  have ltw0 := Bw0.lt
  obtain ⟨cg00, cg01, cg02⟩ := Bg0.cell3
  have ltg0 := Bg0.lt
  obtain ⟨ch00, ch01, ch02⟩ := Bh0.cell3
  have lth0 := Bh0.lt
  go_wp2_with fail
  refine (laws_eqFlux_same _ _ _ _ _ _ _ _ Rh0.ints Rw0.ints (by omega)).mono ?_
  rintro e w9 ⟨rfl, hb⟩
  have z9 := hb.size
  replace Bw0 := Bw0.keep hb
  replace Bg0 := Bg0.keep hb
  replace Bh0 := Bh0.keep hb
  replace Rw0 := Rw0.below hb
  replace Rg0 := Rg0.below hb
  replace Rh0 := Rh0.below hb
  replace hw := below_st hw hb (Nat.le_refl _)
  clear hb
  clear cw00 cw01 cw02 ltw0 cg00 cg01 cg02 ltg0 ch00 ch01 ch02 lth0
  obtain ⟨cw00, cw01, cw02⟩ := Bw0.cell3
  have ltw0 := Bw0.lt
  obtain ⟨cg00, cg01, cg02⟩ := Bg0.cell3
  have ltg0 := Bg0.lt
  obtain ⟨ch00, ch01, ch02⟩ := Bh0.cell3
  have lth0 := Bh0.lt
  go_wp2_with fail
  refine (laws_heldFlux _ _ _ _ _ _ _ Rg0.ints (by omega) (by omega)).mono ?_
  rintro e w10 ⟨rfl, hb⟩
  have z10 := hb.size
  replace Bw0 := Bw0.keep hb
  replace Bg0 := Bg0.keep hb
  replace Bh0 := Bh0.keep hb
  replace Rw0 := Rw0.below hb
  replace Rg0 := Rg0.below hb
  replace Rh0 := Rh0.below hb
  replace hw := below_st hw hb (Nat.le_refl _)
  clear hb
  clear cw00 cw01 cw02 ltw0 cg00 cg01 cg02 ltg0 ch00 ch01 ch02 lth0
  obtain ⟨cw00, cw01, cw02⟩ := Bw0.cell3
  have ltw0 := Bw0.lt
  obtain ⟨cg00, cg01, cg02⟩ := Bg0.cell3
  have ltg0 := Bg0.lt
  obtain ⟨ch00, ch01, ch02⟩ := Bh0.cell3
  have lth0 := Bh0.lt
  go_wp2_with fail
  go_ret
  exact ⟨rfl, hw⟩
end Go.Proofs.YtfdcainjppljhaaDoor
