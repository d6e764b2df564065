/- The law's walk: FnExactClockFaults. Printed by lawsr4.py. -/
import Derived.Test.YtkbhdlhkfeaejaaDoorFaultsW
import Derived.Test.YtkbhdlhkfeaejaaDoorFluxW
import Derived.Test.YtkbhdlhkfeaejaaDoorMarksW
import Derived.Test.YtkbhdlhkfeaejaaDoorLawAid
import Derived.Deep.RegionHeld3
import Derived.Deep.DeepCutAuto
namespace Go.Proofs.YtkbhdlhkfeaejaaDoor
open Go.RowKit
set_option linter.unusedVariables false
set_option maxHeartbeats 4000000 in
set_option maxRecDepth 20000 in
theorem walk_FnExactClockFaults (s : ByteArray) (b1 b2 : Bool) (w : World) (hs : s.size ≤ maxLen) :
    Calls Tryd.prog 6 #[.string s, .bool b1, .bool b2] w fun e w' => e = .returned (.bool true) ∧ Below w.heap.size w w' := by
  unfold maxLen at hs
  by_cases hm : s.size ≤ 1048576
  rotate_left
  · have hd : decide ((1048576 : Int) < (s.size : Int)) = true := decide_eq_true (by omega)
    go_enter Tryd.func6, Tryd.ntmps6
    go_wp2_with fail
    go_ret
    exact ⟨rfl, Below.refl _ _⟩
  have hd : decide ((1048576 : Int) < (s.size : Int)) = false := decide_eq_false (by omega)
  have hR := faultsV_len s b1 b2
  have hk2 : decide (1 + ((faultsV s b1 b2).length : Int) < 0) = false := decide_eq_false (by omega)
  go_enter Tryd.func6, Tryd.ntmps6
  have hw : Below w.heap.size w w := Below.refl _ _
  have z0 : w.heap.size ≤ w.heap.size := Nat.le_refl _
  go_wp2_with fail
  refine (spec_ClockFaults s b1 b2 _ hm).mono ?_
  rintro e w0 ⟨qw0, dw0, rfl, Rw0, hb⟩
  have z0 := hb.size
  replace hw := below_st hw hb (Nat.le_refl _)
  clear hb
  have hOw0 : ∀ g, ownOf qw0 (faultsV s b1 b2) = some g → w.heap.size ≤ g ∧ g < w0.heap.size := fun g hg => ownOf_at Rw0 hg
  have hNw0 : (faultsV s b1 b2) ≠ [] → ∀ g, qw0 = some (⟨g, 0, none⟩ : Addr) → w.heap.size ≤ g ∧ g < w0.heap.size := fun hl g hp => OwnS.lt Rw0 hl hp
  go_wp2_with fail
  refine (impl_ClockFaults s b1 b2 _ hm).mono ?_
  rintro e w1 ⟨qg0, dg0, rfl, Rg0, hb⟩
  have z1 := hb.size
  replace Rw0 := Rw0.below hb
  replace hw := below_st hw hb (Nat.le_refl _)
  clear hb
  have hOg0 : ∀ g, ownOf qg0 (faultsV s b1 b2) = some g → w0.heap.size ≤ g ∧ g < w1.heap.size := fun g hg => ownOf_at Rg0 hg
  have hNg0 : (faultsV s b1 b2) ≠ [] → ∀ g, qg0 = some (⟨g, 0, none⟩ : Addr) → w0.heap.size ≤ g ∧ g < w1.heap.size := fun hl g hp => OwnS.lt Rg0 hl hp
  go_wp2_with fail
  refine (laws_eqInt64S _ _ _ _ _ _ _ Rg0.ints Rw0.ints (by omega)).mono ?_
  rintro e w2 ⟨rfl, hb⟩
  rw [decide_eq_true rfl]
  have z2 := hb.size
  replace Rw0 := Rw0.below hb
  replace Rg0 := Rg0.below hb
  replace hw := below_st hw hb (Nat.le_refl _)
  clear hb
  go_wp2_with fail
  refine (laws_markInt64S _ _ _ _ _ _ Rg0 (by omega) (by omega)).mono ?_
  rintro e w3 ⟨rfl, Rnew, ha⟩
  have z3 := ha.size
  replace Rw0 := Rw0.asides ha (fun hl g hp e => by have h1 := hNw0 hl g hp; have h2 := hOg0 g e; omega)
  replace hw := hw.trans (ha.below hw.size (fun g e => by have := hOg0 g e; omega))
  replace Rg0 := Rnew
  clear ha
  go_wp2_with fail
  refine (laws_heldInt64S _ _ _ _ _ Rg0.ints (by omega) (by omega)).mono ?_
  rintro e w4 ⟨rfl, hb⟩
  have z4 := hb.size
  replace Rw0 := Rw0.below hb
  replace Rg0 := Rg0.below hb
  replace hw := below_st hw hb (Nat.le_refl _)
  clear hb
  go_wp2_with fail
  refine (impl_ClockFaults s b1 b2 _ hm).mono ?_
  rintro e w5 ⟨qh0, dh0, rfl, Rh0, hb⟩
  have z5 := hb.size
  replace Rw0 := Rw0.below hb
  replace Rg0 := Rg0.below hb
  replace hw := below_st hw hb (Nat.le_refl _)
  clear hb
  have hOh0 : ∀ g, ownOf qh0 (faultsV s b1 b2) = some g → w4.heap.size ≤ g ∧ g < w5.heap.size := fun g hg => ownOf_at Rh0 hg
  have hNh0 : (faultsV s b1 b2) ≠ [] → ∀ g, qh0 = some (⟨g, 0, none⟩ : Addr) → w4.heap.size ≤ g ∧ g < w5.heap.size := fun hl g hp => OwnS.lt Rh0 hl hp
  go_wp2_with fail
  refine (laws_eqInt64S _ _ _ _ _ _ _ Rh0.ints Rw0.ints (by omega)).mono ?_
  rintro e w6 ⟨rfl, hb⟩
  rw [decide_eq_true rfl]
  have z6 := hb.size
  replace Rw0 := Rw0.below hb
  replace Rg0 := Rg0.below hb
  replace Rh0 := Rh0.below hb
  replace hw := below_st hw hb (Nat.le_refl _)
  clear hb
  go_wp2_with fail
  refine (laws_heldInt64S _ _ _ _ _ Rg0.ints (by omega) (by omega)).mono ?_
  rintro e w7 ⟨rfl, hb⟩
  have z7 := hb.size
  replace Rw0 := Rw0.below hb
  replace Rg0 := Rg0.below hb
  replace Rh0 := Rh0.below hb
  replace hw := below_st hw hb (Nat.le_refl _)
  clear hb
  go_wp2_with fail
  go_ret
  exact ⟨rfl, hw⟩
end Go.Proofs.YtkbhdlhkfeaejaaDoor
