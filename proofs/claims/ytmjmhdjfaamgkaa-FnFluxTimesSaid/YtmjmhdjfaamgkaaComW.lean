/- ComW. Printed by conr3.py. -/
import Derived.Test.YtmjmhdjfaamgkaaRevW
import Derived.Test.YtmjmhdjfaamgkaaMarksW
import Derived.Test.YtmjmhdjfaamgkaaBsW
import Derived.Deep.RegionHeld3
import Derived.Deep.DeepCutAuto
import Derived.BigRegion
namespace Go.Proofs.Ytmjmhdjfaamgkaa
open Go.RowKit
set_option linter.unusedVariables false
/-- How many of the first k numbers of a list another has. -/
def comP (x y : List Int) (k : Nat) : Int := (((x.take k).filter fun a => decide (a ∈ y)).length : Nat)
theorem comP_yes {x y : List Int} {k : Nat} (hx : k < x.length) (h : decide (x[k] ∈ y) = true) : comP x y (k + 1) = comP x y k + 1 := by
  unfold comP
  rw [takeI_snoc hx, List.filter_append, List.filter_cons, if_pos h]
  simp
theorem comP_no {x y : List Int} {k : Nat} (hx : k < x.length) (h : decide (x[k] ∈ y) = false) : comP x y (k + 1) = comP x y k := by
  unfold comP
  rw [takeI_snoc hx, List.filter_append, List.filter_cons, if_neg (by rw [h]; decide)]
  simp
theorem comP_bd (x y : List Int) (k : Nat) : 0 ≤ comP x y k ∧ comP x y k ≤ k := by
  unfold comP
  have h1 := List.length_filter_le (fun a => decide (a ∈ y)) (x.take k)
  have h2 := List.length_take_le k x
  omega
def comV (ca fa : Int) (la : List Int) (cb fb : Int) (lb : List Int) : Int := if fluxOk ca fa la && fluxOk cb fb lb then comP (chgL fa la) (chgL fb lb) la.length else 0
theorem chg_rises {c f : Int} {l : List Int} (h : fluxOk c f l = true) : (chgL f l).Pairwise (· < ·) := by
  obtain ⟨-, -, hm, -⟩ := fluxOk_bd h
  rw [List.pairwise_iff_getElem]
  intro i j hi hj hij
  have hl := chgL_len f l
  rw [chgL_at, chgL_at]
  have key : ∀ d, i + d + 1 ≤ l.length → (l.take i).sum < (l.take (i + d + 1)).sum := by
    intro d
    induction d with
    | zero =>
      intro hd
      have h1 := takeI_snoc (l := l) (k := i) (by omega)
      have h2 := hm l[i] (List.getElem_mem _)
      rw [Nat.add_zero, h1, List.sum_append]
      simp
      omega
    | succ d ih =>
      intro hd
      have h1 := takeI_snoc (l := l) (k := i + d + 1) (by omega)
      have h2 := hm l[i + d + 1] (List.getElem_mem _)
      have h3 := ih (by omega)
      rw [show i + (d + 1) + 1 = i + d + 1 + 1 by omega, h1, List.sum_append]
      simp
      omega
  have := key (j - i - 1) (by omega)
  rw [show i + (j - i - 1) + 1 = j by omega] at this
  omega
theorem rises_le {l : List Int} (h : l.Pairwise (· < ·)) : l.Pairwise (· ≤ ·) := h.imp fun h => by omega
set_option maxHeartbeats 4000000 in
set_option maxRecDepth 20000 in
theorem spec_CommonChanges (ca fa : Int) (pa : Option Addr) (la : List Int) (capa : Nat) (cb fb : Int) (pb : Option Addr) (lb : List Int) (capb : Nat) (w : World) (hIa : IntsAt w pa la) (hIb : IntsAt w pb lb) (hma : la.length ≤ 1048576) (hmb : lb.length ≤ 1048576) :
    Calls Try.prog 22 #[.agg #[.int .i64 ca, .int .i64 fa, .slice pa la.length capa], .agg #[.int .i64 cb, .int .i64 fb, .slice pb lb.length capb]] w fun e w' => e = .returned (.int .i64 (comV ca fa la cb fb lb)) ∧ Below w.heap.size w w' := by
  cases hoa : fluxOk ca fa la
  · have Ha := Lib.hid hoa
    have HJ := Lib.hid (show comV ca fa la cb fb lb = 0 from by unfold comV; rw [hoa]; rfl)
    clear hoa
    go_enter Try.func22, Try.ntmps22
    go_wp2_with fail
    have hw : Below w.heap.size w w := Below.refl _ _
    have Ba := Blk.new w 24 #[.int .i64 ca, .int .i64 fa, .slice pa la.length capa]
    replace hw := hw.alloc hw.size (.cells #[.int .i64 ca, .int .i64 fa, .slice pa la.length capa] 24)
    have Bb := Blk.new (w.alloc (.cells #[.int .i64 ca, .int .i64 fa, .slice pa la.length capa] 24)) 24 #[.int .i64 cb, .int .i64 fb, .slice pb lb.length capb]
    replace Ba := Ba.keep ((Below.refl _ (w.alloc (.cells #[.int .i64 ca, .int .i64 fa, .slice pa la.length capa] 24))).alloc (Nat.le_refl _) (.cells #[.int .i64 cb, .int .i64 fb, .slice pb lb.length capb] 24))
    replace hw := hw.alloc hw.size (.cells #[.int .i64 cb, .int .i64 fb, .slice pb lb.length capb] 24)
    have e1 : (w.alloc (.cells #[.int .i64 ca, .int .i64 fa, .slice pa la.length capa] 24)).heap.size = w.heap.size + 1 := by simp
    rw [e1] at Bb
    have z0 : w.heap.size + 2 ≤ ((w.alloc (.cells #[.int .i64 ca, .int .i64 fa, .slice pa la.length capa] 24)).alloc (.cells #[.int .i64 cb, .int .i64 fb, .slice pb lb.length capb] 24)).heap.size := by simp
    generalize ((w.alloc (.cells #[.int .i64 ca, .int .i64 fa, .slice pa la.length capa] 24)).alloc (.cells #[.int .i64 cb, .int .i64 fb, .slice pb lb.length capb] 24)) = w0 at Ba Bb hw z0 ⊢
    obtain ⟨ca0, ca1, ca2⟩ := Ba.cell3
    have lta := Ba.lt
    obtain ⟨cb0, cb1, cb2⟩ := Bb.cell3
    have ltb := Bb.lt
    go_wp2_with fail
    refine (spec_l02Ok ca fa pa la capa _ _ (hIa.below hw) hma Ba).mono ?_
    rintro e w1 ⟨rfl, hb⟩
    rw [Ha.out]
    have z1 := hb.size
    replace Ba := Ba.keep hb
    replace Bb := Bb.keep hb
    replace hw := below_st hw hb (Nat.le_refl _)
    clear hb
    clear ca0 ca1 ca2 lta cb0 cb1 cb2 ltb
    obtain ⟨ca0, ca1, ca2⟩ := Ba.cell3
    have lta := Ba.lt
    obtain ⟨cb0, cb1, cb2⟩ := Bb.cell3
    have ltb := Bb.lt
    go_wp2_with fail
    go_returns
    exact ⟨by rw [HJ.out]; rfl, hw⟩
  have Ha := Lib.hid hoa
  cases hob : fluxOk cb fb lb
  · have Hb := Lib.hid hob
    have HJ := Lib.hid (show comV ca fa la cb fb lb = 0 from by unfold comV; rw [hoa, hob]; rfl)
    clear hoa hob
    go_enter Try.func22, Try.ntmps22
    go_wp2_with fail
    have hw : Below w.heap.size w w := Below.refl _ _
    have Ba := Blk.new w 24 #[.int .i64 ca, .int .i64 fa, .slice pa la.length capa]
    replace hw := hw.alloc hw.size (.cells #[.int .i64 ca, .int .i64 fa, .slice pa la.length capa] 24)
    have Bb := Blk.new (w.alloc (.cells #[.int .i64 ca, .int .i64 fa, .slice pa la.length capa] 24)) 24 #[.int .i64 cb, .int .i64 fb, .slice pb lb.length capb]
    replace Ba := Ba.keep ((Below.refl _ (w.alloc (.cells #[.int .i64 ca, .int .i64 fa, .slice pa la.length capa] 24))).alloc (Nat.le_refl _) (.cells #[.int .i64 cb, .int .i64 fb, .slice pb lb.length capb] 24))
    replace hw := hw.alloc hw.size (.cells #[.int .i64 cb, .int .i64 fb, .slice pb lb.length capb] 24)
    have e1 : (w.alloc (.cells #[.int .i64 ca, .int .i64 fa, .slice pa la.length capa] 24)).heap.size = w.heap.size + 1 := by simp
    rw [e1] at Bb
    have z0 : w.heap.size + 2 ≤ ((w.alloc (.cells #[.int .i64 ca, .int .i64 fa, .slice pa la.length capa] 24)).alloc (.cells #[.int .i64 cb, .int .i64 fb, .slice pb lb.length capb] 24)).heap.size := by simp
    generalize ((w.alloc (.cells #[.int .i64 ca, .int .i64 fa, .slice pa la.length capa] 24)).alloc (.cells #[.int .i64 cb, .int .i64 fb, .slice pb lb.length capb] 24)) = w0 at Ba Bb hw z0 ⊢
    obtain ⟨ca0, ca1, ca2⟩ := Ba.cell3
    have lta := Ba.lt
    obtain ⟨cb0, cb1, cb2⟩ := Bb.cell3
    have ltb := Bb.lt
    go_wp2_with fail
    refine (spec_l02Ok ca fa pa la capa _ _ (hIa.below hw) hma Ba).mono ?_
    rintro e w1 ⟨rfl, hb⟩
    rw [Ha.out]
    have z1 := hb.size
    replace Ba := Ba.keep hb
    replace Bb := Bb.keep hb
    replace hw := below_st hw hb (Nat.le_refl _)
    clear hb
    clear ca0 ca1 ca2 lta cb0 cb1 cb2 ltb
    obtain ⟨ca0, ca1, ca2⟩ := Ba.cell3
    have lta := Ba.lt
    obtain ⟨cb0, cb1, cb2⟩ := Bb.cell3
    have ltb := Bb.lt
    go_wp2_with fail
    refine (spec_l02Ok cb fb pb lb capb _ _ (hIb.below hw) hmb Bb).mono ?_
    rintro e w2 ⟨rfl, hb⟩
    rw [Hb.out]
    have z2 := hb.size
    replace Ba := Ba.keep hb
    replace Bb := Bb.keep hb
    replace hw := below_st hw hb (Nat.le_refl _)
    clear hb
    clear ca0 ca1 ca2 lta cb0 cb1 cb2 ltb
    obtain ⟨ca0, ca1, ca2⟩ := Ba.cell3
    have lta := Ba.lt
    obtain ⟨cb0, cb1, cb2⟩ := Bb.cell3
    have ltb := Bb.lt
    go_wp2_with fail
    go_returns
    exact ⟨by rw [HJ.out]; rfl, hw⟩
  have Hb := Lib.hid hob
  have HJ := Lib.hid (show comV ca fa la cb fb lb = comP (chgL fa la) (chgL fb lb) la.length from by unfold comV; rw [hoa, hob]; rfl)
  clear hoa hob
  go_enter Try.func22, Try.ntmps22
  go_wp2_with fail
  have hw : Below w.heap.size w w := Below.refl _ _
  have Ba := Blk.new w 24 #[.int .i64 ca, .int .i64 fa, .slice pa la.length capa]
  replace hw := hw.alloc hw.size (.cells #[.int .i64 ca, .int .i64 fa, .slice pa la.length capa] 24)
  have Bb := Blk.new (w.alloc (.cells #[.int .i64 ca, .int .i64 fa, .slice pa la.length capa] 24)) 24 #[.int .i64 cb, .int .i64 fb, .slice pb lb.length capb]
  replace Ba := Ba.keep ((Below.refl _ (w.alloc (.cells #[.int .i64 ca, .int .i64 fa, .slice pa la.length capa] 24))).alloc (Nat.le_refl _) (.cells #[.int .i64 cb, .int .i64 fb, .slice pb lb.length capb] 24))
  replace hw := hw.alloc hw.size (.cells #[.int .i64 cb, .int .i64 fb, .slice pb lb.length capb] 24)
  have e1 : (w.alloc (.cells #[.int .i64 ca, .int .i64 fa, .slice pa la.length capa] 24)).heap.size = w.heap.size + 1 := by simp
  rw [e1] at Bb
  have z0 : w.heap.size + 2 ≤ ((w.alloc (.cells #[.int .i64 ca, .int .i64 fa, .slice pa la.length capa] 24)).alloc (.cells #[.int .i64 cb, .int .i64 fb, .slice pb lb.length capb] 24)).heap.size := by simp
  generalize ((w.alloc (.cells #[.int .i64 ca, .int .i64 fa, .slice pa la.length capa] 24)).alloc (.cells #[.int .i64 cb, .int .i64 fb, .slice pb lb.length capb] 24)) = w0 at Ba Bb hw z0 ⊢
  obtain ⟨ca0, ca1, ca2⟩ := Ba.cell3
  have lta := Ba.lt
  obtain ⟨cb0, cb1, cb2⟩ := Bb.cell3
  have ltb := Bb.lt
  go_wp2_with fail
  refine (spec_l02Ok ca fa pa la capa _ _ (hIa.below hw) hma Ba).mono ?_
  rintro e w1 ⟨rfl, hb⟩
  rw [Ha.out]
  have z1 := hb.size
  replace Ba := Ba.keep hb
  replace Bb := Bb.keep hb
  replace hw := below_st hw hb (Nat.le_refl _)
  clear hb
  clear ca0 ca1 ca2 lta cb0 cb1 cb2 ltb
  obtain ⟨ca0, ca1, ca2⟩ := Ba.cell3
  have lta := Ba.lt
  obtain ⟨cb0, cb1, cb2⟩ := Bb.cell3
  have ltb := Bb.lt
  go_wp2_with fail
  refine (spec_l02Ok cb fb pb lb capb _ _ (hIb.below hw) hmb Bb).mono ?_
  rintro e w2 ⟨rfl, hb⟩
  rw [Hb.out]
  have z2 := hb.size
  replace Ba := Ba.keep hb
  replace Bb := Bb.keep hb
  replace hw := below_st hw hb (Nat.le_refl _)
  clear hb
  clear ca0 ca1 ca2 lta cb0 cb1 cb2 ltb
  obtain ⟨ca0, ca1, ca2⟩ := Ba.cell3
  have lta := Ba.lt
  obtain ⟨cb0, cb1, cb2⟩ := Bb.cell3
  have ltb := Bb.lt
  go_wp2_with fail
  refine (spec_l02Changes ca fa pa la capa _ _ (hIa.below hw) hma (fluxOk_sums Ha.out).2 Ba).mono ?_
  rintro e w3 ⟨qx, dx, rfl, Rx, hb⟩
  have z3 := hb.size
  replace Ba := Ba.keep hb
  replace Bb := Bb.keep hb
  replace hw := below_st hw hb (Nat.le_refl _)
  clear hb
  have hOx : ∀ g, ownOf qx (chgL fa la) = some g → w2.heap.size ≤ g ∧ g < w3.heap.size := fun g hg => ownOf_at Rx hg
  have hNx : (chgL fa la) ≠ [] → ∀ g, qx = some (⟨g, 0, none⟩ : Addr) → w2.heap.size ≤ g ∧ g < w3.heap.size := fun hl g hp => OwnS.lt Rx hl hp
  clear ca0 ca1 ca2 lta cb0 cb1 cb2 ltb
  obtain ⟨ca0, ca1, ca2⟩ := Ba.cell3
  have lta := Ba.lt
  obtain ⟨cb0, cb1, cb2⟩ := Bb.cell3
  have ltb := Bb.lt
  go_wp2_with fail
  refine (spec_l02Changes cb fb pb lb capb _ _ (hIb.below hw) hmb (fluxOk_sums Hb.out).2 Bb).mono ?_
  rintro e w4 ⟨qy, dy, rfl, Ry, hb⟩
  have z4 := hb.size
  replace Ba := Ba.keep hb
  replace Bb := Bb.keep hb
  replace Rx := Rx.below hb
  replace hw := below_st hw hb (Nat.le_refl _)
  clear hb
  have hOy : ∀ g, ownOf qy (chgL fb lb) = some g → w3.heap.size ≤ g ∧ g < w4.heap.size := fun g hg => ownOf_at Ry hg
  have hNy : (chgL fb lb) ≠ [] → ∀ g, qy = some (⟨g, 0, none⟩ : Addr) → w3.heap.size ≤ g ∧ g < w4.heap.size := fun hl g hp => OwnS.lt Ry hl hp
  clear ca0 ca1 ca2 lta cb0 cb1 cb2 ltb
  obtain ⟨ca0, ca1, ca2⟩ := Ba.cell3
  have lta := Ba.lt
  obtain ⟨cb0, cb1, cb2⟩ := Bb.cell3
  have ltb := Bb.lt
  have ex : (chgL fa la).length = la.length := chgL_len _ _
  have ey : (chgL fb lb).length ≤ 1048576 := by rw [chgL_len]; exact hmb
  have Ix := Rx.ints
  have Iy := Ry.ints
  have HY := Lib.hid (rises_le (chg_rises Hb.out))
  generalize (chgL fa la) = X at ex Ix Rx HJ ⊢
  generalize (chgL fb lb) = Y at ey Iy Ry HJ HY ⊢
  have EX := Lib.hid ex; have EY := Lib.hid ey
  rw [ex]
  clear ex ey
  go_wp2_with fail
  go_loopw [5, 8] (fun m i wr => ∃ k : Nat, k ≤ la.length ∧ i = .int .i64 k ∧ m = .int .i64 (comP X Y k) ∧ wr = w4) (fun _ i _ => la.length - (intOf i).toNat)
  case atStart => exact ⟨0, Nat.zero_le _, rfl, rfl, rfl⟩
  case round =>
    obtain ⟨k, hk, rfl, rfl, rfl⟩ := hrel
    by_cases hlt : k < la.length
    · have hkx : k < X.length := by rw [EX.out]; exact hlt
      obtain ⟨a, rfl, hx⟩ := Ix.at_ hkx
      have hm := comP_bd X Y k
      have hy := @comP_yes X Y k hkx
      have hn := @comP_no X Y k hkx
      obtain ⟨x, hex⟩ : ∃ x, X[k] = x := ⟨_, rfl⟩
      rw [hex] at hx hy hn
      obtain ⟨m, hem⟩ : ∃ m, comP X Y k = m := ⟨_, rfl⟩
      rw [hem] at hm hy hn
      simp only [hem]
      have hcon := fun w' hI => spec_l00Has qy Y dy x w' hI EY.out
      obtain hd | hd := (Bool.eq_false_or_eq_true (decide (x ∈ Y))).symm
      · have HS := Lib.hid (hn hd)
        rw [hd] at hcon
        clear hy hn hem hex hd
        go_wp2_with (go_at_call 58; with_reducible refine (hcon _ (by exact Iy)).mono ?_; rintro e w9 ⟨rfl, rfl⟩)
        refine ⟨⟨k + 1, by omega, by go_num, by rw [HS.out], trivial⟩, by simp [intOf]; omega⟩
      · have HS := Lib.hid (hy hd)
        rw [hd] at hcon
        clear hy hn hem hex hd
        go_wp2_with (go_at_call 58; with_reducible refine (hcon _ (by exact Iy)).mono ?_; rintro e w9 ⟨rfl, rfl⟩)
        refine ⟨⟨k + 1, by omega, by go_num, by rw [HS.out], trivial⟩, by simp [intOf]; omega⟩
    · have ek : k = la.length := by omega
      subst ek
      go_wp2_with fail
      go_returns
      exact ⟨by rw [HJ.out]; rfl, hw⟩
set_option maxHeartbeats 4000000 in
set_option maxRecDepth 20000 in
theorem impl_CommonChanges (ca fa : Int) (pa : Option Addr) (la : List Int) (capa : Nat) (cb fb : Int) (pb : Option Addr) (lb : List Int) (capb : Nat) (w : World) (hIa : IntsAt w pa la) (hIb : IntsAt w pb lb) (hma : la.length ≤ 1048576) (hmb : lb.length ≤ 1048576) :
    Calls Try.prog 24 #[.agg #[.int .i64 ca, .int .i64 fa, .slice pa la.length capa], .agg #[.int .i64 cb, .int .i64 fb, .slice pb lb.length capb]] w fun e w' => e = .returned (.int .i64 (comV ca fa la cb fb lb)) ∧ Below w.heap.size w w' := by
  cases hoa : fluxOk ca fa la
  · have Ha := Lib.hid hoa
    have HJ := Lib.hid (show comV ca fa la cb fb lb = 0 from by unfold comV; rw [hoa]; rfl)
    clear hoa
    go_enter Try.func24, Try.ntmps24
    go_wp2_with fail
    have hw : Below w.heap.size w w := Below.refl _ _
    have Ba := Blk.new w 24 #[.int .i64 ca, .int .i64 fa, .slice pa la.length capa]
    replace hw := hw.alloc hw.size (.cells #[.int .i64 ca, .int .i64 fa, .slice pa la.length capa] 24)
    have Bb := Blk.new (w.alloc (.cells #[.int .i64 ca, .int .i64 fa, .slice pa la.length capa] 24)) 24 #[.int .i64 cb, .int .i64 fb, .slice pb lb.length capb]
    replace Ba := Ba.keep ((Below.refl _ (w.alloc (.cells #[.int .i64 ca, .int .i64 fa, .slice pa la.length capa] 24))).alloc (Nat.le_refl _) (.cells #[.int .i64 cb, .int .i64 fb, .slice pb lb.length capb] 24))
    replace hw := hw.alloc hw.size (.cells #[.int .i64 cb, .int .i64 fb, .slice pb lb.length capb] 24)
    have e1 : (w.alloc (.cells #[.int .i64 ca, .int .i64 fa, .slice pa la.length capa] 24)).heap.size = w.heap.size + 1 := by simp
    rw [e1] at Bb
    have z0 : w.heap.size + 2 ≤ ((w.alloc (.cells #[.int .i64 ca, .int .i64 fa, .slice pa la.length capa] 24)).alloc (.cells #[.int .i64 cb, .int .i64 fb, .slice pb lb.length capb] 24)).heap.size := by simp
    generalize ((w.alloc (.cells #[.int .i64 ca, .int .i64 fa, .slice pa la.length capa] 24)).alloc (.cells #[.int .i64 cb, .int .i64 fb, .slice pb lb.length capb] 24)) = w0 at Ba Bb hw z0 ⊢
    obtain ⟨ca0, ca1, ca2⟩ := Ba.cell3
    have lta := Ba.lt
    obtain ⟨cb0, cb1, cb2⟩ := Bb.cell3
    have ltb := Bb.lt
    go_wp2_with fail
    refine (impl_ValidFlux ca fa pa la capa _ (hIa.below hw) hma).mono ?_
    rintro e w1 ⟨rfl, hb⟩
    rw [Ha.out]
    have z1 := hb.size
    replace Ba := Ba.keep hb
    replace Bb := Bb.keep hb
    replace hw := below_st hw hb (Nat.le_refl _)
    clear hb
    clear ca0 ca1 ca2 lta cb0 cb1 cb2 ltb
    obtain ⟨ca0, ca1, ca2⟩ := Ba.cell3
    have lta := Ba.lt
    obtain ⟨cb0, cb1, cb2⟩ := Bb.cell3
    have ltb := Bb.lt
    go_wp2_with fail
    go_returns
    exact ⟨by rw [HJ.out]; rfl, hw⟩
  have Ha := Lib.hid hoa
  cases hob : fluxOk cb fb lb
  · have Hb := Lib.hid hob
    have HJ := Lib.hid (show comV ca fa la cb fb lb = 0 from by unfold comV; rw [hoa, hob]; rfl)
    clear hoa hob
    go_enter Try.func24, Try.ntmps24
    go_wp2_with fail
    have hw : Below w.heap.size w w := Below.refl _ _
    have Ba := Blk.new w 24 #[.int .i64 ca, .int .i64 fa, .slice pa la.length capa]
    replace hw := hw.alloc hw.size (.cells #[.int .i64 ca, .int .i64 fa, .slice pa la.length capa] 24)
    have Bb := Blk.new (w.alloc (.cells #[.int .i64 ca, .int .i64 fa, .slice pa la.length capa] 24)) 24 #[.int .i64 cb, .int .i64 fb, .slice pb lb.length capb]
    replace Ba := Ba.keep ((Below.refl _ (w.alloc (.cells #[.int .i64 ca, .int .i64 fa, .slice pa la.length capa] 24))).alloc (Nat.le_refl _) (.cells #[.int .i64 cb, .int .i64 fb, .slice pb lb.length capb] 24))
    replace hw := hw.alloc hw.size (.cells #[.int .i64 cb, .int .i64 fb, .slice pb lb.length capb] 24)
    have e1 : (w.alloc (.cells #[.int .i64 ca, .int .i64 fa, .slice pa la.length capa] 24)).heap.size = w.heap.size + 1 := by simp
    rw [e1] at Bb
    have z0 : w.heap.size + 2 ≤ ((w.alloc (.cells #[.int .i64 ca, .int .i64 fa, .slice pa la.length capa] 24)).alloc (.cells #[.int .i64 cb, .int .i64 fb, .slice pb lb.length capb] 24)).heap.size := by simp
    generalize ((w.alloc (.cells #[.int .i64 ca, .int .i64 fa, .slice pa la.length capa] 24)).alloc (.cells #[.int .i64 cb, .int .i64 fb, .slice pb lb.length capb] 24)) = w0 at Ba Bb hw z0 ⊢
    obtain ⟨ca0, ca1, ca2⟩ := Ba.cell3
    have lta := Ba.lt
    obtain ⟨cb0, cb1, cb2⟩ := Bb.cell3
    have ltb := Bb.lt
    go_wp2_with fail
    refine (impl_ValidFlux ca fa pa la capa _ (hIa.below hw) hma).mono ?_
    rintro e w1 ⟨rfl, hb⟩
    rw [Ha.out]
    have z1 := hb.size
    replace Ba := Ba.keep hb
    replace Bb := Bb.keep hb
    replace hw := below_st hw hb (Nat.le_refl _)
    clear hb
    clear ca0 ca1 ca2 lta cb0 cb1 cb2 ltb
    obtain ⟨ca0, ca1, ca2⟩ := Ba.cell3
    have lta := Ba.lt
    obtain ⟨cb0, cb1, cb2⟩ := Bb.cell3
    have ltb := Bb.lt
    go_wp2_with fail
    refine (impl_ValidFlux cb fb pb lb capb _ (hIb.below hw) hmb).mono ?_
    rintro e w2 ⟨rfl, hb⟩
    rw [Hb.out]
    have z2 := hb.size
    replace Ba := Ba.keep hb
    replace Bb := Bb.keep hb
    replace hw := below_st hw hb (Nat.le_refl _)
    clear hb
    clear ca0 ca1 ca2 lta cb0 cb1 cb2 ltb
    obtain ⟨ca0, ca1, ca2⟩ := Ba.cell3
    have lta := Ba.lt
    obtain ⟨cb0, cb1, cb2⟩ := Bb.cell3
    have ltb := Bb.lt
    go_wp2_with fail
    go_returns
    exact ⟨by rw [HJ.out]; rfl, hw⟩
  have Hb := Lib.hid hob
  have HJ := Lib.hid (show comV ca fa la cb fb lb = comP (chgL fa la) (chgL fb lb) la.length from by unfold comV; rw [hoa, hob]; rfl)
  clear hoa hob
  go_enter Try.func24, Try.ntmps24
  go_wp2_with fail
  have hw : Below w.heap.size w w := Below.refl _ _
  have Ba := Blk.new w 24 #[.int .i64 ca, .int .i64 fa, .slice pa la.length capa]
  replace hw := hw.alloc hw.size (.cells #[.int .i64 ca, .int .i64 fa, .slice pa la.length capa] 24)
  have Bb := Blk.new (w.alloc (.cells #[.int .i64 ca, .int .i64 fa, .slice pa la.length capa] 24)) 24 #[.int .i64 cb, .int .i64 fb, .slice pb lb.length capb]
  replace Ba := Ba.keep ((Below.refl _ (w.alloc (.cells #[.int .i64 ca, .int .i64 fa, .slice pa la.length capa] 24))).alloc (Nat.le_refl _) (.cells #[.int .i64 cb, .int .i64 fb, .slice pb lb.length capb] 24))
  replace hw := hw.alloc hw.size (.cells #[.int .i64 cb, .int .i64 fb, .slice pb lb.length capb] 24)
  have e1 : (w.alloc (.cells #[.int .i64 ca, .int .i64 fa, .slice pa la.length capa] 24)).heap.size = w.heap.size + 1 := by simp
  rw [e1] at Bb
  have z0 : w.heap.size + 2 ≤ ((w.alloc (.cells #[.int .i64 ca, .int .i64 fa, .slice pa la.length capa] 24)).alloc (.cells #[.int .i64 cb, .int .i64 fb, .slice pb lb.length capb] 24)).heap.size := by simp
  generalize ((w.alloc (.cells #[.int .i64 ca, .int .i64 fa, .slice pa la.length capa] 24)).alloc (.cells #[.int .i64 cb, .int .i64 fb, .slice pb lb.length capb] 24)) = w0 at Ba Bb hw z0 ⊢
  obtain ⟨ca0, ca1, ca2⟩ := Ba.cell3
  have lta := Ba.lt
  obtain ⟨cb0, cb1, cb2⟩ := Bb.cell3
  have ltb := Bb.lt
  go_wp2_with fail
  refine (impl_ValidFlux ca fa pa la capa _ (hIa.below hw) hma).mono ?_
  rintro e w1 ⟨rfl, hb⟩
  rw [Ha.out]
  have z1 := hb.size
  replace Ba := Ba.keep hb
  replace Bb := Bb.keep hb
  replace hw := below_st hw hb (Nat.le_refl _)
  clear hb
  clear ca0 ca1 ca2 lta cb0 cb1 cb2 ltb
  obtain ⟨ca0, ca1, ca2⟩ := Ba.cell3
  have lta := Ba.lt
  obtain ⟨cb0, cb1, cb2⟩ := Bb.cell3
  have ltb := Bb.lt
  go_wp2_with fail
  refine (impl_ValidFlux cb fb pb lb capb _ (hIb.below hw) hmb).mono ?_
  rintro e w2 ⟨rfl, hb⟩
  rw [Hb.out]
  have z2 := hb.size
  replace Ba := Ba.keep hb
  replace Bb := Bb.keep hb
  replace hw := below_st hw hb (Nat.le_refl _)
  clear hb
  clear ca0 ca1 ca2 lta cb0 cb1 cb2 ltb
  obtain ⟨ca0, ca1, ca2⟩ := Ba.cell3
  have lta := Ba.lt
  obtain ⟨cb0, cb1, cb2⟩ := Bb.cell3
  have ltb := Bb.lt
  go_wp2_with fail
  refine (impl_changes cb fb pb lb capb _ (hIb.below hw) hmb (fluxOk_sums Hb.out).2).mono ?_
  rintro e w3 ⟨qy, dy, rfl, Ry, hb⟩
  have z3 := hb.size
  replace Ba := Ba.keep hb
  replace Bb := Bb.keep hb
  replace hw := below_st hw hb (Nat.le_refl _)
  clear hb
  have hOy : ∀ g, ownOf qy (chgL fb lb) = some g → w2.heap.size ≤ g ∧ g < w3.heap.size := fun g hg => ownOf_at Ry hg
  have hNy : (chgL fb lb) ≠ [] → ∀ g, qy = some (⟨g, 0, none⟩ : Addr) → w2.heap.size ≤ g ∧ g < w3.heap.size := fun hl g hp => OwnS.lt Ry hl hp
  clear ca0 ca1 ca2 lta cb0 cb1 cb2 ltb
  obtain ⟨ca0, ca1, ca2⟩ := Ba.cell3
  have lta := Ba.lt
  obtain ⟨cb0, cb1, cb2⟩ := Bb.cell3
  have ltb := Bb.lt
  go_wp2_with fail
  refine (impl_changes ca fa pa la capa _ (hIa.below hw) hma (fluxOk_sums Ha.out).2).mono ?_
  rintro e w4 ⟨qx, dx, rfl, Rx, hb⟩
  have z4 := hb.size
  replace Ba := Ba.keep hb
  replace Bb := Bb.keep hb
  replace Ry := Ry.below hb
  replace hw := below_st hw hb (Nat.le_refl _)
  clear hb
  have hOx : ∀ g, ownOf qx (chgL fa la) = some g → w3.heap.size ≤ g ∧ g < w4.heap.size := fun g hg => ownOf_at Rx hg
  have hNx : (chgL fa la) ≠ [] → ∀ g, qx = some (⟨g, 0, none⟩ : Addr) → w3.heap.size ≤ g ∧ g < w4.heap.size := fun hl g hp => OwnS.lt Rx hl hp
  clear ca0 ca1 ca2 lta cb0 cb1 cb2 ltb
  obtain ⟨ca0, ca1, ca2⟩ := Ba.cell3
  have lta := Ba.lt
  obtain ⟨cb0, cb1, cb2⟩ := Bb.cell3
  have ltb := Bb.lt
  have ex : (chgL fa la).length = la.length := chgL_len _ _
  have ey : (chgL fb lb).length ≤ 1048576 := by rw [chgL_len]; exact hmb
  have Ix := Rx.ints
  have Iy := Ry.ints
  have HY := Lib.hid (rises_le (chg_rises Hb.out))
  generalize (chgL fa la) = X at ex Ix Rx HJ ⊢
  generalize (chgL fb lb) = Y at ey Iy Ry HJ HY ⊢
  have EX := Lib.hid ex; have EY := Lib.hid ey
  rw [ex]
  clear ex ey
  go_wp2_with fail
  go_loopw [6, 24] (fun m i wr => ∃ k : Nat, k ≤ la.length ∧ i = .int .i64 k ∧ m = .int .i64 (comP X Y k) ∧ wr = w4) (fun _ i _ => la.length - (intOf i).toNat)
  case atStart => exact ⟨0, Nat.zero_le _, rfl, rfl, rfl⟩
  case round =>
    obtain ⟨k, hk, rfl, rfl, rfl⟩ := hrel
    by_cases hlt : k < la.length
    · have hkx : k < X.length := by rw [EX.out]; exact hlt
      obtain ⟨a, rfl, hx⟩ := Ix.at_ hkx
      have hm := comP_bd X Y k
      have hy := @comP_yes X Y k hkx
      have hn := @comP_no X Y k hkx
      obtain ⟨x, hex⟩ : ∃ x, X[k] = x := ⟨_, rfl⟩
      rw [hex] at hx hy hn
      obtain ⟨m, hem⟩ : ∃ m, comP X Y k = m := ⟨_, rfl⟩
      rw [hem] at hm hy hn
      simp only [hem]
      have hcon := fun w' hI => slices_BinarySearch qy Y dy x w' hI EY.out HY.out
      obtain hd | hd := (Bool.eq_false_or_eq_true (decide (x ∈ Y))).symm
      · have HS := Lib.hid (hn hd)
        rw [hd] at hcon
        clear hy hn hem hex hd
        go_wp2_with (go_at_call 61; with_reducible refine (hcon _ (by exact Iy)).mono ?_; rintro e w9 ⟨ix, rfl, rfl⟩)
        refine ⟨⟨k + 1, by omega, by go_num, by rw [HS.out], trivial⟩, by simp [intOf]; omega⟩
      · have HS := Lib.hid (hy hd)
        rw [hd] at hcon
        clear hy hn hem hex hd
        go_wp2_with (go_at_call 61; with_reducible refine (hcon _ (by exact Iy)).mono ?_; rintro e w9 ⟨ix, rfl, rfl⟩)
        refine ⟨⟨k + 1, by omega, by go_num, by rw [HS.out], trivial⟩, by simp [intOf]; omega⟩
    · have ek : k = la.length := by omega
      subst ek
      go_wp2_with fail
      go_returns
      exact ⟨by rw [HJ.out]; rfl, hw⟩
end Go.Proofs.Ytmjmhdjfaamgkaa
