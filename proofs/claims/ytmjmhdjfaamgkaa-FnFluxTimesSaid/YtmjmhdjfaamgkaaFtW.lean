/- The law's walk: FnFluxTimes. -/
import Derived.Test.YtmjmhdjfaamgkaaFtP
import Derived.Test.YtmjmhdjfaamgkaaA2W
import Derived.Deep.RegionHeld3
import Derived.Deep.DeepCutAuto
namespace Go.Proofs.Ytmjmhdjfaamgkaa
open Go.RowKit
set_option linter.unusedVariables false
theorem OwnS.belowB {w w' : World} {base B : Nat} {p : Option Addr} {l : List Int} (h : OwnS w base p l) (hlt : l ≠ [] → ∀ g, p = some ⟨g, 0, none⟩ → g < B) (hb : Below B w w') : OwnS w' base p l := by
  intro hl
  obtain ⟨g, rfl, hg, hr⟩ := h hl
  exact ⟨g, rfl, hg, hr.aside (hlt hl g rfl) hb⟩
set_option maxHeartbeats 4000000 in
set_option maxRecDepth 20000 in
theorem walk_FnFluxTimes (x : Byt) (w : World) (hx : x.ok w) :
    Calls Try.prog 10 #[x.val] w fun e w' => e = .returned (.bool true) ∧ Below w.heap.size w w' := by
  obtain ⟨p, cs, cap⟩ := x
  obtain ⟨hI, -⟩ := hx
  simp only [Byt.val] at hI ⊢
  have hlong := fun w' => laws_a2Long p none cs [] cap 0 w'
  by_cases hl : cs.length ≤ 3000
  rotate_left
  · have hd : (decide (3000 < (cs.length : Int)) || decide (3000 < (([] : List UInt8).length : Int))) = true := by rw [decide_eq_true (by omega : 3000 < (cs.length : Int))]; rfl
    rw [hd] at hlong
    go_enter Try.func10, Try.ntmps10
    go_wp2_with fail
    refine (hlong _).mono ?_
    rintro e w0 ⟨rfl, rfl⟩
    go_wp2_with fail
    go_ret
    exact ⟨rfl, Below.refl _ _⟩
  have hd : (decide (3000 < (cs.length : Int)) || decide (3000 < (([] : List UInt8).length : Int))) = false := by rw [decide_eq_false (by omega : ¬ 3000 < (cs.length : Int))]; rfl
  rw [hd] at hlong
  go_enter Try.func10, Try.ntmps10
  go_wp2_with fail
  refine (hlong _).mono ?_
  rintro e w0 ⟨rfl, rfl⟩
  go_wp2_with fail
  refine (spec_A2Flux p cs cap _ hI (by omega)).mono ?_
  rintro e w1 ⟨c, f, q, l, d, rfl, hok, hm, S1, W1⟩
  have z1 := W1.size
  have BF := Blk.new w1 24 #[.int .i64 c, .int .i64 f, .slice q l.length d]
  replace S1 := S1.below ((Below.refl _ w1).alloc (Nat.le_refl _) (.cells #[.int .i64 c, .int .i64 f, .slice q l.length d] 24))
  replace W1 := W1.alloc W1.size (.cells #[.int .i64 c, .int .i64 f, .slice q l.length d] 24)
  have z1' : w1.heap.size < (w1.alloc (.cells #[.int .i64 c, .int .i64 f, .slice q l.length d] 24)).heap.size := by simp
  go_wp2_with fail
  generalize w1.alloc (.cells #[.int .i64 c, .int .i64 f, .slice q l.length d] 24) = w2 at *
  obtain ⟨bx, ebx⟩ : ∃ bx, w1.heap.size = bx := ⟨_, rfl⟩
  rw [ebx] at z1 BF z1' ⊢
  refine (impl_ChangesOf c f q l d _ S1.ints (by omega)).mono ?_
  rintro e w3 ⟨qt, dt, rfl, ST, hb3⟩
  obtain ⟨hrv, hch⟩ := rev_ok hok
  rw [hch] at ST ⊢
  replace BF := BF.keep hb3
  replace S1 := S1.below hb3
  replace W1 := below_st W1 hb3 (Nat.le_refl _)
  have z3 := hb3.size
  have zW := W1.size
  obtain ⟨B0, eB0⟩ : ∃ B0, w0.heap.size = B0 := ⟨_, rfl⟩
  replace ST : OwnS w3 w0.heap.size qt (chgL f l) := ST.mono (by omega)
  rw [eB0] at S1 ST
  obtain ⟨hC, hF, hL, hE⟩ := tm_chg hok
  have hlen := (fluxOk_bd hok).2.1
  have hsum := (fluxOk_bd hok).2.2.2.2.2
  have hTl : (chgL f l).length ≤ 1048576 := by rw [chgL_len]; omega
  have hTL := chgL_len f l
  have CD := fun (w5 : World) (h : IntsAt w5 qt (chgL f l)) => impl_FluxOfTimes qt (chgL f l) dt l.sum c w5 h hTl (by omega)
  rw [hC, hF, hL, hE] at CD
  have CR := fun (w5 : World) (h : IntsAt w5 q l) => impl_RevolutionOf c f q l d w5 h (by omega)
  rw [hrv] at CR
  have HJ := Lib.hid (jit_self hok)
  have HCM := Lib.hid (com_self hok)
  have HLT := Lib.hid hTL
  generalize chgL f l = T at *
  simp only [hTL] at CD
  rw [hTL]
  have hql : l ≠ [] → ∀ g, q = some (⟨g, 0, none⟩ : Addr) → g < w3.heap.size := fun hl g hp => (S1.lt hl hp).2
  have hqt : T ≠ [] → ∀ g, qt = some (⟨g, 0, none⟩ : Addr) → g < w3.heap.size := fun hl g hp => (ST.lt hl hp).2
  have hbx := BF.lt
  clear hb3 hok hC hF hL hE hrv hch hTL
  obtain ⟨f0, f1, f2⟩ := BF.cell3
  go_wp2_with fail
  have keepB : ∀ y1 y2 : World, ((bx < y1.heap.size ∧ y1.cell? ⟨bx, 0, none⟩ = some (.int .i64 c) ∧ y1.cell? ⟨bx, 1, none⟩ = some (.int .i64 f) ∧ y1.cell? ⟨bx, 2, none⟩ = some (.slice q l.length d)) ∧ Blk y1 bx 24 #[.int .i64 c, .int .i64 f, .slice q l.length d] ∧ OwnS y1 B0 q l ∧ OwnS y1 B0 qt T ∧ Below w0.heap.size w0 y1) → Below w3.heap.size y1 y2 → ((bx < y2.heap.size ∧ y2.cell? ⟨bx, 0, none⟩ = some (.int .i64 c) ∧ y2.cell? ⟨bx, 1, none⟩ = some (.int .i64 f) ∧ y2.cell? ⟨bx, 2, none⟩ = some (.slice q l.length d)) ∧ Blk y2 bx 24 #[.int .i64 c, .int .i64 f, .slice q l.length d] ∧ OwnS y2 B0 q l ∧ OwnS y2 B0 qt T ∧ Below w0.heap.size w0 y2) := by
    rintro y1 y2 ⟨⟨s0, s1, s2, s3⟩, s4, s5, s6, s7⟩ hb
    have hc : ∀ o, y2.cell? ⟨bx, o, none⟩ = y1.cell? ⟨bx, o, none⟩ := fun o => hb.cell (p := ⟨bx, o, none⟩) hbx
    have := hb.size
    exact ⟨⟨by omega, (hc 0).trans s1, (hc 1).trans s2, (hc 2).trans s3⟩, s4.below hb hbx, s5.belowB hql hb, s6.belowB hqt hb, s7.trans (hb.mono zW)⟩
  have keepW : ∀ (y : World) (b : Nat) (v0 v1 v2 : Value), w3.heap.size ≤ b → ((bx < y.heap.size ∧ y.cell? ⟨bx, 0, none⟩ = some (.int .i64 c) ∧ y.cell? ⟨bx, 1, none⟩ = some (.int .i64 f) ∧ y.cell? ⟨bx, 2, none⟩ = some (.slice q l.length d)) ∧ Blk y bx 24 #[.int .i64 c, .int .i64 f, .slice q l.length d] ∧ OwnS y B0 q l ∧ OwnS y B0 qt T ∧ Below w0.heap.size w0 y) → ((bx < (((y.setCell ⟨b, 0, none⟩ v0).setCell ⟨b, 1, none⟩ v1).setCell ⟨b, 2, none⟩ v2).heap.size ∧ (((y.setCell ⟨b, 0, none⟩ v0).setCell ⟨b, 1, none⟩ v1).setCell ⟨b, 2, none⟩ v2).cell? ⟨bx, 0, none⟩ = some (.int .i64 c) ∧ (((y.setCell ⟨b, 0, none⟩ v0).setCell ⟨b, 1, none⟩ v1).setCell ⟨b, 2, none⟩ v2).cell? ⟨bx, 1, none⟩ = some (.int .i64 f) ∧ (((y.setCell ⟨b, 0, none⟩ v0).setCell ⟨b, 1, none⟩ v1).setCell ⟨b, 2, none⟩ v2).cell? ⟨bx, 2, none⟩ = some (.slice q l.length d)) ∧ Blk (((y.setCell ⟨b, 0, none⟩ v0).setCell ⟨b, 1, none⟩ v1).setCell ⟨b, 2, none⟩ v2) bx 24 #[.int .i64 c, .int .i64 f, .slice q l.length d] ∧ OwnS (((y.setCell ⟨b, 0, none⟩ v0).setCell ⟨b, 1, none⟩ v1).setCell ⟨b, 2, none⟩ v2) B0 q l ∧ OwnS (((y.setCell ⟨b, 0, none⟩ v0).setCell ⟨b, 1, none⟩ v1).setCell ⟨b, 2, none⟩ v2) B0 qt T ∧ Below w0.heap.size w0 (((y.setCell ⟨b, 0, none⟩ v0).setCell ⟨b, 1, none⟩ v1).setCell ⟨b, 2, none⟩ v2)) := fun y b v0 v1 v2 hb h =>
    keepB _ _ h ((((Below.refl w3.heap.size y).setCell (p := ⟨b, 0, none⟩) hb v0).setCell (p := ⟨b, 1, none⟩) hb v1).setCell (p := ⟨b, 2, none⟩) hb v2)
  have S0 : (bx < w3.drew.heap.size ∧ w3.drew.cell? ⟨bx, 0, none⟩ = some (.int .i64 c) ∧ w3.drew.cell? ⟨bx, 1, none⟩ = some (.int .i64 f) ∧ w3.drew.cell? ⟨bx, 2, none⟩ = some (.slice q l.length d)) ∧ Blk w3.drew bx 24 #[.int .i64 c, .int .i64 f, .slice q l.length d] ∧ OwnS w3.drew B0 q l ∧ OwnS w3.drew B0 qt T ∧ Below w0.heap.size w0 w3.drew := ⟨⟨BF.lt, f0, f1, f2⟩, BF.drew, S1.below (Below.refl _ _).drew, ST.below (Below.refl _ _).drew, W1.drew⟩
  have SA : (bx < (w3.alloc (.cells #[.int .i64 0, .int .i64 0, .slice none 0 0] 24)).drew.heap.size ∧ (w3.alloc (.cells #[.int .i64 0, .int .i64 0, .slice none 0 0] 24)).drew.cell? ⟨bx, 0, none⟩ = some (.int .i64 c) ∧ (w3.alloc (.cells #[.int .i64 0, .int .i64 0, .slice none 0 0] 24)).drew.cell? ⟨bx, 1, none⟩ = some (.int .i64 f) ∧ (w3.alloc (.cells #[.int .i64 0, .int .i64 0, .slice none 0 0] 24)).drew.cell? ⟨bx, 2, none⟩ = some (.slice q l.length d)) ∧ Blk (w3.alloc (.cells #[.int .i64 0, .int .i64 0, .slice none 0 0] 24)).drew bx 24 #[.int .i64 c, .int .i64 f, .slice q l.length d] ∧ OwnS (w3.alloc (.cells #[.int .i64 0, .int .i64 0, .slice none 0 0] 24)).drew B0 q l ∧ OwnS (w3.alloc (.cells #[.int .i64 0, .int .i64 0, .slice none 0 0] 24)).drew B0 qt T ∧ Below w0.heap.size w0 (w3.alloc (.cells #[.int .i64 0, .int .i64 0, .slice none 0 0] 24)).drew := keepB _ _ S0 ((Below.refl _ w3.drew).alloc (Nat.le_refl _) _)
  go_cut [5, 6] (fun gv cv wx => ∃ (b : Nat) (q5 : Option Addr) (d5 : Nat), gv = .pointer (some ⟨b, 0, none⟩) ∧ cv = .int .i64 0 ∧ Blk wx b 24 #[.int .i64 c, .int .i64 f, .slice q5 l.length d5] ∧ OwnS wx B0 q5 l ∧ Blk wx bx 24 #[.int .i64 c, .int .i64 f, .slice q l.length d] ∧ OwnS wx B0 q l ∧ Below w0.heap.size w0 wx)
  case first =>
    go_region_held3 (fun w' => (bx < w'.heap.size ∧ w'.cell? ⟨bx, 0, none⟩ = some (.int .i64 c) ∧ w'.cell? ⟨bx, 1, none⟩ = some (.int .i64 f) ∧ w'.cell? ⟨bx, 2, none⟩ = some (.slice q l.length d)) ∧ Blk w' bx 24 #[.int .i64 c, .int .i64 f, .slice q l.length d] ∧ OwnS w' B0 q l ∧ OwnS w' B0 qt T ∧ Below w0.heap.size w0 w')
      (first | with_reducible exact S0 | with_reducible exact SA | with_reducible exact S4 | with_reducible exact S5 | exact keepB _ _ S4 ((Below.refl _ _).alloc (by have := hb4.size; first | exact this | (simp at this; omega)) _) | exact keepB _ _ S5 ((Below.refl _ _).alloc (Nat.le_trans hz4 hz5) _) | exact keepW _ _ _ _ _ (Nat.le_refl _) S5 | exact keepW _ _ _ _ _ hz4 S5 | go_keep)
      (first | (go_at_call 15; refine (CD _ (by first | exact S4.2.2.2.1.ints | exact (S4.2.2.2.1.below ((Below.refl _ _).alloc (Nat.le_refl _) _)).ints)).mono ?_; rintro e w5 ⟨q5, d5, rfl, SR, hb5⟩; have hz5 := hb5.size; have S5 : (bx < w5.heap.size ∧ w5.cell? ⟨bx, 0, none⟩ = some (.int .i64 c) ∧ w5.cell? ⟨bx, 1, none⟩ = some (.int .i64 f) ∧ w5.cell? ⟨bx, 2, none⟩ = some (.slice q l.length d)) ∧ Blk w5 bx 24 #[.int .i64 c, .int .i64 f, .slice q l.length d] ∧ OwnS w5 B0 q l ∧ OwnS w5 B0 qt T ∧ Below w0.heap.size w0 w5 := (by first | exact keepB _ _ S4 (hb5.mono hz4) | exact keepB _ _ (keepB _ _ S4 ((Below.refl _ _).alloc hz4 _)) (hb5.mono (by simp; omega))); (try (first | have y5 := y4.keep hb5 | have y5 := (Blk.new w4 24 #[.int .i64 0, .int .i64 0, .slice none 0 0]).keep hb5); obtain ⟨u0, u1, u2⟩ := y5.cell3; have u3 := y5.frozen; have u4 := y5.lt)) | (go_at_call 41; refine (CR _ (by first | exact S0.2.2.1.ints | exact SA.2.2.1.ints)).mono ?_; rintro e w4 ⟨rfl, hb4⟩; have hz4 : w3.heap.size ≤ w4.heap.size := (by have := hb4.size; first | exact this | (simp [World.drew] at this; omega)); have S4 : (bx < w4.heap.size ∧ w4.cell? ⟨bx, 0, none⟩ = some (.int .i64 c) ∧ w4.cell? ⟨bx, 1, none⟩ = some (.int .i64 f) ∧ w4.cell? ⟨bx, 2, none⟩ = some (.slice q l.length d)) ∧ Blk w4 bx 24 #[.int .i64 c, .int .i64 f, .slice q l.length d] ∧ OwnS w4 B0 q l ∧ OwnS w4 B0 qt T ∧ Below w0.heap.size w0 w4 := (by first | exact keepB _ _ S0 hb4 | exact keepB _ _ SA (hb4.mono (by show w3.heap.size ≤ (w3.alloc (.cells #[.int .i64 0, .int .i64 0, .slice none 0 0] 24)).heap.size; simp))); (try have y4 := (Blk.drew (Blk.new w3 24 #[.int .i64 0, .int .i64 0, .slice none 0 0])).keep hb4)))
    all_goals
      go_wp2_with fail
      go_meet
      have hB4 : B0 ≤ w4.heap.size := by omega
      first
        | exact ⟨w5.heap.size, q5, d5, rfl, rfl, Blk.new w5 24 #[.int .i64 c, .int .i64 f, .slice q5 l.length d5], (SR.below ((Below.refl _ w5).alloc (Nat.le_refl _) _)).mono hB4, (keepB _ _ S5 ((Below.refl _ w5).alloc (Nat.le_trans hz4 hz5) _)).2.1, (keepB _ _ S5 ((Below.refl _ w5).alloc (Nat.le_trans hz4 hz5) _)).2.2.1, (keepB _ _ S5 ((Below.refl _ w5).alloc (Nat.le_trans hz4 hz5) _)).2.2.2.2⟩
        | exact ⟨w4.heap.size, q5, d5, rfl, rfl, y5.set3 _ _ _, (((SR.offS (g' := w4.heap.size) (by simp) 0 _).offS (g' := w4.heap.size) (by simp) 1 _).offS (g' := w4.heap.size) (by simp) 2 _).mono (by simp; omega), (keepW _ _ _ _ _ hz4 S5).2.1, (keepW _ _ _ _ _ hz4 S5).2.2.1, (keepW _ _ _ _ _ hz4 S5).2.2.2.2⟩
        | exact ⟨w3.heap.size, q5, d5, rfl, rfl, y5.set3 _ _ _, (((SR.offS (g' := w3.heap.size) (by have h9 : (w3.alloc (.cells #[.int .i64 0, .int .i64 0, .slice none 0 0] 24)).heap.size ≤ w4.heap.size := hb4.size; simp at h9; omega) 0 _).offS (g' := w3.heap.size) (by have h9 : (w3.alloc (.cells #[.int .i64 0, .int .i64 0, .slice none 0 0] 24)).heap.size ≤ w4.heap.size := hb4.size; simp at h9; omega) 1 _).offS (g' := w3.heap.size) (by have h9 : (w3.alloc (.cells #[.int .i64 0, .int .i64 0, .slice none 0 0] 24)).heap.size ≤ w4.heap.size := hb4.size; simp at h9; omega) 2 _).mono hB4, (keepW _ _ _ _ _ (Nat.le_refl _) S5).2.1, (keepW _ _ _ _ _ (Nat.le_refl _) S5).2.2.1, (keepW _ _ _ _ _ (Nat.le_refl _) S5).2.2.2.2⟩
  case rest =>
    obtain ⟨b, q5, d5, rfl, rfl, BG, SG, BX, SX, WX⟩ := hcut
    obtain ⟨wx, hwc⟩ : ∃ wx, wx = wc := ⟨_, rfl⟩
    subst hwc
    clear S0 SA keepB keepW f0 f1 f2 BF S1 ST W1 CD CR hql hqt
    obtain ⟨f0, f1, f2⟩ := BX.cell3
    obtain ⟨g0, g1, g2⟩ := BG.cell3
    have lt1 := BX.lt
    have lt2 := BG.lt
    go_wp2_with fail
    refine (impl_JitterBetween c f q l d c f q5 l d5 _ SX.ints SG.ints (by omega) (by omega)).mono ?_
    rintro e w7 ⟨rfl, hb7⟩
    rw [HJ.out.1, HJ.out.2]
    replace BX := BX.keep hb7
    replace BG := BG.keep hb7
    replace SX := SX.below hb7
    replace SG := SG.below hb7
    replace WX := below_st WX hb7 (Nat.le_refl _)
    clear f0 f1 f2 g0 g1 g2 lt1 lt2 hb7
    obtain ⟨f0, f1, f2⟩ := BX.cell3
    obtain ⟨g0, g1, g2⟩ := BG.cell3
    have lt1 := BX.lt
    have lt2 := BG.lt
    go_wp2_with fail
    refine (impl_SameFlux c f q l d c f q5 l d5 _ SX.ints SG.ints (by omega) (by omega)).mono ?_
    rintro e w8 ⟨rfl, hb8⟩
    rw [same_self]
    replace BX := BX.keep hb8
    replace BG := BG.keep hb8
    replace SX := SX.below hb8
    replace SG := SG.below hb8
    replace WX := below_st WX hb8 (Nat.le_refl _)
    clear f0 f1 f2 g0 g1 g2 lt1 lt2 hb8
    obtain ⟨f0, f1, f2⟩ := BX.cell3
    obtain ⟨g0, g1, g2⟩ := BG.cell3
    have lt1 := BX.lt
    have lt2 := BG.lt
    go_wp2_with fail
    refine (impl_CommonChanges c f q l d c f q5 l d5 _ SX.ints SG.ints (by omega) (by omega)).mono ?_
    rintro e w9 ⟨rfl, hb9⟩
    rw [HCM.out]
    replace WX := below_st WX hb9 (Nat.le_refl _)
    go_wp2_with fail
    go_ret
    exact ⟨rfl, WX⟩
end Go.Proofs.Ytmjmhdjfaamgkaa
