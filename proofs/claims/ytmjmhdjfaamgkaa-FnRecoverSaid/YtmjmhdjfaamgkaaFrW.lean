/- The law's walk: FnRecover. -/
import Derived.Test.YtmjmhdjfaamgkaaFrP2
import Derived.Test.YtmjmhdjfaamgkaaFrMW
import Derived.Test.YtmjmhdjfaamgkaaRecIW
import Derived.Test.YtmjmhdjfaamgkaaClk2W
import Derived.Test.YtmjmhdjfaamgkaaOpenB
import Derived.Test.YtmjmhdjfaamgkaaLawAid
namespace Go.Proofs.Ytmjmhdjfaamgkaa
open Go.RowKit
set_option linter.unusedVariables false
set_option maxHeartbeats 4000000 in
set_option maxRecDepth 20000 in
theorem walk_FnRecover (x y : Byt) (w : World) (hx : x.ok w) (hy : y.ok w) :
    Calls Try.prog 12 #[x.val, y.val] w fun e w' => e = .returned (.bool true) ∧ Below w.heap.size w w' := by
  obtain ⟨p, cs, cap⟩ := x
  obtain ⟨pm, ms, capm⟩ := y
  obtain ⟨hI, -⟩ := hx
  obtain ⟨hM, -⟩ := hy
  simp only [Byt.val] at hI hM ⊢
  have hl1 := laws_b10Long p cs cap w
  have hl2 := laws_b10Long pm ms capm w
  by_cases hc1 : cs.length ≤ 1048576
  rotate_left
  · rw [decide_eq_true (by omega : 1048576 < (cs.length : Int))] at hl1
    go_enter Try.func12, Try.ntmps12
    go_wp2_with fail
    refine hl1.mono ?_
    rintro e w0 ⟨rfl, hww⟩
    rw [hww]
    clear hww w0
    go_wp2_with fail
    go_ret
    exact ⟨rfl, Below.refl _ _⟩
  rw [decide_eq_false (by omega : ¬ 1048576 < (cs.length : Int))] at hl1
  by_cases hc2 : ms.length ≤ 1048576
  rotate_left
  · rw [decide_eq_true (by omega : 1048576 < (ms.length : Int))] at hl2
    go_enter Try.func12, Try.ntmps12
    go_wp2_with fail
    refine hl1.mono ?_
    rintro e w0 ⟨rfl, hww⟩
    rw [hww]
    clear hww w0
    go_wp2_with fail
    refine hl2.mono ?_
    rintro e w0 ⟨rfl, hww⟩
    rw [hww]
    clear hww w0
    go_wp2_with fail
    go_ret
    exact ⟨rfl, Below.refl _ _⟩
  rw [decide_eq_false (by omega : ¬ 1048576 < (ms.length : Int))] at hl2
  go_enter Try.func12, Try.ntmps12
  go_wp2_with fail
  refine hl1.mono ?_
  rintro e w0 ⟨rfl, hww⟩
  rw [hww]
  clear hww w0
  go_wp2_with fail
  refine hl2.mono ?_
  rintro e w0 ⟨rfl, hww⟩
  rw [hww]
  clear hww w0
  go_wp2_with fail
  refine (spec_DrawFluxOf p cs cap _ hI (by omega)).mono ?_
  rintro e w1 ⟨s, c, rfl, hs, hcb, W1⟩
  go_wp2_with fail
  refine (spec_FluxOf s c _ (by omega)).mono ?_
  rintro e w2 ⟨q, dq, rfl, S2, hb2⟩
  have W2 := below_st W1 hb2 (Nat.le_refl _)
  have z1 := W1.size
  have z2 := hb2.size
  by_cases hE : foE s c = 0
  rotate_left
  · generalize foC s c = C0 at *
    generalize foF s c = F0 at *
    generalize foL s c = L0 at *
    generalize foE s c = E0 at *
    have hd : (E0 == 0) = false := by simpa using hE
    have W3 := W2.alloc W2.size (.cells #[.int .i64 C0, .int .i64 F0, .slice q L0.length dq] 24)
    go_wp2_with fail
    go_ret
    exact ⟨rfl, W3⟩
  have hgood := fo_zero hE
  obtain ⟨hc, hb, hN, hne, h4⟩ := fo_parts hgood
  obtain ⟨eC, eF, eL⟩ := fo_yes hgood
  obtain ⟨hok, hsum⟩ := exact_ok hc hN hne h4
  rw [hE, eC, eF, eL]
  rw [eL] at S2
  have HEX := Lib.hid (exact_recover hc hb hN hne h4)
  have HMV := Lib.hid (fun hg T => @moved_recover s c hc hb hN hne hg T)
  have hT0 : foT s c ≠ [] := by unfold foT timesZ; intro e; apply hne; simpa using e
  have hch := chg_gaps hT0 (times_bd hc hN) ((s.size : Int) * c)
  have hft : foT s c = timesZ s.data.toList c s.size := rfl
  rw [← hft] at HEX HMV hok hsum
  have hTlen : (foT s c).length = (onesL s.data.toList s.size).length := timesZ_len _ _ _
  have hGlen := gapsT_len (foT s c) ((s.size : Int) * c) (by have : 0 < (foT s c).length := List.length_pos_iff.2 hT0; omega)
  have hLl : (gapsT (foT s c) ((s.size : Int) * c)).length ≤ 4000 := by omega
  obtain ⟨f, ef⟩ : ∃ f, (foT s c).headD 0 = f := ⟨_, rfl⟩
  obtain ⟨L, eL2⟩ : ∃ L, gapsT (foT s c) ((s.size : Int) * c) = L := ⟨_, rfl⟩
  rw [ef] at HEX hok hch ⊢
  rw [eL2] at HEX hok hch hsum hLl S2 HMV ⊢
  have HCH := Lib.hid hch
  have HSUM := Lib.hid hsum
  have HOK := Lib.hid hok
  clear hE hgood hne h4 eC eF eL hok hsum hT0 hch hft hTlen hGlen ef eL2 hb hl1 hl2
  generalize foT s c = TT at *
  have BF := Blk.new w2 24 #[.int .i64 c, .int .i64 f, .slice q L.length dq]
  have zF := Nat.le_refl w2.heap.size
  replace S2 := S2.below ((Below.refl _ w2).alloc (Nat.le_refl _) (.cells #[.int .i64 c, .int .i64 f, .slice q L.length dq] 24))
  replace W2 := W2.alloc W2.size (.cells #[.int .i64 c, .int .i64 f, .slice q L.length dq] 24)
  go_wp2_with fail
  generalize w2.alloc (.cells #[.int .i64 c, .int .i64 f, .slice q L.length dq] 24) = w3 at BF S2 W2 ⊢
  obtain ⟨bf, ebf⟩ : ∃ bf, w2.heap.size = bf := ⟨_, rfl⟩
  rw [ebf] at BF z2 ⊢
  have hpv : plainV c = .tuple #[.agg #[.int .i64 c, .int .i64 c, .int .i64 c, .int .i64 0, .int .i64 0], .int .i64 0] := by unfold plainV; rw [inB_yes hc]; rfl
  have hpc := impl_PlainClock c w3
  rw [hpv] at hpc
  clear hpv
  refine hpc.mono ?_
  rintro e w4 ⟨rfl, hb4⟩
  replace BF := (BF.keep hb4).keep ((Below.refl _ w4).alloc (Nat.le_refl _) (.cells #[.int .i64 c, .int .i64 c, .int .i64 c, .int .i64 0, .int .i64 0] 67))
  replace S2 := (S2.below hb4).below ((Below.refl _ w4).alloc (Nat.le_refl _) (.cells #[.int .i64 c, .int .i64 c, .int .i64 c, .int .i64 0, .int .i64 0] 67))
  have W4 := (below_st W2 hb4 (Nat.le_refl _)).alloc (below_st W2 hb4 (Nat.le_refl _)).size (.cells #[.int .i64 c, .int .i64 c, .int .i64 c, .int .i64 0, .int .i64 0] 67)
  have BK := Blk.new w4 67 #[.int .i64 c, .int .i64 c, .int .i64 c, .int .i64 0, .int .i64 0]
  clear hpc hb4
  go_wp2_with fail
  generalize w4.alloc (.cells #[.int .i64 c, .int .i64 c, .int .i64 c, .int .i64 0, .int .i64 0] 67) = w5 at BF S2 W4 BK ⊢
  obtain ⟨bk, ebk⟩ : ∃ bk, w4.heap.size = bk := ⟨_, rfl⟩
  rw [ebk] at BK ⊢
  obtain ⟨f0, f1, f2⟩ := BF.cell3
  obtain ⟨k0, k1, k2, k3, k4⟩ := BK.cell5
  have q99 : IntKind.i64.wrap (99 * c) = 99 * c := IntWalk.i64_in _ (by omega)
  have hI5 := S2.ints
  go_loopw [11] (fun i wr => ∃ k : Nat, k ≤ L.length ∧ i = .int .i64 k ∧ Hid (∀ j (h : j < L.length), j < k → L[j] ≤ 99 * c) ∧ w5 = wr) (fun i _ => L.length - (intOf i).toNat)
  case atStart => exact ⟨0, Nat.zero_le _, rfl, fun j _ h => absurd h (Nat.not_lt_zero _), rfl⟩
  case round =>
    obtain ⟨k, hk, rfl, HA, rfl⟩ := hrel
    by_cases hlt : k < L.length
    · obtain ⟨a, rfl, hx⟩ := hI5.at_ hlt
      by_cases hle : L[k] ≤ 99 * c
      · have HN : Hid (∀ j (h : j < L.length), j < k + 1 → L[j] ≤ 99 * c) := Lib.hid fun j h hj => by
          by_cases e : j = k
          · subst e; exact hle
          · exact HA.out j h (by omega)
        generalize L[k] = z at hx hle
        go_wp2_with fail
        exact ⟨⟨k + 1, by omega, by go_num, HN, trivial⟩, by simp [intOf]; omega⟩
      · have hlt2 : 99 * c < L[k] := by omega
        generalize L[k] = z at hx hle hlt2
        go_wp2_with fail
        go_ret
        exact ⟨rfl, W4⟩
    · have hall : ∀ x ∈ L, x ≤ 99 * c := fun x hx => by
        obtain ⟨j, hj, rfl⟩ := List.getElem_of_mem hx
        exact HA.out j hj (by omega)
      obtain ⟨x1, x2⟩ := HEX.out hall
      have HM2 := Lib.hid (HMV.out hall)
      have hrc := fun w' hI' => impl_RecoverCells (plainC c) c f q L dq w' hI' (by omega)
      rw [x1, x2] at hrc
      have hkk : k = L.length := by omega
      subst hkk
      clear hall x1 x2 HA HEX HMV
      have hkv : (plainC c).val = .agg #[.int .i64 c, .int .i64 c, .int .i64 c, .int .i64 0, .int .i64 0] := rfl
      rw [hkv] at hrc
      go_wp2_with fail
      refine (hrc _ hI5).mono ?_
      rintro e w6 ⟨rfl, hb6⟩
      replace BF := BF.keep hb6
      replace BK := BK.keep hb6
      replace S2 := S2.below hb6
      replace W4 := below_st W4 hb6 (Nat.le_refl _)
      clear hb6 f0 f1 f2 k0 k1 k2 k3 k4 hI5
      obtain ⟨f0, f1, f2⟩ := BF.cell3
      obtain ⟨k0, k1, k2, k3, k4⟩ := BK.cell5
      go_wp2_with fail
      refine (laws_b10Moved c f q L dq pm ms capm _ S2.ints (by omega) (hM.below W4) (by omega) HOK.out).mono ?_
      rintro e w7 ⟨c', f', q', L', dq', v, rfl, hmv, hL', S7, hb7⟩
      replace BK := (BK.keep hb7).keep ((Below.refl _ w7).alloc (Nat.le_refl _) (.cells #[.int .i64 c', .int .i64 f', .slice q' L'.length dq'] 24))
      replace S7 := S7.below ((Below.refl _ w7).alloc (Nat.le_refl _) (.cells #[.int .i64 c', .int .i64 f', .slice q' L'.length dq'] 24))
      have W7 := (below_st W4 hb7 (Nat.le_refl _)).alloc (below_st W4 hb7 (Nat.le_refl _)).size (.cells #[.int .i64 c', .int .i64 f', .slice q' L'.length dq'] 24)
      have BG := Blk.new w7 24 #[.int .i64 c', .int .i64 f', .slice q' L'.length dq']
      clear hb7 f0 f1 f2 k0 k1 k2 k3 k4
      cases v
      · go_wp2_with fail
        go_ret
        exact ⟨rfl, W7⟩
      obtain ⟨rfl, hok', T, hTl, hTd, rfl, hLe⟩ := hmv rfl
      simp only [HCH.out] at hTd
      rw [HSUM.out] at hLe
      subst hLe
      have hTT : T.length = TT.length := by rw [hTl, ← chgL_len f L, HCH.out]
      obtain ⟨y1, y2⟩ := HM2.out T hTT (fun i h h2 => hTd i h h2) hok'
      have hrc := fun w' hI' => impl_RecoverCells (plainC c') c' (T.headD 0) q' (gapsT T ((s.size : Int) * c')) dq' w' hI' (by omega)
      rw [y1, y2, hkv] at hrc
      obtain ⟨f', ef'⟩ : ∃ f', T.headD 0 = f' := ⟨_, rfl⟩
      obtain ⟨L', eL'⟩ : ∃ L', gapsT T ((s.size : Int) * c') = L' := ⟨_, rfl⟩
      rw [ef'] at hrc BG S7 W7 BK ⊢
      rw [eL'] at hrc BG S7 W7 BK ⊢
      clear ef' eL' y1 y2 hTd hTT hok' hmv
      obtain ⟨k0, k1, k2, k3, k4⟩ := BK.cell5
      obtain ⟨g0, g1, g2⟩ := BG.cell3
      go_wp2_with fail
      refine (hrc _ S7.ints).mono ?_
      rintro e w9 ⟨rfl, hb9⟩
      have W9 := below_st W7 hb9 (Nat.le_refl _)
      go_wp2_with fail
      go_ret
      exact ⟨rfl, W9⟩
end Go.Proofs.Ytmjmhdjfaamgkaa
