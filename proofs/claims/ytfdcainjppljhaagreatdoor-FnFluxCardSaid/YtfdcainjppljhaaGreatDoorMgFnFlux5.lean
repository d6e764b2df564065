/- The law's walk: FnFlux. Facts on the translation as a whole that every law's row asks, each proved once: the head's words, the tables. No function is walked here. -/
import Derived.Test.YtfdcainjppljhaaGreatDoorMgFnFlux1
import Derived.Test.YtfdcainjppljhaaGreatDoorMgFnFlux2
import Derived.Test.YtfdcainjppljhaaGreatDoorMgFnFlux3
import Derived.Test.YtfdcainjppljhaaGreatDoorMgFnFlux4
import Derived.Deep.DeepCutAuto
import Derived.Test.YtfdcainjppljhaaGreatDoorRows
import Derived.JoinedOf
import Derived.KernelRfl
import Derived.ProofKit
namespace Go.Proofs.YtfdcainjppljhaaGreatDoor
open Go.RowKit Go.Sort
set_option linter.unusedVariables false
theorem rev_okF {c f : Int} {l : List Int} (h : fluxOk c f l = true) : revV c f l = l.sum ∧ chV c f l = chgL f l := by
  unfold revV chV
  rw [h]; exact ⟨rfl, rfl⟩
theorem same_selfF (c f : Int) (l : List Int) : sameV c f l c f l = true := by unfold sameV; simp
theorem Vrs.drew {w : World} (h : Vrs w) : Vrs w.drew := h.below (Below.refl _ _).drew
/-- The list's next element is this one's place. -/
theorem ones_at {L : List UInt8} {k n : Nat} (hk : k < n) (h : L.getD k 0 = 49) : ∃ h2 : (onesL L k).length < (onesL L n).length, (onesL L n)[(onesL L k).length] = k := by
  obtain ⟨m, rfl⟩ : ∃ m, n = k + 1 + m := ⟨n - (k + 1), by omega⟩
  have e : ∃ R, onesL L (k + 1 + m) = onesL L (k + 1) ++ R := by
    unfold onesL
    rw [List.range_add, List.filter_append]
    exact ⟨_, rfl⟩
  obtain ⟨R, e⟩ := e
  rw [onesL_yes h, List.append_assoc] at e
  refine ⟨by rw [e, List.length_append]; simp, ?_⟩
  have : (onesL L (k + 1 + m))[(onesL L k).length]? = some k := by
    rw [e, List.getElem?_append_right (Nat.le_refl _), Nat.sub_self]
    rfl
  exact (List.getElem?_eq_some_iff.1 this).2
theorem txtV_size (c f : Int) (l : List Int) : (txtV c f l).size ≤ 1048576 := by
  unfold txtV
  cases h : fluxOk c f l
  · show (0 : Nat) ≤ _; omega
  · obtain ⟨hc, hl, hm, -, hf, -⟩ := fluxOk_bd h
    have := txtL_len (c := c) (f := f) (l := l) (by omega) (by omega) (fun x hx => by have := hm x hx; omega)
    show (txtL c f l).toArray.size ≤ _
    rw [List.size_toArray]
    omega
set_option maxHeartbeats 4000000 in
set_option maxRecDepth 20000 in
theorem walk_FnFlux (x y : Byt) (w : World) (hx : x.ok w) (hy : y.ok w) (hV : Vrs w) :
    Calls Tryz.prog 3 #[x.val, y.val] w fun e w' => e = .returned (.bool true) ∧ Below w.heap.size w w' := by
  obtain ⟨p, cs, cap⟩ := x
  obtain ⟨pm, ms, capm⟩ := y
  obtain ⟨hI, -⟩ := hx
  obtain ⟨hM, -⟩ := hy
  simp only [Byt.val] at hI hM ⊢
  by_cases h1 : 1048576 < cs.length
  · have d1 : decide (1048576 < (cs.length : Int)) = true := decide_eq_true (by omega)
    have hA := laws_b10Long p cs cap w
    rw [d1] at hA
    go_enter Tryz.func3, Tryz.ntmps3
    go_wp2_with fail
    refine hA.mono ?_
    rintro e w0 ⟨rfl, hww⟩
    rw [hww]
    clear hww w0
    go_wp2_with fail
    go_ret
    exact ⟨rfl, Below.refl _ _⟩
  have d1 : decide (1048576 < (cs.length : Int)) = false := decide_eq_false (by omega)
  have hA := laws_b10Long p cs cap w
  rw [d1] at hA
  by_cases h2 : 1048576 < ms.length
  · have d2 : decide (1048576 < (ms.length : Int)) = true := decide_eq_true (by omega)
    have hB := laws_b10Long pm ms capm w
    rw [d2] at hB
    go_enter Tryz.func3, Tryz.ntmps3
    go_wp2_with fail
    refine hA.mono ?_
    rintro e w0 ⟨rfl, hww⟩
    rw [hww]
    clear hww w0
    go_wp2_with fail
    refine hB.mono ?_
    rintro e w0 ⟨rfl, hww⟩
    rw [hww]
    clear hww w0
    go_wp2_with fail
    go_ret
    exact ⟨rfl, Below.refl _ _⟩
  have d2 : decide (1048576 < (ms.length : Int)) = false := decide_eq_false (by omega)
  have hB := laws_b10Long pm ms capm w
  rw [d2] at hB
  go_enter Tryz.func3, Tryz.ntmps3
  go_wp2_with fail
  refine hA.mono ?_
  rintro e w0 ⟨rfl, hww⟩
  rw [hww]
  clear hww w0
  go_wp2_with fail
  refine hB.mono ?_
  rintro e w0 ⟨rfl, hww⟩
  rw [hww]
  clear hww w0 hA hB d1 d2
  go_wp2_with fail
  refine (spec_DrawFluxOf p cs cap _ hI (by omega)).mono ?_
  rintro e w1 ⟨s, c, rfl, hsz, hcc, W1⟩
  go_wp2_with fail
  refine (impl_FluxOf s c _ (by omega)).mono ?_
  rintro e w2 ⟨q, dq, rfl, S2, hb2⟩
  have W2 := below_st W1 hb2 (Nat.le_refl _)
  clear hI W1 hb2
  by_cases hE : foE s c = 0
  rotate_left
  · have W3 := W2.alloc W2.size (.cells #[.int .i64 (foC s c), .int .i64 (foF s c), .slice q (foL s c).length dq] 28)
    generalize foC s c = C at *
    generalize foF s c = F at *
    generalize foL s c = L at *
    obtain ⟨E, eE⟩ : ∃ E, foE s c = E := ⟨_, rfl⟩
    rw [eE] at hE ⊢
    have dE : (E != 0) = true := by simpa using hE
    clear eE
    go_wp2_with fail
    go_ret
    exact ⟨rfl, W3⟩
  obtain ⟨hc, hz, hcb, eC, hok, hsum, hch, hTne⟩ := flux_law hE
  have HRT := Lib.hid (read_txt hok)
  have hturn := fun k hk => turn_law (k := k) hE hk
  have HTU := Lib.hid hturn
  have hrev := rev_okF hok
  rw [hsum, hch] at hrev
  have hll : (foL s c).length ≤ 4000 := foL_len s c
  have hTl : (foT s c).length = (foL s c).length := by rw [← hch, chgL_len]
  have hTo : Hid (foT s c = (onesL s.data.toList s.size).map fun (i : Nat) => (i : Int) * c + c / 2) := Lib.hid rfl
  rw [hE, eC]
  clear hturn
  obtain ⟨F, eF⟩ : ∃ F, foF s c = F := ⟨_, rfl⟩
  obtain ⟨L, eL⟩ : ∃ L, foL s c = L := ⟨_, rfl⟩
  obtain ⟨T, eT⟩ : ∃ T, foT s c = T := ⟨_, rfl⟩
  rw [eF] at HRT HTU hrev hok ⊢
  rw [eL] at S2 HRT HTU hrev hll hTl hok ⊢
  rw [eT] at hrev hTl hTo hTne
  clear eF eL eT hch hsum hE eC
  obtain ⟨hL1, -⟩ := fluxOk_iff.1 hok |>.2
  obtain ⟨gq, rfl, hgq, R2⟩ := S2 (by intro e; rw [e] at hL1; simp at hL1)
  have hgl := R2.lt
  have BF := Blk.new w2 28 #[.int .i64 c, .int .i64 F, .slice (some ⟨gq, 0, none⟩) L.length dq]
  have R3 := R2.alloc (.cells #[.int .i64 c, .int .i64 F, .slice (some ⟨gq, 0, none⟩) L.length dq] 28)
  have W3 := W2.alloc W2.size (.cells #[.int .i64 c, .int .i64 F, .slice (some ⟨gq, 0, none⟩) L.length dq] 28)
  obtain ⟨f0, f1, f2⟩ := BF.cell3
  have fl := BF.lt
  clear S2 W2 R2
  go_wp2_with fail
  obtain ⟨bf, ebf⟩ : ∃ bf, w2.heap.size = bf := ⟨_, rfl⟩
  clear f0 f1 f2 fl
  generalize w2.alloc (.cells #[.int .i64 c, .int .i64 F, .slice (some ⟨gq, 0, none⟩) L.length dq] 28) = w3 at BF R3 W3 ⊢
  rw [ebf] at BF hgl ⊢
  clear ebf w2
  have KF : ∀ wx, Below w3.heap.size w3 wx → Blk wx bf 28 #[.int .i64 c, .int .i64 F, .slice (some ⟨gq, 0, none⟩) L.length dq] := fun wx h => BF.keep h
  have KR : ∀ wx, Below w3.heap.size w3 wx → IntsAt wx (some ⟨gq, 0, none⟩) L := fun wx h => (R3.below h).ints
  have KW : ∀ wx, Below w3.heap.size w3 wx → Below w.heap.size w wx := fun wx h => below_st W3 h (Nat.le_refl _)
  have HKF := Lib.hid KF
  have HKR := Lib.hid KR
  have HKW := Lib.hid KW
  clear KF KR KW
  have CC := fun wx hx => impl_ChangesOf c F (some ⟨gq, 0, none⟩) L dq wx hx (by omega)
  rw [hrev.2, hTl] at CC
  refine (CC _ R3.ints).mono ?_
  rintro e w4 ⟨q4, d4, rfl, T4, hb4⟩
  have H4 : Below w3.heap.size w3 w4 := hb4
  obtain ⟨gT, rfl, -, RT4⟩ := T4 hTne
  have hV4 := hV.below (HKW.out _ H4)
  clear CC T4 hb4 BF R3 W3
  obtain ⟨f0, f1, f2⟩ := (HKF.out _ H4).cell3
  have fl := (HKF.out _ H4).lt
  obtain ⟨R, eR⟩ : ∃ R, (s.size : Int) * c = R := ⟨_, rfl⟩
  have hRb : 0 ≤ R ∧ R ≤ 100000 := by
    have h3 : (s.size : Int) * c ≤ 84 * 201 := Int.mul_le_mul (by omega) hcc.2 (by omega) (by omega)
    have h4 : 0 ≤ (s.size : Int) * c := Int.mul_nonneg (by omega) (by omega)
    omega
  have qR : IntKind.i64.wrap ((s.size : Int) * c) = R := by rw [eR]; exact IntWalk.i64_in _ (by omega)
  rw [eR] at hrev
  have CRV := impl_RevolutionOf c F (some ⟨gq, 0, none⟩) L dq w4 (HKR.out _ H4) (by omega)
  rw [hrev.1] at CRV
  go_wp2_with fail
  refine CRV.mono ?_
  rintro e w5 ⟨rfl, hb5⟩
  have H5 := below_st H4 hb5 (Nat.le_refl _)
  have RT5 := RT4.below hb5
  clear f0 f1 f2 fl CRV H4 RT4 hb5 hV4
  obtain ⟨f0, f1, f2⟩ := (HKF.out _ H5).cell3
  have fl := (HKF.out _ H5).lt
  have CVF := spec_ValidFlux c F (some ⟨gq, 0, none⟩) L dq w5 (HKR.out _ H5) (by omega)
  rw [hok] at CVF
  go_wp2_with fail
  refine CVF.mono ?_
  rintro e w6 ⟨rfl, hb6⟩
  have H6 := below_st H5 hb6 (Nat.le_refl _)
  have RT6 := RT5.below hb6
  clear f0 f1 f2 fl CVF H5 RT5 hb6 eR qR
  have ht : c.tdiv 2 = c / 2 := Int.tdiv_eq_ediv_of_nonneg (by omega)
  have hol : (onesL s.data.toList s.size).length = L.length := by rw [← hTl, hTo.out, List.length_map]
  go_wp2_with fail
  go_loopw [10, 11] (fun nv iv wr => ∃ k N : Nat, k ≤ s.size ∧ nv = .int .i64 (N : Int) ∧ iv = .int .i64 k ∧ Hid ((onesL s.data.toList k).length = N) ∧ Below w6.heap.size w6 wr) (fun _ iv _ => s.size - (intOf iv).toNat)
  case atStart => exact ⟨0, 0, Nat.zero_le _, rfl, rfl, Lib.hid rfl, Below.refl _ _⟩
  case round =>
    obtain ⟨k, N, hk, rfl, rfl, HN, hbel⟩ := hrel
    by_cases hlt : k < s.size
    · have hgd := getD_at hlt
      have hNk : N ≤ k := by rw [← HN.out]; exact onesL_len _ _
      have qk : IntKind.i64.wrap ((k : Int) + 1) = (k : Int) + 1 := IntWalk.i64_in _ (by omega)
      by_cases h49 : s[k]'hlt = 49
      · have hb : (((s[k]'hlt).toNat : Int) != 49) = false := by rw [h49]; rfl
        obtain ⟨hn2, hat⟩ := ones_at (L := s.data.toList) (n := s.size) hlt (by rw [hgd]; exact h49)
        have hstep : Hid ((onesL s.data.toList (k + 1)).length = N + 1) := Lib.hid (by rw [onesL_yes (by rw [hgd]; exact h49), List.length_append, HN.out]; rfl)
        have hNT : N < T.length := by rw [hTl, ← hol, ← HN.out]; exact hn2
        have hTN : T[N] = (k : Int) * c + c / 2 := by
          have e2 : T[N]? = some ((k : Int) * c + c / 2) := by
            rw [hTo.out, List.getElem?_map]
            have e3 : (onesL s.data.toList s.size)[N]? = some k := by
              rw [← HN.out, List.getElem?_eq_getElem hn2, hat]
            rw [e3]; rfl
          exact (List.getElem?_eq_some_iff.1 e2).2
        obtain ⟨K, eK⟩ : ∃ K, (k : Int) * c = K := ⟨_, rfl⟩
        have hKb : 0 ≤ K ∧ K ≤ 100000 := by
          have h3 : (k : Int) * c ≤ 84 * 201 := Int.mul_le_mul (by omega) hcc.2 (by omega) (by omega)
          have h4 : 0 ≤ (k : Int) * c := Int.mul_nonneg (by omega) (by omega)
          omega
        have qK : IntKind.i64.wrap ((k : Int) * c) = K := by rw [eK]; exact IntWalk.i64_in _ (by omega)
        have q2 : IntKind.i64.wrap (c / 2) = c / 2 := IntWalk.i64_in _ (by omega)
        have q3 : IntKind.i64.wrap (K + c / 2) = K + c / 2 := IntWalk.i64_in _ (by omega)
        have qN : IntKind.i64.wrap ((N : Int) + 1) = (N : Int) + 1 := IntWalk.i64_in _ (by omega)
        have hcT := ((RT6.below hbel).cell hNT).1
        rw [hTN, eK] at hcT
        have dN : decide ((L.length : Int) ≤ (N : Int)) = false := decide_eq_false (by omega)
        have hi0 : N < L.length := by omega
        clear hgd hat hn2 hTN eK h49 hNT
        go_wp2_with fail
        exact ⟨⟨k + 1, N + 1, by omega, by go_num, by go_num, hstep, hbel⟩, by simp [intOf]; omega⟩
      · have hne : (s[k]'hlt).toNat ≠ 49 := fun e => h49 (by rw [← UInt8.toNat_inj]; exact e)
        have hb : (((s[k]'hlt).toNat : Int) != 49) = true := by simp; omega
        have hstep : Hid ((onesL s.data.toList (k + 1)).length = N) := Lib.hid (by rw [onesL_no (by rw [hgd]; exact h49)]; exact HN.out)
        clear hgd hne h49
        go_wp2_with fail
        exact ⟨⟨k + 1, N, by omega, rfl, by go_num, hstep, hbel⟩, by simp [intOf]; omega⟩
    · obtain rfl : k = s.size := by omega
      obtain rfl : N = L.length := by rw [← HN.out]; exact hol
      have H7 := below_st H6 hbel (Nat.le_refl _)
      have hV7 := hV.below (HKW.out _ H7)
      have CTX := impl_FluxText c F (some ⟨gq, 0, none⟩) L dq wr (HKR.out _ H7) (by omega) hV7.1
      have htz := txtV_size c F L
      obtain ⟨f0, f1, f2⟩ := (HKF.out _ H7).cell3
      have fl := (HKF.out _ H7).lt
      clear H6 hbel HN RT6 hol hTo
      go_wp2_with fail
      refine CTX.mono ?_
      rintro e w8 ⟨rfl, hb8⟩
      have H8 := below_st H7 hb8 (Nat.le_refl _)
      have hV8 := hV7.below hb8
      have CRF := impl_ReadFlux (txtV c F L) w8 htz hV8
      rw [HRT.out.1, HRT.out.2.1, HRT.out.2.2.1, HRT.out.2.2.2] at CRF
      generalize txtV c F L = tx at *
      clear f0 f1 f2 fl CTX hb8 H7 hV7
      go_wp2_with fail
      refine CRF.mono ?_
      rintro e w9 ⟨q9, d9, rfl, S9, hb9⟩
      have H9 := (below_st H8 hb9 (Nat.le_refl _)).alloc (below_st H8 hb9 (Nat.le_refl _)).size (.cells #[.int .i64 c, .int .i64 F, .slice q9 L.length d9] 28)
      have B9 := Blk.new w9 28 #[.int .i64 c, .int .i64 F, .slice q9 L.length d9]
      replace S9 := S9.below ((Below.refl _ w9).alloc (Nat.le_refl _) (.cells #[.int .i64 c, .int .i64 F, .slice q9 L.length d9] 28))
      have CBA := fun wx hx => laws_b10At pm ms capm 0 (s.size : Int) wx hx (by omega) (by omega)
      have hM9 := hM.below (HKW.out _ H9)
      clear CRF hb9 H8 hV8
      go_wp2_with fail
      obtain ⟨b9, eb9⟩ : ∃ b9, w9.heap.size = b9 := ⟨_, rfl⟩
      generalize w9.alloc (.cells #[.int .i64 c, .int .i64 F, .slice q9 L.length d9] 28) = w10 at *
      rw [eb9] at B9 ⊢
      clear eb9 w9
      refine (CBA _ hM9).mono ?_
      rintro e w11 ⟨y0, rfl, hy0, rfl⟩
      obtain ⟨k, rfl⟩ : ∃ k : Nat, y0 = (k : Int) := ⟨y0.toNat, by omega⟩
      have hks : k < s.size := by omega
      obtain ⟨u1, u2, u3, u4, u5, u6, u7⟩ := HTU.out k hks
      have CRC := fun wx => impl_RotateCells s (k : Int) wx (by omega) (by omega)
      rw [u1, hcb] at CRC
      have hS2 := rotS_size s (k : Int) (by omega)
      have CFO := fun wx => impl_FluxOf (rotS s (k : Int)) c wx (by omega)
      rw [u2, u4, u6, u7] at CFO
      have CRO := fun wx hx => impl_RotateFlux c F (some ⟨gq, 0, none⟩) L dq ((k : Int) * c) wx hx (by omega)
      rw [u3, u5] at CRO
      have hrl : (roL c F L ((k : Int) * c)).length ≤ L.length := roL_len _ _ _ _
      generalize rotS s (k : Int) = s2 at *
      obtain ⟨K, eK⟩ : ∃ K, (k : Int) * c = K := ⟨_, rfl⟩
      have hKb : 0 ≤ K ∧ K ≤ 100000 := by
        have h3 : (k : Int) * c ≤ 84 * 201 := Int.mul_le_mul (by omega) hcc.2 (by omega) (by omega)
        have h4 : 0 ≤ (k : Int) * c := Int.mul_nonneg (by omega) (by omega)
        omega
      have qK : IntKind.i64.wrap ((k : Int) * c) = K := by rw [eK]; exact IntWalk.i64_in _ (by omega)
      rw [eK] at CFO CRO hrl
      generalize roF c F L K = F2 at *
      generalize roL c F L K = L2 at *
      clear u1 u2 u3 u4 u5 u6 u7 eK CBA HTU hM9
      go_wp2_with fail
      refine (CRC _).mono ?_
      rintro e w12 ⟨rfl, hb12⟩
      have H12 := below_st H9 hb12 (Nat.le_refl _)
      have B12 := B9.keep hb12
      have S12 := S9.below hb12
      clear CRC hb12 H9 B9 S9
      obtain ⟨f0, f1, f2⟩ := (HKF.out _ H12).cell3
      have fl := (HKF.out _ H12).lt
      go_wp2_with fail
      refine (CRO _ (HKR.out _ H12)).mono ?_
      rintro e w13 ⟨q13, d13, rfl, S13, hb13⟩
      have H13 := (below_st H12 hb13 (Nat.le_refl _)).alloc (below_st H12 hb13 (Nat.le_refl _)).size (.cells #[.int .i64 c, .int .i64 F2, .slice q13 L2.length d13] 28)
      have G13 := Blk.new w13 28 #[.int .i64 c, .int .i64 F2, .slice q13 L2.length d13]
      have B13 := (B12.keep hb13).alloc' (.cells #[.int .i64 c, .int .i64 F2, .slice q13 L2.length d13] 28)
      have SA13 := (S12.below hb13).below ((Below.refl _ w13).alloc (Nat.le_refl _) (.cells #[.int .i64 c, .int .i64 F2, .slice q13 L2.length d13] 28))
      replace S13 := S13.below ((Below.refl _ w13).alloc (Nat.le_refl _) (.cells #[.int .i64 c, .int .i64 F2, .slice q13 L2.length d13] 28))
      clear f0 f1 f2 fl CRO hb13 H12 B12 S12
      go_wp2_with fail
      obtain ⟨b13, eb13⟩ : ∃ b13, w13.heap.size = b13 := ⟨_, rfl⟩
      generalize w13.alloc (.cells #[.int .i64 c, .int .i64 F2, .slice q13 L2.length d13] 28) = w14 at *
      rw [eb13] at G13 ⊢
      clear eb13 w13
      refine (CFO _).mono ?_
      rintro e w15 ⟨q15, d15, rfl, S15, hb15⟩
      have H15 := (below_st H13 hb15 (Nat.le_refl _)).alloc (below_st H13 hb15 (Nat.le_refl _)).size (.cells #[.int .i64 c, .int .i64 F2, .slice q15 L2.length d15] 28)
      have I15 := Blk.new w15 28 #[.int .i64 c, .int .i64 F2, .slice q15 L2.length d15]
      have B15 := (B13.keep hb15).alloc' (.cells #[.int .i64 c, .int .i64 F2, .slice q15 L2.length d15] 28)
      have G15 := (G13.keep hb15).alloc' (.cells #[.int .i64 c, .int .i64 F2, .slice q15 L2.length d15] 28)
      have SA15 := (SA13.below hb15).below ((Below.refl _ w15).alloc (Nat.le_refl _) (.cells #[.int .i64 c, .int .i64 F2, .slice q15 L2.length d15] 28))
      have SG15 := (S13.below hb15).below ((Below.refl _ w15).alloc (Nat.le_refl _) (.cells #[.int .i64 c, .int .i64 F2, .slice q15 L2.length d15] 28))
      replace S15 := S15.below ((Below.refl _ w15).alloc (Nat.le_refl _) (.cells #[.int .i64 c, .int .i64 F2, .slice q15 L2.length d15] 28))
      clear CFO hb15 H13 B13 G13 SA13 S13
      have FB := HKF.out _ H15
      obtain ⟨f0, f1, f2⟩ := FB.cell3
      have fl := FB.lt
      obtain ⟨b0, b1, b2⟩ := B15.cell3
      have bl := B15.lt
      go_upto_region 23 with (fail)
      obtain ⟨b15, eb15⟩ : ∃ b15, w15.heap.size = b15 := ⟨_, rfl⟩
      clear f0 f1 f2 fl b0 b1 b2 bl
      generalize w15.alloc (.cells #[.int .i64 c, .int .i64 F2, .slice q15 L2.length d15] 28) = w16 at *
      rw [eb15] at I15 ⊢
      clear eb15 w15
      obtain ⟨f0, f1, f2⟩ := FB.cell3
      have fl := FB.lt
      obtain ⟨b0, b1, b2⟩ := B15.cell3
      have bl := B15.lt
      have CS1 := spec_SameFlux c F q9 L d9 c F (some ⟨gq, 0, none⟩) L dq w16 SA15.ints (HKR.out _ H15) (by omega) (by omega)
      rw [same_selfF] at CS1
      go_wp2_with fail
      refine CS1.mono ?_
      rintro e w17 ⟨rfl, hb17⟩
      have H17 := below_st H15 hb17 (Nat.le_refl _)
      have G17 := G15.keep hb17
      have I17 := I15.keep hb17
      have CS2 := spec_SameFlux c F2 q13 L2 d13 c F2 q15 L2 d15 w17 (SG15.below hb17).ints (S15.below hb17).ints (by omega) (by omega)
      rw [same_selfF] at CS2
      clear f0 f1 f2 fl b0 b1 b2 bl CS1 FB
      obtain ⟨g0, g1, g2⟩ := G17.cell3
      have gl := G17.lt
      obtain ⟨i0, i1, i2⟩ := I17.cell3
      have il := I17.lt
      go_wp2_with fail
      refine CS2.mono ?_
      rintro e w18 ⟨rfl, hb18⟩
      have W18 := HKW.out _ (below_st H17 hb18 (Nat.le_refl _))
      go_wp2_with fail
      go_ret
      exact ⟨rfl, W18⟩
end Go.Proofs.YtfdcainjppljhaaGreatDoor
namespace Go.Proofs.YtfdcainjppljhaaGreatDoor
set_option maxRecDepth 100000

theorem head_signs : (behindMainWord (wordsSigns Tryz.prog.initOrder.toList)).head? = some "cut".toList := by
  rw [show Tryz.prog.initOrder = String.ofList _ from rfl, String.toList_ofList]
  kernel_rfl
theorem head_cut : ∃ rest, behindMainWord (wordsSigns Tryz.prog.initOrder.toList) = "cut".toList :: rest := by
  have h := head_signs
  cases e : behindMainWord (wordsSigns Tryz.prog.initOrder.toList) with
  | nil => rw [e] at h; cases h
  | cons a l =>
    rw [e] at h
    simp only [List.head?_cons, Option.some.injEq] at h
    exact ⟨l, by rw [h]⟩
theorem strip_cut (rest : List (List Char)) : stripLifts liftWords ("cut".toList :: rest) = ([], "cut".toList :: rest) := by kernel_rfl
theorem head_lifts_of {P : Program} {rest : List (List Char)} (h : behindMainWord (wordsSigns P.initOrder.toList) = "cut".toList :: rest) : P.headLifts = [] := by
  unfold Program.headLifts
  rw [h, strip_cut]
  rfl
theorem may_enter_of {P : Program} {rest : List (List Char)} (h : behindMainWord (wordsSigns P.initOrder.toList) = "cut".toList :: rest)
    (h1 : P.laysLater = false) (h2 : P.bearsReflect = false) (h3 : P.doorFits [] = true) : P.mayEnter = true := by
  unfold Program.mayEnter
  rw [h]
  dsimp only
  rw [strip_cut, h1, h2, h3]
  simp
theorem lifts_final_of {P : Program} {rest : List (List Char)} (h : behindMainWord (wordsSigns P.initOrder.toList) = "cut".toList :: rest) : P.liftsFinal = false := by
  unfold Program.liftsFinal
  rw [h, head_lifts_of h]
  kernel_rfl
theorem make_cut_of {P : Program} {rest : List (List Char)} (h : behindMainWord (wordsSigns P.initOrder.toList) = "cut".toList :: rest) : P.make = some .cut := by
  unfold Program.make
  rw [h]
  kernel_rfl
theorem may_enter : Tryz.prog.mayEnter = true := by
  obtain ⟨rest, h⟩ := head_cut
  exact may_enter_of h (by kernel_rfl) (by kernel_rfl) (by kernel_rfl)
theorem lifts_final : Tryz.prog.liftsFinal = false := by
  obtain ⟨rest, h⟩ := head_cut
  exact lifts_final_of h
theorem make_cut : Tryz.prog.make = some .cut := by
  obtain ⟨rest, h⟩ := head_cut
  exact make_cut_of h
theorem own : ownKnob Tryz.prog.godebug = none := by kernel_rfl
theorem laidOut : laidOutB Tryz.prog = true := by kernel_rfl
theorem mapsRow : mapsRowed Tryz.prog = true := by kernel_rfl
theorem plain_keys : Tryz.prog.plainKeys = true := by kernel_rfl
theorem stops_heard : Tryz.prog.stopsHeard = true := by kernel_rfl
end Go.Proofs.YtfdcainjppljhaaGreatDoor
