/- ClockFaults. -/
import Derived.Test.YtkbhdlhkfeaejaaDoorRunsW
import Derived.Test.YtkbhdlhkfeaejaaDoorEncW
import Derived.Deep.RegionLaw
namespace Go.Proofs.YtkbhdlhkfeaejaaDoor
open Go.RowKit
set_option linter.unusedVariables false
set_option maxHeartbeats 4000000 in
set_option maxRecDepth 20000 in
theorem impl_ClockFaults (s : ByteArray) (last mfm : Bool) (w : World) (hs : s.size ≤ 1048576) :
    Calls Tryd.prog 20 #[.string s, .bool last, .bool mfm] w fun e w' => ∃ q d, e = .returned (.slice q (faultsV s last mfm).length d) ∧ OwnS w' w.heap.size q (faultsV s last mfm) ∧ Below w.heap.size w w' := by
  have ht : (s.size : Int).tmod 2 = ((s.size % 2 : Nat) : Int) := by rw [Int.tmod_eq_emod_of_nonneg (by omega)]; rfl
  have ht2 : (s.size : Int) % 2 = ((s.size % 2 : Nat) : Int) := rfl
  obtain ⟨r, hr⟩ : ∃ r, s.size % 2 = r := ⟨_, rfl⟩
  rw [hr] at ht ht2
  obtain h | h := (Bool.eq_false_or_eq_true (cellStr s)).symm
  · have hv : faultsV s last mfm = [] := by unfold faultsV; rw [h]; rfl
    have H := Lib.hid h
    rw [hv]
    clear h hr hv
    go_enter Tryd.func20, Tryd.ntmps20
    go_wp2_with (go_at_call 38; refine (impl_isCellString s _ (by omega)).mono ?_; rintro e w1 ⟨rfl, hb⟩; rw [H.out])
    go_ret
    exact ⟨none, 0, rfl, OwnS.nil_ _ _ _, hb⟩
  by_cases h2 : r = 0
  rotate_left
  · have hv : faultsV s last mfm = [] := by unfold faultsV; rw [hr, decide_eq_false h2, Bool.and_false]; rfl
    have hne : ((r : Int) != 0) = true := by rw [bne_iff_ne]; omega
    have H := Lib.hid h
    rw [hv]
    clear h hr hv
    go_enter Tryd.func20, Tryd.ntmps20
    go_wp2_with (go_at_call 38; refine (impl_isCellString s _ (by omega)).mono ?_; rintro e w1 ⟨rfl, hb⟩; rw [H.out])
    go_ret
    exact ⟨none, 0, rfl, OwnS.nil_ _ _ _, hb⟩
  subst h2
  obtain ⟨n, hn⟩ : ∃ n, 2 * n = s.size := ⟨s.size / 2, by omega⟩
  have hv : faultsV s last mfm = faultL s last mfm n := by unfold faultsV; rw [hr, h, show s.size / 2 = n by omega]; rfl
  obtain ⟨hb8, hba⟩ := cellStr_bd h
  have HBA := Lib.hid hba
  have H := Lib.hid h
  rw [hv]
  clear h hr hv hba
  go_enter Tryd.func20, Tryd.ntmps20
  go_wp2_with (go_at_call 38; refine (impl_isCellString s _ (by omega)).mono ?_; rintro e w1 ⟨rfl, hb⟩; rw [H.out])
  go_loopw [1, 7, 8] (fun lv v iv wr => ∃ k i0 : Nat, k ≤ n ∧ 2 * k = i0 ∧ iv = .int .i64 i0 ∧ lv = .bool (lastK s last k) ∧ OwnI wr w.heap.size v (faultL s last mfm k) ∧ Below w.heap.size w wr) (fun _ _ iv _ => s.size - (intOf iv).toNat)
  case atStart => exact ⟨0, 0, by omega, rfl, rfl, rfl, OwnI.none_ _ _, hb⟩
  case round =>
    obtain ⟨k, i0, hk, hi, rfl, rfl, hown, hbel⟩ := hrel
    have hz := hbel.size
    by_cases hlt : i0 < s.size
    · obtain ⟨x, hx⟩ : ∃ x, i0 + 1 = x := ⟨_, rfl⟩
      have hxs : x < s.size := by omega
      have q1 : IntKind.i64.wrap ((i0 : Int) + 1) = (x : Int) := by rw [IntWalk.i64_in _ (by omega)]; omega
      have q2 : (i0 : Int) + 1 = (x : Int) := by omega
      have hgl := faultL_len s last mfm k
      have hy := @faultL_yes s last mfm k
      have hno := @faultL_no s last mfm k
      have hf : faultK s last mfm k = ((s[i0]'hlt == 49) != (!mfm || (!lastK s last k && !(s[x]'hxs == 49)))) := by
        unfold faultK
        rw [← getD_at hlt, ← getD_at hxs, ← hx, ← hi]
      have hl : lastK s last (k + 1) = (s[x]'hxs == 49) := by
        unfold lastK
        rw [if_neg (by omega), ← getD_at hxs, show 2 * (k + 1) - 1 = x by omega]
      have hk2 : 2 * (k : Int) = (i0 : Int) := by omega
      rw [hk2] at hy
      have b0 := ((bitB_cases (s[i0]'hlt)).resolve_right (by rw [bits_at HBA.out hlt]; simp)).2
      have b1 := ((bitB_cases (s[x]'hxs)).resolve_right (by rw [bits_at HBA.out hxs]; simp)).2
      have t0 : (s[i0]'hlt == 49) = decide (((s[i0]'hlt).toNat : Int) = 49) := by
        rw [Bool.eq_iff_iff]; simp
        exact ⟨fun e => by rw [e]; rfl, fun e => ofNat_49 (by omega)⟩
      have t1 : (s[x]'hxs == 49) = decide (((s[x]'hxs).toNat : Int) = 49) := by
        rw [Bool.eq_iff_iff]; simp
        exact ⟨fun e => by rw [e]; rfl, fun e => ofNat_49 (by omega)⟩
      rw [t0, t1] at hf
      rw [t1] at hl
      generalize lastK s last k = lb at hf ⊢
      clear t0 t1
      rcases b0 with a0 | a0 <;> rcases b1 with a1 | a1 <;> cases mfm <;> cases lb
      all_goals
        rw [a0, a1] at hf
        rw [a1] at hl
        simp at hf hl
        have HL := Lib.hid hl
        first | (replace hy := Lib.hid (hy hf)) | (replace hy := Lib.hid (hno hf))
        clear hno hl hf
        go_wp2_with (first | (at_builtin; refine append_int _ rfl (.tmp 44) (.tmp 46) rfl w.heap.size u7 (faultL s last _ k) _ rfl rfl hown (by omega) hz ?_; intro v1 w1 hown1 hbel1))
        go_roundw
        case rel =>
          refine ⟨k + 1, i0 + 2, by omega, by omega, by go_num, by rw [HL.out], ?_⟩
          rw [hy.out]
          first | exact ⟨hown1, (hbel).trans (hbel1.mono (Nat.le_refl _))⟩ | exact ⟨hown, hbel⟩
        case measure => simp [intOf]; omega
    · have hkn : k = n := by omega
      subst hkn
      obtain ⟨q, d, rfl, hS⟩ := hown.open_
      go_wp2_with fail
      go_ret
      exact ⟨q, d, rfl, hS, hbel⟩
set_option maxHeartbeats 4000000 in
set_option maxRecDepth 20000 in
theorem spec_ClockFaults (s : ByteArray) (last mfm : Bool) (w : World) (hs : s.size ≤ 1048576) :
    Calls Tryd.prog 19 #[.string s, .bool last, .bool mfm] w fun e w' => ∃ q d, e = .returned (.slice q (faultsV s last mfm).length d) ∧ OwnS w' w.heap.size q (faultsV s last mfm) ∧ Below w.heap.size w w' := by
  have ht : (s.size : Int).tmod 2 = ((s.size % 2 : Nat) : Int) := by rw [Int.tmod_eq_emod_of_nonneg (by omega)]; rfl
  have ht2 : (s.size : Int) % 2 = ((s.size % 2 : Nat) : Int) := rfl
  obtain ⟨r, hr⟩ : ∃ r, s.size % 2 = r := ⟨_, rfl⟩
  rw [hr] at ht ht2
  obtain h | h := (Bool.eq_false_or_eq_true (cellStr s)).symm
  · have hv : faultsV s last mfm = [] := by unfold faultsV; rw [h]; rfl
    have H := Lib.hid h
    rw [hv]
    clear h hr hv
    go_enter Tryd.func19, Tryd.ntmps19
    go_wp2_with (go_at_call 37; refine (spec_l05Cells s _ (by omega)).mono ?_; rintro e w1 ⟨rfl, rfl⟩; rw [H.out])
    go_ret
    exact ⟨none, 0, rfl, OwnS.nil_ _ _ _, Below.refl _ _⟩
  by_cases h2 : r = 0
  rotate_left
  · have hv : faultsV s last mfm = [] := by unfold faultsV; rw [hr, decide_eq_false h2, Bool.and_false]; rfl
    have hne : ((r : Int) != 0) = true := by rw [bne_iff_ne]; omega
    have H := Lib.hid h
    rw [hv]
    clear h hr hv
    go_enter Tryd.func19, Tryd.ntmps19
    go_wp2_with (go_at_call 37; refine (spec_l05Cells s _ (by omega)).mono ?_; rintro e w1 ⟨rfl, rfl⟩; rw [H.out])
    go_ret
    exact ⟨none, 0, rfl, OwnS.nil_ _ _ _, Below.refl _ _⟩
  subst h2
  obtain ⟨n, hn⟩ : ∃ n, 2 * n = s.size := ⟨s.size / 2, by omega⟩
  have hv : faultsV s last mfm = faultL s last mfm n := by unfold faultsV; rw [hr, h, show s.size / 2 = n by omega]; rfl
  obtain ⟨hb8, hba⟩ := cellStr_bd h
  have HBA := Lib.hid hba
  have H := Lib.hid h
  rw [hv]
  clear h hr hv hba
  go_enter Tryd.func19, Tryd.ntmps19
  go_wp2_with (go_at_call 37; refine (spec_l05Cells s _ (by omega)).mono ?_; rintro e w1 ⟨rfl, rfl⟩; rw [H.out])
  go_loopw [1, 7, 8] (fun lv v iv wr => ∃ k i0 : Nat, k ≤ n ∧ 2 * k = i0 ∧ iv = .int .i64 i0 ∧ lv = .bool (lastK s last k) ∧ OwnI wr w.heap.size v (faultL s last mfm k) ∧ Below w.heap.size w wr) (fun _ _ iv _ => s.size - (intOf iv).toNat)
  case atStart => exact ⟨0, 0, by omega, rfl, rfl, rfl, OwnI.nil0 _, (Below.refl _ _).alloc (Nat.le_refl _) _⟩
  case round =>
    obtain ⟨k, i0, hk, hi, rfl, rfl, hown, hbel⟩ := hrel
    have hz := hbel.size
    by_cases hlt : i0 < s.size
    · obtain ⟨x, hx⟩ : ∃ x, i0 + 1 = x := ⟨_, rfl⟩
      have hxs : x < s.size := by omega
      have q1 : IntKind.i64.wrap ((i0 : Int) + 1) = (x : Int) := by rw [IntWalk.i64_in _ (by omega)]; omega
      have q2 : (i0 : Int) + 1 = (x : Int) := by omega
      have hgl := faultL_len s last mfm k
      have hy := @faultL_yes s last mfm k
      have hno := @faultL_no s last mfm k
      have hf : faultK s last mfm k = ((s[i0]'hlt == 49) != (!mfm || (!lastK s last k && !(s[x]'hxs == 49)))) := by
        unfold faultK
        rw [← getD_at hlt, ← getD_at hxs, ← hx, ← hi]
      have hl : lastK s last (k + 1) = (s[x]'hxs == 49) := by
        unfold lastK
        rw [if_neg (by omega), ← getD_at hxs, show 2 * (k + 1) - 1 = x by omega]
      have hk2 : 2 * (k : Int) = (i0 : Int) := by omega
      rw [hk2] at hy
      have b0 := ((bitB_cases (s[i0]'hlt)).resolve_right (by rw [bits_at HBA.out hlt]; simp)).2
      have b1 := ((bitB_cases (s[x]'hxs)).resolve_right (by rw [bits_at HBA.out hxs]; simp)).2
      have t0 : (s[i0]'hlt == 49) = decide (((s[i0]'hlt).toNat : Int) = 49) := by
        rw [Bool.eq_iff_iff]; simp
        exact ⟨fun e => by rw [e]; rfl, fun e => ofNat_49 (by omega)⟩
      have t1 : (s[x]'hxs == 49) = decide (((s[x]'hxs).toNat : Int) = 49) := by
        rw [Bool.eq_iff_iff]; simp
        exact ⟨fun e => by rw [e]; rfl, fun e => ofNat_49 (by omega)⟩
      rw [t0, t1] at hf
      rw [t1] at hl
      generalize lastK s last k = lb at hf ⊢
      clear t0 t1
      rcases b0 with a0 | a0 <;> rcases b1 with a1 | a1 <;> cases mfm <;> cases lb
      all_goals
        rw [a0, a1] at hf
        rw [a1] at hl
        simp at hf hl
        have HL := Lib.hid hl
        first | (replace hy := Lib.hid (hy hf)) | (replace hy := Lib.hid (hno hf))
        clear hno hl hf
        go_wp2_with fail
        go_quiet (exact Calls.quiet_of_same ((l05Bit_any _ _).mono fun e w9 h => ⟨h.1, h.2.symm⟩))
        go_wp2_with (first | (at_builtin; refine append_int _ rfl (.tmp 46) (.tmp 48) rfl w.heap.size u7 (faultL s last _ k) _ rfl rfl (hown.drewN _) (by omega) hz ?_; intro v1 w1 hown1 hbel1))
        go_roundw
        case rel =>
          refine ⟨k + 1, i0 + 2, by omega, by omega, by go_num, by rw [HL.out], ?_⟩
          rw [hy.out]
          first | exact ⟨hown1, (below_drewN hbel _).trans (hbel1.mono (Nat.le_refl _))⟩ | exact ⟨(hown.drewN _), below_drewN hbel _⟩
        case measure => simp [intOf]; omega
    · have hkn : k = n := by omega
      subst hkn
      obtain ⟨q, d, rfl, hS⟩ := hown.open_
      go_wp2_with fail
      go_ret
      exact ⟨q, d, rfl, hS, hbel⟩
end Go.Proofs.YtkbhdlhkfeaejaaDoor
