/- Validity of flux. -/
import Derived.Test.YtfdcainjppljhaaDoorFluxW
namespace Go.Proofs.YtfdcainjppljhaaDoor
open Go.RowKit
theorem within_q (x lo hi : Int) (w : World) (n : Nat) :
    Calls Tryd.prog 30 #[.int .i64 x, .int .i64 lo, .int .i64 hi] (w.drewN n) fun e w'' => e = .returned (.bool (inB x lo hi)) ∧ ∃ m, w'' = w.drewN m :=
  (within_any x lo hi _).mono fun _ _ ⟨he, hw⟩ => ⟨he, n, hw.symm⟩
theorem l00In_q (x lo hi : Int) (w : World) (n : Nat) :
    Calls Tryd.prog 28 #[.int .i64 x, .int .i64 lo, .int .i64 hi] (w.drewN n) fun e w'' => e = .returned (.bool (inB x lo hi)) ∧ ∃ m, w'' = w.drewN m :=
  (l00In_any x lo hi _).mono fun _ _ ⟨he, hw⟩ => ⟨he, n, hw.symm⟩
set_option maxHeartbeats 1000000 in
set_option maxRecDepth 20000 in
theorem impl_ValidFlux (c f : Int) (p : Option Addr) (l : List Int) (cap : Nat) (w : World) (hI : IntsAt w p l) (hl : l.length ≤ 1048576) :
    Calls Tryd.prog 18 #[.agg #[.int .i64 c, .int .i64 f, .slice p l.length cap]] w fun e w' => e = .returned (.bool (fluxOk c f l)) ∧ Below w.heap.size w w' := by
  by_cases hg : inB c 4 200 = true ∧ 1 ≤ l.length ∧ l.length ≤ 4000
  · obtain ⟨hc, h1, h2⟩ := hg
    have hd1 : decide ((l.length : Int) < 1) = false := by simp; omega
    have hd2 : decide (4000 < (l.length : Int)) = false := by simp; omega
    have HC := Lib.hid hc
    have H1 := Lib.hid h1
    have H2 := Lib.hid h2
    clear hc h1 h2
    go_enter Tryd.func18, Tryd.ntmps18
    go_wp2_with (go_at_call 30; refine (within_any _ _ _ _).mono ?_; rintro e w' ⟨rfl, rfl⟩; try rw [HC.out])
    have hJ : IntsAt (w.alloc (.cells #[.int .i64 c, .int .i64 f, .slice p l.length cap] 27)) p l := hI.alloc _
    have hbw : Below w.heap.size w (w.alloc (.cells #[.int .i64 c, .int .i64 f, .slice p l.length cap] 27)) := (Below.refl _ _).alloc (Nat.le_refl _) _
    go_loopw [4, 25] (fun s i wr => ∃ k : Nat, k ≤ l.length ∧ i = .int .i64 k ∧ s = .int .i64 (l.take k).sum ∧ gapsIn (l.take k) = true ∧ wr = w.alloc (.cells #[.int .i64 c, .int .i64 f, .slice p l.length cap] 27)) (fun _ i _ => l.length - (intOf i).toNat)
    case atStart => exact ⟨0, Nat.zero_le _, rfl, by simp, rfl, rfl⟩
    case round =>
      obtain ⟨k, hk, rfl, rfl, hgi, rfl⟩ := hrel
      by_cases hlt : k < l.length
      · obtain ⟨a, rfl, hx⟩ := hJ.at_ hlt
        have hb := gapsIn_sum hgi
        have hl2 : (l.take k).length ≤ 4000 := by have := H2.out; simp; omega
        have hsum := sumI_take hlt
        have hgs := gapsIn_snoc (l.take k) (l[k])
        rw [← takeI_snoc hlt, hgi] at hgs
        have hno := @gapsIn_no l k hlt
        obtain ⟨x, ex⟩ : ∃ x, l[k] = x := ⟨_, rfl⟩
        rw [ex] at hx hsum hgs hno
        obtain ⟨s, es⟩ : ∃ s, (l.take k).sum = s := ⟨_, rfl⟩
        rw [es] at hb hsum
        simp only [es]
        have HS := Lib.hid hsum
        have HG := Lib.hid hgs
        have HN := Lib.hid hno
        clear hsum hgs hno es ex hgi
        cases hin : inB x 1 2000000
        · go_wp2_with (go_at_call 30; refine (within_any _ _ _ _).mono ?_; rintro e w' ⟨rfl, rfl⟩)
          go_ret
          exact ⟨ret_bool (by simp [fluxOk, HN.out hin]), hbw⟩
        · have hx2 := inB_iff.1 hin
          go_wp2_with (go_at_call 30; refine (within_any _ _ _ _).mono ?_; rintro e w' ⟨rfl, rfl⟩)
          refine ⟨⟨k + 1, by omega, by go_num, ?_, ?_, trivial⟩, by simp [intOf]; omega⟩
          · rw [HS.out]
          · rw [HG.out, hin]; rfl
      · rw [List.take_of_length_le (by omega)]
        rw [List.take_of_length_le (by omega)] at hgi
        obtain ⟨a, rfl, hx⟩ := hJ.at_ (k := l.length - 1) (by have := H1.out; omega)
        have hlast := lastD_at (l := l) (n := l.length - 1) (by have := H1.out; omega)
        rw [hlast] at hx
        have i0 : 0 ≤ (l.length : Int) - 1 := by have := H1.out; omega
        have i2 : 1 ≤ (l.length : Int) := by omega
        have i1 : (l.length : Int) - 1 < (l.length : Int) := by omega
        have hb := gapsIn_mem hgi _ (lastD_mem H1.out)
        clear hlast
        obtain ⟨y, ey⟩ : ∃ y, l.getLastD 0 = y := ⟨_, rfl⟩
        rw [ey] at hx hb
        have HY := Lib.hid ey
        clear ey
        have q1 : IntKind.i64.wrap ((l.length : Int) - 1) = (l.length : Int) - 1 := IntWalk.i64_in _ (by omega)
        have q2 : IntKind.i64.wrap (y - 1) = y - 1 := IntWalk.i64_in _ (by omega)
        have HF : Hid (fluxOk c f l = (decide (l.sum ≤ 2000000) && inB f 0 (y - 1))) := by
          apply Lib.hid
          unfold fluxOk
          rw [HY.out, HC.out, hgi, decide_eq_true H1.out, decide_eq_true H2.out]
          rfl
        cases hsum : decide (l.sum ≤ 2000000)
        · have HS := Lib.hid hsum
          go_wp2_with fail
          go_quiet (fail)
          go_wp2
          go_ret
          exact ⟨ret_bool (by rw [HF.out, HS.out]; rfl), below_drewN hbw _⟩
        · have HS := Lib.hid hsum
          go_wp2_with fail
          go_quiet (exact within_q _ _ _ _ _)
          go_wp2
          go_ret
          exact ⟨ret_bool (by rw [HF.out, HS.out]; rfl), below_drewN hbw _⟩
  · have HF : Hid (fluxOk c f l = false) := by
      apply Lib.hid
      cases h : fluxOk c f l
      · rfl
      · have := fluxOk_iff.1 h
        exact absurd ⟨inB_yes this.1, this.2.1, this.2.2.1⟩ hg
    cases hc : inB c 4 200
    · go_enter Tryd.func18, Tryd.ntmps18
      go_wp2_with (go_at_call 30; refine (within_any _ _ _ _).mono ?_; rintro e w' ⟨rfl, rfl⟩; try rw [hc])
      go_ret
      exact ⟨ret_bool HF.out.symm, (Below.refl _ _).alloc (Nat.le_refl _) _⟩
    · have hd : decide ((l.length : Int) < 1) = true ∨ (decide ((l.length : Int) < 1) = false ∧ decide (4000 < (l.length : Int)) = true) := by
        simp only [hc, true_and] at hg
        simp
        omega
      have HC := Lib.hid hc
      clear hg hc
      rcases hd with hd | ⟨hd1, hd2⟩
      all_goals
        go_enter Tryd.func18, Tryd.ntmps18
        go_wp2_with (go_at_call 30; refine (within_any _ _ _ _).mono ?_; rintro e w' ⟨rfl, rfl⟩; try rw [HC.out])
        go_ret
        exact ⟨ret_bool HF.out.symm, (Below.refl _ _).alloc (Nat.le_refl _) _⟩
set_option maxHeartbeats 1000000 in
set_option maxRecDepth 20000 in
theorem spec_l02Ok (c f : Int) (p : Option Addr) (l : List Int) (cap g : Nat) (w : World) (hI : IntsAt w p l) (hl : l.length ≤ 1048576) (hB : Blk w g 27 #[.int .i64 c, .int .i64 f, .slice p l.length cap]) :
    Calls Tryd.prog 15 #[.pointer (some ⟨g, 0, none⟩)] w fun e w' => e = .returned (.bool (fluxOk c f l)) ∧ Below w.heap.size w w' := by
  obtain ⟨b0, b1, b2⟩ := hB.cell3
  by_cases hg : inB c 4 200 = true ∧ 1 ≤ l.length ∧ l.length ≤ 4000
  · obtain ⟨hc, h1, h2⟩ := hg
    have hd1 : decide ((l.length : Int) < 1) = false := by simp; omega
    have hd2 : decide (4000 < (l.length : Int)) = false := by simp; omega
    have HC := Lib.hid hc
    have H1 := Lib.hid h1
    have H2 := Lib.hid h2
    clear hc h1 h2
    go_enter Tryd.func15, Tryd.ntmps15
    go_wp2_with (go_at_call 28; refine (l00In_any _ _ _ _).mono ?_; rintro e w' ⟨rfl, rfl⟩; try rw [HC.out])
    have hJ : IntsAt w p l := hI
    have hbw : Below w.heap.size w w := Below.refl _ _
    go_loopw [4, 5] (fun s i wr => ∃ k : Nat, k ≤ l.length ∧ i = .int .i64 k ∧ s = .int .i64 (l.take k).sum ∧ gapsIn (l.take k) = true ∧ wr = w) (fun _ i _ => l.length - (intOf i).toNat)
    case atStart => exact ⟨0, Nat.zero_le _, rfl, by simp, rfl, rfl⟩
    case round =>
      obtain ⟨k, hk, rfl, rfl, hgi, rfl⟩ := hrel
      by_cases hlt : k < l.length
      · obtain ⟨a, rfl, hx⟩ := hJ.at_ hlt
        have hb := gapsIn_sum hgi
        have hl2 : (l.take k).length ≤ 4000 := by have := H2.out; simp; omega
        have hsum := sumI_take hlt
        have hgs := gapsIn_snoc (l.take k) (l[k])
        rw [← takeI_snoc hlt, hgi] at hgs
        have hno := @gapsIn_no l k hlt
        obtain ⟨x, ex⟩ : ∃ x, l[k] = x := ⟨_, rfl⟩
        rw [ex] at hx hsum hgs hno
        obtain ⟨s, es⟩ : ∃ s, (l.take k).sum = s := ⟨_, rfl⟩
        rw [es] at hb hsum
        simp only [es]
        have HS := Lib.hid hsum
        have HG := Lib.hid hgs
        have HN := Lib.hid hno
        clear hsum hgs hno es ex hgi
        cases hin : inB x 1 2000000
        · go_wp2_with (go_at_call 28; refine (l00In_any _ _ _ _).mono ?_; rintro e w' ⟨rfl, rfl⟩)
          go_ret
          exact ⟨ret_bool (by simp [fluxOk, HN.out hin]), hbw⟩
        · have hx2 := inB_iff.1 hin
          go_wp2_with (go_at_call 28; refine (l00In_any _ _ _ _).mono ?_; rintro e w' ⟨rfl, rfl⟩)
          refine ⟨⟨k + 1, by omega, by go_num, ?_, ?_, trivial⟩, by simp [intOf]; omega⟩
          · rw [HS.out]
          · rw [HG.out, hin]; rfl
      · rw [List.take_of_length_le (by omega)]
        rw [List.take_of_length_le (by omega)] at hgi
        obtain ⟨a, rfl, hx⟩ := hJ.at_ (k := l.length - 1) (by have := H1.out; omega)
        have hlast := lastD_at (l := l) (n := l.length - 1) (by have := H1.out; omega)
        rw [hlast] at hx
        have i0 : 0 ≤ (l.length : Int) - 1 := by have := H1.out; omega
        have i2 : 1 ≤ (l.length : Int) := by omega
        have i1 : (l.length : Int) - 1 < (l.length : Int) := by omega
        have hb := gapsIn_mem hgi _ (lastD_mem H1.out)
        clear hlast
        obtain ⟨y, ey⟩ : ∃ y, l.getLastD 0 = y := ⟨_, rfl⟩
        rw [ey] at hx hb
        have HY := Lib.hid ey
        clear ey
        have q1 : IntKind.i64.wrap ((l.length : Int) - 1) = (l.length : Int) - 1 := IntWalk.i64_in _ (by omega)
        have q2 : IntKind.i64.wrap (y - 1) = y - 1 := IntWalk.i64_in _ (by omega)
        have HF : Hid (fluxOk c f l = (decide (l.sum ≤ 2000000) && inB f 0 (y - 1))) := by
          apply Lib.hid
          unfold fluxOk
          rw [HY.out, HC.out, hgi, decide_eq_true H1.out, decide_eq_true H2.out]
          rfl
        cases hsum : decide (l.sum ≤ 2000000)
        · have HS := Lib.hid hsum
          go_wp2_with fail
          go_quiet (fail)
          go_wp2
          go_ret
          exact ⟨ret_bool (by rw [HF.out, HS.out]; rfl), below_drewN hbw _⟩
        · have HS := Lib.hid hsum
          go_wp2_with fail
          go_quiet (exact l00In_q _ _ _ _ _)
          go_wp2
          go_ret
          exact ⟨ret_bool (by rw [HF.out, HS.out]; rfl), below_drewN hbw _⟩
  · have HF : Hid (fluxOk c f l = false) := by
      apply Lib.hid
      cases h : fluxOk c f l
      · rfl
      · have := fluxOk_iff.1 h
        exact absurd ⟨inB_yes this.1, this.2.1, this.2.2.1⟩ hg
    cases hc : inB c 4 200
    · go_enter Tryd.func15, Tryd.ntmps15
      go_wp2_with (go_at_call 28; refine (l00In_any _ _ _ _).mono ?_; rintro e w' ⟨rfl, rfl⟩; try rw [hc])
      go_ret
      exact ⟨ret_bool HF.out.symm, Below.refl _ _⟩
    · have hd : decide ((l.length : Int) < 1) = true ∨ (decide ((l.length : Int) < 1) = false ∧ decide (4000 < (l.length : Int)) = true) := by
        simp only [hc, true_and] at hg
        simp
        omega
      have HC := Lib.hid hc
      clear hg hc
      rcases hd with hd | ⟨hd1, hd2⟩
      all_goals
        go_enter Tryd.func15, Tryd.ntmps15
        go_wp2_with (go_at_call 28; refine (l00In_any _ _ _ _).mono ?_; rintro e w' ⟨rfl, rfl⟩; try rw [HC.out])
        go_ret
        exact ⟨ret_bool HF.out.symm, Below.refl _ _⟩
end Go.Proofs.YtfdcainjppljhaaDoor
