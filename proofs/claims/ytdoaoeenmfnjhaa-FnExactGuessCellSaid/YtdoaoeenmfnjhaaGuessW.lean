/- GuessCell. -/
import Derived.Test.YtdoaoeenmfnjhaaRevW
import Derived.Test.YtdoaoeenmfnjhaaStepW
import Derived.Test.YtdoaoeenmfnjhaaGuessP
namespace Go.Proofs.Ytdoaoeenmfnjhaa
open Go.RowKit
set_option maxHeartbeats 1000000 in
set_option maxRecDepth 20000 in
theorem spec_l03Far (c f : Int) (p : Option Addr) (l : List Int) (cap g : Nat) (n : Int) (w : World) (hI : IntsAt w p l) (hok : fluxOk c f l = true) (hn : 4 ≤ n ∧ n ≤ 200) (hB : Blk w g 46 #[.int .i64 c, .int .i64 f, .slice p l.length cap]) :
    Calls Try.prog 68 #[.pointer (some ⟨g, 0, none⟩), .int .i64 n] w fun e w' => e = .returned (.int .i64 (farL n l)) ∧ w' = w := by
  obtain ⟨b0, b1, b2⟩ := hB.cell3
  obtain ⟨-, hlen, hm, -⟩ := fluxOk_bd hok
  have HM := Lib.hid hm
  clear hm hok hB
  go_enter Try.func68, Try.ntmps68
  go_wp2
  go_loopw [5, 6] (fun s i wr => ∃ k : Nat, k ≤ l.length ∧ i = .int .i64 k ∧ s = .int .i64 (farL n (l.take k)) ∧ wr = w) (fun _ i _ => l.length - (intOf i).toNat)
  case atStart => exact ⟨0, Nat.zero_le _, rfl, by simp [farL], rfl⟩
  case round =>
    obtain ⟨k, hk, rfl, rfl, rfl⟩ := hrel
    by_cases hlt : k < l.length
    · obtain ⟨a, rfl, hx⟩ := hI.at_ hlt
      have hxb := HM.out _ (List.getElem_mem hlt)
      have hs := farL_snoc n (l.take k) (l[k])
      rw [← takeI_snoc hlt] at hs
      have hb := farL_bd (c := n) (l := l.take k) hn (fun x hx => HM.out x (List.mem_of_mem_take hx))
      have hl2 : (l.take k).length ≤ 4000 := by simp; omega
      obtain ⟨x, ex⟩ : ∃ x, l[k] = x := ⟨_, rfl⟩
      rw [ex] at hx hxb hs
      obtain ⟨s, es⟩ : ∃ s, farL n (l.take k) = s := ⟨_, rfl⟩
      rw [es] at hs hb
      simp only [es]
      have ht : x.tmod n = x % n := Int.tmod_eq_emod_of_nonneg (by omega)
      have h1 := Int.emod_nonneg x (b := n) (by omega)
      have h2 := Int.emod_lt_of_pos x (b := n) (by omega)
      have hf : farI n x = if x < n then n - x % n else min (x % n) (n - x % n) := by
        unfold farI
        split
        · rw [Int.emod_eq_of_lt (by omega) (by omega)]
        · rfl
      obtain ⟨r, er⟩ : ∃ r, x % n = r := ⟨_, rfl⟩
      rw [er] at ht h1 h2 hf
      have HS := Lib.hid hs
      have HF := Lib.hid hf
      clear hs hf er es ex
      have hn0 : n ≠ 0 := by omega
      by_cases hc : x < n
      · have hd : decide (x < n) = true := by simp [hc]
        go_wp2_with (go_at_call 76; refine (spec_l00Min _ _ _).mono ?_; rintro e w1 ⟨rfl, rfl⟩)
        refine ⟨⟨k + 1, by omega, by go_num, ?_, trivial⟩, by simp [intOf]; omega⟩
        rw [HS.out, HF.out, if_pos (by omega)]
      · have hd : decide (x < n) = false := by simp; omega
        go_wp2_with (go_at_call 76; refine (spec_l00Min _ _ _).mono ?_; rintro e w1 ⟨rfl, rfl⟩)
        refine ⟨⟨k + 1, by omega, by go_num, ?_, trivial⟩, by simp [intOf]; omega⟩
        rw [HS.out, HF.out, if_neg (by omega)]
    · rw [List.take_of_length_le (by omega)]
      go_wp2
      go_ret
      exact ⟨rfl, rfl⟩
set_option maxHeartbeats 1000000 in
set_option maxRecDepth 20000 in
theorem spec_GuessCell (c f : Int) (p : Option Addr) (l : List Int) (cap : Nat) (w : World) (hI : IntsAt w p l) (hl : l.length ≤ 1048576) :
    Calls Try.prog 42 #[.agg #[.int .i64 c, .int .i64 f, .slice p l.length cap]] w fun e w' => ∃ b x, e = .returned (.tuple #[.int .i64 b, .int .i64 x]) ∧ guessR c f l b x ∧ Below w.heap.size w w' := by
  have B0 := Blk.new w 46 #[.int .i64 c, .int .i64 f, .slice p l.length cap]
  cases hok : fluxOk c f l
  · have H := Lib.hid hok
    clear hok
    go_enter Try.func42, Try.ntmps42
    go_wp2_with (go_at_call 62; refine (spec_l02Ok c f p l cap _ _ (hI.alloc _) hl B0).mono ?_; rintro e w1 ⟨rfl, hb1⟩; rw [H.out])
    go_returns
    exact ⟨0, 1, rfl, .inr ⟨H.out, rfl, rfl⟩, below_al (Below.refl _ _) hb1 (Nat.le_refl _)⟩
  · have H := Lib.hid hok
    obtain ⟨-, hlen, hm, -⟩ := fluxOk_bd hok
    have HM := Lib.hid hm
    clear hok hm
    have hfb := farL_bd (c := 200) (l := l) (by omega) HM.out
    go_enter Try.func42, Try.ntmps42
    go_wp2_with (first | (go_at_call 62; refine (spec_l02Ok c f p l cap _ _ (hI.alloc _) hl B0).mono ?_; rintro e w1 ⟨rfl, hb1⟩; rw [H.out]; have B1 := B0.keep hb1; have J1 := (hI.alloc _).below hb1; have hw1 := below_al (Below.refl w.heap.size w) hb1 (Nat.le_refl _)) | (go_at_call 68; refine (spec_l03Far c f p l cap _ _ _ J1 H.out (by omega) B1).mono ?_; rintro e w2 ⟨rfl, rfl⟩))
    clear hb1
    obtain ⟨v, ev⟩ : ∃ v, farL 200 l = v := ⟨_, rfl⟩
    have HV := Lib.hid ev
    go_loopw [4, 5, 6] (fun b s i wr => ∃ (k bb : Int), (3 ≤ k ∧ k ≤ 199) ∧ i = .int .i64 k ∧ b = .int .i64 bb ∧ s = .int .i64 (farL bb l) ∧ best l (k + 1) 200 bb ∧ wr = w2) (fun _ _ i _ => (intOf i).toNat)
    case atStart => exact ⟨199, 200, by omega, rfl, rfl, rfl, best_one l 200, rfl⟩
    case round =>
      obtain ⟨k, bb, hk, rfl, rfl, rfl, hbest, rfl⟩ := hrel
      by_cases h3 : k = 3
      · subst h3
        go_wp2
        go_returns
        exact ⟨bb, 0, rfl, .inl ⟨H.out, hbest, rfl⟩, hw1⟩
      · have hbb : 4 ≤ bb ∧ bb ≤ 200 := by have := hbest.1; omega
        have hq := best_down (l := l) (hi := 200) (c := k) (b := bb) (by omega) (by omega) hbest
        have f1 := farL_bd (c := k) (l := l) (by omega) HM.out
        have f2 := farL_bd (c := bb) (l := l) (by omega) HM.out
        have HQ := Lib.hid hq
        have HB := Lib.hid hbest
        clear hq hbest ev hfb
        obtain ⟨x, ex⟩ : ∃ x, farL k l = x := ⟨_, rfl⟩
        obtain ⟨y, ey⟩ : ∃ y, farL bb l = y := ⟨_, rfl⟩
        have HX := Lib.hid ex
        have HY := Lib.hid ey
        rw [ex] at f1
        rw [ey] at f2 ⊢
        have m1 := mul_small (x := x) (b := bb) (by omega) (by omega)
        have m2 := mul_small (x := y) (b := k) (by omega) (by omega)
        have q1 : IntKind.i64.wrap (x * bb) = x * bb := IntWalk.i64_in _ (by omega)
        have q2 : IntKind.i64.wrap (y * k) = y * k := IntWalk.i64_in _ (by omega)
        obtain ⟨P, eP⟩ : ∃ P, x * bb = P := ⟨_, rfl⟩
        obtain ⟨R, eR⟩ : ∃ R, y * k = R := ⟨_, rfl⟩
        have HP := Lib.hid eP
        have HR := Lib.hid eR
        by_cases hlt : P < R
        · have hd : decide (P < R) = true := by simp [hlt]
          go_wp2_with (go_at_call 68; refine (spec_l03Far c f p l cap _ _ _ J1 H.out (by omega) B1).mono ?_; rintro e w3 ⟨rfl, rfl⟩; rw [ex])
          refine ⟨⟨k - 1, k, by omega, by go_num, rfl, by rw [HX.out], ?_, trivial⟩, by simp [intOf]; omega⟩
          rw [show k - 1 + 1 = k by omega]
          exact HQ.out.1 (by rw [HX.out, HY.out, HP.out, HR.out]; omega)
        · have hd : decide (P < R) = false := by simp; omega
          go_wp2_with (go_at_call 68; refine (spec_l03Far c f p l cap _ _ _ J1 H.out (by omega) B1).mono ?_; rintro e w3 ⟨rfl, rfl⟩; rw [ex])
          refine ⟨⟨k - 1, bb, by omega, by go_num, rfl, by rw [HY.out], ?_, trivial⟩, by simp [intOf]; omega⟩
          rw [show k - 1 + 1 = k by omega]
          exact HQ.out.2 (by rw [HX.out, HY.out, HP.out, HR.out]; omega)
set_option maxHeartbeats 1000000 in
set_option maxRecDepth 20000 in
theorem impl_GuessCell (c f : Int) (p : Option Addr) (l : List Int) (cap : Nat) (w : World) (hI : IntsAt w p l) (hl : l.length ≤ 1048576) :
    Calls Try.prog 43 #[.agg #[.int .i64 c, .int .i64 f, .slice p l.length cap]] w fun e w' => ∃ b x, e = .returned (.tuple #[.int .i64 b, .int .i64 x]) ∧ guessR c f l b x ∧ Below w.heap.size w w' := by
  have B0 := Blk.new w 46 #[.int .i64 c, .int .i64 f, .slice p l.length cap]
  cases hok : fluxOk c f l
  · have H := Lib.hid hok
    clear hok
    go_enter Try.func43, Try.ntmps43
    go_wp2_with (go_at_call 31; refine (impl_ValidFlux c f p l cap _ (hI.alloc _) hl).mono ?_; rintro e w1 ⟨rfl, hb1⟩; rw [H.out])
    go_returns
    exact ⟨0, 1, rfl, .inr ⟨H.out, rfl, rfl⟩, below_al (Below.refl _ _) hb1 (Nat.le_refl _)⟩
  · have H := Lib.hid hok
    obtain ⟨-, hlen, hm, -⟩ := fluxOk_bd hok
    have HM := Lib.hid hm
    clear hok hm
    go_enter Try.func43, Try.ntmps43
    go_wp2_with (go_at_call 31; refine (impl_ValidFlux c f p l cap _ (hI.alloc _) hl).mono ?_; rintro e w1 ⟨rfl, hb1⟩; rw [H.out]; have B1 := B0.keep hb1; have J1 := (hI.alloc _).below hb1; have hw1 := below_al (Below.refl w.heap.size w) hb1 (Nat.le_refl _))
    clear hb1
    go_loopw [4, 5, 6] (fun b s i wr => ∃ (k bb : Int), (4 ≤ k ∧ k ≤ 201) ∧ i = .int .i64 k ∧ b = .int .i64 bb ∧ ((k = 4 ∧ bb = 0 ∧ s = .int .i64 0) ∨ (4 < k ∧ best l 4 (k - 1) bb ∧ s = .int .i64 (farL bb l))) ∧ Below w1.heap.size w1 wr) (fun _ _ i _ => (201 - intOf i).toNat)
    case atStart => exact ⟨4, 0, by omega, rfl, rfl, .inl ⟨rfl, rfl, rfl⟩, Below.refl _ _⟩
    case round =>
      obtain ⟨k, bb, hk, rfl, rfl, hor, hbel⟩ := hrel
      obtain ⟨d0, d1, d2⟩ := (B1.keep hbel).cell3
      have J2 := J1.below hbel
      obtain ⟨wo, hwo⟩ : ∃ wo : World, wo = wr := ⟨_, rfl⟩
      subst hwo
      by_cases h3 : k = 201
      · subst h3
        obtain ⟨-, hbest, rfl⟩ : 4 < (201 : Int) ∧ best l 4 (201 - 1) bb ∧ u5 = .int .i64 (farL bb l) := by
          rcases hor with ⟨h, _⟩ | h
          · omega
          · exact h
        go_wp2
        go_returns
        exact ⟨bb, 0, rfl, .inl ⟨H.out, hbest, rfl⟩, below_st hw1 hbel (Nat.le_refl _)⟩
      · have HO := Lib.hid hor
        clear hor
        go_wp2
        go_loopw [7, 20] (fun s i wr => ∃ j : Nat, j ≤ l.length ∧ i = .int .i64 j ∧ s = .int .i64 (farL k (l.take j)) ∧ Below wo.heap.size wo wr) (fun _ i _ => l.length - (intOf i).toNat)
        case atStart => exact ⟨0, Nat.zero_le _, rfl, by simp [farL], Below.refl _ _⟩
        case round =>
          obtain ⟨j, hj, rfl, rfl, hbj⟩ := hrel
          by_cases hlt : j < l.length
          · obtain ⟨a, rfl, hx⟩ := (J2.below hbj).at_ hlt
            have hxb := HM.out _ (List.getElem_mem hlt)
            have hs := farL_snoc k (l.take j) (l[j])
            rw [← takeI_snoc hlt] at hs
            have hb := farL_bd (c := k) (l := l.take j) (by omega) (fun x hx => HM.out x (List.mem_of_mem_take hx))
            have hl2 : (l.take j).length ≤ 4000 := by simp; omega
            obtain ⟨x, ex⟩ : ∃ x, l[j] = x := ⟨_, rfl⟩
            rw [ex] at hx hxb hs
            obtain ⟨s, es⟩ : ∃ s, farL k (l.take j) = s := ⟨_, rfl⟩
            rw [es] at hs hb
            simp only [es]
            have ht : x.tmod k = x % k := Int.tmod_eq_emod_of_nonneg (by omega)
            have h1 := Int.emod_nonneg x (b := k) (by omega)
            have h2 := Int.emod_lt_of_pos x (b := k) (by omega)
            have hf : farI k x = if x < k then k - x else min (x % k) (k - x % k) := rfl
            obtain ⟨r, er⟩ : ∃ r, x % k = r := ⟨_, rfl⟩
            rw [er] at ht h1 h2 hf
            have HS := Lib.hid hs
            have HF := Lib.hid hf
            clear hs hf er es ex
            have hn0 : k ≠ 0 := by omega
            by_cases hc : x < k
            · have hd : decide (x < k) = true := by simp [hc]
              go_wp2
              refine ⟨⟨j + 1, by omega, by go_num, ?_, hbj⟩, by simp [intOf]; omega⟩
              rw [HS.out, HF.out, if_pos (by omega)]
            · have hd : decide (x < k) = false := by simp; omega
              go_wp2
              go_region
              all_goals
                go_wp2
              all_goals
                refine ⟨⟨_, _, _, ⟨j + 1, by omega, ?_, ?_, hbj.drew⟩, rfl, rfl, rfl⟩, by simp [intOf]; omega⟩
                · go_num
                · rw [HS.out, HF.out, if_neg (by omega)]
                  congr 1
                  omega
          · rw [List.take_of_length_le (by omega)]
            have f1 := farL_bd (c := k) (l := l) (by omega) HM.out
            obtain ⟨x, ex⟩ : ∃ x, farL k l = x := ⟨_, rfl⟩
            have HX := Lib.hid ex
            rw [ex] at f1 ⊢
            clear ex
            have hbb2 := below_st hbel hbj (Nat.le_refl _)
            rcases HO.out with ⟨rfl, rfl, rfl⟩ | ⟨hk4, hbest, rfl⟩
            · go_wp2
              refine ⟨⟨5, 4, by omega, rfl, rfl, .inr ⟨by omega, best_one l 4, by rw [HX.out]⟩, hbb2⟩, by simp [intOf]⟩
            · have hbb : 4 ≤ bb ∧ bb ≤ 200 := by have := hbest.1; omega
              have hq := best_up (l := l) (lo := 4) (c := k) (b := bb) (by omega) (by omega) hbest
              have f2 := farL_bd (c := bb) (l := l) (by omega) HM.out
              have HQ := Lib.hid hq
              have HB := Lib.hid hbest
              clear hq hbest
              obtain ⟨y, ey⟩ : ∃ y, farL bb l = y := ⟨_, rfl⟩
              have HY := Lib.hid ey
              rw [ey] at f2 ⊢
              clear ey
              have m1 := mul_small (x := x) (b := bb) (by omega) (by omega)
              have m2 := mul_small (x := y) (b := k) (by omega) (by omega)
              have q1 : IntKind.i64.wrap (x * bb) = x * bb := IntWalk.i64_in _ (by omega)
              have q2 : IntKind.i64.wrap (y * k) = y * k := IntWalk.i64_in _ (by omega)
              have hb0 : (bb == 0) = false := by simp; omega
              obtain ⟨P, eP⟩ : ∃ P, x * bb = P := ⟨_, rfl⟩
              obtain ⟨R, eR⟩ : ∃ R, y * k = R := ⟨_, rfl⟩
              have HP := Lib.hid eP
              have HR := Lib.hid eR
              by_cases hlt : P ≤ R
              · have hd : decide (P ≤ R) = true := by simp [hlt]
                go_wp2
                refine ⟨⟨k + 1, k, by omega, by go_num, rfl, .inr ⟨by omega, ?_, by rw [HX.out]⟩, hbb2⟩, by simp [intOf]; omega⟩
                rw [show k + 1 - 1 = k by omega]
                exact HQ.out.1 (by rw [HX.out, HY.out, HP.out, HR.out]; omega)
              · have hd : decide (P ≤ R) = false := by simp; omega
                go_wp2
                refine ⟨⟨k + 1, bb, by omega, by go_num, rfl, .inr ⟨by omega, ?_, by rw [HY.out]⟩, hbb2⟩, by simp [intOf]; omega⟩
                rw [show k + 1 - 1 = k by omega]
                exact HQ.out.2 (by rw [HX.out, HY.out, HP.out, HR.out]; omega)
end Go.Proofs.Ytdoaoeenmfnjhaa
