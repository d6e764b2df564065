/- EncodeFm, EncodeMfm, FmMark. -/
import Derived.Test.YtkbhdlhkfeaejaaDoorWithin
import Derived.Test.YtkbhdlhkfeaejaaDoorIn
import Derived.Test.YtkbhdlhkfeaejaaDoorBitsW
import Derived.Test.YtkbhdlhkfeaejaaDoorEncP
import Derived.Deep.RegionLaw
namespace Go.Proofs.YtkbhdlhkfeaejaaDoor
open Go.RowKit
theorem l05Bit_any (b : Bool) (w : World) :
    Calls Tryd.prog 40 #[.bool b] w fun e w' => e = .returned (.int .u8 ((chr b).toNat : Int)) ∧ w = w' := by
  cases b
  all_goals
    go_enter Tryd.func40, Tryd.ntmps40
    go_wp2
    go_ret
    exact ⟨rfl, rfl⟩
set_option maxHeartbeats 2000000 in
theorem spec_l05Encode (a : ByteArray) (last mfm : Bool) (w : World) (hs : a.size ≤ 500) :
    Calls Tryd.prog 64 #[.string a, .bool last, .bool mfm] w fun e w' => e = .returned (.string ⟨(encL mfm last (bitsL a.data.toList)).toArray⟩) ∧ Below w.heap.size w w' := by
  have hd : decide ((8000 : Int) < 16 * (a.size : Int)) = false := by simp; omega
  go_enter Tryd.func64, Tryd.ntmps64
  go_wp2
  go_loopw [1, 7, 8] (fun la v i wr => ∃ k : Nat, k ≤ a.size ∧ i = .int .i64 k ∧ OwnB wr w.heap.size v (encL mfm last (bitsL (a.data.toList.take k))) ∧ la = .bool (endL last (bitsL (a.data.toList.take k))) ∧ Below w.heap.size w wr) (fun _ _ i _ => a.size - (intOf i).toNat)
  case atStart => exact ⟨0, Nat.zero_le _, rfl, OwnB.nil0 _, rfl, (Below.refl _ _).alloc (Nat.le_refl _) _⟩
  case round =>
    obtain ⟨k, hk, rfl, hown, rfl, hbel⟩ := hrel
    obtain ⟨wo, rfl⟩ : ∃ wo : World, wo = wr := ⟨_, rfl⟩
    by_cases hlt : k < a.size
    · have hl : (bitsL (a.data.toList.take k)).length ≤ 8 * k := by rw [bitsL_len]; simp; omega
      go_wp2
      go_loopw [1, 7, 9] (fun la v i wr => ∃ j : Nat, j ≤ 8 ∧ i = .int .i64 (7 - (j : Int)) ∧ OwnB wr w.heap.size v (encL mfm last (bitsL (a.data.toList.take k) ++ (bits8 (a[k]'hlt)).take j)) ∧ la = .bool (endL last (bitsL (a.data.toList.take k) ++ (bits8 (a[k]'hlt)).take j)) ∧ Below w.heap.size w wr) (fun _ _ i _ => (intOf i + 1).toNat)
      case atStart => exact ⟨0, by omega, rfl, by simpa using hown, by simp, hbel⟩
      case round =>
        clear hown hbel
        obtain ⟨j, hj, rfl, hown, rfl, hbel⟩ := hrel
        have hz := hbel.size
        by_cases hj8 : j < 8
        · have q0 : (0 : Int) ≤ 7 - (j : Int) := by omega
          have q1 : 7 - (j : Int) ≤ 7 := by omega
          have hlen : (encL mfm last (bitsL (a.data.toList.take k) ++ (bits8 (a[k]'hlt)).take j)).length < 65536 := by
            rw [encL_len, List.length_append, List.length_take]; omega
          have HS := Lib.hid (bits8_next (a[k]'hlt) hj8)
          have HC := Lib.hid (encL_snoc mfm (bitsL (a.data.toList.take k) ++ (bits8 (a[k]'hlt)).take j) last (chr (decide ((a[k]'hlt).toNat / 2 ^ (7 - j) % 2 = 1))))
          have HE := Lib.hid (endL_snoc last (bitsL (a.data.toList.take k) ++ (bits8 (a[k]'hlt)).take j) (chr (decide ((a[k]'hlt).toNat / 2 ^ (7 - j) % 2 = 1))))
          have hbit : (bits .and .u8 (((a[k]'hlt).toNat : Int) / 2 ^ (7 - j)) 1 == 1) = decide ((a[k]'hlt).toNat / 2 ^ (7 - j) % 2 = 1) := by
            rw [bit_u8, Bool.eq_iff_iff, beq_iff_eq, decide_eq_true_iff]; omega
          generalize decide ((a[k]'hlt).toNat / 2 ^ (7 - j) % 2 = 1) = bt at *
          generalize endL last (bitsL (a.data.toList.take k) ++ (bits8 (a[k]'hlt)).take j) = la at *
          generalize hL : encL mfm last (bitsL (a.data.toList.take k) ++ (bits8 (a[k]'hlt)).take j) = L at *
          have HL := Lib.hid hL
          clear hL
          cases mfm <;> cases la <;> cases bt
          all_goals
            go_wp2_with (first | (go_at_call 40; refine (l05Bit_any _ _).mono ?_; rintro e w' ⟨rfl, rfl⟩) | (at_builtin; refine append_byte _ rfl (.tmp 34) (.tmp 46) rfl w.heap.size u7 L _ rfl rfl hown (u8_bd _) (by omega) hz ?_; intro v1 w1 hown1 hbel1) | (at_builtin; refine append_byte _ rfl (.tmp 48) (.tmp 51) rfl w.heap.size v1 _ _ rfl rfl hown1 (u8_bd _) (by simp; omega) (Nat.le_trans hz hbel1.size) ?_; intro v2 w2 hown2 hbel2))
            simp only [b8_toNat] at hown2
            rw [List.append_assoc] at hown2
            go_roundw
            case rel => exact ⟨j + 1, by omega, by go_num, by rw [HS.out, ← List.append_assoc, HC.out]; exact hown2, by rw [HS.out, ← List.append_assoc, HE.out]; rfl, hbel.trans (hbel1.trans (hbel2.mono (Nat.le_refl _)))⟩
            case measure => simp [intOf]; omega
        · obtain rfl : j = 8 := by omega
          have hnew : OwnB wr w.heap.size u7 (encL mfm last (bitsL (a.data.toList.take (k + 1)))) := by
            rw [take_snoc a k hlt, bitsL_snoc]
            rw [bits8_all] at hown
            exact hown
          go_wp2
          go_roundw
          case rel => exact ⟨k + 1, by omega, by go_num, hnew, by rw [take_snoc a k hlt, bitsL_snoc, bits8_all], hbel⟩
          case measure => simp [intOf]; omega
    · have hcv := hown.str
      go_wp2
      go_ret
      exact ⟨ret_str (by rw [take_all a (by omega)]), hbel⟩
set_option maxHeartbeats 400000 in
theorem spec_l05Encode_long (a : ByteArray) (last mfm : Bool) (w : World) (hs : a.size ≤ 1048576) (h : 500 < a.size) :
    Calls Tryd.prog 64 #[.string a, .bool last, .bool mfm] w fun e w' => e = .returned (.string ByteArray.empty) ∧ Below w.heap.size w w' := by
  have hd : decide ((8000 : Int) < 16 * (a.size : Int)) = true := by simp; omega
  go_enter Tryd.func64, Tryd.ntmps64
  go_wp2
  go_ret
  exact ⟨rfl, (Below.refl _ _).alloc (Nat.le_refl _) _⟩
theorem spec_l05 (a : ByteArray) (last mfm : Bool) (w : World) (hs : a.size ≤ 1048576) :
    Calls Tryd.prog 64 #[.string a, .bool last, .bool mfm] w fun e w' => e = .returned (.string (encS mfm last a)) ∧ Below w.heap.size w w' := by
  unfold encS
  by_cases h : a.size ≤ 500
  · rw [if_pos h]; exact spec_l05Encode a last mfm w h
  · rw [if_neg h]; exact spec_l05Encode_long a last mfm w hs (by omega)
set_option maxHeartbeats 400000 in
theorem spec_EncodeFm (a : ByteArray) (w : World) (hs : a.size ≤ 1048576) :
    Calls Tryd.prog 54 #[.string a] w fun e w' => e = .returned (.string (encS false false a)) ∧ Below w.heap.size w w' := by
  go_enter Tryd.func54, Tryd.ntmps54
  go_wp2_with (go_at_call 64; refine (spec_l05 _ _ _ _ hs).mono ?_; rintro e w1 ⟨rfl, hb1⟩)
  go_ret
  exact ⟨rfl, hb1⟩
set_option maxHeartbeats 2000000 in
theorem impl_fmCells (a clk : ByteArray) (w : World) (hs : a.size ≤ 500) (hclk : clk.size = 8) :
    Calls Tryd.prog 56 #[.string a, .string clk] w fun e w' => e = .returned (.string ⟨(fmN clk.data.toList (bitsL a.data.toList) (bitsL a.data.toList).length).toArray⟩) ∧ Below w.heap.size w w' := by
  have HK := Lib.hid hclk
  clear hclk
  go_enter Tryd.func56, Tryd.ntmps56
  go_wp2_with fail
  refine (impl_bitsOf _ _ (by omega)).mono ?_
  rintro e w1 ⟨rfl, hb1⟩
  obtain ⟨bs, hbs⟩ : ∃ bs : ByteArray, bs = ⟨(bitsL a.data.toList).toArray⟩ := ⟨_, rfl⟩
  have hL : bs.data.toList = bitsL a.data.toList := by rw [hbs]
  have hz8 : bs.size = 8 * a.size := by
    have h := bitsL_len a.data.toList
    rw [← hL] at h
    simpa using h
  rw [← hbs]
  have HL := Lib.hid hL
  have hb2 : bs.size ≤ 4000 := by omega
  clear hbs hL hz8
  go_wp2_with (at_make; refine make_bytes0 _ rfl _ _ rfl _ (2 * bs.size) rfl rfl (by omega) (by omega) ?_; intro w2 hown2 hbel2)
  have hb0 := hb1.size
  go_loopw [6, 16] (fun v i wr => ∃ k : Nat, k ≤ bs.size ∧ i = .int .i64 k ∧ OwnB wr w.heap.size v (fmN clk.data.toList bs.data.toList k) ∧ Below w.heap.size w wr) (fun _ i _ => bs.size - (intOf i).toNat)
  case atStart => exact ⟨0, Nat.zero_le _, rfl, hown2.mono hb0, hb1.trans (hbel2.mono hb0)⟩
  case round =>
    obtain ⟨k, hk, rfl, hown, hbel⟩ := hrel
    have hz := hbel.size
    by_cases hlt : k < bs.size
    · have hl := fmN_len clk.data.toList bs.data.toList k
      have h8 : k % 8 < clk.size := by have := HK.out; omega
      have h8i : ((k % 8 : Nat) : Int) < (clk.size : Int) := by omega
      have e0 : Int.tmod (k : Int) 8 = (k : Int) % 8 := Int.tmod_eq_emod_of_nonneg (by omega)
      have q1 : (0 : Int) ≤ (k : Int) % 8 := by omega
      have q2 : (k : Int) % 8 < (clk.size : Int) := by omega
      have e1 : ((k : Int) % 8).toNat = k % 8 := by omega
      have HS := Lib.hid (fmN_at clk bs h8 hlt)
      go_wp2
      go_region_law (refine step_append_byte2 rfl _ _ rfl w.heap.size _ (fmN clk.data.toList bs.data.toList k) ((clk[k % 8]'h8).toNat : Int) ((bs[k]'hlt).toNat : Int) _ rfl rfl (hown.alloc _) (by simp) (by simp) (u8_bd _) (u8_bd _) (by omega) (by simp; omega) ?_; intro v1 w3 hown1 hbel1)
      all_goals
        have hnew : OwnB w3 w.heap.size v1 (fmN clk.data.toList bs.data.toList (k + 1)) := by
          simp only [b8_toNat] at hown1
          rw [HS.out]
          exact hown1
        have hbn : Below w.heap.size w w3 := hbel.trans ((((Below.refl _ _).alloc hz _).drew).trans hbel1)
        clear hown1 hbel1
        go_wp2
        go_roundw
        case rel => exact ⟨k + 1, by omega, by go_num, hnew, hbn⟩
        case measure => simp [intOf]; omega
    · have hcv := hown.str
      have ek : k = bs.size := by omega
      go_wp2
      go_ret
      exact ⟨ret_str (by rw [← HL.out]; simp), hbel⟩
set_option maxHeartbeats 2000000 in
theorem impl_mfmCells (a : ByteArray) (last : Bool) (w : World) (hs : a.size ≤ 500) :
    Calls Tryd.prog 50 #[.string a, .bool last] w fun e w' => e = .returned (.string ⟨(encL true last (bitsL a.data.toList)).toArray⟩) ∧ Below w.heap.size w w' := by
  go_enter Tryd.func50, Tryd.ntmps50
  go_wp2_with fail
  refine (impl_bitsOf _ _ (by omega)).mono ?_
  rintro e w1 ⟨rfl, hb1⟩
  obtain ⟨bs, hbs⟩ : ∃ bs : ByteArray, bs = ⟨(bitsL a.data.toList).toArray⟩ := ⟨_, rfl⟩
  have hL : bs.data.toList = bitsL a.data.toList := by rw [hbs]
  have hz8 : bs.size = 8 * a.size := by
    have h := bitsL_len a.data.toList
    rw [← hL] at h
    simpa using h
  have H01 := Lib.hid (show ∀ x ∈ bs.data.toList, x = 48 ∨ x = 49 from by rw [hL]; exact bitsL_01 _)
  rw [← hbs]
  have HL := Lib.hid hL
  have hb2 : bs.size ≤ 4000 := by omega
  clear hbs hL hz8
  go_wp2_with (at_make; refine make_bytes0 _ rfl _ _ rfl _ (2 * bs.size) rfl rfl (by omega) (by omega) ?_; intro w2 hown2 hbel2)
  have hb0 := hb1.size
  go_loopw [1, 6, 17] (fun la v i wr => ∃ k : Nat, k ≤ bs.size ∧ i = .int .i64 k ∧ OwnB wr w.heap.size v (encL true last (bs.data.toList.take k)) ∧ la = .bool (endL last (bs.data.toList.take k)) ∧ Below w.heap.size w wr) (fun _ _ i _ => bs.size - (intOf i).toNat)
  case atStart => exact ⟨0, Nat.zero_le _, rfl, hown2.mono hb0, rfl, hb1.trans (hbel2.mono hb0)⟩
  case round =>
    obtain ⟨k, hk, rfl, hown, rfl, hbel⟩ := hrel
    have hz := hbel.size
    by_cases hlt : k < bs.size
    · have hl : (encL true last (bs.data.toList.take k)).length < 65536 := by rw [encL_len, List.length_take]; omega
      have HT := Lib.hid (take_snoc bs k hlt)
      have HC := Lib.hid (encL_snoc true (bs.data.toList.take k) last (bs[k]'hlt))
      have HE := Lib.hid (endL_snoc last (bs.data.toList.take k) (bs[k]'hlt))
      have h01 := H01.out _ (mem_at bs hlt)
      generalize endL last (bs.data.toList.take k) = la at *
      generalize encL true last (bs.data.toList.take k) = L at *
      rcases h01 with h01 | h01
      · have t1 : (((bs[k]'hlt).toNat : Int) == 48) = true := by rw [h01]; rfl
        have t2 : (((bs[k]'hlt).toNat : Int) == 49) = false := by rw [h01]; rfl
        have H0 := Lib.hid h01
        clear h01
        cases la
        all_goals
          go_wp2_with (at_builtin; refine append_byte2 _ rfl _ _ rfl w.heap.size u6 L _ _ rfl rfl hown (by decide) (u8_bd _) (by omega) hz ?_; intro v1 w3 hown1 hbel1)
          rw [b8_toNat] at hown1
          go_roundw
          case rel => exact ⟨k + 1, by omega, by go_num, by rw [HT.out, HC.out, H0.out]; rw [H0.out] at hown1; exact hown1, by rw [HT.out, HE.out, H0.out]; rfl, hbel.trans hbel1⟩
          case measure => simp [intOf]; omega
      · have t1 : (((bs[k]'hlt).toNat : Int) == 48) = false := by rw [h01]; rfl
        have t2 : (((bs[k]'hlt).toNat : Int) == 49) = true := by rw [h01]; rfl
        have H0 := Lib.hid h01
        clear h01
        cases la
        all_goals
          go_wp2_with (at_builtin; refine append_byte2 _ rfl _ _ rfl w.heap.size u6 L _ _ rfl rfl hown (by decide) (u8_bd _) (by omega) hz ?_; intro v1 w3 hown1 hbel1)
          rw [b8_toNat] at hown1
          go_roundw
          case rel => exact ⟨k + 1, by omega, by go_num, by rw [HT.out, HC.out, H0.out]; rw [H0.out] at hown1; exact hown1, by rw [HT.out, HE.out, H0.out]; rfl, hbel.trans hbel1⟩
          case measure => simp [intOf]; omega
    · have hcv := hown.str
      go_wp2
      go_ret
      exact ⟨ret_str (by rw [take_all bs (by omega), HL.out]), hbel⟩
set_option maxHeartbeats 400000 in
theorem impl_EncodeMfm (a : ByteArray) (last : Bool) (w : World) (hs : a.size ≤ 1048576) :
    Calls Tryd.prog 29 #[.string a, .bool last] w fun e w' => e = .returned (.string (encS true last a)) ∧ Below w.heap.size w w' := by
  by_cases h : a.size ≤ 500
  · have hd : decide ((8000 : Int) < 16 * (a.size : Int)) = false := by simp; omega
    have H := Lib.hid (show encS true last a = _ from if_pos h)
    go_enter Tryd.func29, Tryd.ntmps29
    go_wp2_with (go_at_call 50; refine (impl_mfmCells _ _ _ h).mono ?_; rintro e w1 ⟨rfl, hb1⟩)
    go_ret
    exact ⟨ret_str (by rw [H.out]), hb1⟩
  · have hd : decide ((8000 : Int) < 16 * (a.size : Int)) = true := by simp; omega
    have H := Lib.hid (show encS true last a = _ from if_neg h)
    go_enter Tryd.func29, Tryd.ntmps29
    go_wp2
    go_ret
    exact ⟨ret_str (by rw [H.out]; rfl), Below.refl _ _⟩
theorem fmCells_ones (a : ByteArray) (w : World) (hs : a.size ≤ 500) :
    Calls Tryd.prog 56 #[.string a, .string ⟨#[49, 49, 49, 49, 49, 49, 49, 49]⟩] w fun e w' => e = .returned (.string ⟨(encL false false (bitsL a.data.toList)).toArray⟩) ∧ Below w.heap.size w w' := by
  have h := impl_fmCells a ⟨#[49, 49, 49, 49, 49, 49, 49, 49]⟩ w hs rfl
  rw [show (⟨#[49, 49, 49, 49, 49, 49, 49, 49]⟩ : ByteArray).data.toList = [49, 49, 49, 49, 49, 49, 49, 49] from rfl, fm_ones_all _ false] at h
  exact h
end Go.Proofs.YtkbhdlhkfeaejaaDoor
