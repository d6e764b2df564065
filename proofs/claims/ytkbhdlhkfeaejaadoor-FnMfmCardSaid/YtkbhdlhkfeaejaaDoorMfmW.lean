/- The law's walk: FnMfm. -/
import Derived.Test.YtkbhdlhkfeaejaaDoorDrawW
import Derived.Test.YtkbhdlhkfeaejaaDoorOpenB
import Derived.Test.YtkbhdlhkfeaejaaDoorMfmP
import Derived.Test.YtkbhdlhkfeaejaaDoorEncW
import Derived.Test.YtkbhdlhkfeaejaaDoorLastBitW
namespace Go.Proofs.YtkbhdlhkfeaejaaDoor
open Go.RowKit
set_option linter.unusedVariables false
set_option maxHeartbeats 1000000 in
theorem src_word (b n : Nat) (m : Int) (w : World) (hS : Src w b n) (hn : n ≤ 100000000) (hm : 0 ≤ m ∧ m ≤ 100) :
    Calls Tryd.prog 60 #[.pointer (some ⟨b, 0, none⟩), .int .i64 m] w fun e w' => ∃ s : ByteArray, e = .returned (.string s) ∧ (s.size : Int) ≤ m ∧ Src w' b (n + 1000) ∧ Aside (some b) w w' := by
  have hbl := hS.lt
  go_enter Tryd.func60, Tryd.ntmps60
  go_wp2_with fail
  have ha0 : Aside (some b) w (w.alloc (.cells #[] 5)) := Aside.of_below ((Below.refl _ _).alloc (Nat.le_refl _) _)
  refine (src_pick b n m _ (hS.below ((Below.refl _ _).alloc (Nat.le_refl _) _)) (by omega) (by omega)).mono ?_
  rintro e w1 ⟨k0, rfl, hk0, hS1, ha1⟩
  have hown := (OwnB.nil0 w).asides ha1 (fun g e => by injection e with e; omega)
  have ha2 := ha0.trans ha1
  clear ha0 ha1
  go_wp2_with fail
  go_loopw [5, 6] (fun v i wr => ∃ k : Int, (0 ≤ k ∧ k ≤ m) ∧ i = .int .i64 k ∧ (∃ L : List UInt8, OwnB wr w.heap.size v L ∧ (L.length : Int) + k ≤ m) ∧ Src wr b (n + 2 + 4 * (m - k).toNat) ∧ Aside (some b) w wr) (fun _ i _ => (intOf i).toNat)
  case atStart => exact ⟨k0, by omega, rfl, ⟨[], hown, by simp; omega⟩, hS1.mono (by omega), ha2⟩
  case round =>
    obtain ⟨k, hk, rfl, ⟨L, hL, hLk⟩, hSr, har⟩ := hrel
    by_cases h0 : 0 < k
    · have hd : decide (0 < k) = true := decide_eq_true h0
      have hzr := har.size
      go_wp2_with fail
      refine (src_next b _ _ hSr (by omega)).mono ?_
      rintro e w3 ⟨y, rfl, hy, hS3, ha3⟩
      have hL3 := hL.asides ha3 (fun g e => by injection e with e; omega)
      have hb3 := har.trans ha3
      have hz3 := hb3.size
      clear ha3
      go_wp2_with (at_builtin; refine append_byte _ rfl _ _ rfl w.heap.size u5 L _ rfl rfl hL3 (by omega) (by omega) hz3 ?_; intro v4 w4 hL4 hb4; have hS4 := hS3.belowB hb4 hbl; have hb5 := hb3.trans_below hb4 (Nat.le_refl _))
      refine ⟨⟨k - 1, by omega, by go_num, ⟨_, hL4, by simp; omega⟩, hS4.mono (by omega), hb5⟩, by simp [intOf]; omega⟩
    · have hk0 : k = 0 := by omega
      subst hk0
      have hcv := hL.str
      have hd : decide ((0 : Int) < 0) = false := by decide
      go_wp2_with fail
      go_ret
      exact ⟨_, rfl, by simp at hLk ⊢; exact hLk, hSr.mono (by omega), har⟩
set_option maxHeartbeats 1000000 in
theorem src_l05Data (b n : Nat) (w : World) (hS : Src w b n) (hn : n ≤ 10000000) :
    Calls Tryd.prog 49 #[.pointer (some ⟨b, 0, none⟩)] w fun e w' => ∃ s : ByteArray, e = .returned (.string s) ∧ s.size ≤ 40 ∧ Src w' b (n + 2000) ∧ Aside (some b) w w' := by
  have hbl := hS.lt
  go_enter Tryd.func49, Tryd.ntmps49
  go_wp2_with fail
  refine (src_one b n 4 _ hS (by omega) (by omega)).mono ?_
  rintro e w1 ⟨x, rfl, hS1, ha1⟩
  have hz1 := ha1.size
  cases x
  · go_wp2_with fail
    refine (src_word b _ 20 _ hS1 (by omega) (by omega)).mono ?_
    rintro e w2 ⟨s, rfl, hs, hS2, ha2⟩
    go_wp2_with fail
    go_ret
    exact ⟨s, rfl, by omega, hS2.mono (by omega), ha1.trans ha2⟩
  · go_wp2_with fail
    refine (src_pick b _ 40 _ hS1 (by omega) (by omega)).mono ?_
    rintro e w2 ⟨k0, rfl, hk0, hS2, ha2⟩
    replace ha2 := ha1.trans ha2
    have hz2 := ha2.size
    go_wp2_with fail
    refine (src_among b _ _ [0, 255, 78, 161, 85] 5 _ (hS2.below ((Below.refl _ _).alloc (Nat.le_refl _) _)) (by omega) (lit_ints w2 [0, 255, 78, 161, 85]) (fun a e => by injection e with e; subst e; simp; omega) (by decide) (by decide)).mono ?_
    rintro e w3 ⟨c, rfl, hc, hS3, ha3⟩
    have hc2 : 0 ≤ c ∧ c ≤ 255 := by simp at hc; omega
    clear hc
    replace ha3 : Aside (some b) w w3 := (ha2.trans (Aside.of_below ((Below.refl _ _).alloc (Nat.le_refl _) _))).trans ha3
    have hz3 := ha3.size
    go_wp2_with fail
    have hS4 := hS3.below ((Below.refl _ w3).alloc (Nat.le_refl _) (.cells #[] 5))
    have ha4 : Aside (some b) w (w3.alloc (.cells #[] 5)) := ha3.trans (Aside.of_below ((Below.refl _ _).alloc (Nat.le_refl _) _))
    have hown := (OwnB.nil0 w3).mono hz3
    go_loopw [3, 5] (fun i v wr => ∃ k : Int, (0 ≤ k ∧ k ≤ 40) ∧ i = .int .i64 k ∧ (∃ L : List UInt8, OwnB wr w.heap.size v L ∧ (L.length : Int) + k ≤ 40) ∧ Src wr b (n + 10) ∧ Aside (some b) w wr) (fun i _ _ => (intOf i).toNat)
    case atStart => exact ⟨k0, by omega, rfl, ⟨[], hown, by simp; omega⟩, hS4.mono (by omega), ha4⟩
    case round =>
      obtain ⟨k, hk, rfl, ⟨L, hL, hLk⟩, hSr, har⟩ := hrel
      by_cases h0 : 0 < k
      · have hd : decide (0 < k) = true := decide_eq_true h0
        have hzr := har.size
        go_wp2_with (at_builtin; refine append_byte _ rfl _ _ rfl w.heap.size u5 L _ rfl rfl hL (by omega) (by omega) hzr ?_; intro v4 w4 hL4 hb4; have hS4 := hSr.belowB hb4 hbl; have hb5 := har.trans_below hb4 (Nat.le_refl _))
        refine ⟨⟨k - 1, by omega, by go_num, ⟨_, hL4, by simp; omega⟩, hS4, hb5⟩, by simp [intOf]; omega⟩
      · have hk0 : k = 0 := by omega
        subst hk0
        have hcv := hL.str
        have hd : decide ((0 : Int) < 0) = false := by decide
        go_wp2_with fail
        go_ret
        refine ⟨_, rfl, ?_, hSr.mono (by omega), har⟩
        have : (⟨L.toArray⟩ : ByteArray).size = L.length := by show L.toArray.size = _; simp
        omega
theorem spec_A2Data (p : Option Addr) (l : List UInt8) (cap : Nat) (w : World) (hI : BytesAt w p l) (hl : l.length ≤ 1048576) :
    Calls Tryd.prog 26 #[.slice p l.length cap] w fun e w' => ∃ s : ByteArray, e = .returned (.string s) ∧ s.size ≤ 40 ∧ Below w.heap.size w w' := by
  go_enter Tryd.func26, Tryd.ntmps26
  go_wp2_with fail
  refine (spec_l00From p l cap _ hI hl).mono ?_
  rintro e w1 ⟨rfl, hS1, hb1⟩
  go_wp2_with fail
  refine (src_l05Data w.heap.size 0 _ hS1 (by omega)).mono ?_
  rintro e w2 ⟨s, rfl, hs, hS2, ha2⟩
  go_wp2_with fail
  go_ret
  exact ⟨s, rfl, hs, hb1.trans (ha2.below hb1.size (fun g e => by injection e with e; omega))⟩
theorem laws_a2Long (p p' : Option Addr) (l l' : List UInt8) (cap cap' : Nat) (w : World) :
    Calls Tryd.prog 25 #[.slice p l.length cap, .slice p' l'.length cap'] w fun e w' => e = .returned (.bool (decide (3000 < (l.length : Int)) || decide (3000 < (l'.length : Int)))) ∧ w' = w := by
  by_cases h : 3000 < (l.length : Int)
  · have hd : decide (3000 < (l.length : Int)) = true := decide_eq_true h
    go_enter Tryd.func25, Tryd.ntmps25
    go_wp2
    go_ret
    exact ⟨ret_bool (by first | rfl | (rw [hd]; rfl)), rfl⟩
  · have hd : decide (3000 < (l.length : Int)) = false := decide_eq_false h
    go_enter Tryd.func25, Tryd.ntmps25
    go_wp2
    go_ret
    exact ⟨ret_bool (by first | rfl | (rw [hd]; rfl)), rfl⟩
set_option maxHeartbeats 1000000 in
theorem laws_a2Byte0 (p : Option Addr) (l : List UInt8) (cap : Nat) (m : Int) (w : World) (hI : BytesAt w p l) (hl : l.length ≤ 1048576) (hm : 1 ≤ m ∧ m ≤ 1000000000000) :
    Calls Tryd.prog 27 #[.slice p l.length cap, .int .i64 0, .int .i64 m] w fun e w' => ∃ x, e = .returned (.int .i64 x) ∧ w' = w := by
  have hm0 : ¬ m = 0 := by omega
  have hd0 : decide (m < 1) = false := decide_eq_false (by omega)
  by_cases h1 : l.length = 0
  · have hd : decide ((l.length : Int) ≤ 0) = true := decide_eq_true (by omega)
    have hi : (l.length : Int) = 0 := by omega
    go_enter Tryd.func27, Tryd.ntmps27
    go_wp2
    go_ret
    first | exact ⟨_, rfl, rfl⟩ | exact ⟨⟨_, rfl⟩, rfl⟩
  have hd : decide ((l.length : Int) ≤ 0) = false := decide_eq_false (by omega)
  obtain ⟨a, rfl, hx⟩ := hI.at_ (k := 0) (by omega)
  rw [Addr.add_zero'] at hx
  have hb := u8_bd (l[0]'(by omega))
  obtain ⟨x, ex⟩ : ∃ x : Int, ((l[0]'(by omega)).toNat : Int) = x := ⟨_, rfl⟩
  rw [ex] at hx hb
  have i0 : 0 < (l.length : Int) := by omega
  clear ex
  by_cases h2 : 1 < (l.length : Int)
  · have hd2 : decide (1 < (l.length : Int)) = true := decide_eq_true h2
    have hd3 : decide (1 < l.length) = true := decide_eq_true (by omega)
    have h2n : 1 < l.length := by omega
    obtain ⟨a', ha', hy⟩ := hI.at_ (k := 1) (by omega)
    cases ha'
    rw [show a.add 1 = ⟨a.block, a.off + 1, none⟩ from rfl] at hy
    have hb2 := u8_bd (l[1]'(by omega))
    obtain ⟨y, ey⟩ : ∃ y : Int, ((l[1]'(by omega)).toNat : Int) = y := ⟨_, rfl⟩
    rw [ey] at hy hb2
    have ht : (256 * x + y).tmod m = (256 * x + y) % m := Int.tmod_eq_emod_of_nonneg (by omega)
    have h3 := Int.emod_nonneg (256 * x + y) (b := m) (by omega)
    have h4 := Int.emod_lt_of_pos (256 * x + y) (b := m) (by omega)
    clear ey
    go_enter Tryd.func27, Tryd.ntmps27
    go_wp2
    go_ret
    first | exact ⟨_, rfl, rfl⟩ | exact ⟨⟨_, rfl⟩, rfl⟩
  · have hd2 : decide (1 < (l.length : Int)) = false := decide_eq_false h2
    have hd3 : decide (1 < l.length) = false := decide_eq_false (by omega)
    have h2n : ¬ 1 < l.length := by omega
    have hl1 : (l.length : Int) = 1 := by omega
    have ht : x.tmod m = x % m := Int.tmod_eq_emod_of_nonneg (by omega)
    have h3 := Int.emod_nonneg x (b := m) (by omega)
    have h4 := Int.emod_lt_of_pos x (b := m) (by omega)
    go_enter Tryd.func27, Tryd.ntmps27
    go_wp2
    go_ret
    first | exact ⟨_, rfl, rfl⟩ | exact ⟨⟨_, rfl⟩, rfl⟩
theorem cellStr_bd' {s : ByteArray} (h : cellStr s = true) : s.size ≤ 8000 ∧ bitsAll s.data.toList = true := by
  unfold cellStr at h
  simp at h
  exact h
theorem encS_le (mfm last : Bool) (s : ByteArray) : (encS mfm last s).size ≤ 8000 := by
  unfold encS
  split
  · have hl : s.data.toList.length = s.size := rfl
    show (encL mfm last (bitsL s.data.toList)).toArray.size ≤ 8000
    rw [List.size_toArray, encL_len, bitsL_len]
    omega
  · exact Nat.zero_le _
set_option maxHeartbeats 2000000 in
set_option maxRecDepth 20000 in
theorem walk_FnMfm (x y : Byt) (w : World) (hx : x.ok w) (hy : y.ok w) :
    Calls Tryd.prog 9 #[x.val, y.val] w fun e w' => e = .returned (.bool true) ∧ Below w.heap.size w w' := by
  obtain ⟨p, l, cap⟩ := x
  obtain ⟨hI, -⟩ := hx
  obtain ⟨p', l', cap'⟩ := y
  obtain ⟨hJ, -⟩ := hy
  simp only [Byt.val] at hI hJ ⊢
  by_cases hl : decide (3000 < (l.length : Int)) || decide (3000 < (l'.length : Int))
  · go_enter Tryd.func9, Tryd.ntmps9
    go_wp2_with fail
    refine (laws_a2Long p p' l l' cap cap' _).mono ?_
    rintro e w0 ⟨rfl, rfl⟩
    rw [hl]
    go_wp2_with fail
    go_ret
    exact ⟨rfl, Below.refl _ _⟩
  have hl2 : (decide (3000 < (l.length : Int)) || decide (3000 < (l'.length : Int))) = false := by simpa using hl
  have hb : l.length ≤ 3000 ∧ l'.length ≤ 3000 := by simp at hl2; omega
  clear hl
  go_enter Tryd.func9, Tryd.ntmps9
  go_wp2_with fail
  refine (laws_a2Long p p' l l' cap cap' _).mono ?_
  rintro e w0 ⟨rfl, rfl⟩
  rw [hl2]
  go_wp2_with fail
  refine (spec_A2Data p l cap _ hI (by omega)).mono ?_
  rintro e w1 ⟨a, rfl, ha, hb1⟩
  go_wp2_with fail
  refine (spec_A2Data p' l' cap' _ (hJ.below hb1) (by omega)).mono ?_
  rintro e w2 ⟨b, rfl, hbz, hb2⟩
  replace hb2 := below_st hb1 hb2 (Nat.le_refl _)
  go_wp2_with fail
  refine (laws_a2Byte0 p l cap 2 _ (hI.below hb2) (by omega) (by omega)).mono ?_
  rintro e w3 ⟨x, rfl, rfl⟩
  obtain ⟨last, hlast⟩ : ∃ last, (x == 1) = last := ⟨_, rfl⟩
  have hz2 := hb2.size
  have hsz : (a ++ b).size = a.size + b.size := ByteArray.size_append
  have he := fun w' => impl_EncodeMfm (a ++ b) last w' (by omega)
  have he1 := fun w' => impl_EncodeMfm a last w' (by omega)
  have he2 := fun v w' => impl_EncodeMfm b v w' (by omega)
  have hd := dec_enc true last (s := a ++ b) (by omega)
  have htwo := enc_two true last (a := a) (b := b) (by omega)
  have hdd := fun w' => impl_DecodeMfm (encS true last (a ++ b)) w' (by
    have : (encS true last (a ++ b)).size ≤ 8000 := by
      have h := hd.1
      unfold decB at h
      simp at h
      exact (cellStr_bd' h.1).1
    omega)
  rw [hd.1, hd.2] at hdd
  by_cases h0 : a.size = 0
  · obtain rfl := empty_of_size h0
    have hee : ByteArray.empty ++ b = b := by simp
    have hen : encS true last ByteArray.empty = ByteArray.empty := rfl
    rw [hee] at hdd
    rw [hen] at he1
    replace he2 := fun w' => he2 last w'
    have hcz := encS_le true last b
    generalize encS true last b = c at *
    clear he hd htwo hsz hl2
    go_wp2_with (first | (go_at_call 29; with_reducible refine (he2 _).mono ?_; rintro e w4 ⟨rfl, hb4⟩; replace hb2 := below_st hb2 hb4 (Nat.le_refl _); clear hb4) | (go_at_call 29; with_reducible refine (he1 _).mono ?_; rintro e w4 ⟨rfl, hb4⟩; replace hb2 := below_st hb2 hb4 (Nat.le_refl _); clear hb4) | (go_at_call 30; with_reducible refine (hdd _).mono ?_; rintro e w4 ⟨rfl, hb4⟩; replace hb2 := below_st hb2 hb4 (Nat.le_refl _); clear hb4))
    go_ret
    exact ⟨rfl, hb2⟩
  · rw [end_bits last (by omega)] at htwo
    have hlb := fun w' => impl_LastBit a w' (by omega)
    have hem := isEmpty_of_pos (s := a) (by omega)
    generalize lastBitB a = lb at *
    replace he2 := fun w' => he2 lb w'
    rw [htwo] at he hdd
    have hcz1 := encS_le true last a
    have hcz2 := encS_le true lb b
    generalize encS true last a = c1 at *
    generalize encS true lb b = c2 at *
    clear hd htwo hsz hl2
    go_wp2_with (first | (go_at_call 29; with_reducible refine (he _).mono ?_; rintro e w4 ⟨rfl, hb4⟩; replace hb2 := below_st hb2 hb4 (Nat.le_refl _); clear hb4) | (go_at_call 29; with_reducible refine (he2 _).mono ?_; rintro e w4 ⟨rfl, hb4⟩; replace hb2 := below_st hb2 hb4 (Nat.le_refl _); clear hb4) | (go_at_call 29; with_reducible refine (he1 _).mono ?_; rintro e w4 ⟨rfl, hb4⟩; replace hb2 := below_st hb2 hb4 (Nat.le_refl _); clear hb4) | (go_at_call 30; with_reducible refine (hdd _).mono ?_; rintro e w4 ⟨rfl, hb4⟩; replace hb2 := below_st hb2 hb4 (Nat.le_refl _); clear hb4) | (go_at_call 28; with_reducible refine (hlb _).mono ?_; rintro e w4 ⟨rfl, rfl⟩))
    go_ret
    exact ⟨rfl, hb2⟩
end Go.Proofs.YtkbhdlhkfeaejaaDoor
