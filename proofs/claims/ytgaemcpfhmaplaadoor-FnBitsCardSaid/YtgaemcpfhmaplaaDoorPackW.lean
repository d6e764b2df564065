/- bytesOf, BytesOf. -/
import Derived.Test.YtgaemcpfhmaplaaDoorPackP
import Derived.StillTailTactics
import Derived.Deep.DeepCutAuto
import Derived.Deep.OwnRows
namespace Go.Proofs.YtgaemcpfhmaplaaDoor
open Go.RowKit
set_option linter.unusedVariables false
theorem make_bytesN (n : Nat) (hn : n ≤ 2097152) (w : World) : (Instr.makeSlice 25 (.int .i64 (n : Int)) (.int .i64 (n : Int))).run Tryd.prog w = .ok (.slice (some ⟨w.heap.size, 0, none⟩) n n) (w.alloc (.cells (madeCells #[.int .u8 0] n) 5)) :=
  run_make_row' (P := Tryd.prog) 25 5 (.int .u8 0) 1 Tryd.underlying25 info_u8 rfl .i64 .i64 n (by omega) (by omega) w
theorem RowB.made_ (w : World) (n : Nat) : RowB (w.alloc (.cells (madeCells #[.int .u8 0] n) 5)) w.heap.size (List.replicate n 0) := by
  have B := Blk.new w 5 (madeCells #[.int .u8 0] n)
  refine ⟨B.lt, fun i hi => ⟨?_, B.frozen i⟩⟩
  rw [B.cell i]
  have hi' : i < n := by simpa using hi
  simp [madeCells, hi', Nat.mod_one]
set_option maxHeartbeats 2000000 in
set_option maxRecDepth 20000 in
theorem impl_bytesOf (s : ByteArray) (m : Nat) (w : World) (hs : s.size ≤ 1048576) (hm : s.size = 8 * m) (hb : bitsAll s.data.toList = true) :
    Calls Tryd.prog 24 #[.string s] w fun e w' => e = .returned (.string ⟨(packL s.data.toList m).toArray⟩) ∧ Below w.heap.size w w' := by
  have HB := Lib.hid hb
  have hq : (s.size : Int).tdiv 8 = (m : Int) := by rw [Int.tdiv_eq_ediv_of_nonneg (by omega)]; omega
  have hq2 : (s.size : Int) / 8 = (m : Int) := by omega
  have hmk := make_bytesN m (by omega) w
  have R0 := RowB.made_ w m
  have hb0 : Below w.heap.size w (w.alloc (.cells (madeCells #[.int .u8 0] m) 5)) := (Below.refl _ _).alloc (Nat.le_refl _) _
  have hsl : s.data.toList.length = s.size := rfl
  have hm' : 8 * m = s.size := hm.symm
  clear hb hm
  go_enter Tryd.func24, Tryd.ntmps24
  go_wp2_with fail
  generalize w.alloc (.cells (madeCells #[.int .u8 0] m) 5) = w0 at R0 hb0 ⊢
  rw [← packL_nil] at R0
  obtain ⟨g, hg⟩ : ∃ g, w.heap.size = g := ⟨_, rfl⟩
  rw [hg] at R0 hb0 ⊢
  go_loopw [11] (fun i wr => ∃ k : Nat, k ≤ s.size ∧ i = .int .i64 k ∧ RowB wr g (packL (s.data.toList.take k) m) ∧ Below g w wr) (fun i _ => s.size - (intOf i).toNat)
  case atStart => exact ⟨0, Nat.zero_le _, rfl, R0, hb0⟩
  case round =>
    obtain ⟨k, hk, rfl, hrow, hbel⟩ := hrel
    by_cases hlt : k < s.size
    · obtain ⟨r, er⟩ : ∃ r, k / 8 = r := ⟨_, rfl⟩
      have hrm : r < m := by omega
      have hbit := bits_at HB.out hlt
      have hc := (bitB_cases (s[k]'hlt)).resolve_right (by rw [hbit]; simp)
      have hsub := bit_sub hc.2
      have hset := packL_set (l := s.data.toList) (m := m) (k := k) (by omega) (by omega)
      have hcl := chunk_cur (l := s.data.toList) (k := k) (by omega)
      have hv := valL_lt (chunk (s.data.toList.take k) (k / 8))
      rw [er] at hset hcl hv
      rw [hcl] at hv
      have hv2 : 2 ^ (k % 8) ≤ 2 ^ 7 := Nat.pow_le_pow_right (by decide) (by omega)
      have hge : s.data.toList[k]'(by omega) = s[k]'hlt := rfl
      rw [hge] at hset
      have hat := packL_at (s.data.toList.take k) m r (by rw [packL_len]; exact hrm)
      have hb1 := bitV_le (s[k]'hlt)
      obtain ⟨b, eb⟩ : ∃ b, bitV (s[k]'hlt) = b := ⟨_, rfl⟩
      rw [eb] at hset hsub hb1
      generalize valL (chunk (s.data.toList.take k) r) = v at hset hv hat
      have hv3 : v < 128 := by omega
      have hor := u8_or1 hv3 hb1
      clear hc hbit hcl hge eb
      go_wp2_with fail
      refine still_tail2 15 (by kernel_rfl) (by kernel_rfl) ?_
      intro wq hbq hzq hcq hfq
      have hrowq := hrow.below hbq
      have hbelq := below_st hbel hbq (by have := hbel.size; omega)
      have hcf := hrowq.2 r (by rw [packL_len]; exact hrm)
      rw [hat] at hcf
      have hto : (UInt8.ofNat v).toNat = v := by simp; omega
      rw [hto] at hcf
      obtain ⟨hcw, hfw⟩ := hcf
      have q1 : (k : Int).tdiv 8 = (r : Int) := by rw [Int.tdiv_eq_ediv_of_nonneg (by omega)]; omega
      have q2 : (k : Int) / 8 = (r : Int) := by omega
      have q3 : IntKind.i64.wrap (r : Int) = (r : Int) := IntWalk.i64_in _ (by omega)
      have i1 : (r : Int) < (m : Int) := by omega
      have hn := hrowq.set_ r (n := ((2 * v + b : Nat) : Int)) (by omega)
      have hb8 : b8 ((2 * v + b : Nat) : Int) = UInt8.ofNat (2 * v + b) := by unfold b8; rw [Int.toNat_natCast]
      rw [hb8, ← hset] at hn
      obtain ⟨c, ec⟩ : ∃ c, 2 * v + b = c := ⟨_, rfl⟩
      rw [ec] at hn hor
      clear ec
      have HN := Lib.hid hn
      clear hn hset hcq hfq hrow hrowq hat hb8
      simp only [List.take_succ_cons, List.take_zero, List.drop_succ_cons, List.drop_zero]
      repeat still_step
      refine wpStill_nil ?_
      go_wp2_with fail
      exact ⟨⟨k + 1, by omega, by go_num, HN.out, hbelq.setCell (p := ⟨g, r, none⟩) (Nat.le_refl _) _⟩, by simp [intOf]; omega⟩
    · have hk2 : k = s.size := by omega
      rw [List.take_of_length_le (by omega)] at hrow
      have hst := hrow.str m m (by rw [packL_len])
      go_wp2_with fail
      go_ret
      exact ⟨rfl, by rw [hg]; exact hbel⟩
/-- Bytes of bits, if there are any. -/
def bytB (s : ByteArray) : Bool := decide (s.size % 8 = 0) && (decide (s.size ≤ 32768) && bitsAll s.data.toList)
def bytS (s : ByteArray) : ByteArray := if bytB s then ⟨(packL s.data.toList (s.size / 8)).toArray⟩ else ByteArray.empty
set_option maxHeartbeats 1000000 in
theorem impl_BytesOf (s : ByteArray) (w : World) (hs : s.size ≤ 1048576) :
    Calls Tryd.prog 9 #[.string s] w fun e w' => e = .returned (.tuple #[.string (bytS s), .bool (bytB s)]) ∧ Below w.heap.size w w' := by
  have ht : (s.size : Int).tmod 8 = ((s.size % 8 : Nat) : Int) := by rw [Int.tmod_eq_emod_of_nonneg (by omega)]; rfl
  have ht2 : (s.size : Int) % 8 = ((s.size % 8 : Nat) : Int) := rfl
  obtain ⟨r, hr⟩ : ∃ r, s.size % 8 = r := ⟨_, rfl⟩
  rw [hr] at ht ht2
  by_cases h8 : r = 0
  · subst h8
    by_cases hl : s.size ≤ 32768
    · have hd : decide ((32768 : Int) < (s.size : Int)) = false := decide_eq_false (by omega)
      obtain h | h := (Bool.eq_false_or_eq_true (bitsAll s.data.toList)).symm
      · have H1 : Hid (bytB s = false) := Lib.hid (by unfold bytB; rw [h]; simp)
        have H2 : Hid (bytS s = ByteArray.empty) := Lib.hid (by unfold bytS; rw [H1.out]; rfl)
        have H := Lib.hid h
        clear h hr
        go_enter Tryd.func9, Tryd.ntmps9
        go_wp2_with (go_at_call 23; refine (impl_isBits s _ (by omega)).mono ?_; rintro e w1 ⟨rfl, hb⟩; rw [H.out])
        go_ret2
        exact ⟨ret_str_bool (by rw [H2.out]; rfl) (by rw [H1.out]), hb⟩
      · have H1 : Hid (bytB s = true) := Lib.hid (by unfold bytB; rw [h, hr]; simp; exact hl)
        have H2 : Hid (bytS s = ⟨(packL s.data.toList (s.size / 8)).toArray⟩) := Lib.hid (by unfold bytS; rw [H1.out]; rfl)
        have H := Lib.hid h
        have HM := Lib.hid (show s.size = 8 * (s.size / 8) by omega)
        clear h hr
        go_enter Tryd.func9, Tryd.ntmps9
        go_wp2_with (first | (go_at_call 23; refine (impl_isBits s _ (by omega)).mono ?_; rintro e w1 ⟨rfl, hb⟩; rw [H.out]) | (go_at_call 24; refine (impl_bytesOf s (s.size / 8) _ hs HM.out H.out).mono ?_; rintro e w2 ⟨rfl, hb2⟩))
        go_ret2
        exact ⟨ret_str_bool (by rw [H2.out]) (by rw [H1.out]), hb.trans (hb2.mono hb.size)⟩
    · have hd : decide ((32768 : Int) < (s.size : Int)) = true := decide_eq_true (by omega)
      have H1 : Hid (bytB s = false) := Lib.hid (by unfold bytB; rw [decide_eq_false hl]; simp)
      have H2 : Hid (bytS s = ByteArray.empty) := Lib.hid (by unfold bytS; rw [H1.out]; rfl)
      clear hr
      go_enter Tryd.func9, Tryd.ntmps9
      go_wp2_with fail
      go_ret2
      exact ⟨ret_str_bool (by rw [H2.out]; rfl) (by rw [H1.out]), Below.refl _ _⟩
  · have hne : ((r : Int) != 0) = true := by rw [bne_iff_ne]; omega
    have H1 : Hid (bytB s = false) := Lib.hid (by unfold bytB; rw [hr, decide_eq_false h8]; rfl)
    have H2 : Hid (bytS s = ByteArray.empty) := Lib.hid (by unfold bytS; rw [H1.out]; rfl)
    clear hr
    go_enter Tryd.func9, Tryd.ntmps9
    go_wp2_with fail
    go_ret2
    exact ⟨ret_str_bool (by rw [H2.out]; rfl) (by rw [H1.out]), Below.refl _ _⟩
set_option maxHeartbeats 2000000 in
set_option maxRecDepth 20000 in
theorem spec_BytesOf (s : ByteArray) (w : World) (hs : s.size ≤ 1048576) :
    Calls Tryd.prog 8 #[.string s] w fun e w' => e = .returned (.tuple #[.string (bytS s), .bool (bytB s)]) ∧ Below w.heap.size w w' := by
  have ht : (s.size : Int).tmod 8 = ((s.size % 8 : Nat) : Int) := by rw [Int.tmod_eq_emod_of_nonneg (by omega)]; rfl
  have ht2 : (s.size : Int) % 8 = ((s.size % 8 : Nat) : Int) := rfl
  obtain ⟨r, hr⟩ : ∃ r, s.size % 8 = r := ⟨_, rfl⟩
  rw [hr] at ht ht2
  by_cases h8 : r = 0
  rotate_left
  · have hne : ((r : Int) != 0) = true := by rw [bne_iff_ne]; omega
    have H1 : Hid (bytB s = false) := Lib.hid (by unfold bytB; rw [hr, decide_eq_false h8]; rfl)
    have H2 : Hid (bytS s = ByteArray.empty) := Lib.hid (by unfold bytS; rw [H1.out]; rfl)
    clear hr
    go_enter Tryd.func8, Tryd.ntmps8
    go_wp2_with fail
    go_ret2
    exact ⟨ret_str_bool (by rw [H2.out]; rfl) (by rw [H1.out]), Below.refl _ _⟩
  subst h8
  by_cases hl : s.size ≤ 32768
  rotate_left
  · have hd : decide ((32768 : Int) < (s.size : Int)) = true := decide_eq_true (by omega)
    have H1 : Hid (bytB s = false) := Lib.hid (by unfold bytB; rw [decide_eq_false hl]; simp)
    have H2 : Hid (bytS s = ByteArray.empty) := Lib.hid (by unfold bytS; rw [H1.out]; rfl)
    clear hr
    go_enter Tryd.func8, Tryd.ntmps8
    go_wp2_with fail
    go_ret2
    exact ⟨ret_str_bool (by rw [H2.out]; rfl) (by rw [H1.out]), Below.refl _ _⟩
  have hd : decide ((32768 : Int) < (s.size : Int)) = false := decide_eq_false (by omega)
  have HV : Hid (bytB s = bitsAll s.data.toList) := Lib.hid (by unfold bytB; rw [hr, decide_eq_true hl]; rfl)
  have hno : bitsAll s.data.toList = false → bytB s = false ∧ bytS s = ByteArray.empty := fun h => by
    have h1 : bytB s = false := by rw [HV.out, h]
    exact ⟨h1, by unfold bytS; rw [h1]; rfl⟩
  have hyes : bitsAll s.data.toList = true → bytB s = true ∧ bytS s = ⟨(packL s.data.toList (s.size / 8)).toArray⟩ := fun h => by
    have h1 : bytB s = true := by rw [HV.out, h]
    exact ⟨h1, by unfold bytS; rw [h1]; rfl⟩
  have HNO := Lib.hid hno
  have HYES := Lib.hid hyes
  clear hno hyes
  obtain ⟨m, hm⟩ : ∃ m, 8 * m = s.size := ⟨s.size / 8, by omega⟩
  have hsl : s.data.toList.length = s.size := rfl
  clear hr
  go_enter Tryd.func8, Tryd.ntmps8
  go_wp2_with fail
  go_loopw [4, 5] (fun v i wr => ∃ j i0 : Nat, j ≤ m ∧ 8 * j = i0 ∧ i = .int .i64 i0 ∧ OwnB wr w.heap.size v (packL s.data.toList j) ∧ Hid (∀ x (hx : x < s.size), x < i0 → bitB (s[x]'hx) = true) ∧ Below w.heap.size w wr) (fun _ i _ => s.size - (intOf i).toNat)
  case atStart => exact ⟨0, 0, by omega, rfl, rfl, OwnB.nil0 _, fun x _ h => absurd h (by omega), (Below.refl _ _).alloc (Nat.le_refl _) _⟩
  case round =>
    obtain ⟨j, i0, hj, h8, rfl, hown, HA, hbel⟩ := hrel
    have hz := hbel.size
    by_cases hlt : i0 < s.size
    · have hjm : j < m := by omega
      go_wp2_with fail
      go_loopw [6, 7] (fun nv kv wq => ∃ k : Nat, k ≤ 8 ∧ kv = .int .i64 k ∧ nv = .int .u8 (valL ((chunk s.data.toList j).take k) : Nat) ∧ Hid (∀ x (hx : x < s.size), x < i0 + k → bitB (s[x]'hx) = true) ∧ wq = wr) (fun _ kv _ => 8 - (intOf kv).toNat)
      case atStart => exact ⟨0, by omega, rfl, rfl, HA, rfl⟩
      case round =>
        obtain ⟨k, hk, rfl, rfl, HB, rfl⟩ := hrel
        by_cases hk8 : k < 8
        · obtain ⟨x, hx⟩ : ∃ x, i0 + k = x := ⟨_, rfl⟩
          have hxs : x < s.size := by omega
          have qx : IntKind.i64.wrap ((i0 : Int) + (k : Int)) = (x : Int) := by rw [IntWalk.i64_in _ (by omega)]; omega
          have qx2 : (i0 : Int) + (k : Int) = (x : Int) := by omega
          have hch := chunk_at (l := s.data.toList) (j := j) (k := k) hk8 (by omega)
          have hvl := valL_lt ((chunk s.data.toList j).take k)
          have hvp : 2 ^ ((chunk s.data.toList j).take k).length ≤ 2 ^ 7 := Nat.pow_le_pow_right (by decide) (by rw [List.length_take]; omega)
          have hge : s.data.toList[8 * j + k]'(by omega) = s[x]'hxs := by
            have : 8 * j + k = x := by omega
            subst this; rfl
          rw [hge] at hch
          have hsn := valL_snoc ((chunk s.data.toList j).take k) (s[x]'hxs)
          rw [← hch] at hsn
          generalize valL ((chunk s.data.toList j).take k) = v at *
          have HSN := Lib.hid hsn
          have hv3 : v < 128 := by omega
          clear hch hsn hvl hvp hge
          rcases bitB_cases (s[x]'hxs) with ⟨hc, hr⟩ | ⟨hc, a1, a2⟩
          · have HC := Lib.hid hc
            have hb1 := bitV_le (s[x]'hxs)
            have hand := bit_and hr
            have HST : Hid (∀ y (hy : y < s.size), y < i0 + (k + 1) → bitB (s[y]'hy) = true) := Lib.hid fun y hy h => by
              by_cases e : y < i0 + k
              · exact HB.out y hy e
              · have : y = x := by omega
                subst this; exact HC.out
            obtain ⟨b, eb⟩ : ∃ b, bitV (s[x]'hxs) = b := ⟨_, rfl⟩
            rw [eb] at hand hb1 HSN
            have hor := u8_or2 hv3 hb1
            have hor3 := u8_or3 hv3 hb1
            obtain ⟨c, ec⟩ : ∃ c, 2 * v + b = c := ⟨_, rfl⟩
            rw [ec] at hor hor3 HSN
            clear hc eb ec HB HA
            rcases hr with a1 | a1
            all_goals
              rw [a1] at hand
              go_wp2_with fail
              go_roundw
              case rel => exact ⟨k + 1, by omega, by go_num, by rw [HSN.out], HST, trivial⟩
              case measure => simp [intOf]; omega
          · have HC := Lib.hid hc
            clear hc
            go_wp2_with fail
            go_ret2
            obtain ⟨e1, e2⟩ := HNO.out (bits_not hxs HC.out)
            exact ⟨ret_str_bool (by rw [e2]; rfl) (by rw [e1]), hbel⟩
        · obtain rfl : k = 8 := by omega
          rw [chunk_all]
          have HP := Lib.hid (packL_more s.data.toList j)
          have hv8 : valL (chunk s.data.toList j) < 256 := Nat.lt_of_lt_of_le (valL_lt _) (by
            have := chunk_len s.data.toList j
            exact Nat.pow_le_pow_right (n := 2) (by decide) this)
          have hb8 : b8 ((valL (chunk s.data.toList j) : Nat) : Int) = UInt8.ofNat (valL (chunk s.data.toList j)) := by unfold b8; rw [Int.toNat_natCast]
          generalize valL (chunk s.data.toList j) = v at *
          have HB8 := Lib.hid hb8
          clear hb8
          have hpl : (packL s.data.toList j).length < 65536 := by rw [packL_len]; omega
          go_wp2_with (at_builtin; refine append_byte _ rfl (.tmp 51) (.tmp 53) rfl w.heap.size u4 (packL s.data.toList j) _ rfl rfl hown ⟨by omega, by omega⟩ (by omega) hz ?_; intro v1 w1 hown1 hbel1)
          rw [HB8.out, ← HP.out] at hown1
          go_roundw
          case rel => exact ⟨j + 1, i0 + 8, by omega, by omega, by go_num, hown1, HB, hbel.trans (hbel1.mono (Nat.le_refl _))⟩
          case measure => simp [intOf]; omega
    · have hjm : j = m := by omega
      subst hjm
      obtain ⟨e1, e2⟩ := HYES.out (bits_yes fun x hx => HA.out x hx (by omega))
      have hm8 : s.size / 8 = j := by omega
      rw [hm8] at e2
      have E1 := Lib.hid e1
      have E2 := Lib.hid e2
      clear e1 e2 hm8
      have hcv := hown.str
      go_wp2_with fail
      go_ret2
      exact ⟨ret_str_bool (by rw [E2.out]) (by rw [E1.out]), hbel⟩
theorem walk_FnExactBytesOf (s : ByteArray) (w : World) (hs : s.size ≤ maxLen) :
    Calls Tryd.prog 3 #[.string s] w fun e w' => e = .returned (.bool true) ∧ Below w.heap.size w w' := by
  unfold maxLen at hs
  by_cases h : s.size ≤ 1048576
  · have hd : decide ((1048576 : Int) < (s.size : Int)) = false := by simp; omega
    go_enter Tryd.func3, Tryd.ntmps3
    go_wp2_with (first | (go_at_call 8; refine (spec_BytesOf s _ h).mono ?_; rintro e w1 ⟨rfl, hb1⟩) | (go_at_call 9; refine (impl_BytesOf s _ h).mono ?_; rintro e w2 ⟨rfl, hb2⟩))
    go_ret
    exact ⟨rfl, hb1.trans (hb2.mono hb1.size)⟩
  · have hd : decide ((1048576 : Int) < (s.size : Int)) = true := by simp; omega
    go_enter Tryd.func3, Tryd.ntmps3
    go_wp2_with fail
    go_ret
    exact ⟨rfl, Below.refl _ _⟩
end Go.Proofs.YtgaemcpfhmaplaaDoor
