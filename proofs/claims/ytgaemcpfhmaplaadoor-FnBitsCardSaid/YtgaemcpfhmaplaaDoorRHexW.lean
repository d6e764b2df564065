/- ReadHex. -/
import Derived.Test.YtgaemcpfhmaplaaDoorRHexP
import Derived.Test.YtgaemcpfhmaplaaDoorShelf
namespace Go.Proofs.YtgaemcpfhmaplaaDoor
open Go.RowKit
theorem IndexByte_hex (c : UInt8) (w : World) :
    Calls Tryd.prog 39 #[.string ⟨#[48, 49, 50, 51, 52, 53, 54, 55, 56, 57, 97, 98, 99, 100, 101, 102]⟩, .int .u8 (c.toNat : Int)] w fun e w' => e = .returned (.int .i64 (hexV c)) ∧ w = w' := by
  refine (Tryd.strings_IndexByte _ _ _).mono ?_
  rintro e w' ⟨rfl, rfl⟩
  refine ⟨ret_int ?_, rfl⟩
  rw [Int.toNat_natCast]
  have h : c.toNat.toUInt8 = c := UInt8.ofNat_toNat
  rw [h]
  exact index_hex c
set_option maxHeartbeats 1000000 in
theorem impl_readHex_even (s : ByteArray) (w : World) (hs : s.size ≤ 8192) (he : s.size % 2 = 0) :
    Calls Tryd.prog 28 #[.string s] w fun e w' => e = .returned (.tuple #[.string (rhS s), .bool (rhB s)]) ∧ Below w.heap.size w w' := by
  have HE := Lib.hid he
  have h1 : ((((s.size : Int)) % 2) == 1) = false := by rw [beq_eq_false_iff_ne]; omega
  clear he
  go_enter Tryd.func28, Tryd.ntmps28
  go_wp2_with (at_make; refine make_bytes0 _ rfl _ _ rfl _ (s.size / 2) rfl rfl (by omega) (by omega) ?_; intro w0 hown0 hbel0)
  go_loopw [4, 5] (fun v i wr => ∃ (p : Nat) (l : List UInt8), p ≤ s.size ∧ Hid (p % 2 = 0) ∧ i = .int .i64 p ∧ l.length ≤ p ∧ OwnB wr w.heap.size v l ∧ Hid (unhexL s.data.toList = (unhexL (s.data.toList.drop p)).map (l ++ ·)) ∧ Below w.heap.size w wr) (fun _ i _ => s.size - (intOf i).toNat)
  case atStart => exact ⟨0, [], Nat.zero_le _, rfl, rfl, Nat.zero_le _, hown0, by show _ = _; simp, hbel0⟩
  case round =>
    obtain ⟨p, l, hp, hev, rfl, hl, hown, HU, hbel⟩ := hrel
    have hz := hbel.size
    by_cases hlt : p < s.size
    · have hlt2 : p + 1 < s.size := by have := hev.out; have := HE.out; omega
      have hlt3 : (p : Int) + 1 < (s.size : Int) := by omega
      have b1 := hexV_bd (s[p]'hlt)
      have b2 := hexV_bd (s[p + 1]'hlt2)
      by_cases c1 : hexV (s[p]'hlt) < 0
      · have HN := Lib.hid (rh_none (s := s) (by rw [HU.out, unhex_no s hlt2 (.inl c1)]; rfl))
        go_wp2_with (go_at_call 39; refine (IndexByte_hex _ _).mono ?_; rintro e w' ⟨rfl, rfl⟩)
        go_ret2
        exact ⟨ret_str_bool HN.out.1.symm HN.out.2.symm, hbel⟩
      · have c1' : 0 ≤ hexV (s[p]'hlt) := by omega
        clear c1
        by_cases c2 : hexV (s[p + 1]'hlt2) < 0
        · have HN := Lib.hid (rh_none (s := s) (by rw [HU.out, unhex_no s hlt2 (.inr c2)]; rfl))
          go_wp2_with (go_at_call 39; refine (IndexByte_hex _ _).mono ?_; rintro e w' ⟨rfl, rfl⟩)
          go_ret2
          exact ⟨ret_str_bool HN.out.1.symm HN.out.2.symm, hbel⟩
        · have c2' : 0 ≤ hexV (s[p + 1]'hlt2) := by omega
          clear c2
          have HG := Lib.hid (unhex_go s hlt2 c1' c2')
          go_wp2_with (first | (go_at_call 39; refine (IndexByte_hex _ _).mono ?_; rintro e w' ⟨rfl, rfl⟩) | (at_builtin; refine append_byte _ rfl _ _ rfl w.heap.size u4 l _ rfl rfl hown (by omega) (by omega) hz ?_; intro v1 w1 hown1 hbel1))
          go_roundw
          case rel =>
            refine ⟨p + 2, _, by omega, ?_, by go_num, ?_, hown1, ?_, hbel.trans hbel1⟩
            · have := hev.out; show _ = _; omega
            · simp; omega
            · show _ = _
              rw [HU.out, HG.out]
              cases unhexL (List.drop (p + 2) s.data.toList) <;> simp
          case measure => simp [intOf]; omega
    · have HN := Lib.hid (rh_some (s := s) (l := l) (by rw [HU.out, unhex_end s (by omega)]; simp))
      have hcv := hown.str
      go_wp2
      go_ret2
      exact ⟨ret_str_bool HN.out.1.symm HN.out.2.symm, hbel⟩
set_option maxHeartbeats 400000 in
theorem impl_ReadHex (s : ByteArray) (w : World) (hs : s.size ≤ 1048576) :
    Calls Tryd.prog 13 #[.string s] w fun e w' => e = .returned (.tuple #[.string (if s.size ≤ 8192 then rhS s else ByteArray.empty), .bool (if s.size ≤ 8192 then rhB s else false)]) ∧ Below w.heap.size w w' := by
  by_cases h : s.size ≤ 8192
  · have hd : decide ((8192 : Int) < (s.size : Int)) = false := by simp; omega
    rw [if_pos h, if_pos h]
    by_cases he : s.size % 2 = 0
    · have HE := Lib.hid he
      clear he
      go_enter Tryd.func13, Tryd.ntmps13
      go_wp2_with (go_at_call 28; refine (impl_readHex_even _ _ h HE.out).mono ?_; rintro e w1 ⟨rfl, hb1⟩)
      go_ret2
      exact ⟨rfl, hb1⟩
    · have HN := Lib.hid (rh_none (s := s) (unhex_odd (s.size / 2) _ (by simp; omega)))
      have h1 : ((((s.size : Int)) % 2) == 1) = true := by rw [beq_iff_eq]; omega
      clear he
      go_enter Tryd.func13, Tryd.ntmps13
      go_wp2
      go_ret2
      exact ⟨ret_str_bool HN.out.1.symm HN.out.2.symm, Below.refl _ _⟩
  · have hd : decide ((8192 : Int) < (s.size : Int)) = true := by simp; omega
    rw [if_neg h, if_neg h]
    go_enter Tryd.func13, Tryd.ntmps13
    go_wp2
    go_ret2
    exact ⟨rfl, Below.refl _ _⟩
end Go.Proofs.YtgaemcpfhmaplaaDoor
