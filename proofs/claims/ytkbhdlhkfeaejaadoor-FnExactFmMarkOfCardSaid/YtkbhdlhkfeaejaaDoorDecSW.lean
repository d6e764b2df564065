/- The specification's decoding; the laws of DecodeFm and DecodeMfm. -/
import Derived.Test.YtkbhdlhkfeaejaaDoorDecW
namespace Go.Proofs.YtkbhdlhkfeaejaaDoor
open Go.RowKit
set_option linter.unusedVariables false
theorem u8_dec {v : Nat} {c : UInt8} (hv : v < 128) (h : (c.toNat : Int) = 48 ∨ (c.toNat : Int) = 49) :
    IntKind.u8.wrap (IntKind.u8.wrap (IntKind.u8.wrap (2 * (v : Int)) + (c.toNat : Int)) - 48) = ((2 * v + bitV c : Nat) : Int) := by
  have h1 : ∀ v : Fin 128, IntKind.u8.wrap (IntKind.u8.wrap (IntKind.u8.wrap (2 * (v.val : Int)) + 48) - 48) = ((2 * v.val + 0 : Nat) : Int) := by decide +kernel
  have h2 : ∀ v : Fin 128, IntKind.u8.wrap (IntKind.u8.wrap (IntKind.u8.wrap (2 * (v.val : Int)) + 49) - 48) = ((2 * v.val + 1 : Nat) : Int) := by decide +kernel
  rcases h with e | e
  · have hb : bitV c = 0 := by unfold bitV; omega
    rw [e, hb]; exact h1 ⟨v, hv⟩
  · have hb : bitV c = 1 := by unfold bitV; omega
    rw [e, hb]; exact h2 ⟨v, hv⟩
theorem u8_dbl {v : Nat} (hv : v < 128) : IntKind.u8.wrap (2 * (v : Int)) = 2 * (v : Int) := by
  have h1 : ∀ v : Fin 128, IntKind.u8.wrap (2 * (v.val : Int)) = 2 * (v.val : Int) := by decide +kernel
  exact h1 ⟨v, hv⟩
set_option maxHeartbeats 2000000 in
set_option maxRecDepth 20000 in
theorem spec_l05Decode (s : ByteArray) (m : Nat) (w : World) (hs : s.size ≤ 8000) (hm : 16 * m = s.size) (hb : bitsAll s.data.toList = true) :
    Calls Tryd.prog 53 #[.string s] w fun e w' => e = .returned (.string ⟨(packL (oddL s.data.toList (8 * m)) m).toArray⟩) ∧ Below w.heap.size w w' := by
  obtain ⟨l, hl⟩ : ∃ l, oddL s.data.toList (8 * m) = l := ⟨_, rfl⟩
  have hlen : l.length = 8 * m := by rw [← hl, oddL_len]
  have hat : ∀ (q : Nat) (hq : q < l.length) (hx : 2 * q + 1 < s.size), l[q] = s[2 * q + 1]'hx := fun q hq hx => by
    subst hl; exact oddL_at hq hx
  have HAT := Lib.hid hat
  have HB := Lib.hid hb
  rw [hl]
  clear hat hb hl
  go_enter Tryd.func53, Tryd.ntmps53
  go_wp2_with fail
  go_loopw [3, 4] (fun v i wr => ∃ j i0 : Nat, j ≤ m ∧ 16 * j = i0 ∧ i = .int .i64 i0 ∧ OwnB wr w.heap.size v (packL l j) ∧ Below w.heap.size w wr) (fun _ i _ => s.size - (intOf i).toNat)
  case atStart => exact ⟨0, 0, by omega, rfl, rfl, OwnB.nil0 _, (Below.refl _ _).alloc (Nat.le_refl _) _⟩
  case round =>
    obtain ⟨j, i0, hj, h8, rfl, hown, hbel⟩ := hrel
    have hz := hbel.size
    by_cases hlt : i0 + 16 ≤ s.size
    · have hjm : j < m := by omega
      go_wp2_with fail
      go_loopw [5, 6] (fun nv kv wq => ∃ k k0 : Nat, k ≤ 8 ∧ 2 * k + 1 = k0 ∧ kv = .int .i64 k0 ∧ nv = .int .u8 (valL ((chunk l j).take k) : Nat) ∧ wq = wr) (fun _ kv _ => 17 - (intOf kv).toNat)
      case atStart => exact ⟨0, 1, by omega, rfl, rfl, rfl, rfl⟩
      case round =>
        obtain ⟨k, k0, hk, hk0, rfl, rfl, rfl⟩ := hrel
        by_cases hk8 : k < 8
        · obtain ⟨x, hx⟩ : ∃ x, i0 + k0 = x := ⟨_, rfl⟩
          have hxs : x < s.size := by omega
          have qx : IntKind.i64.wrap ((i0 : Int) + (k0 : Int)) = (x : Int) := by rw [IntWalk.i64_in _ (by omega)]; omega
          have qx2 : (i0 : Int) + (k0 : Int) = (x : Int) := by omega
          have hch := chunk_at (l := l) (j := j) (k := k) hk8 (by omega)
          have hvl := valL_lt ((chunk l j).take k)
          have hvp : 2 ^ ((chunk l j).take k).length ≤ 2 ^ 7 := Nat.pow_le_pow_right (by decide) (by rw [List.length_take]; omega)
          have hge : l[8 * j + k]'(by omega) = s[x]'hxs := by
            have e : 2 * (8 * j + k) + 1 = x := by omega
            rw [HAT.out (8 * j + k) (by omega) (by omega)]
            subst e; rfl
          rw [hge] at hch
          have hsn := valL_snoc ((chunk l j).take k) (s[x]'hxs)
          rw [← hch] at hsn
          generalize valL ((chunk l j).take k) = v at *
          have HSN := Lib.hid hsn
          have hv3 : v < 128 := by omega
          have hr := ((bitB_cases (s[x]'hxs)).resolve_right (by rw [bits_at HB.out hxs]; simp)).2
          have hacc := u8_dec hv3 hr
          have hdb := u8_dbl hv3
          obtain ⟨c, ec⟩ : ∃ c, 2 * v + bitV (s[x]'hxs) = c := ⟨_, rfl⟩
          have hend : Hid (((2 * (v : Int) + ((s[x]'hxs).toNat : Int)) % 256 - 48) % 256 = (c : Int)) := Lib.hid (by
            rw [← ec]
            unfold bitV
            rcases hr with a1 | a1 <;> omega)
          rw [ec] at hacc HSN
          clear hch hsn hvl hvp hge ec hr
          go_wp2_with fail
          go_roundw
          case rel => exact ⟨k + 1, k0 + 2, by omega, by omega, by go_num, by rw [HSN.out]; exact congrArg (Value.int .u8) hend.out, trivial⟩
          case measure => simp [intOf]; omega
        · obtain rfl : k = 8 := by omega
          rw [chunk_all]
          have HP := Lib.hid (packL_more l j)
          have hv8 : valL (chunk l j) < 256 := Nat.lt_of_lt_of_le (valL_lt _) (by
            have := chunk_len l j
            exact Nat.pow_le_pow_right (n := 2) (by decide) this)
          have hb8 : b8 ((valL (chunk l j) : Nat) : Int) = UInt8.ofNat (valL (chunk l j)) := by unfold b8; rw [Int.toNat_natCast]
          generalize valL (chunk l j) = v at *
          have HB8 := Lib.hid hb8
          clear hb8
          have hpl : (packL l j).length < 65536 := by rw [packL_len]; omega
          go_wp2_with (at_builtin; refine append_byte _ rfl (.tmp 28) (.tmp 30) rfl w.heap.size u3 (packL l j) _ rfl rfl hown ⟨by omega, by omega⟩ (by omega) hz ?_; intro v1 w1 hown1 hbel1)
          rw [HB8.out, ← HP.out] at hown1
          go_roundw
          case rel => exact ⟨j + 1, i0 + 16, by omega, by omega, by go_num, hown1, hbel.trans (hbel1.mono (Nat.le_refl _))⟩
          case measure => simp [intOf]; omega
    · have hjm : j = m := by omega
      subst hjm
      have hcv := hown.str
      go_wp2_with fail
      go_ret
      exact ⟨rfl, hbel⟩
set_option maxHeartbeats 1000000 in
theorem spec_DecodeFm (s : ByteArray) (w : World) (hs : s.size ≤ 1048576) :
    Calls Tryd.prog 41 #[.string s] w fun e w' => e = .returned (.tuple #[.string (decS s), .bool (decB s)]) ∧ Below w.heap.size w w' := by
  have ht : (s.size : Int).tmod 16 = ((s.size % 16 : Nat) : Int) := by rw [Int.tmod_eq_emod_of_nonneg (by omega)]; rfl
  have ht2 : (s.size : Int) % 16 = ((s.size % 16 : Nat) : Int) := rfl
  obtain ⟨r, hr⟩ : ∃ r, s.size % 16 = r := ⟨_, rfl⟩
  rw [hr] at ht ht2
  obtain h | h := (Bool.eq_false_or_eq_true (cellStr s)).symm
  · have hb : decB s = false := by unfold decB; rw [h]; rfl
    have H1 := Lib.hid hb
    have H2 := Lib.hid (dec_no hb)
    have H := Lib.hid h
    clear h hr hb
    go_enter Tryd.func41, Tryd.ntmps41
    go_wp2_with (go_at_call 37; refine (spec_l05Cells s _ (by omega)).mono ?_; rintro e w1 ⟨rfl, rfl⟩; rw [H.out])
    go_ret2
    exact ⟨ret_str_bool (by rw [H2.out]; rfl) (by rw [H1.out]), Below.refl _ _⟩
  by_cases h16 : r = 0
  rotate_left
  · have hne : ((r : Int) != 0) = true := by rw [bne_iff_ne]; omega
    have hb : decB s = false := by unfold decB; rw [hr, decide_eq_false h16, Bool.and_false]
    have H1 := Lib.hid hb
    have H2 := Lib.hid (dec_no hb)
    have H := Lib.hid h
    clear h hr hb
    go_enter Tryd.func41, Tryd.ntmps41
    go_wp2_with (go_at_call 37; refine (spec_l05Cells s _ (by omega)).mono ?_; rintro e w1 ⟨rfl, rfl⟩; rw [H.out])
    go_ret2
    exact ⟨ret_str_bool (by rw [H2.out]; rfl) (by rw [H1.out]), Below.refl _ _⟩
  subst h16
  have hb : decB s = true := by unfold decB; rw [h, hr]; rfl
  have H1 := Lib.hid hb
  have hba : bitsAll s.data.toList = true ∧ s.size ≤ 8000 := by
    unfold cellStr at h
    simp at h
    exact ⟨h.2, h.1⟩
  have h2 := dec_yes hb
  obtain ⟨m, hm⟩ : ∃ m, 16 * m = s.size := ⟨s.size / 16, by omega⟩
  rw [show s.size / 2 = 8 * m by omega, show s.size / 16 = m by omega] at h2
  have H2 := Lib.hid h2
  have H := Lib.hid h
  have hd := fun w' => spec_l05Decode s m w' hba.2 hm hba.1
  clear h hr hb hba h2 hm
  go_enter Tryd.func41, Tryd.ntmps41
  go_wp2_with (first | (go_at_call 37; refine (spec_l05Cells s _ (by omega)).mono ?_; rintro e w1 ⟨rfl, rfl⟩; rw [H.out]) | (go_at_call 53; refine (hd _).mono ?_; rintro e w2 ⟨rfl, hb2⟩))
  go_ret2
  exact ⟨ret_str_bool (by rw [H2.out]) (by rw [H1.out]), hb2⟩
end Go.Proofs.YtkbhdlhkfeaejaaDoor
