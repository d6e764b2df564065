/- The law's walk: FnCrcBurst. -/
import Derived.Test.YtgaemcpfhmaplaaDrawW
import Derived.Test.YtgaemcpfhmaplaaOpenB
import Derived.Test.YtgaemcpfhmaplaaCrcW
import Derived.Test.YtgaemcpfhmaplaaBurstP
import Derived.Test.YtgaemcpfhmaplaaXorW
namespace Go.Proofs.Ytgaemcpfhmaplaa
open Go.RowKit
set_option maxHeartbeats 2000000 in
set_option maxRecDepth 20000 in
theorem walk_FnCrcBurst (x y : Byt) (w : World) (hx : x.ok w) (hy : y.ok w) :
    Calls Try.prog 5 #[x.val, y.val] w fun e w' => e = .returned (.bool true) ∧ Below w.heap.size w w' := by
  obtain ⟨p, l, cap⟩ := x
  obtain ⟨hI, -⟩ := hx
  obtain ⟨p', l', cap'⟩ := y
  obtain ⟨hJ, -⟩ := hy
  simp only [Byt.val] at hI hJ ⊢
  by_cases hl : l.length ≤ 1048576
  · have hd : decide (1048576 < (l.length : Int)) = false := by simp; omega
    by_cases hl' : l'.length ≤ 1048576
    · have hd' : decide (1048576 < (l'.length : Int)) = false := by simp; omega
      go_enter Try.func5, Try.ntmps5
      go_wp2_with fail
      refine (laws_b10Long p l cap _).mono ?_
      rintro e w0 ⟨rfl, rfl⟩
      rw [hd]
      go_wp2_with fail
      refine (laws_b10Long p' l' cap' _).mono ?_
      rintro e w0 ⟨rfl, rfl⟩
      rw [hd']
      go_wp2_with fail
      refine (spec_DrawCrc16 p l cap _ hI hl).mono ?_
      rintro e w1 ⟨s, v, rfl, hs, hv, hb1⟩
      by_cases hin : 0 ≤ v ∧ v ≤ 65535 ∧ 3 ≤ s.size
      · obtain ⟨v0, v1, h3⟩ := hin
        have q1 : decide (v < 0) = false := by simp; omega
        have q2 : decide (65535 < v) = false := by simp; omega
        have q3 : decide ((s.size : Int) < 3) = false := by simp; omega
        go_wp2_with fail
        refine (laws_b10At p' l' cap' 0 _ _ (hJ.below hb1) (by omega) (by omega)).mono ?_
        rintro e w2 ⟨bit0, rfl, hbit, rfl⟩
        obtain ⟨bit, rfl⟩ : ∃ bit : Nat, bit0 = (bit : Int) := ⟨bit0.toNat, by omega⟩
        have hbit2 : bit + 15 < 8 * s.size := by omega
        have hcv := conv_str s
        go_wp2_with fail
        clear hcv
        have hrow := RowB.bytes w2 s
        have hbw := below_st hb1 (bytesWorld_below w2 5 s) (Nat.le_refl _)
        have hz1 := hb1.size
        generalize hgw : w2.heap.size = g at hrow hz1 ⊢
        generalize Lib.bytesWorld w2 5 s = w3 at hrow hbw ⊢
        go_loopw [9, 10] (fun cg i wr => ∃ (k : Nat) (ds : List Nat) (t : List UInt8), k ≤ 16 ∧ i = .int .i64 k ∧ cg = .bool (decide (1 ∈ ds)) ∧ ds.length = k ∧ (∀ x ∈ ds, x < 2) ∧ t.length = s.size ∧ RowB wr g t ∧ List.zipWith xorN (bitsN s.data.toList) (bitsN t) = List.replicate bit 0 ++ ds ++ List.replicate (8 * s.size - bit - k) 0 ∧ Below w0.heap.size w0 wr) (fun _ i _ => (16 - intOf i).toNat)
        case atStart =>
          refine ⟨0, [], s.data.toList, by omega, rfl, rfl, rfl, by simp, by simp, hrow, ?_, hbw⟩
          rw [zipX_self, bitsN_len, List.append_nil, List.replicate_append_replicate]
          congr 1
          simp
          omega
        case round =>
          obtain ⟨k, ds, t, hk, rfl, rfl, hdl, hd2, htl, hr, hz, hbel⟩ := hrel
          by_cases hlt : k < 16
          · have e1 : (k : Int).tdiv 8 = ((k / 8 : Nat) : Int) := by rw [Int.tdiv_eq_ediv_of_nonneg (by omega)]; omega
            have e2 : (k : Int).tmod 8 = ((k % 8 : Nat) : Int) := by rw [Int.tmod_eq_emod_of_nonneg (by omega)]; omega
            have e3 : ((bit : Int) + (k : Int)).tdiv 8 = (((bit + k) / 8 : Nat) : Int) := by rw [Int.tdiv_eq_ediv_of_nonneg (by omega)]; omega
            have e4 : ((bit : Int) + (k : Int)).tmod 8 = (((bit + k) % 8 : Nat) : Int) := by rw [Int.tmod_eq_emod_of_nonneg (by omega)]; omega
            go_wp2_with fail
            refine (laws_b10At p' l' cap' _ 256 _ (hJ.below hbel) (by omega) (by omega)).mono ?_
            rintro e w4 ⟨y, rfl, hy, rfl⟩
            have hi : (bit + k) / 8 < t.length := by omega
            obtain ⟨hc, hf⟩ := hr.2 _ hi
            have hcb := u8_bd (t[(bit + k) / 8])
            have hr8 : (bit + k) % 8 < 8 := Nat.mod_lt _ (by decide)
            have hun := unitB_val ⟨(bit + k) % 8, hr8⟩
            have hn := hr.set_ ((bit + k) / 8) (xor_bd (t[(bit + k) / 8]) (unitB ((bit + k) % 8)))
            rw [b8_xor] at hn
            simp only at hun
            rw [← hun] at hn
            have hM : 8 * s.size - bit - k = (8 * s.size - bit - (k + 1)) + 1 := by omega
            rw [hM] at hz
            have hfl := flip (s := s.data.toList) (t := t) (by simpa using htl.symm) (p := bit + k) (A := List.replicate bit 0 ++ ds) (by simp [hdl]) hi hz
            have HZ := Lib.hid hz
            have HFL := Lib.hid hfl
            have HD := Lib.hid hd2
            clear hz hfl hun hM hd2
            go_wp2_with fail
            · refine ⟨⟨k + 1, ds ++ [1], _, by omega, by go_num, by simp, by simp [hdl], ?_, ?_, hn, ?_, hbel.setCell (p := ⟨g, (bit + k) / 8, none⟩) hz1 _⟩, by simp [intOf]; omega⟩
              · intro x hx
                rw [List.mem_append] at hx
                rcases hx with hx | hx
                · exact HD.out x hx
                · simp at hx; omega
              · simp [htl]
              · rw [HFL.out]
                simp only [List.append_assoc]
            · refine ⟨⟨k + 1, ds ++ [0], t, by omega, by go_num, by simp, by simp [hdl], ?_, htl, hr, ?_, hbel⟩, by simp [intOf]; omega⟩
              · intro x hx
                rw [List.mem_append] at hx
                rcases hx with hx | hx
                · exact HD.out x hx
                · simp at hx; omega
              · rw [HZ.out, List.replicate_succ]
                simp only [List.append_assoc]
                rfl
          · have ek : k = 16 := by omega
            subst ek
            have hcv := hr.str (grownCap w2 s.size 0 5) s.size htl.symm
            obtain ⟨vn, rfl⟩ := Int.eq_ofNat_of_zero_le v0
            have hbu := burst (v := vn) (s := s.data.toList) (t := t) (by simpa using htl.symm) hdl hd2 hz
            have c1 : crcV ⟨t.toArray⟩ (vn : Int) = ((crcL vn t : Nat) : Int) := by unfold crcV; rw [if_pos (by omega), Int.toNat_natCast]
            have c2 : crcV s (vn : Int) = ((crcL vn s.data.toList : Nat) : Int) := by unfold crcV; rw [if_pos (by omega), Int.toNat_natCast]
            have C1 := Lib.hid c1; have C2 := Lib.hid c2; have HB := Lib.hid hbu
            clear c1 c2 hbu hz hd2
            go_wp2_with fail
            refine (impl_Crc16 ⟨t.toArray⟩ _ _ (by show t.toArray.size ≤ 2097152; simp; omega)).mono ?_
            rintro e w5 ⟨rfl, rfl⟩
            rw [C1.out]
            go_wp2_with fail
            refine (impl_Crc16 s _ _ (by omega)).mono ?_
            rintro e w5 ⟨rfl, rfl⟩
            rw [C2.out]
            go_wp2_with fail
            go_ret
            refine ⟨ret_bool ?_, hbel⟩
            have hb := HB.out
            by_cases h1 : 1 ∈ ds
            · have : crcL vn t ≠ crcL vn s.data.toList := fun e => (hb.1 e) h1
              simp [h1]
              omega
            · have := hb.2 h1
              simp [h1, this]
      · have hq : decide (v < 0) = true ∨ (decide (v < 0) = false ∧ (decide (65535 < v) = true ∨ (decide (65535 < v) = false ∧ decide ((s.size : Int) < 3) = true))) := by simp; omega
        clear hin
        rcases hq with hq | ⟨hq1, hq | ⟨hq2, hq3⟩⟩
        all_goals
          go_wp2_with fail
          go_ret
          exact ⟨rfl, hb1⟩
    · have hd' : decide (1048576 < (l'.length : Int)) = true := by simp; omega
      go_enter Try.func5, Try.ntmps5
      go_wp2_with fail
      refine (laws_b10Long p l cap _).mono ?_
      rintro e w0 ⟨rfl, rfl⟩
      rw [hd]
      go_wp2_with fail
      refine (laws_b10Long p' l' cap' _).mono ?_
      rintro e w0 ⟨rfl, rfl⟩
      rw [hd']
      go_wp2_with fail
      go_ret
      exact ⟨rfl, Below.refl _ _⟩
  · have hd : decide (1048576 < (l.length : Int)) = true := by simp; omega
    go_enter Try.func5, Try.ntmps5
    go_wp2_with fail
    refine (laws_b10Long p l cap _).mono ?_
    rintro e w0 ⟨rfl, rfl⟩
    rw [hd]
    go_wp2_with fail
    go_ret
    exact ⟨rfl, Below.refl _ _⟩
end Go.Proofs.Ytgaemcpfhmaplaa
