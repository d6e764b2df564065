/- The law's walk: FnBits. -/
import Derived.Test.YtgaemcpfhmaplaaDoorDrawW
import Derived.Test.YtgaemcpfhmaplaaDoorOpenB
import Derived.Test.YtgaemcpfhmaplaaDoorBackP
import Derived.Test.YtgaemcpfhmaplaaDoorBitsW
import Derived.Test.YtgaemcpfhmaplaaDoorHexW
import Derived.Test.YtgaemcpfhmaplaaDoorRHexW
import Derived.Test.YtgaemcpfhmaplaaDoorWordW
import Derived.Test.YtgaemcpfhmaplaaDoorPutW
namespace Go.Proofs.YtgaemcpfhmaplaaDoor
open Go.RowKit
set_option linter.unusedVariables false
theorem hexV_hexD {n : Nat} (h : n < 16) : hexV (hexD n) = (n : Int) := by
  have h2 : ∀ i : Fin 16, hexV (hexD i.val) = (i.val : Int) := by decide +kernel
  exact h2 ⟨n, h⟩
theorem unhex_hex : ∀ l : List UInt8, unhexL (hexL l) = some l
  | [] => rfl
  | c :: l => by
    have hc := c.toNat_lt
    have h1 := hexV_hexD (n := c.toNat / 16) (by omega)
    have h2 := hexV_hexD (n := c.toNat % 16) (by omega)
    show unhexL (hexD (c.toNat / 16) :: hexD (c.toNat % 16) :: hexL l) = _
    rw [unhexL, if_neg (by omega), unhex_hex l, h1, h2]
    have e : (16 * ((c.toNat / 16 : Nat) : Int) + ((c.toNat % 16 : Nat) : Int)) = (c.toNat : Int) := by omega
    rw [e, b8_toNat]
    rfl
theorem rh_hex {s : ByteArray} (hs : s.size ≤ 4096) : rhB (hexS s) = true ∧ rhS (hexS s) = s ∧ (hexS s).size ≤ 8192 := by
  have hl : s.data.toList.length = s.size := rfl
  have e : hexS s = ⟨(hexL s.data.toList).toArray⟩ := by unfold hexS; rw [if_pos hs]
  have hd : (hexS s).data.toList = hexL s.data.toList := by rw [e]
  have h := rh_some (s := hexS s) (l := s.data.toList) (by rw [hd, unhex_hex])
  refine ⟨h.2, h.1, ?_⟩
  have h2 : (hexS s).data.toList.length = (hexS s).size := rfl
  rw [← h2, hd, hexL_len]
  omega
theorem spec_DrawBitsOf (p : Option Addr) (l : List UInt8) (cap : Nat) (w : World) (hI : BytesAt w p l) (hl : l.length ≤ 1048576) :
    Calls Tryd.prog 11 #[.slice p l.length cap] w fun e w' => ∃ s : ByteArray, e = .returned (.string s) ∧ s.size ≤ 10 ∧ Below w.heap.size w w' := by
  go_enter Tryd.func11, Tryd.ntmps11
  go_wp2_with fail
  refine (spec_l00From p l cap _ hI hl).mono ?_
  rintro e w1 ⟨rfl, hS1, hb1⟩
  go_wp2_with fail
  refine (src_l01Draw w.heap.size 0 10 _ hS1 (by omega) (by omega)).mono ?_
  rintro e w2 ⟨s, rfl, hs, hS2, ha2⟩
  go_wp2_with fail
  go_ret
  exact ⟨s, rfl, by omega, hb1.trans (ha2.below hb1.size (fun g e => by injection e with e; omega))⟩
theorem get_put {n : Nat} (h : n < 65536) : ∃ h3 : 1 + 1 < ((⟨#[120]⟩ : ByteArray) ++ wordS n).size, ((((⟨#[120]⟩ : ByteArray) ++ wordS n)[1]'(by omega)).toNat : Int) * (256 : Int) + ((((⟨#[120]⟩ : ByteArray) ++ wordS n)[1 + 1]'h3).toNat : Int) = (n : Int) := by
  have e : ((⟨#[120]⟩ : ByteArray) ++ wordS n) = ⟨#[120, b8 ((n / 256 : Nat) : Int), b8 ((n % 256 : Nat) : Int)]⟩ := by
    apply ByteArray.ext
    simp [wordS]
  refine ⟨by rw [e]; show (2 : Nat) < 3; decide, ?_⟩
  simp only [e]
  show ((b8 ((n / 256 : Nat) : Int)).toNat : Int) * 256 + ((b8 ((n % 256 : Nat) : Int)).toNat : Int) = (n : Int)
  rw [b8_val (by omega) (by omega), b8_val (by omega) (by omega)]
  omega
set_option maxHeartbeats 2000000 in
set_option maxRecDepth 20000 in
theorem walk_FnBits (x : Byt) (w : World) (hx : x.ok w) :
    Calls Tryd.prog 4 #[x.val] w fun e w' => e = .returned (.bool true) ∧ Below w.heap.size w w' := by
  obtain ⟨p, l, cap⟩ := x
  obtain ⟨hI, -⟩ := hx
  simp only [Byt.val] at hI ⊢
  by_cases hl : l.length ≤ 1048576
  rotate_left
  · have hd : decide (1048576 < (l.length : Int)) = true := decide_eq_true (by omega)
    go_enter Tryd.func4, Tryd.ntmps4
    go_wp2_with fail
    refine (laws_b10Long p l cap _).mono ?_
    rintro e w0 ⟨rfl, rfl⟩
    rw [hd]
    go_wp2_with fail
    go_ret
    exact ⟨rfl, Below.refl _ _⟩
  have hd : decide (1048576 < (l.length : Int)) = false := decide_eq_false (by omega)
  go_enter Tryd.func4, Tryd.ntmps4
  go_wp2_with fail
  refine (laws_b10Long p l cap _).mono ?_
  rintro e w0 ⟨rfl, rfl⟩
  rw [hd]
  go_wp2_with fail
  refine (spec_DrawBitsOf p l cap _ hI hl).mono ?_
  rintro e w1 ⟨s, rfl, hs, hb1⟩
  have hbb := byt_bits (s := s) (by omega)
  have hrr := rh_hex (s := s) (by omega)
  obtain ⟨n, hn⟩ : ∃ n, l.length % 65536 = n := ⟨_, rfl⟩
  have hn2 : n < 65536 := by omega
  have ht : (l.length : Int).tmod 65536 = (n : Int) := by rw [Int.tmod_eq_emod_of_nonneg (by omega)]; omega
  have ht2 : (l.length : Int) % 65536 = (n : Int) := by omega
  have c1 := fun w' => impl_BitsOf s w' (by omega)
  have hbz : (bitsS s).size ≤ 1048576 := by
    have e : bitsS s = ⟨(bitsL s.data.toList).toArray⟩ := by unfold bitsS; rw [if_pos (by omega)]
    have hl : s.data.toList.length = s.size := rfl
    rw [e]
    show (bitsL s.data.toList).toArray.size ≤ _
    rw [List.size_toArray, bitsL_len]
    omega
  have c2 := fun w' => impl_BytesOf (bitsS s) w' hbz
  rw [hbb.1, hbb.2] at c2
  have c3 := fun w' => impl_HexText s w' (by omega)
  have c4 := fun w' => impl_ReadHex (hexS s) w' (by omega)
  rw [if_pos hrr.2.2, if_pos hrr.2.2, hrr.1, hrr.2.1] at c4
  have c5 := fun w' => impl_PutWord_yes n w' hn2
  obtain ⟨h3, hg⟩ := get_put hn2
  have hwz : ((⟨#[120]⟩ : ByteArray) ++ wordS n).size ≤ 1048576 := by
    rw [ByteArray.size_append]
    show 1 + 2 ≤ 1048576
    decide
  have c6 := fun w' => impl_GetWord_yes ((⟨#[120]⟩ : ByteArray) ++ wordS n) 1 w' hwz h3
  rw [hg] at c6
  have hwn : (wordS n).size ≤ 2 := Nat.le_refl _
  clear hbb hrr hg hwz hbz hn h3
  generalize bitsS s = sb at *
  generalize hexS s = sh at *
  generalize wordS n = sw at *
  go_wp2_with (first | (go_at_call 12; with_reducible refine (c1 _).mono ?_; rintro e w4 ⟨rfl, hb4⟩; replace hb1 := below_st hb1 hb4 (Nat.le_refl _); clear hb4) | (go_at_call 9; with_reducible refine (c2 _).mono ?_; rintro e w4 ⟨rfl, hb4⟩; replace hb1 := below_st hb1 hb4 (Nat.le_refl _); clear hb4) | (go_at_call 14; with_reducible refine (c3 _).mono ?_; rintro e w4 ⟨rfl, hb4⟩; replace hb1 := below_st hb1 hb4 (Nat.le_refl _); clear hb4) | (go_at_call 13; with_reducible refine (c4 _).mono ?_; rintro e w4 ⟨rfl, hb4⟩; replace hb1 := below_st hb1 hb4 (Nat.le_refl _); clear hb4) | (go_at_call 16; with_reducible refine (c5 _).mono ?_; rintro e w4 ⟨rfl, hb4⟩; replace hb1 := below_st hb1 hb4 (Nat.le_refl _); clear hb4) | (go_at_call 15; refine (c6 _).mono ?_; rintro e w4 ⟨rfl, hb4⟩; replace hb1 := below_st hb1 hb4 (Nat.le_refl _); clear hb4))
  go_ret
  exact ⟨rfl, hb1⟩
end Go.Proofs.YtgaemcpfhmaplaaDoor
