/- The law's walk: FnCrcLinear. -/
import Derived.Test.YtgaemcpfhmaplaaDrawW
import Derived.Test.YtgaemcpfhmaplaaOpenB
import Derived.Test.YtgaemcpfhmaplaaCrcW
import Derived.Test.YtgaemcpfhmaplaaXorW
import Derived.Deep.OwnRows
namespace Go.Proofs.Ytgaemcpfhmaplaa
open Go.RowKit
theorem make_bytes (n : Nat) (hn : n ≤ 2097152) (w : World) : (Instr.makeSlice 27 (.int .i64 (n : Int)) (.int .i64 (n : Int))).run Try.prog w = .ok (.slice (some ⟨w.heap.size, 0, none⟩) n n) (w.alloc (.cells (madeCells #[.int .u8 0] n) 5)) :=
  run_make_row' (P := Try.prog) 27 5 (.int .u8 0) 1 Try.underlying27 info_u8 rfl .i64 .i64 n (by omega) (by omega) w
theorem RowB.made (w : World) (n : Nat) : RowB (w.alloc (.cells (madeCells #[.int .u8 0] n) 5)) w.heap.size (List.replicate n 0) := by
  have B := Blk.new w 5 (madeCells #[.int .u8 0] n)
  refine ⟨B.lt, fun i hi => ⟨?_, B.frozen i⟩⟩
  rw [B.cell i]
  have hi' : i < n := by simpa using hi
  simp [madeCells, hi', Nat.mod_one]
theorem xor_zeros (a : List UInt8) : List.zipWith (fun x y => x ^^^ y) a (List.replicate a.length 0) = a := by
  induction a with
  | nil => rfl
  | cons x a ih => simp [List.replicate_succ, ih]
/-- The check values of two strings and of their combination. -/
theorem crc_linear (a b : List UInt8) (h : a.length = b.length) :
    (crcL 65535 (List.zipWith (fun x y => x ^^^ y) a b) ^^^ crcL 65535 a) ^^^ crcL 65535 b = crcL 65535 (List.replicate a.length 0) := by
  have h1 := crcL_xor 65535 65535 a b h
  have h2 := crcL_xor (65535 ^^^ 65535) 65535 (List.zipWith (fun x y => x ^^^ y) a b) (List.replicate a.length 0) (by simp; omega)
  have hx : (List.zipWith (fun x y => x ^^^ y) a b).length = a.length := by simp; omega
  have h3 := xor_zeros (List.zipWith (fun x y => x ^^^ y) a b)
  rw [hx] at h3
  rw [h3, h1] at h2
  have e1 : (65535 ^^^ 65535) ^^^ 65535 = 65535 := by decide
  rw [e1] at h2
  rw [h2]
  apply Nat.eq_of_testBit_eq
  intro i
  simp only [Nat.testBit_xor]
  cases (crcL 65535 a).testBit i <;> cases (crcL 65535 b).testBit i <;> cases (crcL 65535 (List.replicate a.length 0)).testBit i <;> rfl
set_option maxHeartbeats 1000000 in
set_option maxRecDepth 20000 in
theorem walk_FnCrcLinear (x : Byt) (w : World) (hx : x.ok w) :
    Calls Try.prog 6 #[x.val] w fun e w' => e = .returned (.bool true) ∧ Below w.heap.size w w' := by
  obtain ⟨p, l, cap⟩ := x
  obtain ⟨hI, -⟩ := hx
  simp only [Byt.val] at hI ⊢
  by_cases hl : l.length ≤ 1048576
  · have hd : decide (1048576 < (l.length : Int)) = false := by simp; omega
    go_enter Try.func6, Try.ntmps6
    go_wp2_with fail
    refine (laws_b10Long p l cap _).mono ?_
    rintro e w0 ⟨rfl, rfl⟩
    rw [hd]
    go_wp2_with fail
    refine (spec_DrawXorBytes p l cap _ hI hl).mono ?_
    rintro e w1 ⟨a, b, rfl, ha, hb, hb1⟩
    by_cases hs : b.size = a.size
    · have hmk := make_bytes a.size (by omega)
      have hal : a.data.toList.length = b.data.toList.length := by simpa using hs.symm
      have hlin := crc_linear a.data.toList b.data.toList hal
      have happ := crcL_append 65535 a.data.toList b.data.toList
      have hcv65 : ∀ s : ByteArray, crcV s 65535 = ((crcL 65535 s.data.toList : Nat) : Int) := fun s => if_pos (by omega)
      have eX := hcv65 (xorS a b)
      have eA := hcv65 a
      have eB := hcv65 b
      have eZ := hcv65 ⟨(List.replicate a.size 0).toArray⟩
      have eV := hcv65 (a ++ b)
      have hAl := crcL_lt (v := 65535) (by decide) a.data.toList
      have eW : crcV b ((crcL 65535 a.data.toList : Nat) : Int) = ((crcL (crcL 65535 a.data.toList) b.data.toList : Nat) : Int) := if_pos (by omega)
      have hXl := crcL_lt (v := 65535) (by decide) (xorS a b).data.toList
      have hBl := crcL_lt (v := 65535) (by decide) b.data.toList
      rw [show (xorS a b).data.toList = List.zipWith (fun x y => x ^^^ y) a.data.toList b.data.toList from rfl] at eX hXl
      rw [show ({ data := (List.replicate a.size 0).toArray } : ByteArray).data.toList = List.replicate a.data.toList.length 0 by simp] at eZ
      rw [show (a ++ b).data.toList = a.data.toList ++ b.data.toList by simp] at eV
      rw [happ] at eV
      rw [← hlin] at eZ
      clear hlin happ hcv65
      obtain ⟨X, hX⟩ : ∃ X, crcL 65535 (List.zipWith (fun x y => x ^^^ y) a.data.toList b.data.toList) = X := ⟨_, rfl⟩
      obtain ⟨A, hA⟩ : ∃ A, crcL 65535 a.data.toList = A := ⟨_, rfl⟩
      obtain ⟨B, hB⟩ : ∃ B, crcL 65535 b.data.toList = B := ⟨_, rfl⟩
      rw [hX] at eX hXl eZ
      rw [hA] at eA hAl eZ eV eW
      rw [hB] at eB hBl eZ
      obtain ⟨V, hV⟩ : ∃ V, crcL A b.data.toList = V := ⟨_, rfl⟩
      rw [hV] at eV eW
      clear hX hA hB hV
      have q1 : bits .xor .i64 (X : Int) (A : Int) = ((X ^^^ A : Nat) : Int) := i64_xor_nat X A (by omega) (by omega)
      have hYl : X ^^^ A < 65536 := Nat.xor_lt_two_pow (n := 16) hXl hAl
      have q2 : bits .xor .i64 ((X ^^^ A : Nat) : Int) (B : Int) = ((X ^^^ A ^^^ B : Nat) : Int) := i64_xor_nat (X ^^^ A) B (by omega) (by omega)
      obtain ⟨Y, hY⟩ : ∃ Y, X ^^^ A = Y := ⟨_, rfl⟩
      rw [hY] at q1 q2 eZ
      obtain ⟨Z, hZ⟩ : ∃ Z, Y ^^^ B = Z := ⟨_, rfl⟩
      rw [hZ] at q2 eZ
      clear hY hZ hYl
      have HX := Lib.hid eX; have HA := Lib.hid eA; have HB := Lib.hid eB; have HZ := Lib.hid eZ; have HV := Lib.hid eV; have HW := Lib.hid eW
      clear eX eA eB eZ eV eW
      have hasz : (a ++ b).size ≤ 2097152 := by rw [ByteArray.size_append]; omega
      have hxsz : (xorS a b).size ≤ 2097152 := by
        show (xorL a.data.toList b.data.toList).toArray.size ≤ 2097152
        simp [xorL]
        omega
      go_wp2_with fail
      refine (impl_XorBytes_yes a b _ (by omega) hs).mono ?_
      rintro e w2 ⟨rfl, hb2⟩
      have hrow := RowB.made w2 a.size
      have hcv := hrow.str a.size a.size (by simp)
      have hmk := make_bytes a.size (by omega) w2
      have hw2 := below_st hb1 hb2 (Nat.le_refl _)
      go_wp2_with fail
      refine (impl_Crc16 (xorS a b) 65535 _ hxsz).mono ?_
      rintro e w3 ⟨rfl, rfl⟩
      rw [HX.out]
      go_wp2_with fail
      refine (impl_Crc16 a 65535 _ (by omega)).mono ?_
      rintro e w3 ⟨rfl, rfl⟩
      rw [HA.out]
      go_wp2_with fail
      refine (impl_Crc16 b 65535 _ (by omega)).mono ?_
      rintro e w3 ⟨rfl, rfl⟩
      rw [HB.out]
      go_wp2_with fail
      refine (impl_Crc16 ⟨(List.replicate a.size 0).toArray⟩ 65535 _ (by show (List.replicate a.size (0 : UInt8)).toArray.size ≤ 2097152; simp; omega)).mono ?_
      rintro e w3 ⟨rfl, rfl⟩
      rw [HZ.out]
      go_wp2_with fail
      refine (impl_Crc16 (a ++ b) 65535 _ hasz).mono ?_
      rintro e w3 ⟨rfl, rfl⟩
      rw [HV.out]
      go_wp2_with fail
      refine (impl_Crc16 a 65535 _ (by omega)).mono ?_
      rintro e w3 ⟨rfl, rfl⟩
      rw [HA.out]
      go_wp2_with fail
      refine (impl_Crc16 b A _ (by omega)).mono ?_
      rintro e w3 ⟨rfl, rfl⟩
      rw [HW.out]
      go_wp2_with fail
      go_ret
      exact ⟨ret_bool (by simp), hw2.alloc hw2.size _⟩
    · have hne : ((a.size : Int) != (b.size : Int)) = true := by rw [bne_iff_ne]; omega
      go_wp2_with fail
      refine (impl_XorBytes_no a b _ hs).mono ?_
      rintro e w2 ⟨rfl, hb2⟩
      go_wp2_with fail
      go_ret
      exact ⟨rfl, below_st hb1 hb2 (Nat.le_refl _)⟩
  · have hd : decide (1048576 < (l.length : Int)) = true := by simp; omega
    go_enter Try.func6, Try.ntmps6
    go_wp2_with fail
    refine (laws_b10Long p l cap _).mono ?_
    rintro e w0 ⟨rfl, rfl⟩
    rw [hd]
    go_wp2_with fail
    go_ret
    exact ⟨rfl, Below.refl _ _⟩
end Go.Proofs.Ytgaemcpfhmaplaa
