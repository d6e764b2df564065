/- bytesOf, BytesOf. -/
import Derived.Test.YtkbhdlhkfeaejaaDoorPackP
import Derived.StillTailTactics
import Derived.Deep.DeepCutAuto
import Derived.Deep.OwnRows
namespace Go.Proofs.YtkbhdlhkfeaejaaDoor
open Go.RowKit
set_option linter.unusedVariables false
theorem make_bytesN (n : Nat) (hn : n ≤ 2097152) (w : World) : (Instr.makeSlice 37 (.int .i64 (n : Int)) (.int .i64 (n : Int))).run Tryd.prog w = .ok (.slice (some ⟨w.heap.size, 0, none⟩) n n) (w.alloc (.cells (madeCells #[.int .u8 0] n) 5)) :=
  run_make_row' (P := Tryd.prog) 37 5 (.int .u8 0) 1 Tryd.underlying37 info_u8 rfl .i64 .i64 n (by omega) (by omega) w
theorem RowB.made_ (w : World) (n : Nat) : RowB (w.alloc (.cells (madeCells #[.int .u8 0] n) 5)) w.heap.size (List.replicate n 0) := by
  have B := Blk.new w 5 (madeCells #[.int .u8 0] n)
  refine ⟨B.lt, fun i hi => ⟨?_, B.frozen i⟩⟩
  rw [B.cell i]
  have hi' : i < n := by simpa using hi
  simp [madeCells, hi', Nat.mod_one]
set_option maxHeartbeats 2000000 in
set_option maxRecDepth 20000 in
theorem impl_bytesOf (s : ByteArray) (m : Nat) (w : World) (hs : s.size ≤ 1048576) (hm : s.size = 8 * m) (hb : bitsAll s.data.toList = true) :
    Calls Tryd.prog 55 #[.string s] w fun e w' => e = .returned (.string ⟨(packL s.data.toList m).toArray⟩) ∧ Below w.heap.size w w' := by
  have HB := Lib.hid hb
  have hq : (s.size : Int).tdiv 8 = (m : Int) := by rw [Int.tdiv_eq_ediv_of_nonneg (by omega)]; omega
  have hq2 : (s.size : Int) / 8 = (m : Int) := by omega
  have hmk := make_bytesN m (by omega) w
  have R0 := RowB.made_ w m
  have hb0 : Below w.heap.size w (w.alloc (.cells (madeCells #[.int .u8 0] m) 5)) := (Below.refl _ _).alloc (Nat.le_refl _) _
  have hsl : s.data.toList.length = s.size := rfl
  have hm' : 8 * m = s.size := hm.symm
  clear hb hm
  go_enter Tryd.func55, Tryd.ntmps55
  go_wp2_with fail
  generalize w.alloc (.cells (madeCells #[.int .u8 0] m) 5) = w0 at R0 hb0 ⊢
  rw [← packL_nil] at R0
  obtain ⟨g, hg⟩ : ∃ g, w.heap.size = g := ⟨_, rfl⟩
  rw [hg] at R0 hb0 ⊢
  go_loopw [11] (fun i wr => ∃ k : Nat, k ≤ s.size ∧ i = .int .i64 k ∧ RowB wr g (packL (s.data.toList.take k) m) ∧ Below g w wr) (fun i _ => s.size - (intOf i).toNat)
  case atStart => exact ⟨0, Nat.zero_le _, rfl, R0, hb0⟩
  case round =>
    obtain ⟨k, hk, rfl, hrow, hbel⟩ := hrel
    by_cases hlt : k < s.size
    · obtain ⟨r, er⟩ : ∃ r, k / 8 = r := ⟨_, rfl⟩
      have hrm : r < m := by omega
      have hbit := bits_at HB.out hlt
      have hc := (bitB_cases (s[k]'hlt)).resolve_right (by rw [hbit]; simp)
      have hsub := bit_sub hc.2
      have hset := packL_set (l := s.data.toList) (m := m) (k := k) (by omega) (by omega)
      have hcl := chunk_cur (l := s.data.toList) (k := k) (by omega)
      have hv := valL_lt (chunk (s.data.toList.take k) (k / 8))
      rw [er] at hset hcl hv
      rw [hcl] at hv
      have hv2 : 2 ^ (k % 8) ≤ 2 ^ 7 := Nat.pow_le_pow_right (by decide) (by omega)
      have hge : s.data.toList[k]'(by omega) = s[k]'hlt := rfl
      rw [hge] at hset
      have hat := packL_at (s.data.toList.take k) m r (by rw [packL_len]; exact hrm)
      have hb1 := bitV_le (s[k]'hlt)
      obtain ⟨b, eb⟩ : ∃ b, bitV (s[k]'hlt) = b := ⟨_, rfl⟩
      rw [eb] at hset hsub hb1
      generalize valL (chunk (s.data.toList.take k) r) = v at hset hv hat
      have hv3 : v < 128 := by omega
      have hor := u8_or1 hv3 hb1
      clear hc hbit hcl hge eb
      go_wp2_with fail
      refine still_tail2 15 (by kernel_rfl) (by kernel_rfl) ?_
      intro wq hbq hzq hcq hfq
      have hrowq := hrow.below hbq
      have hbelq := below_st hbel hbq (by have := hbel.size; omega)
      have hcf := hrowq.2 r (by rw [packL_len]; exact hrm)
      rw [hat] at hcf
      have hto : (UInt8.ofNat v).toNat = v := by simp; omega
      rw [hto] at hcf
      obtain ⟨hcw, hfw⟩ := hcf
      have q1 : (k : Int).tdiv 8 = (r : Int) := by rw [Int.tdiv_eq_ediv_of_nonneg (by omega)]; omega
      have q2 : (k : Int) / 8 = (r : Int) := by omega
      have q3 : IntKind.i64.wrap (r : Int) = (r : Int) := IntWalk.i64_in _ (by omega)
      have i1 : (r : Int) < (m : Int) := by omega
      have hn := hrowq.set_ r (n := ((2 * v + b : Nat) : Int)) (by omega)
      have hb8 : b8 ((2 * v + b : Nat) : Int) = UInt8.ofNat (2 * v + b) := by unfold b8; rw [Int.toNat_natCast]
      rw [hb8, ← hset] at hn
      obtain ⟨c, ec⟩ : ∃ c, 2 * v + b = c := ⟨_, rfl⟩
      rw [ec] at hn hor
      clear ec
      have HN := Lib.hid hn
      clear hn hset hcq hfq hrow hrowq hat hb8
      simp only [List.take_succ_cons, List.take_zero, List.drop_succ_cons, List.drop_zero]
      repeat still_step
      refine wpStill_nil ?_
      go_wp2_with fail
      exact ⟨⟨k + 1, by omega, by go_num, HN.out, hbelq.setCell (p := ⟨g, r, none⟩) (Nat.le_refl _) _⟩, by simp [intOf]; omega⟩
    · have hk2 : k = s.size := by omega
      rw [List.take_of_length_le (by omega)] at hrow
      have hst := hrow.str m m (by rw [packL_len])
      go_wp2_with fail
      go_ret
      exact ⟨rfl, by rw [hg]; exact hbel⟩
/-- Bytes of bits, if there are any. -/
def bytB (s : ByteArray) : Bool := decide (s.size % 8 = 0) && (decide (s.size ≤ 32768) && bitsAll s.data.toList)
def bytS (s : ByteArray) : ByteArray := if bytB s then ⟨(packL s.data.toList (s.size / 8)).toArray⟩ else ByteArray.empty
end Go.Proofs.YtkbhdlhkfeaejaaDoor
