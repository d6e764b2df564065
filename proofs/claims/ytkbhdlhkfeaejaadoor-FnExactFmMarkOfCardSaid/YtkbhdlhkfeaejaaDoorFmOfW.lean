/- FmMarkOf. -/
import Derived.Test.YtkbhdlhkfeaejaaDoorDecSW
import Derived.Test.YtkbhdlhkfeaejaaDoorMarkW
namespace Go.Proofs.YtkbhdlhkfeaejaaDoor
open Go.RowKit
set_option linter.unusedVariables false
def fmByte (s : ByteArray) : Nat := ((decS s).data.toList.getD 0 0).toNat
def fmB (s : ByteArray) : Bool := decB s && (decide ((decS s).size = 1) && decide (markS (fmByte s) = s))
def fmN_ (s : ByteArray) : Int := if fmB s then (fmByte s : Int) else 0
theorem toList_same {a b : ByteArray} (h : a = b) : (a.toList == b.toList) = true := by rw [h]; simp
theorem toList_diff {a b : ByteArray} (h : a ≠ b) : (a.toList == b.toList) = false := by
  rw [beq_eq_false_iff_ne, ByteArray.toList_eq, ByteArray.toList_eq]
  intro e
  exact h (ByteArray.ext (Array.ext' e))
theorem fm_no1 {s : ByteArray} (h : decB s = false) : fmB s = false := by unfold fmB; rw [h]; rfl
theorem fm_no2 {s : ByteArray} (h : (decS s).size ≠ 1) : fmB s = false := by unfold fmB; rw [decide_eq_false h]; simp
theorem fm_num {s : ByteArray} (h : fmB s = false) : fmN_ s = 0 := by unfold fmN_; rw [h]; rfl
theorem fm_num2 {s : ByteArray} (h : fmB s = true) : fmN_ s = (fmByte s : Int) := by unfold fmN_; rw [h]; rfl
set_option maxHeartbeats 1000000 in
set_option maxRecDepth 20000 in
theorem impl_FmMarkOf (s : ByteArray) (w : World) (hs : s.size ≤ 1048576) :
    Calls Tryd.prog 22 #[.string s] w fun e w' => e = .returned (.tuple #[.int .i64 (fmN_ s), .bool (fmB s)]) ∧ Below w.heap.size w w' := by
  have hd := fun w' => impl_dataCells s w' hs
  obtain h | h := (Bool.eq_false_or_eq_true (decB s)).symm
  · have H1 := Lib.hid (fm_no1 h)
    have H2 := Lib.hid (fm_num (fm_no1 h))
    rw [h] at hd
    generalize decS s = t at hd
    clear h
    go_enter Tryd.func22, Tryd.ntmps22
    go_wp2_with (go_at_call 43; refine (hd _).mono ?_; rintro e w1 ⟨rfl, hb1⟩)
    go_ret2
    exact ⟨ret_int_bool H2.out.symm H1.out.symm, hb1⟩
  by_cases hz : (decS s).size = 1
  rotate_left
  · have H1 := Lib.hid (fm_no2 hz)
    have H2 := Lib.hid (fm_num (fm_no2 hz))
    rw [h] at hd
    generalize decS s = t at hd hz
    have hne : ((t.size : Int) != 1) = true := by rw [bne_iff_ne]; omega
    clear h
    go_enter Tryd.func22, Tryd.ntmps22
    go_wp2_with (go_at_call 43; refine (hd _).mono ?_; rintro e w1 ⟨rfl, hb1⟩)
    go_ret2
    exact ⟨ret_int_bool H2.out.symm H1.out.symm, hb1⟩
  have hB : fmB s = decide (markS (fmByte s) = s) := by unfold fmB; rw [h, decide_eq_true hz]; rfl
  have hN0 := @fm_num s
  have hN1 := @fm_num2 s
  rw [h] at hd
  have e0 : ∀ h0 : 0 < (decS s).size, fmByte s = ((decS s)[0]'h0).toNat := fun h0 => by unfold fmByte; rw [List.getD_eq_getElem?_getD, List.getElem?_eq_getElem (by show 0 < (decS s).size; omega)]; rfl
  generalize fmByte s = c at hB hN1 e0
  generalize fmB s = fb at hB hN0 hN1 ⊢
  generalize fmN_ s = fn at hN0 hN1 ⊢
  generalize decS s = t at hd hz e0
  replace e0 := e0 (by omega)
  have hzi : (t.size : Int) = 1 := by omega
  have hc : c < 256 := by rw [e0]; exact UInt8.toNat_lt _
  have hm := fun w' => impl_FmMark_yes c w' hc
  generalize markS c = m at hm hB
  by_cases hms : m = s
  · have hB2 : fb = true := by rw [hB]; exact decide_eq_true hms
    have ht := toList_same hms
    have H1 := Lib.hid hB2
    have H2 := Lib.hid (hN1 hB2)
    clear h hN0 hN1 hB hB2 hms
    go_enter Tryd.func22, Tryd.ntmps22
    go_wp2_with (first | (go_at_call 43; refine (hd _).mono ?_; rintro e w1 ⟨rfl, hb1⟩) | (go_at_call 44; rw [← e0]; refine (hm _).mono ?_; rintro e w2 ⟨rfl, hb2⟩))
    go_ret2
    exact ⟨ret_int_bool (by rw [H2.out, ← e0]) (by rw [H1.out]), hb1.trans (hb2.mono hb1.size)⟩
  · have hB2 : fb = false := by rw [hB]; exact decide_eq_false hms
    have ht := toList_diff hms
    have H1 := Lib.hid hB2
    have H2 := Lib.hid (hN0 hB2)
    clear h hN0 hN1 hB hB2 hms
    go_enter Tryd.func22, Tryd.ntmps22
    go_wp2_with (first | (go_at_call 43; refine (hd _).mono ?_; rintro e w1 ⟨rfl, hb1⟩) | (go_at_call 44; rw [← e0]; refine (hm _).mono ?_; rintro e w2 ⟨rfl, hb2⟩))
    go_ret2
    exact ⟨ret_int_bool (by rw [H2.out]) (by rw [H1.out]), hb1.trans (hb2.mono hb1.size)⟩
set_option maxHeartbeats 1000000 in
set_option maxRecDepth 20000 in
theorem spec_FmMarkOf (s : ByteArray) (w : World) (hs : s.size ≤ 1048576) :
    Calls Tryd.prog 21 #[.string s] w fun e w' => e = .returned (.tuple #[.int .i64 (fmN_ s), .bool (fmB s)]) ∧ Below w.heap.size w w' := by
  have hd := fun w' => spec_DecodeFm s w' hs
  obtain h | h := (Bool.eq_false_or_eq_true (decB s)).symm
  · have H1 := Lib.hid (fm_no1 h)
    have H2 := Lib.hid (fm_num (fm_no1 h))
    rw [h] at hd
    generalize decS s = t at hd
    clear h
    go_enter Tryd.func21, Tryd.ntmps21
    go_wp2_with (go_at_call 41; refine (hd _).mono ?_; rintro e w1 ⟨rfl, hb1⟩)
    go_ret2
    exact ⟨ret_int_bool H2.out.symm H1.out.symm, hb1⟩
  by_cases hz : (decS s).size = 1
  rotate_left
  · have H1 := Lib.hid (fm_no2 hz)
    have H2 := Lib.hid (fm_num (fm_no2 hz))
    rw [h] at hd
    generalize decS s = t at hd hz
    have hne : ((t.size : Int) != 1) = true := by rw [bne_iff_ne]; omega
    clear h
    go_enter Tryd.func21, Tryd.ntmps21
    go_wp2_with (go_at_call 41; refine (hd _).mono ?_; rintro e w1 ⟨rfl, hb1⟩)
    go_ret2
    exact ⟨ret_int_bool H2.out.symm H1.out.symm, hb1⟩
  have hB : fmB s = decide (markS (fmByte s) = s) := by unfold fmB; rw [h, decide_eq_true hz]; rfl
  have hN0 := @fm_num s
  have hN1 := @fm_num2 s
  rw [h] at hd
  have e0 : ∀ h0 : 0 < (decS s).size, fmByte s = ((decS s)[0]'h0).toNat := fun h0 => by unfold fmByte; rw [List.getD_eq_getElem?_getD, List.getElem?_eq_getElem (by show 0 < (decS s).size; omega)]; rfl
  generalize fmByte s = c at hB hN1 e0
  generalize fmB s = fb at hB hN0 hN1 ⊢
  generalize fmN_ s = fn at hN0 hN1 ⊢
  generalize decS s = t at hd hz e0
  replace e0 := e0 (by omega)
  have hzi : (t.size : Int) = 1 := by omega
  have hc : c < 256 := by rw [e0]; exact UInt8.toNat_lt _
  have hm := fun w' => spec_FmMark_yes c w' hc
  generalize markS c = m at hm hB
  by_cases hms : m = s
  · have hB2 : fb = true := by rw [hB]; exact decide_eq_true hms
    have ht := toList_same hms
    have H1 := Lib.hid hB2
    have H2 := Lib.hid (hN1 hB2)
    clear h hN0 hN1 hB hB2 hms
    go_enter Tryd.func21, Tryd.ntmps21
    go_wp2_with (first | (go_at_call 41; refine (hd _).mono ?_; rintro e w1 ⟨rfl, hb1⟩) | (go_at_call 42; rw [← e0]; refine (hm _).mono ?_; rintro e w2 ⟨rfl, hb2⟩))
    go_ret2
    exact ⟨ret_int_bool (by rw [H2.out, ← e0]) (by rw [H1.out]), hb1.trans (hb2.mono hb1.size)⟩
  · have hB2 : fb = false := by rw [hB]; exact decide_eq_false hms
    have ht := toList_diff hms
    have H1 := Lib.hid hB2
    have H2 := Lib.hid (hN0 hB2)
    clear h hN0 hN1 hB hB2 hms
    go_enter Tryd.func21, Tryd.ntmps21
    go_wp2_with (first | (go_at_call 41; refine (hd _).mono ?_; rintro e w1 ⟨rfl, hb1⟩) | (go_at_call 42; rw [← e0]; refine (hm _).mono ?_; rintro e w2 ⟨rfl, hb2⟩))
    go_ret2
    exact ⟨ret_int_bool (by rw [H2.out]) (by rw [H1.out]), hb1.trans (hb2.mono hb1.size)⟩
theorem walk_FnExactFmMarkOf (s : ByteArray) (w : World) (hs : s.size ≤ maxLen) :
    Calls Tryd.prog 7 #[.string s] w fun e w' => e = .returned (.bool true) ∧ Below w.heap.size w w' := by
  unfold maxLen at hs
  by_cases h : s.size ≤ 1048576
  · have hd : decide ((1048576 : Int) < (s.size : Int)) = false := decide_eq_false (by omega)
    go_enter Tryd.func7, Tryd.ntmps7
    go_wp2_with (first | (go_at_call 21; refine (spec_FmMarkOf s _ h).mono ?_; rintro e w1 ⟨rfl, hb1⟩) | (go_at_call 22; refine (impl_FmMarkOf s _ h).mono ?_; rintro e w2 ⟨rfl, hb2⟩))
    go_ret
    exact ⟨rfl, hb1.trans (hb2.mono hb1.size)⟩
  · have hd : decide ((1048576 : Int) < (s.size : Int)) = true := decide_eq_true (by omega)
    go_enter Tryd.func7, Tryd.ntmps7
    go_wp2_with fail
    go_ret
    exact ⟨rfl, Below.refl _ _⟩
end Go.Proofs.YtkbhdlhkfeaejaaDoor
