/- SpliceCells. -/
import Derived.Test.YtkbhdlhkfeaejaaDoorSplP
import Derived.Test.YtkbhdlhkfeaejaaDoorWithin
import Derived.Test.YtkbhdlhkfeaejaaDoorIn
import Derived.StillTailTactics
import Derived.Deep.DeepCutAuto
namespace Go.Proofs.YtkbhdlhkfeaejaaDoor
open Go.RowKit
set_option linter.unusedVariables false
def spOk (s t : ByteArray) (a : Int) : Bool := inB a 0 ((s.size : Int) - 1) && decide (t.size ≤ s.size)
def spE (s t : ByteArray) (a : Int) : Int := if cellsB s && cellsB t then (if spOk s t a then 0 else 2) else 1
def spR (s t : ByteArray) (a : Int) : ByteArray := if cellsB s && cellsB t && spOk s t a then splS s t a.toNat else ByteArray.empty
theorem sp_1 {s t : ByteArray} {a : Int} (h : cellsB s = false) : spE s t a = 1 ∧ spR s t a = ByteArray.empty := by unfold spE spR; rw [h]; exact ⟨rfl, rfl⟩
theorem sp_2 {s t : ByteArray} {a : Int} (h : cellsB s = true) (h2 : cellsB t = false) : spE s t a = 1 ∧ spR s t a = ByteArray.empty := by unfold spE spR; rw [h, h2]; exact ⟨rfl, rfl⟩
theorem sp_3 {s t : ByteArray} {a : Int} (h : cellsB s = true) (h2 : cellsB t = true) (h3 : spOk s t a = false) : spE s t a = 2 ∧ spR s t a = ByteArray.empty := by unfold spE spR; rw [h, h2, h3]; exact ⟨rfl, rfl⟩
theorem sp_4 {s t : ByteArray} {a : Int} (h : cellsB s = true) (h2 : cellsB t = true) (h3 : spOk s t a = true) : spE s t a = 0 ∧ spR s t a = splS s t a.toNat := by unfold spE spR; rw [h, h2, h3]; exact ⟨rfl, rfl⟩
theorem spOk_1 {s t : ByteArray} {a : Int} (h : inB a 0 ((s.size : Int) - 1) = false) : spOk s t a = false := by unfold spOk; rw [h]; rfl
theorem spOk_2 {s t : ByteArray} {a : Int} (h : ¬ t.size ≤ s.size) : spOk s t a = false := by unfold spOk; rw [decide_eq_false h, Bool.and_false]
theorem spOk_3 {s t : ByteArray} {a : Int} (h : inB a 0 ((s.size : Int) - 1) = true) (h2 : t.size ≤ s.size) : spOk s t a = true := by unfold spOk; rw [h, decide_eq_true h2]; rfl
theorem ret_str_int {a b : ByteArray} {x y : Int} (h : a = b) (h2 : x = y) : Ending.returned (.tuple #[.string a, .int .i64 x]) = .returned (.tuple #[.string b, .int .i64 y]) := by rw [h, h2]
theorem getD_at' {s : ByteArray} {k : Nat} (h : k < s.size) : s.data.toList.getD k 0 = s[k]'h := by
  rw [List.getD_eq_getElem?_getD, List.getElem?_eq_getElem (by simpa using h)]; rfl
set_option maxHeartbeats 2000000 in
set_option maxRecDepth 20000 in
theorem impl_SpliceCells (s t : ByteArray) (a : Int) (w : World) (hs : s.size ≤ 1048576) (ht : t.size ≤ 1048576) (ha : -9223372036854775808 ≤ a ∧ a ≤ 9223372036854775807) :
    Calls Tryd.prog 13 #[.string s, .int .i64 a, .string t] w fun e w' => e = .returned (.tuple #[.string (spR s t a), .int .i64 (spE s t a)]) ∧ Below w.heap.size w w' := by
  have hw : Below w.heap.size w w := Below.refl _ _
  obtain h | h := (Bool.eq_false_or_eq_true (cellsB s)).symm
  · have H := Lib.hid h
    have H2 := Lib.hid (@sp_1 s t a h)
    clear h
    go_enter Tryd.func13, Tryd.ntmps13
    go_wp2_with (go_at_call 33; refine (impl_ValidCells _ _ (by omega)).mono ?_; rintro e w1 ⟨rfl, hb⟩; replace hw := below_st hw hb (Nat.le_refl _); clear hb; rw [H.out])
    go_ret2
    exact ⟨ret_str_int (by rw [H2.out.2]; rfl) (by rw [H2.out.1]), hw⟩
  obtain h2 | h2 := (Bool.eq_false_or_eq_true (cellsB t)).symm
  · have H := Lib.hid h
    have HT := Lib.hid h2
    have H2 := Lib.hid (@sp_2 s t a h h2)
    clear h h2
    go_enter Tryd.func13, Tryd.ntmps13
    go_wp2_with ((go_at_call 33; refine (impl_ValidCells _ _ (by omega)).mono ?_; rintro e w1 ⟨rfl, hb⟩; replace hw := below_st hw hb (Nat.le_refl _); clear hb; first | rw [H.out] | rw [HT.out]))
    go_ret2
    exact ⟨ret_str_int (by rw [H2.out.2]; rfl) (by rw [H2.out.1]), hw⟩
  have hp := cellsB_pos h
  have q1 : IntKind.i64.wrap ((s.size : Int) - 1) = (s.size : Int) - 1 := IntWalk.i64_in _ (by omega)
  obtain h3 | h3 := (Bool.eq_false_or_eq_true (inB a 0 ((s.size : Int) - 1))).symm
  · have H := Lib.hid h
    have HT := Lib.hid h2
    have HI := Lib.hid h3
    have H2 := Lib.hid (@sp_3 s t a h h2 (spOk_1 h3))
    clear h h2 h3
    go_enter Tryd.func13, Tryd.ntmps13
    go_wp2_with (first | (go_at_call 33; refine (impl_ValidCells _ _ (by omega)).mono ?_; rintro e w1 ⟨rfl, hb⟩; replace hw := below_st hw hb (Nat.le_refl _); clear hb; first | rw [H.out] | rw [HT.out]) | (go_at_call 36; refine (within_any _ _ _ _).mono ?_; rintro e w3 ⟨rfl, rfl⟩; rw [HI.out]))
    go_ret2
    exact ⟨ret_str_int (by rw [H2.out.2]; rfl) (by rw [H2.out.1]), hw⟩
  by_cases h4 : t.size ≤ s.size
  rotate_left
  · have H := Lib.hid h
    have HT := Lib.hid h2
    have HI := Lib.hid h3
    have H2 := Lib.hid (@sp_3 s t a h h2 (spOk_2 h4))
    have hd : decide ((s.size : Int) < (t.size : Int)) = true := decide_eq_true (by omega)
    clear h h2 h3
    go_enter Tryd.func13, Tryd.ntmps13
    go_wp2_with (first | (go_at_call 33; refine (impl_ValidCells _ _ (by omega)).mono ?_; rintro e w1 ⟨rfl, hb⟩; replace hw := below_st hw hb (Nat.le_refl _); clear hb; first | rw [H.out] | rw [HT.out]) | (go_at_call 36; refine (within_any _ _ _ _).mono ?_; rintro e w3 ⟨rfl, rfl⟩; rw [HI.out]))
    go_ret2
    exact ⟨ret_str_int (by rw [H2.out.2]; rfl) (by rw [H2.out.1]), hw⟩
  have hd : decide ((s.size : Int) < (t.size : Int)) = false := decide_eq_false (by omega)
  have hdn : decide (s.size < t.size) = false := decide_eq_false (by omega)
  have hin : 0 ≤ a ∧ a ≤ (s.size : Int) - 1 := by
    unfold inB at h3
    simp at h3
    exact h3
  obtain ⟨an, rfl⟩ : ∃ an : Nat, a = (an : Int) := ⟨a.toNat, by omega⟩
  have han : an < s.size := by omega
  have hpt := cellsB_pos h2
  have H := Lib.hid h
  have HT := Lib.hid h2
  have HI := Lib.hid h3
  have H2 := Lib.hid (@sp_4 s t an h h2 (spOk_3 h3 h4))
  clear h h2 h3 hin
  have hcs := conv_str s
  have hsl : s.data.toList.length = s.size := rfl
  go_enter Tryd.func13, Tryd.ntmps13
  go_wp2_with (first | (go_at_call 33; refine (impl_ValidCells _ _ (by omega)).mono ?_; rintro e w1 ⟨rfl, hb⟩; replace hw := below_st hw hb (Nat.le_refl _); clear hb; first | rw [H.out] | rw [HT.out]) | (go_at_call 36; refine (within_any _ _ _ _).mono ?_; rintro e w3 ⟨rfl, rfl⟩; rw [HI.out]))
  clear hcs
  have hb0 := hw
  clear hw
  have hz0 := hb0.size
  obtain ⟨g, hg⟩ : ∃ g, w1.heap.size = g := ⟨_, rfl⟩
  have hrow0 : RowB (Lib.bytesWorld w1 5 s) w1.heap.size (splL s.data.toList t.data.toList an 0) := by rw [splL_zero]; exact RowB.bytes w1 s
  have hbw : Below w.heap.size w (Lib.bytesWorld w1 5 s) := hb0.trans ((bytesWorld_below w1 _ s).mono hz0)
  rw [hg] at hrow0
  generalize hcap : grownCap w1 s.size 0 5 = cap
  generalize Lib.bytesWorld w1 5 s = wb at hrow0 hbw ⊢
  rw [hg]
  rw [hg] at hz0
  clear hcap hb0
  go_loopw [37] (fun i wr => ∃ k : Nat, k ≤ t.size ∧ i = .int .i64 k ∧ RowB wr g (splL s.data.toList t.data.toList an k) ∧ Below w.heap.size w wr) (fun i _ => t.size - (intOf i).toNat)
  case atStart => exact ⟨0, Nat.zero_le _, rfl, hrow0, hbw⟩
  case round =>
    obtain ⟨k, hk, rfl, hrow, hbel⟩ := hrel
    by_cases hlt : k < t.size
    · obtain ⟨r, er⟩ : ∃ r, (if an + k < s.size then an + k else an + k - s.size) = r := ⟨_, rfl⟩
      have hstep := splL_step s.data.toList t.data.toList (a := an) (k := k) (by omega) (by omega)
      rw [hsl, er, getD_at' hlt] at hstep
      have hrn : r < s.size := by split at er <;> omega
      have hm : ((an : Int) + (k : Int)).tmod (s.size : Int) = (r : Int) := by
        rw [Int.tmod_eq_emod_of_nonneg (by omega)]
        split at er
        · rw [Int.emod_eq_of_lt (by omega) (by omega)]; omega
        · rw [← Int.sub_emod_right, Int.emod_eq_of_lt (by omega) (by omega)]; omega
      have hm2 : ((an : Int) + (k : Int)) % (s.size : Int) = (r : Int) := by
        rw [Int.tmod_eq_emod_of_nonneg (by omega)] at hm; exact hm
      have q3 : IntKind.i64.wrap ((an : Int) + (k : Int)) = (an : Int) + (k : Int) := IntWalk.i64_in _ (by omega)
      have q4 : IntKind.i64.wrap (((an : Int) + (k : Int)).tmod (s.size : Int)) = (r : Int) := by rw [hm, IntWalk.i64_in _ (by omega)]
      have q5 : IntKind.i64.wrap (r : Int) = (r : Int) := IntWalk.i64_in _ (by omega)
      have q6 : ¬ ((s.size : Int) = 0) := by omega
      have q7 : ¬ (s = ByteArray.empty) := by rintro rfl; exact absurd hp.1 (by decide)
      have i3 : (r : Int) < (s.size : Int) := by omega
      clear er
      go_wp2_with fail
      refine still_tail2 10 (by kernel_rfl) (by kernel_rfl) ?_
      intro wq hbq hzq hcq hfq
      have hrowq := hrow.below hbq
      have hbelq := below_st hbel hbq (by have := hbel.size; omega)
      have hcf := hrowq.2 r (by rw [splL_len]; omega)
      obtain ⟨hcw, hfw⟩ := hcf
      have hn := hrowq.set_ r (n := (((t[k]'hlt).toNat : Nat) : Int)) (u8_bd _)
      rw [b8_toNat, ← hstep] at hn
      have HN := Lib.hid hn
      clear hn hstep hcq hfq hrow hrowq
      simp only [List.take_succ_cons, List.take_zero, List.drop_succ_cons, List.drop_zero]
      repeat still_step
      refine wpStill_nil ?_
      go_wp2_with fail
      go_roundw
      case rel =>
        exact ⟨k + 1, by omega, by go_num, HN.out, hbelq.setCell (p := ⟨g, r, none⟩) hz0 _⟩
      case measure => simp [intOf]; omega
    · have hk2 : k = t.size := by omega
      subst hk2
      have hst := hrow.str cap s.size (by rw [splL_len]; rfl)
      go_wp2_with fail
      go_ret2
      exact ⟨ret_str_int (by rw [H2.out.2, Int.toNat_natCast]; rfl) (by rw [H2.out.1]), hbel⟩
set_option maxHeartbeats 2000000 in
set_option maxRecDepth 20000 in
theorem spec_SpliceCells (s t : ByteArray) (a : Int) (w : World) (hs : s.size ≤ 1048576) (ht : t.size ≤ 1048576) (ha : -9223372036854775808 ≤ a ∧ a ≤ 9223372036854775807) :
    Calls Tryd.prog 12 #[.string s, .int .i64 a, .string t] w fun e w' => e = .returned (.tuple #[.string (spR s t a), .int .i64 (spE s t a)]) ∧ Below w.heap.size w w' := by
  obtain h | h := (Bool.eq_false_or_eq_true (cellsB s)).symm
  · have H := Lib.hid h
    have H2 := Lib.hid (@sp_1 s t a h)
    clear h
    go_enter Tryd.func12, Tryd.ntmps12
    go_wp2_with (go_at_call 31; refine (spec_l02Cells _ _ (by omega)).mono ?_; rintro e w1 ⟨rfl, rfl⟩; rw [H.out])
    go_ret2
    exact ⟨ret_str_int (by rw [H2.out.2]; rfl) (by rw [H2.out.1]), Below.refl _ _⟩
  obtain h2 | h2 := (Bool.eq_false_or_eq_true (cellsB t)).symm
  · have H := Lib.hid h
    have HT := Lib.hid h2
    have H2 := Lib.hid (@sp_2 s t a h h2)
    clear h h2
    go_enter Tryd.func12, Tryd.ntmps12
    go_wp2_with ((go_at_call 31; refine (spec_l02Cells _ _ (by omega)).mono ?_; rintro e w1 ⟨rfl, rfl⟩; first | rw [H.out] | rw [HT.out]))
    go_ret2
    exact ⟨ret_str_int (by rw [H2.out.2]; rfl) (by rw [H2.out.1]), Below.refl _ _⟩
  have hp := cellsB_pos h
  have q1 : IntKind.i64.wrap ((s.size : Int) - 1) = (s.size : Int) - 1 := IntWalk.i64_in _ (by omega)
  obtain h3 | h3 := (Bool.eq_false_or_eq_true (inB a 0 ((s.size : Int) - 1))).symm
  · have H := Lib.hid h
    have HT := Lib.hid h2
    have HI := Lib.hid h3
    have H2 := Lib.hid (@sp_3 s t a h h2 (spOk_1 h3))
    clear h h2 h3
    go_enter Tryd.func12, Tryd.ntmps12
    go_wp2_with (first | (go_at_call 31; refine (spec_l02Cells _ _ (by omega)).mono ?_; rintro e w1 ⟨rfl, rfl⟩; first | rw [H.out] | rw [HT.out]) | (go_at_call 35; refine (l00In_any _ _ _ _).mono ?_; rintro e w3 ⟨rfl, rfl⟩; rw [HI.out]))
    go_ret2
    exact ⟨ret_str_int (by rw [H2.out.2]; rfl) (by rw [H2.out.1]), Below.refl _ _⟩
  by_cases h4 : t.size ≤ s.size
  rotate_left
  · have H := Lib.hid h
    have HT := Lib.hid h2
    have HI := Lib.hid h3
    have H2 := Lib.hid (@sp_3 s t a h h2 (spOk_2 h4))
    have hd : decide ((s.size : Int) < (t.size : Int)) = true := decide_eq_true (by omega)
    clear h h2 h3
    go_enter Tryd.func12, Tryd.ntmps12
    go_wp2_with (first | (go_at_call 31; refine (spec_l02Cells _ _ (by omega)).mono ?_; rintro e w1 ⟨rfl, rfl⟩; first | rw [H.out] | rw [HT.out]) | (go_at_call 35; refine (l00In_any _ _ _ _).mono ?_; rintro e w3 ⟨rfl, rfl⟩; rw [HI.out]))
    go_ret2
    exact ⟨ret_str_int (by rw [H2.out.2]; rfl) (by rw [H2.out.1]), Below.refl _ _⟩
  have hd : decide ((s.size : Int) < (t.size : Int)) = false := decide_eq_false (by omega)
  have hdn : decide (s.size < t.size) = false := decide_eq_false (by omega)
  have hin : 0 ≤ a ∧ a ≤ (s.size : Int) - 1 := by
    unfold inB at h3
    simp at h3
    exact h3
  obtain ⟨an, rfl⟩ : ∃ an : Nat, a = (an : Int) := ⟨a.toNat, by omega⟩
  have han : an < s.size := by omega
  have hpt := cellsB_pos h2
  have H := Lib.hid h
  have HT := Lib.hid h2
  have HI := Lib.hid h3
  have H2 := Lib.hid (@sp_4 s t an h h2 (spOk_3 h3 h4))
  clear h h2 h3 hin
  have HR := Lib.hid (spl_rot s t han h4)
  have hz := rotS_size s (an : Int) (by omega)
  have hrot := fun w' => spec_l02Rotate s (an : Int) w' (by omega) ha
  obtain ⟨u, hu⟩ : ∃ u, rotS s (an : Int) = u := ⟨_, rfl⟩
  rw [hu] at hz hrot HR
  have hvz : (t ++ u.extract t.size s.size).size = s.size := by
    rw [ByteArray.size_append, ByteArray.size_extract]; omega
  have hrot2 := fun w' => spec_l02Rotate (t ++ u.extract t.size s.size) (-(an : Int)) w' (by omega) (by omega)
  have i1 : t.size ≤ u.size := by omega
  have i2 : (t.size : Int) ≤ (u.size : Int) := by omega
  have q2 : IntKind.i64.wrap (-(an : Int)) = -(an : Int) := IntWalk.i64_in _ (by omega)
  have hsz : u.size = s.size := hz
  have HZ := Lib.hid hsz
  clear hu hvz hz
  go_enter Tryd.func12, Tryd.ntmps12
  go_wp2_with (first | (go_at_call 31; refine (spec_l02Cells _ _ (by omega)).mono ?_; rintro e w1 ⟨rfl, rfl⟩; first | rw [H.out] | rw [HT.out]) | (go_at_call 35; refine (l00In_any _ _ _ _).mono ?_; rintro e w3 ⟨rfl, rfl⟩; rw [HI.out]) | (go_at_call 32; with_reducible refine (hrot _).mono ?_; rintro e w4 ⟨rfl, hb4⟩) | (go_at_call 32; with_reducible refine (hrot2 _).mono ?_; rintro e w5 ⟨rfl, hb5⟩))
  go_ret2
  exact ⟨ret_str_int (by rw [H2.out.2, Int.toNat_natCast, HR.out]) (by rw [H2.out.1]), hb4.trans (hb5.mono hb4.size)⟩
theorem walk_FnExactSpliceCells (s : ByteArray) (x : Int) (t : ByteArray) (w : World) (hs : s.size ≤ maxLen) (hx : (Lit.int .i64 x).wf = true) (ht : t.size ≤ maxLen) :
    Calls Tryd.prog 4 #[.string s, .int .i64 x, .string t] w fun e w' => e = .returned (.bool true) ∧ Below w.heap.size w w' := by
  unfold maxLen at hs ht
  have hxb := i64_bd hx
  by_cases h : s.size ≤ 1048576
  · have hd : decide ((1048576 : Int) < (s.size : Int)) = false := decide_eq_false (by omega)
    by_cases h2 : t.size ≤ 1048576
    · have hd2 : decide ((1048576 : Int) < (t.size : Int)) = false := decide_eq_false (by omega)
      go_enter Tryd.func4, Tryd.ntmps4
      go_wp2_with (first | (go_at_call 12; refine (spec_SpliceCells s t x _ h h2 hxb).mono ?_; rintro e w1 ⟨rfl, hb1⟩) | (go_at_call 13; refine (impl_SpliceCells s t x _ h h2 hxb).mono ?_; rintro e w2 ⟨rfl, hb2⟩))
      go_ret
      exact ⟨rfl, hb1.trans (hb2.mono hb1.size)⟩
    · have hd2 : decide ((1048576 : Int) < (t.size : Int)) = true := decide_eq_true (by omega)
      go_enter Tryd.func4, Tryd.ntmps4
      go_wp2_with fail
      go_ret
      exact ⟨rfl, Below.refl _ _⟩
  · have hd : decide ((1048576 : Int) < (s.size : Int)) = true := decide_eq_true (by omega)
    go_enter Tryd.func4, Tryd.ntmps4
    go_wp2_with fail
    go_ret
    exact ⟨rfl, Below.refl _ _⟩
end Go.Proofs.YtkbhdlhkfeaejaaDoor
