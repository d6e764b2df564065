/- Flux of times, its four callers. Printed by makegen.py. -/
import Derived.Test.YtfdcainjppljhaaMakeW
namespace Go.Proofs.Ytfdcainjppljhaa
open Go.RowKit
set_option linter.unusedVariables false
/-- What times become. -/
def tmB (l : List Int) (rev cell : Int) : Bool := !l.isEmpty && timesOk l rev cell
def tmC (l : List Int) (rev cell : Int) : Int := if tmB l rev cell then cell else 0
def tmF (l : List Int) (rev cell : Int) : Int := if tmB l rev cell then l.headD 0 else 0
def tmL (l : List Int) (rev cell : Int) : List Int := if tmB l rev cell then gapsT l rev else []
def tmE (err : Int) (l : List Int) (rev cell : Int) : Int := if l.isEmpty then 6 else if timesOk l rev cell then 0 else err
theorem tmL_len (l : List Int) (rev cell : Int) : (tmL l rev cell).length ≤ l.length := by
  unfold tmL tmB
  split
  · rename_i h
    cases l with
    | nil => simp at h
    | cons a l => rw [gapsT_len _ _ (by simp)]; omega
  · simp
set_option maxHeartbeats 2000000 in
set_option maxRecDepth 20000 in
theorem spec_l04Done (p : Option Addr) (l : List Int) (cap : Nat) (rev cell : Int) (w : World) (hI : IntsAt w p l) (hl : l.length ≤ 1048576) (hr : -9223372036854775808 ≤ rev ∧ rev ≤ 9223372036854775807) :
    Calls Try.prog 63 #[.slice p l.length cap, .int .i64 rev, .int .i64 cell] w fun e w' => ∃ (q : Option Addr) (dq : Nat), e = .returned (.tuple #[.agg #[.int .i64 (tmC l rev cell), .int .i64 (tmF l rev cell), .slice q (tmL l rev cell).length dq], .int .i64 (tmE 2 l rev cell)]) ∧ OwnS w' w.heap.size q (tmL l rev cell) ∧ Below w.heap.size w w' := by
  have R0 := Blk.new w 26 #[.int .i64 0, .int .i64 0, .slice none 0 0]
  have W0 : Below w.heap.size w (w.alloc (.cells #[.int .i64 0, .int .i64 0, .slice none 0 0] 26)) := (Below.refl _ _).alloc (Nat.le_refl _) _
  cases hb : tmB l rev cell
  · have HC : Hid (tmC l rev cell = 0) := Lib.hid (by unfold tmC; rw [hb]; rfl)
    have HF : Hid (tmF l rev cell = 0) := Lib.hid (by unfold tmF; rw [hb]; rfl)
    have HL : Hid (tmL l rev cell = []) := Lib.hid (by unfold tmL; rw [hb]; rfl)
    by_cases h0 : l = []
    · have HE : Hid (tmE 2 l rev cell = 6) := Lib.hid (by unfold tmE; rw [h0]; rfl)
      have hz : ((l.length : Int) == 0) = true := by rw [h0]; rfl
      have hz' : (l.length : Int) = 0 := by rw [h0]; rfl
      clear h0 hb
      go_enter Try.func63, Try.ntmps63
      go_wp2_with fail
      refine bodyPost_ret (v := .tuple #[.agg #[.int .i64 0, .int .i64 0, .slice none 0 0], .int .i64 6]) (by simp [results, Try.results63, go_sem]) rfl ?_
      rw [HC.out, HF.out, HL.out, HE.out]
      exact ⟨none, 0, rfl, OwnS.nil_ _ _ _, W0⟩
    · have h1 : 1 ≤ l.length := by
        cases l with
        | nil => exact absurd rfl h0
        | cons a l => simp
      have hem : l.isEmpty = false := by cases l with | nil => exact absurd rfl h0 | cons a l => rfl
      have hok : timesOk l rev cell = false := by unfold tmB at hb; rw [hem] at hb; simpa using hb
      have HE : Hid (tmE 2 l rev cell = 2) := Lib.hid (by unfold tmE; rw [hem, hok]; rfl)
      have hz : ((l.length : Int) == 0) = false := by simp; exact h0
      have HO := Lib.hid hok
      have H0 := Lib.hid h0
      clear h0 hb hok hem
      go_enter Try.func63, Try.ntmps63
      go_wp2_with fail
      generalize w.alloc (.cells #[.int .i64 0, .int .i64 0, .slice none 0 0] 26) = w0 at R0 W0 ⊢
      refine (spec_l04Make _ _ _ _ _ _ (hI.below W0) h1 hl hr).mono ?_
      rintro e w1 ⟨x, y, q, n, dq, rfl, -, -, hb1⟩
      rw [HO.out]
      have R1 := R0.keep hb1
      have hw1 := below_st W0 hb1 (Nat.le_refl _)
      have hs1 := ((hw1.setCell (p := ⟨w.heap.size, 0, none⟩) (Nat.le_refl _) (.int .i64 0)).setCell (p := ⟨w.heap.size, 1, none⟩) (Nat.le_refl _) (.int .i64 0)).setCell (p := ⟨w.heap.size, 2, none⟩) (Nat.le_refl _) (.slice none 0 0)
      have hs2 := hs1.alloc hs1.size (.cells #[.int .i64 x, .int .i64 y, .slice q n.length dq] 26)
      obtain ⟨r0, r1', r2⟩ := R1.cell3
      have rf := R1.frozen
      have rlt := R1.lt
      obtain ⟨e0, e1, e2⟩ := ((R1.set3 (.int .i64 0) (.int .i64 0) (.slice none 0 0)).alloc' (.cells #[.int .i64 x, .int .i64 y, .slice q n.length dq] 26)).cell3
      go_wp2_with fail
      refine bodyPost_ret (v := .tuple #[.agg #[.int .i64 0, .int .i64 0, .slice none 0 0], .int .i64 2]) (by simp [results, Try.results63, go_sem, e0, e1, e2]) rfl ?_
      rw [HC.out, HF.out, HL.out, HE.out]
      exact ⟨none, 0, rfl, OwnS.nil_ _ _ _, hs2⟩
  · have HC : Hid (tmC l rev cell = cell) := Lib.hid (by unfold tmC; rw [hb]; rfl)
    have HF : Hid (tmF l rev cell = l.headD 0) := Lib.hid (by unfold tmF; rw [hb]; rfl)
    have HL : Hid (tmL l rev cell = gapsT l rev) := Lib.hid (by unfold tmL; rw [hb]; rfl)
    unfold tmB at hb
    rw [Bool.and_eq_true] at hb
    obtain ⟨hem, hok⟩ := hb
    have h1 : 1 ≤ l.length := by
      cases l with
      | nil => simp at hem
      | cons a l => simp
    have HE : Hid (tmE 2 l rev cell = 0) := Lib.hid (by unfold tmE; rw [show l.isEmpty = false by simpa using hem, hok]; rfl)
    have hz : ((l.length : Int) == 0) = false := by simp; intro e; rw [e] at h1; simp at h1
    have hz2 : l ≠ [] := by intro e; rw [e] at h1; simp at h1
    have HO := Lib.hid hok
    clear hok hem
    go_enter Try.func63, Try.ntmps63
    go_wp2_with fail
    generalize w.alloc (.cells #[.int .i64 0, .int .i64 0, .slice none 0 0] 26) = w0 at R0 W0 ⊢
    refine (spec_l04Make _ _ _ _ _ _ (hI.below W0) h1 hl hr).mono ?_
    rintro e w1 ⟨x, y, q, n, dq, rfl, himp, S1, hb1⟩
    obtain ⟨rfl, hy, rfl⟩ := himp HO.out
    rw [HO.out]
    have HY := Lib.hid hy
    clear himp hy
    have R1 := R0.keep hb1
    have hw1 := below_st W0 hb1 (Nat.le_refl _)
    have hz0 := hb1.size
    have hs1 := ((hw1.setCell (p := ⟨w.heap.size, 0, none⟩) (Nat.le_refl _) (.int .i64 x)).setCell (p := ⟨w.heap.size, 1, none⟩) (Nat.le_refl _) (.int .i64 y)).setCell (p := ⟨w.heap.size, 2, none⟩) (Nat.le_refl _) (.slice q (gapsT l rev).length dq)
    have hs2 := hs1.alloc hs1.size (.cells #[.int .i64 x, .int .i64 y, .slice q (gapsT l rev).length dq] 26)
    have hz1 := W0.size
    have hz0' := R0.lt
    obtain ⟨r0, r1', r2⟩ := R1.cell3
    have rf := R1.frozen
    have rlt := R1.lt
    obtain ⟨e0, e1, e2⟩ := ((R1.set3 (.int .i64 x) (.int .i64 y) (.slice q (gapsT l rev).length dq)).alloc' (.cells #[.int .i64 x, .int .i64 y, .slice q (gapsT l rev).length dq] 26)).cell3
    have S5 := (((S1.offS (g' := w.heap.size) hz0' 0 (.int .i64 x)).offS (g' := w.heap.size) hz0' 1 (.int .i64 y)).offS (g' := w.heap.size) hz0' 2 (.slice q (gapsT l rev).length dq)).below ((Below.refl _ _).alloc (Nat.le_refl _) (.cells #[.int .i64 x, .int .i64 y, .slice q (gapsT l rev).length dq] 26))
    go_wp2_with fail
    refine bodyPost_ret (v := .tuple #[.agg #[.int .i64 x, .int .i64 y, .slice q (gapsT l rev).length dq], .int .i64 0]) (by simp [results, Try.results63, go_sem, e0, e1, e2]) rfl ?_
    rw [HC.out, HF.out, HL.out, HE.out, ← HY.out]
    exact ⟨q, dq, rfl, S5.mono hz1, hs2⟩
set_option maxHeartbeats 2000000 in
set_option maxRecDepth 20000 in
theorem impl_changed (p : Option Addr) (l : List Int) (cap : Nat) (rev cell : Int) (w : World) (hI : IntsAt w p l) (hl : l.length ≤ 1048576) (hr : -9223372036854775808 ≤ rev ∧ rev ≤ 9223372036854775807) :
    Calls Try.prog 61 #[.slice p l.length cap, .int .i64 rev, .int .i64 cell] w fun e w' => ∃ (q : Option Addr) (dq : Nat), e = .returned (.tuple #[.agg #[.int .i64 (tmC l rev cell), .int .i64 (tmF l rev cell), .slice q (tmL l rev cell).length dq], .int .i64 (tmE 2 l rev cell)]) ∧ OwnS w' w.heap.size q (tmL l rev cell) ∧ Below w.heap.size w w' := by
  have R0 := Blk.new w 26 #[.int .i64 0, .int .i64 0, .slice none 0 0]
  have W0 : Below w.heap.size w (w.alloc (.cells #[.int .i64 0, .int .i64 0, .slice none 0 0] 26)) := (Below.refl _ _).alloc (Nat.le_refl _) _
  cases hb : tmB l rev cell
  · have HC : Hid (tmC l rev cell = 0) := Lib.hid (by unfold tmC; rw [hb]; rfl)
    have HF : Hid (tmF l rev cell = 0) := Lib.hid (by unfold tmF; rw [hb]; rfl)
    have HL : Hid (tmL l rev cell = []) := Lib.hid (by unfold tmL; rw [hb]; rfl)
    by_cases h0 : l = []
    · have HE : Hid (tmE 2 l rev cell = 6) := Lib.hid (by unfold tmE; rw [h0]; rfl)
      have hz : ((l.length : Int) == 0) = true := by rw [h0]; rfl
      have hz' : (l.length : Int) = 0 := by rw [h0]; rfl
      clear h0 hb
      go_enter Try.func61, Try.ntmps61
      go_wp2_with fail
      refine bodyPost_ret (v := .tuple #[.agg #[.int .i64 0, .int .i64 0, .slice none 0 0], .int .i64 6]) (by simp [results, Try.results61, go_sem]) rfl ?_
      rw [HC.out, HF.out, HL.out, HE.out]
      exact ⟨none, 0, rfl, OwnS.nil_ _ _ _, W0⟩
    · have h1 : 1 ≤ l.length := by
        cases l with
        | nil => exact absurd rfl h0
        | cons a l => simp
      have hem : l.isEmpty = false := by cases l with | nil => exact absurd rfl h0 | cons a l => rfl
      have hok : timesOk l rev cell = false := by unfold tmB at hb; rw [hem] at hb; simpa using hb
      have HE : Hid (tmE 2 l rev cell = 2) := Lib.hid (by unfold tmE; rw [hem, hok]; rfl)
      have hz : ((l.length : Int) == 0) = false := by simp; exact h0
      have HO := Lib.hid hok
      have H0 := Lib.hid h0
      clear h0 hb hok hem
      go_enter Try.func61, Try.ntmps61
      go_wp2_with fail
      generalize w.alloc (.cells #[.int .i64 0, .int .i64 0, .slice none 0 0] 26) = w0 at R0 W0 ⊢
      refine (impl_timedFlux _ _ _ _ _ _ (hI.below W0) h1 hl hr).mono ?_
      rintro e w1 ⟨x, y, q, n, dq, rfl, -, -, hb1⟩
      rw [HO.out]
      have R1 := R0.keep hb1
      have hw1 := below_st W0 hb1 (Nat.le_refl _)
      have hs1 := ((hw1.setCell (p := ⟨w.heap.size, 0, none⟩) (Nat.le_refl _) (.int .i64 0)).setCell (p := ⟨w.heap.size, 1, none⟩) (Nat.le_refl _) (.int .i64 0)).setCell (p := ⟨w.heap.size, 2, none⟩) (Nat.le_refl _) (.slice none 0 0)
      have hs2 := hs1.alloc hs1.size (.cells #[.int .i64 x, .int .i64 y, .slice q n.length dq] 26)
      obtain ⟨r0, r1', r2⟩ := R1.cell3
      have rf := R1.frozen
      have rlt := R1.lt
      obtain ⟨e0, e1, e2⟩ := ((R1.set3 (.int .i64 0) (.int .i64 0) (.slice none 0 0)).alloc' (.cells #[.int .i64 x, .int .i64 y, .slice q n.length dq] 26)).cell3
      go_wp2_with fail
      refine bodyPost_ret (v := .tuple #[.agg #[.int .i64 0, .int .i64 0, .slice none 0 0], .int .i64 2]) (by simp [results, Try.results61, go_sem, e0, e1, e2]) rfl ?_
      rw [HC.out, HF.out, HL.out, HE.out]
      exact ⟨none, 0, rfl, OwnS.nil_ _ _ _, hs2⟩
  · have HC : Hid (tmC l rev cell = cell) := Lib.hid (by unfold tmC; rw [hb]; rfl)
    have HF : Hid (tmF l rev cell = l.headD 0) := Lib.hid (by unfold tmF; rw [hb]; rfl)
    have HL : Hid (tmL l rev cell = gapsT l rev) := Lib.hid (by unfold tmL; rw [hb]; rfl)
    unfold tmB at hb
    rw [Bool.and_eq_true] at hb
    obtain ⟨hem, hok⟩ := hb
    have h1 : 1 ≤ l.length := by
      cases l with
      | nil => simp at hem
      | cons a l => simp
    have HE : Hid (tmE 2 l rev cell = 0) := Lib.hid (by unfold tmE; rw [show l.isEmpty = false by simpa using hem, hok]; rfl)
    have hz : ((l.length : Int) == 0) = false := by simp; intro e; rw [e] at h1; simp at h1
    have hz2 : l ≠ [] := by intro e; rw [e] at h1; simp at h1
    have HO := Lib.hid hok
    clear hok hem
    go_enter Try.func61, Try.ntmps61
    go_wp2_with fail
    generalize w.alloc (.cells #[.int .i64 0, .int .i64 0, .slice none 0 0] 26) = w0 at R0 W0 ⊢
    refine (impl_timedFlux _ _ _ _ _ _ (hI.below W0) h1 hl hr).mono ?_
    rintro e w1 ⟨x, y, q, n, dq, rfl, himp, S1, hb1⟩
    obtain ⟨rfl, hy, rfl⟩ := himp HO.out
    rw [HO.out]
    have HY := Lib.hid hy
    clear himp hy
    have R1 := R0.keep hb1
    have hw1 := below_st W0 hb1 (Nat.le_refl _)
    have hz0 := hb1.size
    have hs1 := ((hw1.setCell (p := ⟨w.heap.size, 0, none⟩) (Nat.le_refl _) (.int .i64 x)).setCell (p := ⟨w.heap.size, 1, none⟩) (Nat.le_refl _) (.int .i64 y)).setCell (p := ⟨w.heap.size, 2, none⟩) (Nat.le_refl _) (.slice q (gapsT l rev).length dq)
    have hs2 := hs1.alloc hs1.size (.cells #[.int .i64 x, .int .i64 y, .slice q (gapsT l rev).length dq] 26)
    have hz1 := W0.size
    have hz0' := R0.lt
    obtain ⟨r0, r1', r2⟩ := R1.cell3
    have rf := R1.frozen
    have rlt := R1.lt
    obtain ⟨e0, e1, e2⟩ := ((R1.set3 (.int .i64 x) (.int .i64 y) (.slice q (gapsT l rev).length dq)).alloc' (.cells #[.int .i64 x, .int .i64 y, .slice q (gapsT l rev).length dq] 26)).cell3
    have S5 := (((S1.offS (g' := w.heap.size) hz0' 0 (.int .i64 x)).offS (g' := w.heap.size) hz0' 1 (.int .i64 y)).offS (g' := w.heap.size) hz0' 2 (.slice q (gapsT l rev).length dq)).below ((Below.refl _ _).alloc (Nat.le_refl _) (.cells #[.int .i64 x, .int .i64 y, .slice q (gapsT l rev).length dq] 26))
    go_wp2_with fail
    refine bodyPost_ret (v := .tuple #[.agg #[.int .i64 x, .int .i64 y, .slice q (gapsT l rev).length dq], .int .i64 0]) (by simp [results, Try.results61, go_sem, e0, e1, e2]) rfl ?_
    rw [HC.out, HF.out, HL.out, HE.out, ← HY.out]
    exact ⟨q, dq, rfl, S5.mono hz1, hs2⟩
end Go.Proofs.Ytfdcainjppljhaa
