/- Times that become flux: timedFlux, l04Make and their callers. Printed by makegen.py. -/
import Derived.Test.YtfdcainjppljhaaTimesW
import Derived.Test.YtfdcainjppljhaaTimes2W
import Derived.Test.YtfdcainjppljhaaMakeP
namespace Go.Proofs.Ytfdcainjppljhaa
open Go.RowKit
set_option linter.unusedVariables false

theorem Blk.drew {w : World} {g : Nat} {t : TypeId} {cs : Array Value} (h : Blk w g t cs) : Blk w.drew g t cs := h
theorem OwnS.offS {w : World} {base g' : Nat} {p : Option Addr} {l : List Int} (h : OwnS w base p l) (hb : g' < base) (o : Nat) (x : Value) : OwnS (w.setCell ⟨g', o, none⟩ x) base p l := h.asides (Aside.setCell g' o x) (fun hl g hp e => by have := (h.lt hl hp).1; injection e with e; omega)

set_option maxHeartbeats 2000000 in
set_option maxRecDepth 20000 in
theorem spec_l04Make (p : Option Addr) (l : List Int) (cap : Nat) (rev cell : Int) (w : World) (hI : IntsAt w p l) (h1 : 1 ≤ l.length) (hl : l.length ≤ 1048576) (hr : -9223372036854775808 ≤ rev ∧ rev ≤ 9223372036854775807) :
    Calls Try.prog 91 #[.slice p l.length cap, .int .i64 rev, .int .i64 cell] w fun e w' => ∃ (x y : Int) (q : Option Addr) (m : List Int) (dq : Nat), e = .returned (.tuple #[.agg #[.int .i64 x, .int .i64 y, .slice q m.length dq], .bool (timesOk l rev cell)]) ∧ (timesOk l rev cell = true → x = cell ∧ y = l.headD 0 ∧ m = gapsT l rev) ∧ OwnS w' w.heap.size q m ∧ Below w.heap.size w w' := by
  have hmk := make_ok (t := l) (rev := rev) (cell := cell) (by intro e; rw [e] at h1; simp at h1) hr
  have hgl : (gapsT l rev).length ≤ 1048576 := by rw [gapsT_len _ _ h1]; exact hl
  obtain ⟨t0, et0⟩ : ∃ t0, l.headD 0 = t0 := ⟨_, rfl⟩
  have htm := fun w hI => spec_l02Times p l cap rev cell w hI h1 hl
  simp only [et0] at htm
  rw [et0] at hmk
  rw [et0]
  clear et0
  obtain ⟨r1, er1⟩ : ∃ r1, IntKind.i64.wrap (rev - 1) = r1 := ⟨_, rfl⟩
  rw [er1] at hmk
  have R0 := Blk.new w 26 #[.int .i64 0, .int .i64 0, .slice none 0 0]
  have W0 : Below w.heap.size w (w.alloc (.cells #[.int .i64 0, .int .i64 0, .slice none 0 0] 26)) := (Below.refl _ _).alloc (Nat.le_refl _) _
  cases hri : risesB l 0 r1
  · have HR := Lib.hid hri
    have HK : Hid (timesOk l rev cell = false) := Lib.hid (by rw [← hmk, hri]; rfl)
    clear hri hmk
    go_enter Try.func91, Try.ntmps91
    go_wp2_with fail
    generalize w.alloc (.cells #[.int .i64 0, .int .i64 0, .slice none 0 0] 26) = w0 at R0 W0 ⊢
    refine (spec_l00Rises _ _ _ _ _ _ (hI.below W0) hl).mono ?_
    rintro e w1 ⟨rfl, hb1⟩
    rw [HR.out]
    have R1 := R0.keep hb1
    have hw1 := below_st W0 hb1 (Nat.le_refl _)
    obtain ⟨r0, r1', r2⟩ := R1.cell3
    have rf := R1.frozen
    obtain ⟨e0, e1, e2⟩ := (R1.set3 (.int .i64 0) (.int .i64 0) (.slice none 0 0)).cell3
    go_wp2_with fail
    refine bodyPost_ret (v := .tuple #[.agg #[.int .i64 0, .int .i64 0, .slice none 0 0], .bool false]) (by simp [results, Try.results91, go_sem, e0, e1, e2]) rfl ?_
    rw [HK.out]
    exact ⟨0, 0, none, [], 0, rfl, (fun h => absurd h (by decide)), OwnS.nil_ _ _ _, ((hw1.setCell (p := ⟨w.heap.size, 0, none⟩) (Nat.le_refl _) _).setCell (p := ⟨w.heap.size, 1, none⟩) (Nat.le_refl _) _).setCell (p := ⟨w.heap.size, 2, none⟩) (Nat.le_refl _) _⟩
  by_cases h2 : rev ≤ 2000000
  rotate_left
  · have HR := Lib.hid hri
    have hd : decide (2000000 < rev) = true := by simp; omega
    have HK : Hid (timesOk l rev cell = false) := Lib.hid (by rw [← hmk, hri, decide_eq_false h2]; rfl)
    clear hri hmk h2
    go_enter Try.func91, Try.ntmps91
    go_wp2_with fail
    generalize w.alloc (.cells #[.int .i64 0, .int .i64 0, .slice none 0 0] 26) = w0 at R0 W0 ⊢
    refine (spec_l00Rises _ _ _ _ _ _ (hI.below W0) hl).mono ?_
    rintro e w1 ⟨rfl, hb1⟩
    rw [HR.out]
    have R1 := R0.keep hb1
    have hw1 := below_st W0 hb1 (Nat.le_refl _)
    obtain ⟨r0, r1', r2⟩ := R1.cell3
    have rf := R1.frozen
    obtain ⟨e0, e1, e2⟩ := (R1.set3 (.int .i64 0) (.int .i64 0) (.slice none 0 0)).cell3
    go_wp2_with fail
    refine bodyPost_ret (v := .tuple #[.agg #[.int .i64 0, .int .i64 0, .slice none 0 0], .bool false]) (by simp [results, Try.results91, go_sem, e0, e1, e2]) rfl ?_
    rw [HK.out]
    exact ⟨0, 0, none, [], 0, rfl, (fun h => absurd h (by decide)), OwnS.nil_ _ _ _, ((hw1.setCell (p := ⟨w.heap.size, 0, none⟩) (Nat.le_refl _) _).setCell (p := ⟨w.heap.size, 1, none⟩) (Nat.le_refl _) _).setCell (p := ⟨w.heap.size, 2, none⟩) (Nat.le_refl _) _⟩
  have HR := Lib.hid hri
  have hd : decide (2000000 < rev) = false := by simp; omega
  have HK : Hid (timesOk l rev cell = fluxOk cell t0 (gapsT l rev)) := Lib.hid (by rw [← hmk, hri, decide_eq_true h2]; rfl)
  clear hri hmk h2
  cases hok : fluxOk cell t0 (gapsT l rev)
  all_goals
    have HO := Lib.hid hok
    clear hok
    go_enter Try.func91, Try.ntmps91
    go_wp2_with fail
    generalize w.alloc (.cells #[.int .i64 0, .int .i64 0, .slice none 0 0] 26) = w0 at R0 W0 ⊢
    refine (spec_l00Rises _ _ _ _ _ _ (hI.below W0) hl).mono ?_
    rintro e w1 ⟨rfl, hb1⟩
    rw [HR.out]
    have R1 := R0.keep hb1
    have hw1 := below_st W0 hb1 (Nat.le_refl _)
    clear hb1
    go_wp2_with fail
    refine (htm _ (hI.below hw1)).mono ?_
    rintro e w2 ⟨q, dq, rfl, S2, hb2⟩
    have R2 := R1.keep hb2
    have hw2 := below_st hw1 hb2 (Nat.le_refl _)
    have hz2 := hb2.size
    clear hb2
    have F2 := Blk.new w2 26 #[.int .i64 cell, .int .i64 t0, .slice q (gapsT l rev).length dq]
    have R3 := R2.alloc' (.cells #[.int .i64 cell, .int .i64 t0, .slice q (gapsT l rev).length dq] 26)
    have S3 := S2.below ((Below.refl _ w2).alloc (Nat.le_refl _) (.cells #[.int .i64 cell, .int .i64 t0, .slice q (gapsT l rev).length dq] 26))
    have hw3 := hw2.alloc hw2.size (.cells #[.int .i64 cell, .int .i64 t0, .slice q (gapsT l rev).length dq] 26)
    go_wp2_with fail
    generalize w2.alloc (.cells #[.int .i64 cell, .int .i64 t0, .slice q (gapsT l rev).length dq] 26) = w3 at F2 R3 S3 hw3 ⊢
    refine (spec_l02Ok _ _ _ _ _ _ _ S3.ints hgl F2).mono ?_
    rintro e w4 ⟨rfl, hb4⟩
    rw [HO.out]
    have R4 := R3.keep hb4
    have F4 := F2.keep hb4
    have S4 := S3.below hb4
    have hw4 := below_st hw3 hb4 (Nat.le_refl _)
    obtain ⟨r0, r1', r2⟩ := R4.cell3
    have rf := R4.frozen
    obtain ⟨f0, f1, f2⟩ := F4.cell3
  · obtain ⟨e0, e1, e2⟩ := (R4.set3 (.int .i64 0) (.int .i64 0) (.slice none 0 0)).cell3
    go_wp2_with fail
    refine bodyPost_ret (v := .tuple #[.agg #[.int .i64 0, .int .i64 0, .slice none 0 0], .bool false]) (by simp [results, Try.results91, go_sem, e0, e1, e2]) rfl ?_
    rw [HK.out, HO.out]
    exact ⟨0, 0, none, [], 0, rfl, (fun h => absurd h (by decide)), OwnS.nil_ _ _ _, ((hw4.setCell (p := ⟨w.heap.size, 0, none⟩) (Nat.le_refl _) _).setCell (p := ⟨w.heap.size, 1, none⟩) (Nat.le_refl _) _).setCell (p := ⟨w.heap.size, 2, none⟩) (Nat.le_refl _) _⟩
  · obtain ⟨e0, e1, e2⟩ := (R4.set3 (.int .i64 cell) (.int .i64 t0) (.slice q (gapsT l rev).length dq)).cell3
    have hz1 := hw1.size
    have hz0 := R1.lt
    have S5 := ((S4.offS (g' := w.heap.size) hz0 0 (.int .i64 cell)).offS (g' := w.heap.size) hz0 1 (.int .i64 t0)).offS (g' := w.heap.size) hz0 2 (.slice q (gapsT l rev).length dq)
    go_wp2_with fail
    refine bodyPost_ret (v := .tuple #[.agg #[.int .i64 cell, .int .i64 t0, .slice q (gapsT l rev).length dq], .bool true]) (by simp [results, Try.results91, go_sem, e0, e1, e2]) rfl ?_
    rw [HK.out, HO.out]
    exact ⟨cell, t0, q, gapsT l rev, dq, rfl, fun _ => ⟨rfl, rfl, rfl⟩, S5.mono hz1, ((hw4.setCell (p := ⟨w.heap.size, 0, none⟩) (Nat.le_refl _) _).setCell (p := ⟨w.heap.size, 1, none⟩) (Nat.le_refl _) _).setCell (p := ⟨w.heap.size, 2, none⟩) (Nat.le_refl _) _⟩
set_option maxHeartbeats 2000000 in
set_option maxRecDepth 20000 in
theorem impl_timedFlux (p : Option Addr) (l : List Int) (cap : Nat) (rev cell : Int) (w : World) (hI : IntsAt w p l) (h1 : 1 ≤ l.length) (hl : l.length ≤ 1048576) (hr : -9223372036854775808 ≤ rev ∧ rev ≤ 9223372036854775807) :
    Calls Try.prog 89 #[.slice p l.length cap, .int .i64 rev, .int .i64 cell] w fun e w' => ∃ (x y : Int) (q : Option Addr) (m : List Int) (dq : Nat), e = .returned (.tuple #[.agg #[.int .i64 x, .int .i64 y, .slice q m.length dq], .bool (timesOk l rev cell)]) ∧ (timesOk l rev cell = true → x = cell ∧ y = l.headD 0 ∧ m = gapsT l rev) ∧ OwnS w' w.heap.size q m ∧ Below w.heap.size w w' := by
  have hgl : (gapsT l rev).length ≤ 1048576 := by rw [gapsT_len _ _ h1]; exact hl
  obtain ⟨t0, et0⟩ : ∃ t0, l.headD 0 = t0 := ⟨_, rfl⟩
  have htm := fun w hI => impl_fluxOfTimes p l cap rev cell w hI h1 hl
  have hdef : timesOk l rev cell = (inB rev 1 2000000 && (risesB l 0 (rev - 1) && fluxOk cell (l.headD 0) (gapsT l rev))) := rfl
  simp only [et0] at htm
  rw [et0] at hdef
  rw [et0]
  clear et0
  have R0 := Blk.new w 26 #[.int .i64 0, .int .i64 0, .slice none 0 0]
  have W0 : Below w.heap.size w (w.alloc (.cells #[.int .i64 0, .int .i64 0, .slice none 0 0] 26)) := (Below.refl _ _).alloc (Nat.le_refl _) _
  cases hin : inB rev 1 2000000
  · have HR := Lib.hid hin
    have HK : Hid (timesOk l rev cell = false) := Lib.hid (by rw [hdef, hin]; rfl)
    clear hin hdef
    go_enter Try.func89, Try.ntmps89
    go_wp2_with (go_at_call 48; refine (within_any _ _ _ _).mono ?_; rintro e w' ⟨rfl, rfl⟩; rw [HR.out])
    refine bodyPost_ret (v := .tuple #[.agg #[.int .i64 0, .int .i64 0, .slice none 0 0], .bool false]) (by simp [results, Try.results89, go_sem]) rfl ?_
    rw [HK.out]
    exact ⟨0, 0, none, [], 0, rfl, (fun h => absurd h (by decide)), OwnS.nil_ _ _ _, W0⟩
  have hrv := inB_iff.1 hin
  have hw1 : IntKind.i64.wrap (rev - 1) = rev - 1 := IntWalk.i64_in _ (by omega)
  cases hri : risesB l 0 (rev - 1)
  · have HR := Lib.hid hri
    have HI2 := Lib.hid hin
    have HK : Hid (timesOk l rev cell = false) := Lib.hid (by rw [hdef, hin, hri]; rfl)
    clear hri hdef hin
    go_enter Try.func89, Try.ntmps89
    go_wp2_with fail
    refine (within_any _ _ _ _).mono ?_
    rintro e w' ⟨rfl, rfl⟩
    rw [HI2.out]
    go_wp2_with fail
    generalize w.alloc (.cells #[.int .i64 0, .int .i64 0, .slice none 0 0] 26) = w0 at R0 W0 ⊢
    refine (impl_rises _ _ _ _ _ _ (hI.below W0) hl).mono ?_
    rintro e w1 ⟨rfl, hb1⟩
    rw [HR.out]
    have R1 := R0.keep hb1
    have hw1 := below_st W0 hb1 (Nat.le_refl _)
    obtain ⟨r0, r1', r2⟩ := R1.cell3
    have rf := R1.frozen
    obtain ⟨e0, e1, e2⟩ := (R1.set3 (.int .i64 0) (.int .i64 0) (.slice none 0 0)).cell3
    go_wp2_with fail
    refine bodyPost_ret (v := .tuple #[.agg #[.int .i64 0, .int .i64 0, .slice none 0 0], .bool false]) (by simp [results, Try.results89, go_sem, e0, e1, e2]) rfl ?_
    rw [HK.out]
    exact ⟨0, 0, none, [], 0, rfl, (fun h => absurd h (by decide)), OwnS.nil_ _ _ _, ((hw1.setCell (p := ⟨w.heap.size, 0, none⟩) (Nat.le_refl _) _).setCell (p := ⟨w.heap.size, 1, none⟩) (Nat.le_refl _) _).setCell (p := ⟨w.heap.size, 2, none⟩) (Nat.le_refl _) _⟩
  have HR := Lib.hid hri
  have HI2 := Lib.hid hin
  have HK : Hid (timesOk l rev cell = fluxOk cell t0 (gapsT l rev)) := Lib.hid (by rw [hdef, hin, hri]; rfl)
  clear hri hdef hin
  go_enter Try.func89, Try.ntmps89
  go_wp2_with fail
  refine (within_any _ _ _ _).mono ?_
  rintro e w' ⟨rfl, rfl⟩
  rw [HI2.out]
  go_wp2_with fail
  generalize w.alloc (.cells #[.int .i64 0, .int .i64 0, .slice none 0 0] 26) = w0 at R0 W0 ⊢
  refine (impl_rises _ _ _ _ _ _ (hI.below W0) hl).mono ?_
  rintro e w1 ⟨rfl, hb1⟩
  rw [HR.out]
  have R1 := R0.keep hb1
  have hw1 := below_st W0 hb1 (Nat.le_refl _)
  clear hb1
  go_wp2_with fail
  refine (htm _ (hI.below hw1)).mono ?_
  rintro e w2 ⟨q, dq, rfl, S2, hb2⟩
  have R2 := R1.keep hb2
  have hw2 := below_st hw1 hb2 (Nat.le_refl _)
  have hz2 := hb2.size
  clear hb2
  have F2 := Blk.new w2 26 #[.int .i64 cell, .int .i64 t0, .slice q (gapsT l rev).length dq]
  have R3 := R2.alloc' (.cells #[.int .i64 cell, .int .i64 t0, .slice q (gapsT l rev).length dq] 26)
  have S3 := S2.below ((Below.refl _ w2).alloc (Nat.le_refl _) (.cells #[.int .i64 cell, .int .i64 t0, .slice q (gapsT l rev).length dq] 26))
  have hw3 := hw2.alloc hw2.size (.cells #[.int .i64 cell, .int .i64 t0, .slice q (gapsT l rev).length dq] 26)
  go_wp2_with fail
  generalize w2.alloc (.cells #[.int .i64 cell, .int .i64 t0, .slice q (gapsT l rev).length dq] 26) = w3 at F2 R3 S3 hw3 ⊢
  obtain ⟨f0, f1, f2⟩ := F2.cell3
  have hz0 := R1.lt
  have hz1 := hw1.size
  have R3d := Blk.drew R3
  have F3d := Blk.drew F2
  have S3d := S3.below (Below.refl _ _).drew
  go_region_with (go_at_call 46; refine (impl_ValidFlux cell t0 q (gapsT l rev) dq _ (by exact S3d.ints) hgl).mono ?_; rintro e w4 ⟨rfl, hb4⟩; have R4 := R3d.keep hb4; have F4 := F3d.keep hb4; have S4 := S3d.below hb4; obtain ⟨r0, r1', r2⟩ := R4.cell3; have rf := R4.frozen; obtain ⟨g0, g1, g2⟩ := F4.cell3)
  all_goals
    have hw4 := below_st hw3.drew hb4 (Nat.le_refl _)
    obtain ⟨e0, e1, e2⟩ := (R4.set3 (.int .i64 cell) (.int .i64 t0) (.slice q (gapsT l rev).length dq)).cell3
    have S5 := ((S4.offS (g' := w.heap.size) hz0 0 (.int .i64 cell)).offS (g' := w.heap.size) hz0 1 (.int .i64 t0)).offS (g' := w.heap.size) hz0 2 (.slice q (gapsT l rev).length dq)
    go_wp2_with fail
    refine bodyPost_ret (v := .tuple #[.agg #[.int .i64 cell, .int .i64 t0, .slice q (gapsT l rev).length dq], .bool (fluxOk cell t0 (gapsT l rev))]) (by simp [results, Try.results89, go_sem, e0, e1, e2]) rfl ?_
    rw [HK.out]
    exact ⟨cell, t0, q, gapsT l rev, dq, rfl, fun _ => ⟨rfl, rfl, rfl⟩, S5.mono hz1, ((hw4.setCell (p := ⟨w.heap.size, 0, none⟩) (Nat.le_refl _) _).setCell (p := ⟨w.heap.size, 1, none⟩) (Nat.le_refl _) _).setCell (p := ⟨w.heap.size, 2, none⟩) (Nat.le_refl _) _⟩
end Go.Proofs.Ytfdcainjppljhaa
