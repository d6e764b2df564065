/- FluxOf. The specification's part, as fluxof.py prints it. -/
import Derived.Test.YtmjmhdjfaamgkaaOnesW
import Derived.Test.YtmjmhdjfaamgkaaCellSW
import Derived.Test.YtmjmhdjfaamgkaaMakeW
namespace Go.Proofs.Ytmjmhdjfaamgkaa
open Go.RowKit
set_option linter.unusedVariables false
def foOk (s : ByteArray) (cell : Int) : Bool := cellsB s && inB cell 4 200
def foN (s : ByteArray) : Nat := (onesL s.data.toList s.size).length
def foGood (s : ByteArray) (cell : Int) : Bool := foOk s cell && (decide (1 ≤ foN s) && decide (foN s ≤ 4000))
def foT (s : ByteArray) (cell : Int) : List Int := timesZ s.data.toList cell s.size
def foC (s : ByteArray) (cell : Int) : Int := if foGood s cell then cell else 0
def foF (s : ByteArray) (cell : Int) : Int := if foGood s cell then (foT s cell).headD 0 else 0
def foL (s : ByteArray) (cell : Int) : List Int := if foGood s cell then gapsT (foT s cell) ((s.size : Int) * cell) else []
def foE (s : ByteArray) (cell : Int) : Int := if foOk s cell then (if foN s = 0 then 6 else if 4000 < foN s then 5 else 0) else 1
theorem fo_no {s : ByteArray} {cell : Int} (h : foGood s cell = false) : foC s cell = 0 ∧ foF s cell = 0 ∧ foL s cell = [] := by unfold foC foF foL; rw [h]; exact ⟨rfl, rfl, rfl⟩
theorem fo_yes {s : ByteArray} {cell : Int} (h : foGood s cell = true) : foC s cell = cell ∧ foF s cell = (foT s cell).headD 0 ∧ foL s cell = gapsT (foT s cell) ((s.size : Int) * cell) := by unfold foC foF foL; rw [h]; exact ⟨rfl, rfl, rfl⟩
theorem foL_len (s : ByteArray) (cell : Int) : (foL s cell).length ≤ 4000 := by
  unfold foL
  split
  · rename_i h
    unfold foGood at h
    simp at h
    rw [gapsT_len _ _ (by unfold foT; rw [timesZ_len]; exact h.2.1)]
    unfold foT
    rw [timesZ_len]
    exact h.2.2
  · simp
theorem cellStr_bd'' {s : ByteArray} (h : cellsB s = true) : 1 ≤ s.size ∧ s.size ≤ 8000 := by
  unfold cellsB cellStr at h
  simp at h
  omega
set_option maxHeartbeats 4000000 in
set_option maxRecDepth 20000 in
theorem spec_FluxOf (s : ByteArray) (cell : Int) (w : World) (hs : s.size ≤ 1048576) :
    Calls Try.prog 49 #[.string s, .int .i64 cell] w fun e w' => ∃ (q : Option Addr) (dq : Nat), e = .returned (.tuple #[.agg #[.int .i64 (foC s cell), .int .i64 (foF s cell), .slice q (foL s cell).length dq], .int .i64 (foE s cell)]) ∧ OwnS w' w.heap.size q (foL s cell) ∧ Below w.heap.size w w' := by
  have R0 := Blk.new w 24 #[.int .i64 0, .int .i64 0, .slice none 0 0]
  have W0 : Below w.heap.size w (w.alloc (.cells #[.int .i64 0, .int .i64 0, .slice none 0 0] 24)) := (Below.refl _ _).alloc (Nat.le_refl _) _
  obtain h | h := (Bool.eq_false_or_eq_true (cellsB s)).symm
  · have hg : foGood s cell = false := by unfold foGood foOk; rw [h]; rfl
    have HE : Hid (foE s cell = 1) := Lib.hid (by unfold foE foOk; rw [h]; rfl)
    have HN := Lib.hid (fo_no hg)
    have H := Lib.hid h
    clear h hg
    go_enter Try.func49, Try.ntmps49
    go_wp2_with fail
    generalize w.alloc (.cells #[.int .i64 0, .int .i64 0, .slice none 0 0] 24) = w0 at R0 W0 ⊢
    refine (spec_l02Cells s _ (by omega)).mono ?_
    rintro e w1 ⟨rfl, rfl⟩
    rw [H.out]
    obtain ⟨r0, r1', r2⟩ := R0.cell3
    have rf := R0.frozen
    have rlt := R0.lt
    obtain ⟨e0, e1, e2⟩ := (R0.set3 (.int .i64 0) (.int .i64 0) (.slice none 0 0)).cell3
    go_wp2_with fail
    refine bodyPost_ret (v := .tuple #[.agg #[.int .i64 0, .int .i64 0, .slice none 0 0], .int .i64 1]) (by simp [results, Try.results49, go_sem, e0, e1, e2, r0, r1', r2]) rfl ?_
    rw [HN.out.1, HN.out.2.1, HN.out.2.2, HE.out]
    first | exact ⟨none, 0, rfl, OwnS.nil_ _ _ _, W0⟩ | exact ⟨none, 0, rfl, OwnS.nil_ _ _ _, ((W0.setCell (p := ⟨w.heap.size, 0, none⟩) (Nat.le_refl _) _).setCell (p := ⟨w.heap.size, 1, none⟩) (Nat.le_refl _) _).setCell (p := ⟨w.heap.size, 2, none⟩) (Nat.le_refl _) _⟩ | exact ⟨none, ⟨0, rfl⟩, OwnS.nil_ _ _ _, ((W0.setCell (p := ⟨w.heap.size, 0, none⟩) (Nat.le_refl _) _).setCell (p := ⟨w.heap.size, 1, none⟩) (Nat.le_refl _) _).setCell (p := ⟨w.heap.size, 2, none⟩) (Nat.le_refl _) _⟩
  obtain h2 | h2 := (Bool.eq_false_or_eq_true (inB cell 4 200)).symm
  · have hg : foGood s cell = false := by unfold foGood foOk; rw [h2, Bool.and_false]; rfl
    have HE : Hid (foE s cell = 1) := Lib.hid (by unfold foE foOk; rw [h2, Bool.and_false]; rfl)
    have HN := Lib.hid (fo_no hg)
    have H := Lib.hid h
    have HI := Lib.hid h2
    clear h h2 hg
    go_enter Try.func49, Try.ntmps49
    go_wp2_with fail
    generalize w.alloc (.cells #[.int .i64 0, .int .i64 0, .slice none 0 0] 24) = w0 at R0 W0 ⊢
    refine (spec_l02Cells s _ (by omega)).mono ?_
    rintro e w1 ⟨rfl, rfl⟩
    rw [H.out]
    go_wp2_with fail
    refine (l00In_any _ _ _ _).mono ?_
    rintro e w2 ⟨rfl, rfl⟩
    rw [HI.out]
    obtain ⟨r0, r1', r2⟩ := R0.cell3
    have rf := R0.frozen
    have rlt := R0.lt
    obtain ⟨e0, e1, e2⟩ := (R0.set3 (.int .i64 0) (.int .i64 0) (.slice none 0 0)).cell3
    go_wp2_with fail
    refine bodyPost_ret (v := .tuple #[.agg #[.int .i64 0, .int .i64 0, .slice none 0 0], .int .i64 1]) (by simp [results, Try.results49, go_sem, e0, e1, e2, r0, r1', r2]) rfl ?_
    rw [HN.out.1, HN.out.2.1, HN.out.2.2, HE.out]
    first | exact ⟨none, 0, rfl, OwnS.nil_ _ _ _, W0⟩ | exact ⟨none, 0, rfl, OwnS.nil_ _ _ _, ((W0.setCell (p := ⟨w.heap.size, 0, none⟩) (Nat.le_refl _) _).setCell (p := ⟨w.heap.size, 1, none⟩) (Nat.le_refl _) _).setCell (p := ⟨w.heap.size, 2, none⟩) (Nat.le_refl _) _⟩ | exact ⟨none, ⟨0, rfl⟩, OwnS.nil_ _ _ _, ((W0.setCell (p := ⟨w.heap.size, 0, none⟩) (Nat.le_refl _) _).setCell (p := ⟨w.heap.size, 1, none⟩) (Nat.le_refl _) _).setCell (p := ⟨w.heap.size, 2, none⟩) (Nat.le_refl _) _⟩
  have hok : foOk s cell = true := by unfold foOk; rw [h, h2]; rfl
  have hcb := inB_iff.1 h2
  have hsz := cellStr_bd'' h
  have H := Lib.hid h
  have HI := Lib.hid h2
  have HG : Hid (foGood s cell = (decide (1 ≤ foN s) && decide (foN s ≤ 4000))) := Lib.hid (by unfold foGood; rw [hok]; rfl)
  have HE0 : Hid (foE s cell = if foN s = 0 then 6 else if 4000 < foN s then 5 else 0) := Lib.hid (by unfold foE; rw [hok]; rfl)
  clear h h2 hok
  have hol := onesL_len s.data.toList s.size
  have hones := fun w' => spec_l02Ones s w' hs
  have hflux := fun w' h1 => spec_l02Flux s cell w' hs (by omega) h1
  have hfn : (onesL s.data.toList s.size).length = foN s := rfl
  have hft : timesZ s.data.toList cell s.size = foT s cell := rfl
  rw [hfn] at hones hflux hol
  rw [hft] at hflux
  obtain ⟨n, hn⟩ : ∃ n, foN s = n := ⟨_, rfl⟩
  rw [hn] at hones hflux hol HG HE0
  clear hfn hft
  by_cases h0 : n = 0
  · have hg : foGood s cell = false := by rw [HG.out, h0]; rfl
    have HE : Hid (foE s cell = 6) := Lib.hid (by rw [HE0.out, h0]; rfl)
    have HN := Lib.hid (fo_no hg)
    subst h0
    clear hg HG
    go_enter Try.func49, Try.ntmps49
    go_wp2_with fail
    generalize w.alloc (.cells #[.int .i64 0, .int .i64 0, .slice none 0 0] 24) = w0 at R0 W0 ⊢
    refine (spec_l02Cells s _ (by omega)).mono ?_
    rintro e w1 ⟨rfl, rfl⟩
    rw [H.out]
    go_wp2_with fail
    refine (l00In_any _ _ _ _).mono ?_
    rintro e w2 ⟨rfl, rfl⟩
    rw [HI.out]
    go_wp2_with fail
    refine (hones _).mono ?_
    rintro e w3 ⟨rfl, rfl⟩
    obtain ⟨r0, r1', r2⟩ := R0.cell3
    have rf := R0.frozen
    have rlt := R0.lt
    obtain ⟨e0, e1, e2⟩ := (R0.set3 (.int .i64 0) (.int .i64 0) (.slice none 0 0)).cell3
    go_wp2_with fail
    refine bodyPost_ret (v := .tuple #[.agg #[.int .i64 0, .int .i64 0, .slice none 0 0], .int .i64 6]) (by simp [results, Try.results49, go_sem, e0, e1, e2, r0, r1', r2]) rfl ?_
    rw [HN.out.1, HN.out.2.1, HN.out.2.2, HE.out]
    first | exact ⟨none, 0, rfl, OwnS.nil_ _ _ _, W0⟩ | exact ⟨none, 0, rfl, OwnS.nil_ _ _ _, ((W0.setCell (p := ⟨w.heap.size, 0, none⟩) (Nat.le_refl _) _).setCell (p := ⟨w.heap.size, 1, none⟩) (Nat.le_refl _) _).setCell (p := ⟨w.heap.size, 2, none⟩) (Nat.le_refl _) _⟩ | exact ⟨none, ⟨0, rfl⟩, OwnS.nil_ _ _ _, ((W0.setCell (p := ⟨w.heap.size, 0, none⟩) (Nat.le_refl _) _).setCell (p := ⟨w.heap.size, 1, none⟩) (Nat.le_refl _) _).setCell (p := ⟨w.heap.size, 2, none⟩) (Nat.le_refl _) _⟩
  by_cases h4 : 4000 < n
  · have hg : foGood s cell = false := by rw [HG.out, decide_eq_false (by omega : ¬ n ≤ 4000), Bool.and_false]
    have HE : Hid (foE s cell = 5) := Lib.hid (by rw [HE0.out, if_neg h0, if_pos h4])
    have HN := Lib.hid (fo_no hg)
    have d0 : ((n : Int) == 0) = false := by rw [beq_eq_false_iff_ne]; omega
    have d1 : decide ((4000 : Int) < (n : Int)) = true := decide_eq_true (by omega)
    clear hg HG
    go_enter Try.func49, Try.ntmps49
    go_wp2_with fail
    generalize w.alloc (.cells #[.int .i64 0, .int .i64 0, .slice none 0 0] 24) = w0 at R0 W0 ⊢
    refine (spec_l02Cells s _ (by omega)).mono ?_
    rintro e w1 ⟨rfl, rfl⟩
    rw [H.out]
    go_wp2_with fail
    refine (l00In_any _ _ _ _).mono ?_
    rintro e w2 ⟨rfl, rfl⟩
    rw [HI.out]
    go_wp2_with fail
    refine (hones _).mono ?_
    rintro e w3 ⟨rfl, rfl⟩
    obtain ⟨r0, r1', r2⟩ := R0.cell3
    have rf := R0.frozen
    have rlt := R0.lt
    obtain ⟨e0, e1, e2⟩ := (R0.set3 (.int .i64 0) (.int .i64 0) (.slice none 0 0)).cell3
    go_wp2_with fail
    refine bodyPost_ret (v := .tuple #[.agg #[.int .i64 0, .int .i64 0, .slice none 0 0], .int .i64 5]) (by simp [results, Try.results49, go_sem, e0, e1, e2, r0, r1', r2]) rfl ?_
    rw [HN.out.1, HN.out.2.1, HN.out.2.2, HE.out]
    first | exact ⟨none, 0, rfl, OwnS.nil_ _ _ _, W0⟩ | exact ⟨none, 0, rfl, OwnS.nil_ _ _ _, ((W0.setCell (p := ⟨w.heap.size, 0, none⟩) (Nat.le_refl _) _).setCell (p := ⟨w.heap.size, 1, none⟩) (Nat.le_refl _) _).setCell (p := ⟨w.heap.size, 2, none⟩) (Nat.le_refl _) _⟩ | exact ⟨none, ⟨0, rfl⟩, OwnS.nil_ _ _ _, ((W0.setCell (p := ⟨w.heap.size, 0, none⟩) (Nat.le_refl _) _).setCell (p := ⟨w.heap.size, 1, none⟩) (Nat.le_refl _) _).setCell (p := ⟨w.heap.size, 2, none⟩) (Nat.le_refl _) _⟩
  have hg : foGood s cell = true := by rw [HG.out, decide_eq_true (by omega : 1 ≤ n), decide_eq_true (by omega : n ≤ 4000)]; rfl
  have HE : Hid (foE s cell = 0) := Lib.hid (by rw [HE0.out, if_neg h0, if_neg h4])
  have HN := Lib.hid (fo_yes hg)
  have d0 : ((n : Int) == 0) = false := by rw [beq_eq_false_iff_ne]; omega
  have d1 : decide ((4000 : Int) < (n : Int)) = false := decide_eq_false (by omega)
  have h1n : 1 ≤ n := by omega
  replace hflux := fun w' => hflux w' h1n
  clear hg HG
  go_enter Try.func49, Try.ntmps49
  go_wp2_with fail
  generalize w.alloc (.cells #[.int .i64 0, .int .i64 0, .slice none 0 0] 24) = w0 at R0 W0 ⊢
  refine (spec_l02Cells s _ (by omega)).mono ?_
  rintro e w1 ⟨rfl, rfl⟩
  rw [H.out]
  go_wp2_with fail
  refine (l00In_any _ _ _ _).mono ?_
  rintro e w2 ⟨rfl, rfl⟩
  rw [HI.out]
  go_wp2_with fail
  refine (hones _).mono ?_
  rintro e w3 ⟨rfl, rfl⟩
  go_wp2_with fail
  refine (hflux _).mono ?_
  rintro e w5 ⟨q, dq, rfl, S1, hb5⟩
  generalize hfd : (foT s cell).headD 0 = y at *
  generalize hgt : gapsT (foT s cell) ((s.size : Int) * cell) = G at *
  have hz1 := W0.size
  have hz0' := R0.lt
  replace R0 := R0.keep hb5
  replace W0 := below_st W0 hb5 (Nat.le_refl _)
  have hs1 := ((W0.setCell (p := ⟨w.heap.size, 0, none⟩) (Nat.le_refl _) (.int .i64 cell)).setCell (p := ⟨w.heap.size, 1, none⟩) (Nat.le_refl _) (.int .i64 y)).setCell (p := ⟨w.heap.size, 2, none⟩) (Nat.le_refl _) (.slice q G.length dq)
  obtain ⟨r0, r1', r2⟩ := R0.cell3
  have rf := R0.frozen
  have rlt := R0.lt
  obtain ⟨e0, e1, e2⟩ := (R0.set3 (.int .i64 cell) (.int .i64 y) (.slice q G.length dq)).cell3
  have S5 := ((S1.offS (g' := w.heap.size) hz0' 0 (.int .i64 cell)).offS (g' := w.heap.size) hz0' 1 (.int .i64 y)).offS (g' := w.heap.size) hz0' 2 (.slice q G.length dq)
  go_wp2_with fail
  refine bodyPost_ret (v := .tuple #[.agg #[.int .i64 cell, .int .i64 y, .slice q G.length dq], .int .i64 0]) (by simp [results, Try.results49, go_sem, e0, e1, e2]) rfl ?_
  rw [HN.out.1, HN.out.2.1, HN.out.2.2, HE.out]
  exact ⟨q, dq, rfl, S5.mono hz1, hs1⟩
end Go.Proofs.Ytmjmhdjfaamgkaa
