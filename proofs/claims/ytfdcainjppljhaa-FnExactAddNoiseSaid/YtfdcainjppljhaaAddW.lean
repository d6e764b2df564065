/- AddNoise: contracts. Printed by addgen.py. -/
import Derived.Test.YtfdcainjppljhaaAnP
import Derived.Deep.Cut
import Derived.Deep.CutRange
import Derived.Deep.DeepCutAuto
import Derived.Deep.RegionWith
namespace Go.Proofs.Ytfdcainjppljhaa
open Go.RowKit
set_option linter.unusedVariables false
set_option maxHeartbeats 4000000 in
set_option maxRecDepth 20000 in
theorem impl_AddNoise (c f : Int) (p : Option Addr) (l : List Int) (cap : Nat) (d : Int) (pj pd ps : Option Addr) (j e : List Int) (L : List Flx) (cj cd cs : Nat) (w : World) (hI : IntsAt w p l) (h1 : IntsAt w pj j) (h2 : IntsAt w pd e) (h3 : SpansAt w ps L) (hsum : l.length + lensL L ≤ 1048576) (hj : j.length ≤ 1048576) (he : e.length ≤ 1048576) (hl : L.length ≤ 1048576) (hn : ∀ s ∈ L, s.g.p = none → s.g.cap = 0) :
    Calls Try.prog 27 #[.agg #[.int .i64 c, .int .i64 f, .slice p l.length cap], .agg #[.int .i64 d, .slice pj j.length cj, .slice pd e.length cd, .slice ps L.length cs]] w fun e' w' => ∃ (q : Option Addr) (dq : Nat), e' = .returned (.tuple #[.agg #[.int .i64 (anS c f l d j e L).c, .int .i64 (anS c f l d j e L).f, .slice q (anS c f l d j e L).l.length dq], .int .i64 (anS c f l d j e L).e]) ∧ OwnS w' w.heap.size q (anS c f l d j e L).l ∧ Below w.heap.size w w' := by
  have F0 := ((Blk.new w 26 #[.int .i64 c, .int .i64 f, .slice p l.length cap]).alloc' (.cells #[.int .i64 d, .slice pj j.length cj, .slice pd e.length cd, .slice ps L.length cs] 53)).alloc' (.cells #[.int .i64 0, .int .i64 0, .slice none 0 0] 26)
  have N0 := (Blk.new (w.alloc (.cells #[.int .i64 c, .int .i64 f, .slice p l.length cap] 26)) 53 #[.int .i64 d, .slice pj j.length cj, .slice pd e.length cd, .slice ps L.length cs]).alloc' (.cells #[.int .i64 0, .int .i64 0, .slice none 0 0] 26)
  have R0 := Blk.new ((w.alloc (.cells #[.int .i64 c, .int .i64 f, .slice p l.length cap] 26)).alloc (.cells #[.int .i64 d, .slice pj j.length cj, .slice pd e.length cd, .slice ps L.length cs] 53)) 26 #[.int .i64 0, .int .i64 0, .slice none 0 0]
  have e1 : (w.alloc (.cells #[.int .i64 c, .int .i64 f, .slice p l.length cap] 26)).heap.size = w.heap.size + 1 := by simp
  have e2 : ((w.alloc (.cells #[.int .i64 c, .int .i64 f, .slice p l.length cap] 26)).alloc (.cells #[.int .i64 d, .slice pj j.length cj, .slice pd e.length cd, .slice ps L.length cs] 53)).heap.size = w.heap.size + 2 := by simp
  rw [e1] at N0
  rw [e2] at R0
  have W0 : Below w.heap.size w (((w.alloc (.cells #[.int .i64 c, .int .i64 f, .slice p l.length cap] 26)).alloc (.cells #[.int .i64 d, .slice pj j.length cj, .slice pd e.length cd, .slice ps L.length cs] 53)).alloc (.cells #[.int .i64 0, .int .i64 0, .slice none 0 0] 26)) := (((Below.refl _ _).alloc (Nat.le_refl _) _).alloc (by simp) _).alloc (by simp; omega) _
  have z0 : w.heap.size + 3 ≤ (((w.alloc (.cells #[.int .i64 c, .int .i64 f, .slice p l.length cap] 26)).alloc (.cells #[.int .i64 d, .slice pj j.length cj, .slice pd e.length cd, .slice ps L.length cs] 53)).alloc (.cells #[.int .i64 0, .int .i64 0, .slice none 0 0] 26)).heap.size := by simp
  clear e1 e2
  have hg : ∀ s ∈ L, s.g.l.length ≤ 1048576 := fun s hs => by have := lensL_mem hs; omega
  have hll : l.length ≤ 1048576 := by omega
  obtain k1 | k1 := (Bool.eq_false_or_eq_true (fluxOk c f l)).symm
  · have HV : Hid ((anS c f l d j e L) = ⟨0, 0, [], 1⟩) := Lib.hid (by unfold anS anOk; rw [k1]; rfl)
    have H1 := Lib.hid k1
    clear k1
    go_enter Try.func27, Try.ntmps27
    go_wp2_with fail
    generalize (((w.alloc (.cells #[.int .i64 c, .int .i64 f, .slice p l.length cap] 26)).alloc (.cells #[.int .i64 d, .slice pj j.length cj, .slice pd e.length cd, .slice ps L.length cs] 53)).alloc (.cells #[.int .i64 0, .int .i64 0, .slice none 0 0] 26)) = w0 at F0 N0 R0 W0 z0 ⊢
    obtain ⟨cF0, cF1, cF2⟩ := F0.cell3
    obtain ⟨cN0, cN1, cN2, cN3⟩ := N0.cell4
    refine (impl_ValidFlux c f p l cap _ (hI.below W0) hll).mono ?_
    rintro e' w1 ⟨rfl, hb1⟩
    rw [H1.out]
    have z1 := hb1.size
    have F1 := F0.keep hb1
    have N1 := N0.keep hb1
    have R1 := R0.keep hb1
    have W1 := below_st W0 hb1 (Nat.le_refl _)
    clear cF0 cF1 cF2 cN0 cN1 cN2 cN3
    obtain ⟨r0, r1, r2⟩ := R1.cell3
    have rf := R1.frozen
    have rlt := R1.lt
    obtain ⟨x0, x1, x2⟩ := (R1.set3 (.int .i64 0) (.int .i64 0) (.slice none 0 0)).cell3
    go_wp2_with fail
    refine bodyPost_ret (v := .tuple #[.agg #[.int .i64 0, .int .i64 0, .slice none 0 0], .int .i64 1]) (by simp [results, Try.results27, go_sem, x0, x1, x2]) rfl ?_
    rw [HV.out]
    exact ⟨none, 0, rfl, OwnS.nil_ _ _ _, ((W1.setCell (p := ⟨w.heap.size + 2, 0, none⟩) (by show w.heap.size ≤ w.heap.size + 2; omega) _).setCell (p := ⟨w.heap.size + 2, 1, none⟩) (by show w.heap.size ≤ w.heap.size + 2; omega) _).setCell (p := ⟨w.heap.size + 2, 2, none⟩) (by show w.heap.size ≤ w.heap.size + 2; omega) _⟩
  have H1 := Lib.hid k1
  obtain k2 | k2 := (Bool.eq_false_or_eq_true (nzB d j e L)).symm
  · have HV : Hid ((anS c f l d j e L) = ⟨0, 0, [], 1⟩) := Lib.hid (by unfold anS anOk; rw [k1, k2]; rfl)
    have H2 := Lib.hid k2
    clear k1 k2
    go_enter Try.func27, Try.ntmps27
    go_wp2_with fail
    generalize (((w.alloc (.cells #[.int .i64 c, .int .i64 f, .slice p l.length cap] 26)).alloc (.cells #[.int .i64 d, .slice pj j.length cj, .slice pd e.length cd, .slice ps L.length cs] 53)).alloc (.cells #[.int .i64 0, .int .i64 0, .slice none 0 0] 26)) = w0 at F0 N0 R0 W0 z0 ⊢
    obtain ⟨cF0, cF1, cF2⟩ := F0.cell3
    obtain ⟨cN0, cN1, cN2, cN3⟩ := N0.cell4
    refine (impl_ValidFlux c f p l cap _ (hI.below W0) hll).mono ?_
    rintro e' w1 ⟨rfl, hb1⟩
    rw [H1.out]
    have z1 := hb1.size
    have F1 := F0.keep hb1
    have N1 := N0.keep hb1
    have R1 := R0.keep hb1
    have W1 := below_st W0 hb1 (Nat.le_refl _)
    clear cF0 cF1 cF2 cN0 cN1 cN2 cN3
    obtain ⟨cF0, cF1, cF2⟩ := F1.cell3
    obtain ⟨cN0, cN1, cN2, cN3⟩ := N1.cell4
    go_wp2_with fail
    refine (impl_ValidNoise d pj pd ps j e L cj cd cs _ (h1.below W1) (h2.below W1) (h3.below W1) hj he hl hg).mono ?_
    rintro e' w2 ⟨rfl, hb2⟩
    rw [H2.out]
    have z2 := hb2.size
    have F2 := F1.keep hb2
    have N2 := N1.keep hb2
    have R2 := R1.keep hb2
    have W2 := below_st W1 hb2 (Nat.le_refl _)
    clear cF0 cF1 cF2 cN0 cN1 cN2 cN3
    obtain ⟨r0, r1, r2⟩ := R2.cell3
    have rf := R2.frozen
    have rlt := R2.lt
    obtain ⟨x0, x1, x2⟩ := (R2.set3 (.int .i64 0) (.int .i64 0) (.slice none 0 0)).cell3
    go_wp2_with fail
    refine bodyPost_ret (v := .tuple #[.agg #[.int .i64 0, .int .i64 0, .slice none 0 0], .int .i64 1]) (by simp [results, Try.results27, go_sem, x0, x1, x2]) rfl ?_
    rw [HV.out]
    exact ⟨none, 0, rfl, OwnS.nil_ _ _ _, ((W2.setCell (p := ⟨w.heap.size + 2, 0, none⟩) (by show w.heap.size ≤ w.heap.size + 2; omega) _).setCell (p := ⟨w.heap.size + 2, 1, none⟩) (by show w.heap.size ≤ w.heap.size + 2; omega) _).setCell (p := ⟨w.heap.size + 2, 2, none⟩) (by show w.heap.size ≤ w.heap.size + 2; omega) _⟩
  have H2 := Lib.hid k2
  have HV : Hid ((anS c f l d j e L) = anK (anB c f l d j e) L L.length) := Lib.hid (by unfold anS anOk; rw [k1, k2]; rfl)
  clear k1 k2
  go_enter Try.func27, Try.ntmps27
  go_wp2_with fail
  generalize (((w.alloc (.cells #[.int .i64 c, .int .i64 f, .slice p l.length cap] 26)).alloc (.cells #[.int .i64 d, .slice pj j.length cj, .slice pd e.length cd, .slice ps L.length cs] 53)).alloc (.cells #[.int .i64 0, .int .i64 0, .slice none 0 0] 26)) = w0 at F0 N0 R0 W0 z0 ⊢
  obtain ⟨cF0, cF1, cF2⟩ := F0.cell3
  obtain ⟨cN0, cN1, cN2, cN3⟩ := N0.cell4
  refine (impl_ValidFlux c f p l cap _ (hI.below W0) hll).mono ?_
  rintro e' w1 ⟨rfl, hb1⟩
  rw [H1.out]
  have z1 := hb1.size
  have F1 := F0.keep hb1
  have N1 := N0.keep hb1
  have R1 := R0.keep hb1
  have W1 := below_st W0 hb1 (Nat.le_refl _)
  clear cF0 cF1 cF2 cN0 cN1 cN2 cN3
  obtain ⟨cF0, cF1, cF2⟩ := F1.cell3
  obtain ⟨cN0, cN1, cN2, cN3⟩ := N1.cell4
  go_wp2_with fail
  refine (impl_ValidNoise d pj pd ps j e L cj cd cs _ (h1.below W1) (h2.below W1) (h3.below W1) hj he hl hg).mono ?_
  rintro e' w2 ⟨rfl, hb2⟩
  rw [H2.out]
  have z2 := hb2.size
  have F2 := F1.keep hb2
  have N2 := N1.keep hb2
  have R2 := R1.keep hb2
  have W2 := below_st W1 hb2 (Nat.le_refl _)
  clear cF0 cF1 cF2 cN0 cN1 cN2 cN3
  obtain ⟨⟨c3, f3, l3, x3⟩, E3⟩ : ∃ s, drS c f l d = s := ⟨_, rfl⟩
  have hl3 : l3.length ≤ l.length := by have := drS_len c f l d; rw [E3] at this; exact this
  have CD := fun (w : World) (hI : IntsAt w p l) => impl_AddDriftS c f p l cap d w hI hll
  rw [E3] at CD
  have HV3 : Hid (anB c f l d j e = dpS (jiS ⟨c3, f3, l3, x3⟩ j) e) := Lib.hid (by unfold anB; rw [E3])
  clear E3
  obtain ⟨cF0, cF1, cF2⟩ := F2.cell3
  obtain ⟨cN0, cN1, cN2, cN3⟩ := N2.cell4
  have ff2 := F2.frozen
  have fl2 := F2.lt
  go_wp2_with fail
  refine (CD _ (hI.below W2)).mono ?_
  rintro e' w3 ⟨q3, d3, rfl, S3, hb3⟩
  have z3 := hb3.size
  have F3 := F2.keep hb3
  have N3 := N2.keep hb3
  have R3 := R2.keep hb3
  have W3 := below_st W2 hb3 (Nat.le_refl _)
  replace S3 : OwnS w3 (w.heap.size + 3) q3 l3 := S3.mono (by omega)
  clear cF0 cF1 cF2 cN0 cN1 cN2 cN3
  obtain ⟨r0, r1, r2⟩ := F3.cell3
  have rf := F3.frozen
  have rlt := F3.lt
  go_upto_if 26 with fail
  have HF3 := F3.set3 (.int .i64 c3) (.int .i64 f3) (.slice q3 l3.length d3)
  replace N3 := ((N3.off (g' := w.heap.size) (by omega) 0 (.int .i64 c3)).off (g' := w.heap.size) (by omega) 1 (.int .i64 f3)).off (g' := w.heap.size) (by omega) 2 (.slice q3 l3.length d3)
  replace R3 := ((R3.off (g' := w.heap.size) (by omega) 0 (.int .i64 c3)).off (g' := w.heap.size) (by omega) 1 (.int .i64 f3)).off (g' := w.heap.size) (by omega) 2 (.slice q3 l3.length d3)
  replace S3 := ((S3.offS (g' := w.heap.size) (by omega) 0 (.int .i64 c3)).offS (g' := w.heap.size) (by omega) 1 (.int .i64 f3)).offS (g' := w.heap.size) (by omega) 2 (.slice q3 l3.length d3)
  replace W3 := ((W3.setCell (p := ⟨w.heap.size, 0, none⟩) (Nat.le_refl _) (.int .i64 c3)).setCell (p := ⟨w.heap.size, 1, none⟩) (Nat.le_refl _) (.int .i64 f3)).setCell (p := ⟨w.heap.size, 2, none⟩) (Nat.le_refl _) (.slice q3 l3.length d3)
  generalize ((w3.setCell ⟨w.heap.size, 0, none⟩ (.int .i64 c3)).setCell ⟨w.heap.size, 1, none⟩ (.int .i64 f3)).setCell ⟨w.heap.size, 2, none⟩ (.slice q3 l3.length d3) = w4 at HF3 N3 R3 S3 W3 ⊢
  clear F3 r0 r1 r2 rf rlt
  have F3 := HF3
  clear HF3 z0 z1 z2 z3 F0 N0 R0 F1 N1 R1 F2 N2 R2 W0 W1 W2 hb1 hb2 hb3 ff2 fl2 CD
  obtain ⟨⟨c4, f4, l4, x4⟩, E4⟩ : ∃ s, jiS ⟨c3, f3, l3, x3⟩ j = s := ⟨_, rfl⟩
  have hl4 : l4.length ≤ l.length := by have := jiS_len ⟨c3, f3, l3, x3⟩ j; rw [E4] at this; exact Nat.le_trans this hl3
  have HE4 := Lib.hid E4
  clear E4
  go_cut [6] (fun v6 wx => ∃ q dq, v6 = .int .i64 x4 ∧ Blk wx w.heap.size 26 #[.int .i64 c4, .int .i64 f4, .slice q l4.length dq] ∧ Blk wx (w.heap.size + 1) 53 #[.int .i64 d, .slice pj j.length cj, .slice pd e.length cd, .slice ps L.length cs] ∧ Blk wx (w.heap.size + 2) 26 #[.int .i64 0, .int .i64 0, .slice none 0 0] ∧ OwnS wx (w.heap.size + 3) q l4 ∧ Below w.heap.size w wx)
  case first =>
    by_cases hx : x3 = 0
    · subst hx
      have CJ := fun (w : World) (hI : IntsAt w q3 l3) (hJ : IntsAt w pj j) => impl_AddJitterS c3 f3 q3 l3 d3 0 pj j cj w hI (by omega) hJ hj
      have E : jiT ⟨c3, f3, l3, 0⟩ j = ⟨c4, f4, l4, x4⟩ := by have := HE4.out; unfold jiS at this; rw [if_pos rfl] at this; exact this
      rw [E] at CJ
      clear E
      obtain ⟨cF0, cF1, cF2⟩ := F3.cell3
      obtain ⟨cN0, cN1, cN2, cN3⟩ := N3.cell4
      have ff := F3.frozen
      have fl := F3.lt
      go_wp2_with fail
      refine (CJ _ S3.ints (h1.below W3)).mono ?_
      rintro e' y ⟨qy, dy, rfl, Sy, hby⟩
      have zy := hby.size
      have zw := W3.size
      have zr := R3.lt
      have Fy := F3.keep hby
      have Ny := N3.keep hby
      have Ry := R3.keep hby
      have Wy := below_st W3 hby (Nat.le_refl _)
      replace Sy : OwnS y (w.heap.size + 3) qy l4 := Sy.mono (by omega)
      clear cF0 cF1 cF2 cN0 cN1 cN2 cN3
      clear ff fl
      obtain ⟨r0, r1, r2⟩ := Fy.cell3
      have rf := Fy.frozen
      have rlt := Fy.lt
      go_wp2_with fail
      go_meet
      exact ⟨qy, dy, rfl, Fy.set3 _ _ _, ((Ny.off (g' := w.heap.size) (by omega) 0 _).off (g' := w.heap.size) (by omega) 1 _).off (g' := w.heap.size) (by omega) 2 _, ((Ry.off (g' := w.heap.size) (by omega) 0 _).off (g' := w.heap.size) (by omega) 1 _).off (g' := w.heap.size) (by omega) 2 _, (((Sy.offS (g' := w.heap.size) (by omega) 0 _).offS (g' := w.heap.size) (by omega) 1 _).offS (g' := w.heap.size) (by omega) 2 _), (((Wy.setCell (p := ⟨w.heap.size, 0, none⟩) (Nat.le_refl _) _).setCell (p := ⟨w.heap.size, 1, none⟩) (Nat.le_refl _) _).setCell (p := ⟨w.heap.size, 2, none⟩) (Nat.le_refl _) _)⟩
    · have E : (⟨c3, f3, l3, x3⟩ : FxS) = ⟨c4, f4, l4, x4⟩ := by have := HE4.out; unfold jiS at this; rw [if_neg hx] at this; exact this
      injection E with E1 E2 E3 E4
      subst E1 E2 E3 E4
      have hx1 : (x3 == 0) = false := by simp [hx]
      have hx2 : decide (x3 = 0) = false := by simp [hx]
      go_wp2_with fail
      go_meet
      exact ⟨q3, d3, rfl, F3, N3, R3, S3, W3⟩
  case rest =>
  obtain ⟨q4, d4, rfl, F4, N4, R4, S4, W4⟩ := hcut
  obtain ⟨w5, hwc⟩ : ∃ w5, w5 = wc := ⟨_, rfl⟩
  subst hwc
  clear F3 N3 R3 S3 W3
  go_upto_if 35 with fail
  obtain ⟨⟨c5, f5, l5, x5⟩, E5⟩ : ∃ s, dpS ⟨c4, f4, l4, x4⟩ e = s := ⟨_, rfl⟩
  have hl5 : l5.length ≤ l.length := by have := dpS_len ⟨c4, f4, l4, x4⟩ e; rw [E5] at this; exact Nat.le_trans this hl4
  have HE5 := Lib.hid E5
  clear E5
  go_cut [6] (fun v6 wx => ∃ q dq, v6 = .int .i64 x5 ∧ Blk wx w.heap.size 26 #[.int .i64 c5, .int .i64 f5, .slice q l5.length dq] ∧ Blk wx (w.heap.size + 1) 53 #[.int .i64 d, .slice pj j.length cj, .slice pd e.length cd, .slice ps L.length cs] ∧ Blk wx (w.heap.size + 2) 26 #[.int .i64 0, .int .i64 0, .slice none 0 0] ∧ OwnS wx (w.heap.size + 3) q l5 ∧ Below w.heap.size w wx)
  case first =>
    by_cases hx : x4 = 0
    · subst hx
      have CJ := fun (w : World) (hI : IntsAt w q4 l4) (hJ : IntsAt w pd e) => impl_DropChangesS c4 f4 q4 l4 d4 0 pd e cd w hI (by omega) hJ he
      have E : dpT ⟨c4, f4, l4, 0⟩ e = ⟨c5, f5, l5, x5⟩ := by have := HE5.out; unfold dpS at this; rw [if_pos rfl] at this; exact this
      rw [E] at CJ
      clear E
      obtain ⟨cF0, cF1, cF2⟩ := F4.cell3
      obtain ⟨cN0, cN1, cN2, cN3⟩ := N4.cell4
      have ff := F4.frozen
      have fl := F4.lt
      go_wp2_with fail
      refine (CJ _ S4.ints (h2.below W4)).mono ?_
      rintro e' y ⟨qy, dy, rfl, Sy, hby⟩
      have zy := hby.size
      have zw := W4.size
      have zr := R4.lt
      have Fy := F4.keep hby
      have Ny := N4.keep hby
      have Ry := R4.keep hby
      have Wy := below_st W4 hby (Nat.le_refl _)
      replace Sy : OwnS y (w.heap.size + 3) qy l5 := Sy.mono (by omega)
      clear cF0 cF1 cF2 cN0 cN1 cN2 cN3
      clear ff fl
      obtain ⟨r0, r1, r2⟩ := Fy.cell3
      have rf := Fy.frozen
      have rlt := Fy.lt
      go_wp2_with fail
      go_meet
      exact ⟨qy, dy, rfl, Fy.set3 _ _ _, ((Ny.off (g' := w.heap.size) (by omega) 0 _).off (g' := w.heap.size) (by omega) 1 _).off (g' := w.heap.size) (by omega) 2 _, ((Ry.off (g' := w.heap.size) (by omega) 0 _).off (g' := w.heap.size) (by omega) 1 _).off (g' := w.heap.size) (by omega) 2 _, (((Sy.offS (g' := w.heap.size) (by omega) 0 _).offS (g' := w.heap.size) (by omega) 1 _).offS (g' := w.heap.size) (by omega) 2 _), (((Wy.setCell (p := ⟨w.heap.size, 0, none⟩) (Nat.le_refl _) _).setCell (p := ⟨w.heap.size, 1, none⟩) (Nat.le_refl _) _).setCell (p := ⟨w.heap.size, 2, none⟩) (Nat.le_refl _) _)⟩
    · have E : (⟨c4, f4, l4, x4⟩ : FxS) = ⟨c5, f5, l5, x5⟩ := by have := HE5.out; unfold dpS at this; rw [if_neg hx] at this; exact this
      injection E with E1 E2 E3 E4
      subst E1 E2 E3 E4
      have hx1 : (x4 == 0) = false := by simp [hx]
      have hx2 : decide (x4 = 0) = false := by simp [hx]
      go_wp2_with fail
      go_meet
      exact ⟨q4, d4, rfl, F4, N4, R4, S4, W4⟩
  case rest =>
  obtain ⟨q5, d5, rfl, F5, N5, R5, S5, W5⟩ := hcut
  obtain ⟨w6, hwc⟩ : ∃ w6, w6 = wc := ⟨_, rfl⟩
  subst hwc
  clear F4 N4 R4 S4 W4
  have HB : Hid (anB c f l d j e = ⟨c5, f5, l5, x5⟩) := Lib.hid (by rw [HV3.out, HE4.out, HE5.out])
  have HV2 : Hid ((anS c f l d j e L) = anK ⟨c5, f5, l5, x5⟩ L L.length) := Lib.hid (by rw [HV.out, HB.out])
  clear HV HB HV3 HE4 HE5
  obtain ⟨cF0, cF1, cF2⟩ := F5.cell3
  obtain ⟨cN0, cN1, cN2, cN3⟩ := N5.cell4
  go_wp2_with fail
  go_loopw [6, 46] (fun v6 i wr => ∃ (k : Nat) (q : Option Addr) (dq : Nat), k ≤ L.length ∧ i = .int .i64 k ∧ v6 = .int .i64 (anK ⟨c5, f5, l5, x5⟩ L k).e ∧ Blk wr w.heap.size 26 #[.int .i64 (anK ⟨c5, f5, l5, x5⟩ L k).c, .int .i64 (anK ⟨c5, f5, l5, x5⟩ L k).f, .slice q (anK ⟨c5, f5, l5, x5⟩ L k).l.length dq] ∧ Blk wr (w.heap.size + 1) 53 #[.int .i64 d, .slice pj j.length cj, .slice pd e.length cd, .slice ps L.length cs] ∧ Blk wr (w.heap.size + 2) 26 #[.int .i64 0, .int .i64 0, .slice none 0 0] ∧ OwnS wr (w.heap.size + 3) q (anK ⟨c5, f5, l5, x5⟩ L k).l ∧ Below w.heap.size w wr) (fun _ i _ => L.length - (intOf i).toNat)
  case atStart => exact ⟨0, q5, d5, Nat.zero_le _, rfl, rfl, F5, N5, R5, S5, W5⟩
  case round =>
    clear cF0 cF1 cF2 cN0 cN1 cN2 cN3
    clear F5 N5 R5 S5 W5
    obtain ⟨k, q, dq, hk, rfl, rfl, F, N, R, SS, W⟩ := hrel
    have hzw := W.size
    have hzr := R.lt
    by_cases hlt : k < L.length
    · obtain ⟨a, hpa, hab, s0, s1, s2, hIk⟩ := (h3.below W).at_ hlt
      have hcapk := hn _ (List.getElem_mem hlt)
      have hlen : (anK ⟨c5, f5, l5, x5⟩ L k).l.length + L[k].g.l.length ≤ 1048576 := by
        have h1 := anK_len ⟨c5, f5, l5, x5⟩ L k hk
        have h2 := lensL_take L hlt
        have h3 := lensL_le L (k + 1)
        have h4 : (FxS.mk c5 f5 l5 x5).l.length = l5.length := rfl
        omega
      have HS : Hid (anK ⟨c5, f5, l5, x5⟩ L (k + 1) = weS (anK ⟨c5, f5, l5, x5⟩ L k) L[k]) := Lib.hid (anK_succ _ L hlt)
      subst hpa
      obtain ⟨⟨x, y, ⟨pg, lg, cg⟩⟩, es⟩ : ∃ s, L[k] = s := ⟨_, rfl⟩
      rw [es] at s0 s1 s2 hIk hcapk hlen HS
      simp only [Num.val] at s0 s1 s2 hIk hcapk hlen
      obtain ⟨⟨ck, fk, lk, xk⟩, EK⟩ : ∃ s, (anK ⟨c5, f5, l5, x5⟩ L k) = s := ⟨_, rfl⟩
      rw [EK] at F SS HS hlen ⊢
      simp only at F SS hlen ⊢
      clear EK es
      obtain ⟨cF0, cF1, cF2⟩ := F.cell3
      obtain ⟨cN0, cN1, cN2, cN3⟩ := N.cell4
      have V5 := Blk.new wr 36 #[.int .i64 x, .int .i64 y, .slice pg lg.length cg]
      have F5 := F.alloc' (.cells #[.int .i64 x, .int .i64 y, .slice pg lg.length cg] 36)
      have N5 := N.alloc' (.cells #[.int .i64 x, .int .i64 y, .slice pg lg.length cg] 36)
      have R5 := R.alloc' (.cells #[.int .i64 x, .int .i64 y, .slice pg lg.length cg] 36)
      have S5 := SS.below ((Below.refl _ wr).alloc (Nat.le_refl _) (.cells #[.int .i64 x, .int .i64 y, .slice pg lg.length cg] 36))
      have W5 := W.alloc W.size (.cells #[.int .i64 x, .int .i64 y, .slice pg lg.length cg] 36)
      have I5 := hIk.alloc (.cells #[.int .i64 x, .int .i64 y, .slice pg lg.length cg] 36)
      go_upto_if 51 with fail
      obtain ⟨bw, ebw⟩ : ∃ bw, wr.heap.size = bw := ⟨_, rfl⟩
      generalize wr.alloc (.cells #[.int .i64 x, .int .i64 y, .slice pg lg.length cg] 36) = w5 at V5 F5 N5 R5 S5 W5 I5 ⊢
      have hbw : w.heap.size + 2 < bw := by omega
      rw [ebw] at V5 ⊢
      clear s0 s1 s2 hIk hab ebw F N R SS W hzw hzr
      clear cF0 cF1 cF2 cN0 cN1 cN2 cN3
      have hzw := W5.size
      by_cases hx : xk = 0
      · subst hx
        have CW := fun (w : World) (hI : IntsAt w q lk) (hJ : IntsAt w pg lg) => impl_WeakenFluxS ck fk q lk dq 0 x y pg lg cg w hI hJ hlen hcapk
        obtain ⟨⟨cn, fn, ln, xn⟩, EN⟩ : ∃ s, weF ⟨ck, fk, lk, 0⟩ ⟨x, y, ⟨pg, lg, cg⟩⟩ = s := ⟨_, rfl⟩
        rw [EN] at CW
        have HN : Hid (anK ⟨c5, f5, l5, x5⟩ L (k + 1) = ⟨cn, fn, ln, xn⟩) := Lib.hid (by rw [HS.out]; unfold weS; rw [if_pos rfl]; exact EN)
        clear EN
        obtain ⟨cF0, cF1, cF2⟩ := F5.cell3
        obtain ⟨cN0, cN1, cN2, cN3⟩ := N5.cell4
        obtain ⟨v0, v1, v2⟩ := V5.cell3
        have vl := V5.lt
        have fl := F5.lt
        go_wp2_with fail
        refine (CW _ S5.ints I5).mono ?_
        rintro e' y ⟨qy, dy, rfl, Sy, hby⟩
        have zy := hby.size
        have Fy := F5.keep hby
        have Ny := N5.keep hby
        have Ry := R5.keep hby
        have zr := R5.lt
        have Wy := below_st W5 hby (Nat.le_refl _)
        replace Sy : OwnS y (w.heap.size + 3) qy ln := Sy.mono (by omega)
        clear cF0 cF1 cF2 cN0 cN1 cN2 cN3
        clear v0 v1 v2 vl fl
        obtain ⟨r0, r1, r2⟩ := Fy.cell3
        have rf := Fy.frozen
        have rlt := Fy.lt
        go_wp2_with fail
        refine ⟨⟨k + 1, qy, dy, by omega, by go_num, by rw [HN.out], by rw [HN.out]; exact Fy.set3 _ _ _, ((Ny.off (g' := w.heap.size) (by omega) 0 _).off (g' := w.heap.size) (by omega) 1 _).off (g' := w.heap.size) (by omega) 2 _, ((Ry.off (g' := w.heap.size) (by omega) 0 _).off (g' := w.heap.size) (by omega) 1 _).off (g' := w.heap.size) (by omega) 2 _, by rw [HN.out]; exact (((Sy.offS (g' := w.heap.size) (by omega) 0 _).offS (g' := w.heap.size) (by omega) 1 _).offS (g' := w.heap.size) (by omega) 2 _), (((Wy.setCell (p := ⟨w.heap.size, 0, none⟩) (Nat.le_refl _) _).setCell (p := ⟨w.heap.size, 1, none⟩) (Nat.le_refl _) _).setCell (p := ⟨w.heap.size, 2, none⟩) (Nat.le_refl _) _)⟩, by simp [intOf]; omega⟩
      · have hx1 : (xk == 0) = false := by simp [hx]
        have hx2 : decide (xk = 0) = false := by simp [hx]
        have HN : Hid (anK ⟨c5, f5, l5, x5⟩ L (k + 1) = ⟨ck, fk, lk, xk⟩) := Lib.hid (by rw [HS.out]; unfold weS; rw [if_neg hx])
        go_wp2_with fail
        exact ⟨⟨k + 1, q, dq, by omega, by go_num, by rw [HN.out], by rw [HN.out]; exact F5, N5, R5, by rw [HN.out]; exact S5, W5⟩, by simp [intOf]; omega⟩
    · have ek : k = L.length := by omega
      have HVk : anK ⟨c5, f5, l5, x5⟩ L L.length = (anK ⟨c5, f5, l5, x5⟩ L k) := by rw [ek]
      obtain ⟨⟨ck, fk, lk, xk⟩, EK⟩ : ∃ s, (anK ⟨c5, f5, l5, x5⟩ L k) = s := ⟨_, rfl⟩
      rw [EK] at F SS HVk ⊢
      simp only at F SS ⊢
      clear EK
      obtain ⟨b0, b1, b2⟩ := F.cell3
      obtain ⟨r0, r1, r2⟩ := R.cell3
      have rf := R.frozen
      obtain ⟨y0, y1, y2⟩ := (R.set3 (.int .i64 ck) (.int .i64 fk) (.slice q lk.length dq)).cell3
      have HVV := Lib.hid HVk
      clear HVk
      go_wp2_with fail
      refine bodyPost_ret (v := .tuple #[.agg #[.int .i64 ck, .int .i64 fk, .slice q lk.length dq], .int .i64 xk]) (by simp [results, Try.results27, go_sem, y0, y1, y2]) rfl ?_
      rw [HV2.out, HVV.out]
      exact ⟨q, dq, rfl, (((SS.offS (g' := w.heap.size + 2) (by omega) 0 _).offS (g' := w.heap.size + 2) (by omega) 1 _).offS (g' := w.heap.size + 2) (by omega) 2 _).mono (by omega), (((W.setCell (p := ⟨w.heap.size + 2, 0, none⟩) (by show w.heap.size ≤ w.heap.size + 2; omega) _).setCell (p := ⟨w.heap.size + 2, 1, none⟩) (by show w.heap.size ≤ w.heap.size + 2; omega) _).setCell (p := ⟨w.heap.size + 2, 2, none⟩) (by show w.heap.size ≤ w.heap.size + 2; omega) _)⟩
set_option maxHeartbeats 4000000 in
set_option maxRecDepth 20000 in
theorem spec_AddNoise (c f : Int) (p : Option Addr) (l : List Int) (cap : Nat) (d : Int) (pj pd ps : Option Addr) (j e : List Int) (L : List Flx) (cj cd cs : Nat) (w : World) (hI : IntsAt w p l) (h1 : IntsAt w pj j) (h2 : IntsAt w pd e) (h3 : SpansAt w ps L) (hsum : l.length + lensL L ≤ 1048576) (hj : j.length ≤ 1048576) (he : e.length ≤ 1048576) (hl : L.length ≤ 1048576) (hn : ∀ s ∈ L, s.g.p = none → s.g.cap = 0) :
    Calls Try.prog 35 #[.agg #[.int .i64 c, .int .i64 f, .slice p l.length cap], .agg #[.int .i64 d, .slice pj j.length cj, .slice pd e.length cd, .slice ps L.length cs]] w fun e' w' => ∃ (q : Option Addr) (dq : Nat), e' = .returned (.tuple #[.agg #[.int .i64 (anS c f l d j e L).c, .int .i64 (anS c f l d j e L).f, .slice q (anS c f l d j e L).l.length dq], .int .i64 (anS c f l d j e L).e]) ∧ OwnS w' w.heap.size q (anS c f l d j e L).l ∧ Below w.heap.size w w' := by
  have F0 := ((Blk.new w 26 #[.int .i64 c, .int .i64 f, .slice p l.length cap]).alloc' (.cells #[.int .i64 d, .slice pj j.length cj, .slice pd e.length cd, .slice ps L.length cs] 53)).alloc' (.cells #[.int .i64 0, .int .i64 0, .slice none 0 0] 26)
  have N0 := (Blk.new (w.alloc (.cells #[.int .i64 c, .int .i64 f, .slice p l.length cap] 26)) 53 #[.int .i64 d, .slice pj j.length cj, .slice pd e.length cd, .slice ps L.length cs]).alloc' (.cells #[.int .i64 0, .int .i64 0, .slice none 0 0] 26)
  have R0 := Blk.new ((w.alloc (.cells #[.int .i64 c, .int .i64 f, .slice p l.length cap] 26)).alloc (.cells #[.int .i64 d, .slice pj j.length cj, .slice pd e.length cd, .slice ps L.length cs] 53)) 26 #[.int .i64 0, .int .i64 0, .slice none 0 0]
  have e1 : (w.alloc (.cells #[.int .i64 c, .int .i64 f, .slice p l.length cap] 26)).heap.size = w.heap.size + 1 := by simp
  have e2 : ((w.alloc (.cells #[.int .i64 c, .int .i64 f, .slice p l.length cap] 26)).alloc (.cells #[.int .i64 d, .slice pj j.length cj, .slice pd e.length cd, .slice ps L.length cs] 53)).heap.size = w.heap.size + 2 := by simp
  rw [e1] at N0
  rw [e2] at R0
  have W0 : Below w.heap.size w (((w.alloc (.cells #[.int .i64 c, .int .i64 f, .slice p l.length cap] 26)).alloc (.cells #[.int .i64 d, .slice pj j.length cj, .slice pd e.length cd, .slice ps L.length cs] 53)).alloc (.cells #[.int .i64 0, .int .i64 0, .slice none 0 0] 26)) := (((Below.refl _ _).alloc (Nat.le_refl _) _).alloc (by simp) _).alloc (by simp; omega) _
  have z0 : w.heap.size + 3 ≤ (((w.alloc (.cells #[.int .i64 c, .int .i64 f, .slice p l.length cap] 26)).alloc (.cells #[.int .i64 d, .slice pj j.length cj, .slice pd e.length cd, .slice ps L.length cs] 53)).alloc (.cells #[.int .i64 0, .int .i64 0, .slice none 0 0] 26)).heap.size := by simp
  clear e1 e2
  have hg : ∀ s ∈ L, s.g.l.length ≤ 1048576 := fun s hs => by have := lensL_mem hs; omega
  have hll : l.length ≤ 1048576 := by omega
  obtain k1 | k1 := (Bool.eq_false_or_eq_true (fluxOk c f l)).symm
  · have HV : Hid ((anS c f l d j e L) = ⟨0, 0, [], 1⟩) := Lib.hid (by unfold anS anOk; rw [k1]; rfl)
    have H1 := Lib.hid k1
    clear k1
    go_enter Try.func35, Try.ntmps35
    go_wp2_with fail
    generalize (((w.alloc (.cells #[.int .i64 c, .int .i64 f, .slice p l.length cap] 26)).alloc (.cells #[.int .i64 d, .slice pj j.length cj, .slice pd e.length cd, .slice ps L.length cs] 53)).alloc (.cells #[.int .i64 0, .int .i64 0, .slice none 0 0] 26)) = w0 at F0 N0 R0 W0 z0 ⊢
    obtain ⟨cF0, cF1, cF2⟩ := F0.cell3
    obtain ⟨cN0, cN1, cN2, cN3⟩ := N0.cell4
    refine (spec_l02Ok c f p l cap _ _ (hI.below W0) hll F0).mono ?_
    rintro e' w1 ⟨rfl, hb1⟩
    rw [H1.out]
    have z1 := hb1.size
    have F1 := F0.keep hb1
    have N1 := N0.keep hb1
    have R1 := R0.keep hb1
    have W1 := below_st W0 hb1 (Nat.le_refl _)
    clear cF0 cF1 cF2 cN0 cN1 cN2 cN3
    obtain ⟨r0, r1, r2⟩ := R1.cell3
    have rf := R1.frozen
    have rlt := R1.lt
    obtain ⟨x0, x1, x2⟩ := (R1.set3 (.int .i64 0) (.int .i64 0) (.slice none 0 0)).cell3
    go_wp2_with fail
    refine bodyPost_ret (v := .tuple #[.agg #[.int .i64 0, .int .i64 0, .slice none 0 0], .int .i64 1]) (by simp [results, Try.results35, go_sem, x0, x1, x2]) rfl ?_
    rw [HV.out]
    exact ⟨none, 0, rfl, OwnS.nil_ _ _ _, ((W1.setCell (p := ⟨w.heap.size + 2, 0, none⟩) (by show w.heap.size ≤ w.heap.size + 2; omega) _).setCell (p := ⟨w.heap.size + 2, 1, none⟩) (by show w.heap.size ≤ w.heap.size + 2; omega) _).setCell (p := ⟨w.heap.size + 2, 2, none⟩) (by show w.heap.size ≤ w.heap.size + 2; omega) _⟩
  have H1 := Lib.hid k1
  obtain k2 | k2 := (Bool.eq_false_or_eq_true (nzB d j e L)).symm
  · have HV : Hid ((anS c f l d j e L) = ⟨0, 0, [], 1⟩) := Lib.hid (by unfold anS anOk; rw [k1, k2]; rfl)
    have H2 := Lib.hid k2
    clear k1 k2
    go_enter Try.func35, Try.ntmps35
    go_wp2_with fail
    generalize (((w.alloc (.cells #[.int .i64 c, .int .i64 f, .slice p l.length cap] 26)).alloc (.cells #[.int .i64 d, .slice pj j.length cj, .slice pd e.length cd, .slice ps L.length cs] 53)).alloc (.cells #[.int .i64 0, .int .i64 0, .slice none 0 0] 26)) = w0 at F0 N0 R0 W0 z0 ⊢
    obtain ⟨cF0, cF1, cF2⟩ := F0.cell3
    obtain ⟨cN0, cN1, cN2, cN3⟩ := N0.cell4
    refine (spec_l02Ok c f p l cap _ _ (hI.below W0) hll F0).mono ?_
    rintro e' w1 ⟨rfl, hb1⟩
    rw [H1.out]
    have z1 := hb1.size
    have F1 := F0.keep hb1
    have N1 := N0.keep hb1
    have R1 := R0.keep hb1
    have W1 := below_st W0 hb1 (Nat.le_refl _)
    clear cF0 cF1 cF2 cN0 cN1 cN2 cN3
    obtain ⟨cF0, cF1, cF2⟩ := F1.cell3
    obtain ⟨cN0, cN1, cN2, cN3⟩ := N1.cell4
    go_wp2_with fail
    refine (spec_l04Ok d pj pd ps j e L cj cd cs _ _ N1 (h1.below W1) (h2.below W1) (h3.below W1) hj he hl hg).mono ?_
    rintro e' w2 ⟨rfl, hb2⟩
    rw [H2.out]
    have z2 := hb2.size
    have F2 := F1.keep hb2
    have N2 := N1.keep hb2
    have R2 := R1.keep hb2
    have W2 := below_st W1 hb2 (Nat.le_refl _)
    clear cF0 cF1 cF2 cN0 cN1 cN2 cN3
    obtain ⟨r0, r1, r2⟩ := R2.cell3
    have rf := R2.frozen
    have rlt := R2.lt
    obtain ⟨x0, x1, x2⟩ := (R2.set3 (.int .i64 0) (.int .i64 0) (.slice none 0 0)).cell3
    go_wp2_with fail
    refine bodyPost_ret (v := .tuple #[.agg #[.int .i64 0, .int .i64 0, .slice none 0 0], .int .i64 1]) (by simp [results, Try.results35, go_sem, x0, x1, x2]) rfl ?_
    rw [HV.out]
    exact ⟨none, 0, rfl, OwnS.nil_ _ _ _, ((W2.setCell (p := ⟨w.heap.size + 2, 0, none⟩) (by show w.heap.size ≤ w.heap.size + 2; omega) _).setCell (p := ⟨w.heap.size + 2, 1, none⟩) (by show w.heap.size ≤ w.heap.size + 2; omega) _).setCell (p := ⟨w.heap.size + 2, 2, none⟩) (by show w.heap.size ≤ w.heap.size + 2; omega) _⟩
  have H2 := Lib.hid k2
  have HV : Hid ((anS c f l d j e L) = anK (anB c f l d j e) L L.length) := Lib.hid (by unfold anS anOk; rw [k1, k2]; rfl)
  clear k1 k2
  go_enter Try.func35, Try.ntmps35
  go_wp2_with fail
  generalize (((w.alloc (.cells #[.int .i64 c, .int .i64 f, .slice p l.length cap] 26)).alloc (.cells #[.int .i64 d, .slice pj j.length cj, .slice pd e.length cd, .slice ps L.length cs] 53)).alloc (.cells #[.int .i64 0, .int .i64 0, .slice none 0 0] 26)) = w0 at F0 N0 R0 W0 z0 ⊢
  obtain ⟨cF0, cF1, cF2⟩ := F0.cell3
  obtain ⟨cN0, cN1, cN2, cN3⟩ := N0.cell4
  refine (spec_l02Ok c f p l cap _ _ (hI.below W0) hll F0).mono ?_
  rintro e' w1 ⟨rfl, hb1⟩
  rw [H1.out]
  have z1 := hb1.size
  have F1 := F0.keep hb1
  have N1 := N0.keep hb1
  have R1 := R0.keep hb1
  have W1 := below_st W0 hb1 (Nat.le_refl _)
  clear cF0 cF1 cF2 cN0 cN1 cN2 cN3
  obtain ⟨cF0, cF1, cF2⟩ := F1.cell3
  obtain ⟨cN0, cN1, cN2, cN3⟩ := N1.cell4
  go_wp2_with fail
  refine (spec_l04Ok d pj pd ps j e L cj cd cs _ _ N1 (h1.below W1) (h2.below W1) (h3.below W1) hj he hl hg).mono ?_
  rintro e' w2 ⟨rfl, hb2⟩
  rw [H2.out]
  have z2 := hb2.size
  have F2 := F1.keep hb2
  have N2 := N1.keep hb2
  have R2 := R1.keep hb2
  have W2 := below_st W1 hb2 (Nat.le_refl _)
  clear cF0 cF1 cF2 cN0 cN1 cN2 cN3
  obtain ⟨⟨c3, f3, l3, x3⟩, E3⟩ : ∃ s, drS c f l d = s := ⟨_, rfl⟩
  have hl3 : l3.length ≤ l.length := by have := drS_len c f l d; rw [E3] at this; exact this
  have CD := fun (w : World) (hI : IntsAt w p l) => spec_AddDriftS c f p l cap d w hI hll
  rw [E3] at CD
  have HV3 : Hid (anB c f l d j e = dpS (jiS ⟨c3, f3, l3, x3⟩ j) e) := Lib.hid (by unfold anB; rw [E3])
  clear E3
  obtain ⟨cF0, cF1, cF2⟩ := F2.cell3
  obtain ⟨cN0, cN1, cN2, cN3⟩ := N2.cell4
  go_wp2_with fail
  refine (CD _ (hI.below W2)).mono ?_
  rintro e' w3 ⟨q3, d3, rfl, S3, hb3⟩
  have z3 := hb3.size
  have F3 := F2.keep hb3
  have N3 := N2.keep hb3
  have R3 := R2.keep hb3
  have W3 := below_st W2 hb3 (Nat.le_refl _)
  replace S3 : OwnS w3 (w.heap.size + 3) q3 l3 := S3.mono (by omega)
  clear cF0 cF1 cF2 cN0 cN1 cN2 cN3
  go_upto_if 24 with fail
  have A3 := Blk.new w3 26 #[.int .i64 c3, .int .i64 f3, .slice q3 l3.length d3]
  replace N3 := N3.alloc' (.cells #[.int .i64 c3, .int .i64 f3, .slice q3 l3.length d3] 26)
  replace R3 := R3.alloc' (.cells #[.int .i64 c3, .int .i64 f3, .slice q3 l3.length d3] 26)
  replace S3 := S3.below ((Below.refl _ w3).alloc (Nat.le_refl _) (.cells #[.int .i64 c3, .int .i64 f3, .slice q3 l3.length d3] 26))
  replace W3 := W3.alloc W3.size (.cells #[.int .i64 c3, .int .i64 f3, .slice q3 l3.length d3] 26)
  obtain ⟨ga, ega⟩ : ∃ ga, w3.heap.size = ga := ⟨_, rfl⟩
  generalize w3.alloc (.cells #[.int .i64 c3, .int .i64 f3, .slice q3 l3.length d3] 26) = w4 at A3 N3 R3 S3 W3 ⊢
  have hga : w.heap.size + 3 ≤ ga := by omega
  rw [ega] at A3 ⊢
  have hgal := A3.lt
  clear F3 ega z0 z1 z2 z3 F0 N0 R0 F1 N1 R1 F2 N2 R2 W0 W1 W2 hb1 hb2 hb3 CD
  have F3 := A3
  clear A3
  obtain ⟨⟨c4, f4, l4, x4⟩, E4⟩ : ∃ s, jiS ⟨c3, f3, l3, x3⟩ j = s := ⟨_, rfl⟩
  have hl4 : l4.length ≤ l.length := by have := jiS_len ⟨c3, f3, l3, x3⟩ j; rw [E4] at this; exact Nat.le_trans this hl3
  have HE4 := Lib.hid E4
  clear E4
  go_cut [7] (fun v6 wx => ∃ q dq, v6 = .int .i64 x4 ∧ Blk wx ga 26 #[.int .i64 c4, .int .i64 f4, .slice q l4.length dq] ∧ Blk wx (w.heap.size + 1) 53 #[.int .i64 d, .slice pj j.length cj, .slice pd e.length cd, .slice ps L.length cs] ∧ Blk wx (w.heap.size + 2) 26 #[.int .i64 0, .int .i64 0, .slice none 0 0] ∧ OwnS wx (w.heap.size + 3) q l4 ∧ Below w.heap.size w wx)
  case first =>
    by_cases hx : x3 = 0
    · subst hx
      have CJ := fun (w : World) (hI : IntsAt w q3 l3) (hJ : IntsAt w pj j) => spec_AddJitterS c3 f3 q3 l3 d3 0 pj j cj w hI (by omega) hJ hj
      have E : jiT ⟨c3, f3, l3, 0⟩ j = ⟨c4, f4, l4, x4⟩ := by have := HE4.out; unfold jiS at this; rw [if_pos rfl] at this; exact this
      rw [E] at CJ
      clear E
      obtain ⟨cF0, cF1, cF2⟩ := F3.cell3
      obtain ⟨cN0, cN1, cN2, cN3⟩ := N3.cell4
      have ff := F3.frozen
      have fl := F3.lt
      go_wp2_with fail
      refine (CJ _ S3.ints (h1.below W3)).mono ?_
      rintro e' y ⟨qy, dy, rfl, Sy, hby⟩
      have zy := hby.size
      have zw := W3.size
      have zr := R3.lt
      have Fy := F3.keep hby
      have Ny := N3.keep hby
      have Ry := R3.keep hby
      have Wy := below_st W3 hby (Nat.le_refl _)
      replace Sy : OwnS y (ga + 1) qy l4 := Sy.mono (by omega)
      clear cF0 cF1 cF2 cN0 cN1 cN2 cN3
      clear ff fl
      obtain ⟨r0, r1, r2⟩ := Fy.cell3
      have rf := Fy.frozen
      have rlt := Fy.lt
      go_wp2_with fail
      go_meet
      exact ⟨qy, dy, rfl, Fy.set3 _ _ _, ((Ny.off (g' := ga) (by omega) 0 _).off (g' := ga) (by omega) 1 _).off (g' := ga) (by omega) 2 _, ((Ry.off (g' := ga) (by omega) 0 _).off (g' := ga) (by omega) 1 _).off (g' := ga) (by omega) 2 _, (((Sy.offS (g' := ga) (by omega) 0 _).offS (g' := ga) (by omega) 1 _).offS (g' := ga) (by omega) 2 _).mono (by omega), (((Wy.setCell (p := ⟨ga, 0, none⟩) (by show w.heap.size ≤ ga; omega) _).setCell (p := ⟨ga, 1, none⟩) (by show w.heap.size ≤ ga; omega) _).setCell (p := ⟨ga, 2, none⟩) (by show w.heap.size ≤ ga; omega) _)⟩
    · have E : (⟨c3, f3, l3, x3⟩ : FxS) = ⟨c4, f4, l4, x4⟩ := by have := HE4.out; unfold jiS at this; rw [if_neg hx] at this; exact this
      injection E with E1 E2 E3 E4
      subst E1 E2 E3 E4
      have hx1 : (x3 == 0) = false := by simp [hx]
      have hx2 : decide (x3 = 0) = false := by simp [hx]
      go_wp2_with fail
      go_meet
      exact ⟨q3, d3, rfl, F3, N3, R3, S3, W3⟩
  case rest =>
  obtain ⟨q4, d4, rfl, F4, N4, R4, S4, W4⟩ := hcut
  obtain ⟨w5, hwc⟩ : ∃ w5, w5 = wc := ⟨_, rfl⟩
  subst hwc
  clear F3 N3 R3 S3 W3
  go_upto_if 33 with fail
  obtain ⟨⟨c5, f5, l5, x5⟩, E5⟩ : ∃ s, dpS ⟨c4, f4, l4, x4⟩ e = s := ⟨_, rfl⟩
  have hl5 : l5.length ≤ l.length := by have := dpS_len ⟨c4, f4, l4, x4⟩ e; rw [E5] at this; exact Nat.le_trans this hl4
  have HE5 := Lib.hid E5
  clear E5
  go_cut [7] (fun v6 wx => ∃ q dq, v6 = .int .i64 x5 ∧ Blk wx ga 26 #[.int .i64 c5, .int .i64 f5, .slice q l5.length dq] ∧ Blk wx (w.heap.size + 1) 53 #[.int .i64 d, .slice pj j.length cj, .slice pd e.length cd, .slice ps L.length cs] ∧ Blk wx (w.heap.size + 2) 26 #[.int .i64 0, .int .i64 0, .slice none 0 0] ∧ OwnS wx (w.heap.size + 3) q l5 ∧ Below w.heap.size w wx)
  case first =>
    by_cases hx : x4 = 0
    · subst hx
      have CJ := fun (w : World) (hI : IntsAt w q4 l4) (hJ : IntsAt w pd e) => spec_DropChangesS c4 f4 q4 l4 d4 0 pd e cd w hI (by omega) hJ he
      have E : dpT ⟨c4, f4, l4, 0⟩ e = ⟨c5, f5, l5, x5⟩ := by have := HE5.out; unfold dpS at this; rw [if_pos rfl] at this; exact this
      rw [E] at CJ
      clear E
      obtain ⟨cF0, cF1, cF2⟩ := F4.cell3
      obtain ⟨cN0, cN1, cN2, cN3⟩ := N4.cell4
      have ff := F4.frozen
      have fl := F4.lt
      go_wp2_with fail
      refine (CJ _ S4.ints (h2.below W4)).mono ?_
      rintro e' y ⟨qy, dy, rfl, Sy, hby⟩
      have zy := hby.size
      have zw := W4.size
      have zr := R4.lt
      have Fy := F4.keep hby
      have Ny := N4.keep hby
      have Ry := R4.keep hby
      have Wy := below_st W4 hby (Nat.le_refl _)
      replace Sy : OwnS y (ga + 1) qy l5 := Sy.mono (by omega)
      clear cF0 cF1 cF2 cN0 cN1 cN2 cN3
      clear ff fl
      obtain ⟨r0, r1, r2⟩ := Fy.cell3
      have rf := Fy.frozen
      have rlt := Fy.lt
      go_wp2_with fail
      go_meet
      exact ⟨qy, dy, rfl, Fy.set3 _ _ _, ((Ny.off (g' := ga) (by omega) 0 _).off (g' := ga) (by omega) 1 _).off (g' := ga) (by omega) 2 _, ((Ry.off (g' := ga) (by omega) 0 _).off (g' := ga) (by omega) 1 _).off (g' := ga) (by omega) 2 _, (((Sy.offS (g' := ga) (by omega) 0 _).offS (g' := ga) (by omega) 1 _).offS (g' := ga) (by omega) 2 _).mono (by omega), (((Wy.setCell (p := ⟨ga, 0, none⟩) (by show w.heap.size ≤ ga; omega) _).setCell (p := ⟨ga, 1, none⟩) (by show w.heap.size ≤ ga; omega) _).setCell (p := ⟨ga, 2, none⟩) (by show w.heap.size ≤ ga; omega) _)⟩
    · have E : (⟨c4, f4, l4, x4⟩ : FxS) = ⟨c5, f5, l5, x5⟩ := by have := HE5.out; unfold dpS at this; rw [if_neg hx] at this; exact this
      injection E with E1 E2 E3 E4
      subst E1 E2 E3 E4
      have hx1 : (x4 == 0) = false := by simp [hx]
      have hx2 : decide (x4 = 0) = false := by simp [hx]
      go_wp2_with fail
      go_meet
      exact ⟨q4, d4, rfl, F4, N4, R4, S4, W4⟩
  case rest =>
  obtain ⟨q5, d5, rfl, F5, N5, R5, S5, W5⟩ := hcut
  obtain ⟨w6, hwc⟩ : ∃ w6, w6 = wc := ⟨_, rfl⟩
  subst hwc
  clear F4 N4 R4 S4 W4
  have HB : Hid (anB c f l d j e = ⟨c5, f5, l5, x5⟩) := Lib.hid (by rw [HV3.out, HE4.out, HE5.out])
  have HV2 : Hid ((anS c f l d j e L) = anK ⟨c5, f5, l5, x5⟩ L L.length) := Lib.hid (by rw [HV.out, HB.out])
  clear HV HB HV3 HE4 HE5
  obtain ⟨cF0, cF1, cF2⟩ := F5.cell3
  obtain ⟨cN0, cN1, cN2, cN3⟩ := N5.cell4
  go_wp2_with fail
  go_loopw [7, 8] (fun v6 i wr => ∃ (k : Nat) (q : Option Addr) (dq : Nat), k ≤ L.length ∧ i = .int .i64 k ∧ v6 = .int .i64 (anK ⟨c5, f5, l5, x5⟩ L k).e ∧ Blk wr ga 26 #[.int .i64 (anK ⟨c5, f5, l5, x5⟩ L k).c, .int .i64 (anK ⟨c5, f5, l5, x5⟩ L k).f, .slice q (anK ⟨c5, f5, l5, x5⟩ L k).l.length dq] ∧ Blk wr (w.heap.size + 1) 53 #[.int .i64 d, .slice pj j.length cj, .slice pd e.length cd, .slice ps L.length cs] ∧ Blk wr (w.heap.size + 2) 26 #[.int .i64 0, .int .i64 0, .slice none 0 0] ∧ OwnS wr (w.heap.size + 3) q (anK ⟨c5, f5, l5, x5⟩ L k).l ∧ Below w.heap.size w wr) (fun _ i _ => L.length - (intOf i).toNat)
  case atStart => exact ⟨0, q5, d5, Nat.zero_le _, rfl, rfl, F5, N5, R5, S5, W5⟩
  case round =>
    clear cF0 cF1 cF2 cN0 cN1 cN2 cN3
    clear F5 N5 R5 S5 W5
    obtain ⟨k, q, dq, hk, rfl, rfl, F, N, R, SS, W⟩ := hrel
    have hzw := W.size
    have hzr := R.lt
    by_cases hlt : k < L.length
    · obtain ⟨a, hpa, hab, s0, s1, s2, hIk⟩ := (h3.below W).at_ hlt
      have hcapk := hn _ (List.getElem_mem hlt)
      have hlen : (anK ⟨c5, f5, l5, x5⟩ L k).l.length + L[k].g.l.length ≤ 1048576 := by
        have h1 := anK_len ⟨c5, f5, l5, x5⟩ L k hk
        have h2 := lensL_take L hlt
        have h3 := lensL_le L (k + 1)
        have h4 : (FxS.mk c5 f5 l5 x5).l.length = l5.length := rfl
        omega
      have HS : Hid (anK ⟨c5, f5, l5, x5⟩ L (k + 1) = weS (anK ⟨c5, f5, l5, x5⟩ L k) L[k]) := Lib.hid (anK_succ _ L hlt)
      have HST := Lib.hid (fun h => (anK_stop ⟨c5, f5, l5, x5⟩ L k h L.length hk (Nat.le_refl _)))
      have hab0 : a.block < w.heap.size := by obtain ⟨a', ha', hb', -⟩ := h3.at_ hlt; rw [hpa] at ha'; injection ha' with ha'; subst ha'; exact hb'
      subst hpa
      obtain ⟨⟨x, y, ⟨pg, lg, cg⟩⟩, es⟩ : ∃ s, L[k] = s := ⟨_, rfl⟩
      rw [es] at s0 s1 s2 hIk hcapk hlen HS
      simp only [Num.val] at s0 s1 s2 hIk hcapk hlen
      obtain ⟨⟨ck, fk, lk, xk⟩, EK⟩ : ∃ s, (anK ⟨c5, f5, l5, x5⟩ L k) = s := ⟨_, rfl⟩
      rw [EK] at F SS HS hlen HST ⊢
      simp only at F SS hlen ⊢
      have HEK := Lib.hid EK
      clear EK es
      obtain ⟨cF0, cF1, cF2⟩ := F.cell3
      obtain ⟨cN0, cN1, cN2, cN3⟩ := N.cell4
      by_cases hx : xk = 0
      · subst hx
        have CW := fun (w : World) (hI : IntsAt w q lk) (hJ : IntsAt w pg lg) => spec_WeakenFluxS ck fk q lk dq 0 x y pg lg cg w hI hJ hlen hcapk
        obtain ⟨⟨cn, fn, ln, xn⟩, EN⟩ : ∃ s, weF ⟨ck, fk, lk, 0⟩ ⟨x, y, ⟨pg, lg, cg⟩⟩ = s := ⟨_, rfl⟩
        rw [EN] at CW
        have HN : Hid (anK ⟨c5, f5, l5, x5⟩ L (k + 1) = ⟨cn, fn, ln, xn⟩) := Lib.hid (by rw [HS.out]; unfold weS; rw [if_pos rfl]; exact EN)
        clear EN HST HEK
        have fl := F.lt
        go_wp2_with fail
        have Sd := SS.below (Below.refl _ _).drew
        have Id := hIk.below (Below.refl _ _).drew
        have Wd := W.drew
        have Fd : Blk wr.drew ga 26 #[.int .i64 ck, .int .i64 fk, .slice q lk.length dq] := F
        have Nd : Blk wr.drew (w.heap.size + 1) 53 #[.int .i64 d, .slice pj j.length cj, .slice pd e.length cd, .slice (some a) L.length cs] := N
        have Rd : Blk wr.drew (w.heap.size + 2) 26 #[.int .i64 0, .int .i64 0, .slice none 0 0] := R
        have hab1 : (a.add (k * 3)).block < w.heap.size := by rw [Go.ChangeShapes.block_add]; exact hab0
        have hab2 : (a.add (k * 3)).block < wr.heap.size := by omega
        have Nl := N.lt
        go_region_with (first | (go_at_call 22; refine (CW _ Sd.ints Id).mono ?_; rintro e' y ⟨qy, dy, rfl, Sy, hby⟩; have zy := hby.size; have Fy := Fd.keep hby; have Ny := Nd.keep hby; have Ry := Rd.keep hby; have Wy := below_st Wd hby (Nat.le_refl _); obtain ⟨r0, r1, r2⟩ := Fy.cell3; have rf := Fy.frozen; have rlt := Fy.lt))
        all_goals
          go_wp2_with fail
          replace Sy : OwnS y (ga + 1) qy ln := Sy.mono (by show ga + 1 ≤ wr.heap.size; omega)
          exact ⟨⟨k + 1, qy, dy, by omega, by go_num, by rw [HN.out], by rw [HN.out]; exact Fy.set3 _ _ _, ((Ny.off (g' := ga) (by omega) 0 _).off (g' := ga) (by omega) 1 _).off (g' := ga) (by omega) 2 _, ((Ry.off (g' := ga) (by omega) 0 _).off (g' := ga) (by omega) 1 _).off (g' := ga) (by omega) 2 _, by rw [HN.out]; exact ((((Sy.offS (g' := ga) (by omega) 0 _).offS (g' := ga) (by omega) 1 _).offS (g' := ga) (by omega) 2 _).mono (by omega)), (((Wy.setCell (p := ⟨ga, 0, none⟩) (by show w.heap.size ≤ ga; omega) _).setCell (p := ⟨ga, 1, none⟩) (by show w.heap.size ≤ ga; omega) _).setCell (p := ⟨ga, 2, none⟩) (by show w.heap.size ≤ ga; omega) _)⟩, by simp [intOf]; omega⟩
      · have hx1 : (xk == 0) = false := by simp [hx]
        have hx2 : decide (xk = 0) = false := by simp [hx]
        have HVk : anK ⟨c5, f5, l5, x5⟩ L L.length = ⟨ck, fk, lk, xk⟩ := HST.out hx
        obtain ⟨r0, r1, r2⟩ := R.cell3
        have rf := R.frozen
        obtain ⟨y0, y1, y2⟩ := (R.set3 (.int .i64 ck) (.int .i64 fk) (.slice q lk.length dq)).cell3
        have HVV := Lib.hid HVk
        clear HVk HST HEK HS
        go_wp2_with fail
        refine bodyPost_ret (v := .tuple #[.agg #[.int .i64 ck, .int .i64 fk, .slice q lk.length dq], .int .i64 xk]) (by simp [results, Try.results35, go_sem, y0, y1, y2]) rfl ?_
        rw [HV2.out, HVV.out]
        exact ⟨q, dq, rfl, (((SS.offS (g' := w.heap.size + 2) (by omega) 0 _).offS (g' := w.heap.size + 2) (by omega) 1 _).offS (g' := w.heap.size + 2) (by omega) 2 _).mono (by omega), (((W.setCell (p := ⟨w.heap.size + 2, 0, none⟩) (by show w.heap.size ≤ w.heap.size + 2; omega) _).setCell (p := ⟨w.heap.size + 2, 1, none⟩) (by show w.heap.size ≤ w.heap.size + 2; omega) _).setCell (p := ⟨w.heap.size + 2, 2, none⟩) (by show w.heap.size ≤ w.heap.size + 2; omega) _)⟩
    · have ek : k = L.length := by omega
      have HVk : anK ⟨c5, f5, l5, x5⟩ L L.length = (anK ⟨c5, f5, l5, x5⟩ L k) := by rw [ek]
      obtain ⟨⟨ck, fk, lk, xk⟩, EK⟩ : ∃ s, (anK ⟨c5, f5, l5, x5⟩ L k) = s := ⟨_, rfl⟩
      rw [EK] at F SS HVk ⊢
      simp only at F SS ⊢
      clear EK
      obtain ⟨b0, b1, b2⟩ := F.cell3
      obtain ⟨n0, n1, n2, n3⟩ := N.cell4
      obtain ⟨r0, r1, r2⟩ := R.cell3
      have rf := R.frozen
      obtain ⟨y0, y1, y2⟩ := (R.set3 (.int .i64 ck) (.int .i64 fk) (.slice q lk.length dq)).cell3
      have HVV := Lib.hid HVk
      clear HVk
      go_wp2_with fail
      refine bodyPost_ret (v := .tuple #[.agg #[.int .i64 ck, .int .i64 fk, .slice q lk.length dq], .int .i64 xk]) (by simp [results, Try.results35, go_sem, y0, y1, y2]) rfl ?_
      rw [HV2.out, HVV.out]
      exact ⟨q, dq, rfl, (((SS.offS (g' := w.heap.size + 2) (by omega) 0 _).offS (g' := w.heap.size + 2) (by omega) 1 _).offS (g' := w.heap.size + 2) (by omega) 2 _).mono (by omega), (((W.setCell (p := ⟨w.heap.size + 2, 0, none⟩) (by show w.heap.size ≤ w.heap.size + 2; omega) _).setCell (p := ⟨w.heap.size + 2, 1, none⟩) (by show w.heap.size ≤ w.heap.size + 2; omega) _).setCell (p := ⟨w.heap.size + 2, 2, none⟩) (by show w.heap.size ≤ w.heap.size + 2; omega) _)⟩
end Go.Proofs.Ytfdcainjppljhaa
