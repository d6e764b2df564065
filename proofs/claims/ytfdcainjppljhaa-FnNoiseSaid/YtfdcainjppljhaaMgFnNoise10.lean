/- AddNoise: contracts. Printed by addgen.py. Small lemmas for the laws' walks. The law's walk: FnNoise. Facts on the translation as a whole that every law's row asks, each proved once: the head's words, the tables. No function is walked here. -/
import Derived.Test.YtfdcainjppljhaaMgFnNoise1
import Derived.Test.YtfdcainjppljhaaMgFnNoise7
import Derived.Test.YtfdcainjppljhaaMgFnNoise9
import Derived.Deep.Cut
import Derived.Deep.CutRange
import Derived.Deep.DeepCutAuto
import Derived.Deep.RegionWith
import Derived.Deep.RegionHeld3
import Derived.BigQuiet
import Derived.Deep.QuietTactic
import Derived.Test.YtfdcainjppljhaaRows
import Derived.JoinedOf
import Derived.KernelRfl
import Derived.ProofKit
namespace Go.Proofs.Ytfdcainjppljhaa
open Go.RowKit
set_option linter.unusedVariables false
set_option maxHeartbeats 4000000 in
set_option maxRecDepth 20000 in
theorem impl_AddNoise (c f : Int) (p : Option Addr) (l : List Int) (cap : Nat) (d : Int) (pj pd ps : Option Addr) (j e : List Int) (L : List Flx) (cj cd cs : Nat) (w : World) (hI : IntsAt w p l) (h1 : IntsAt w pj j) (h2 : IntsAt w pd e) (h3 : SpansAt w ps L) (hsum : l.length + lensL L ≤ 1048576) (hj : j.length ≤ 1048576) (he : e.length ≤ 1048576) (hl : L.length ≤ 1048576) (hn : ∀ s ∈ L, s.g.p = none → s.g.cap = 0) :
    Calls Try.prog 27 #[.agg #[.int .i64 c, .int .i64 f, .slice p l.length cap], .agg #[.int .i64 d, .slice pj j.length cj, .slice pd e.length cd, .slice ps L.length cs]] w fun e' w' => ∃ (q : Option Addr) (dq : Nat), e' = .returned (.tuple #[.agg #[.int .i64 (anS c f l d j e L).c, .int .i64 (anS c f l d j e L).f, .slice q (anS c f l d j e L).l.length dq], .int .i64 (anS c f l d j e L).e]) ∧ OwnS w' w.heap.size q (anS c f l d j e L).l ∧ Below w.heap.size w w' := by
  have F0 := ((Blk.new w 26 #[.int .i64 c, .int .i64 f, .slice p l.length cap]).alloc' (.cells #[.int .i64 d, .slice pj j.length cj, .slice pd e.length cd, .slice ps L.length cs] 53)).alloc' (.cells #[.int .i64 0, .int .i64 0, .slice none 0 0] 26)
  have N0 := (Blk.new (w.alloc (.cells #[.int .i64 c, .int .i64 f, .slice p l.length cap] 26)) 53 #[.int .i64 d, .slice pj j.length cj, .slice pd e.length cd, .slice ps L.length cs]).alloc' (.cells #[.int .i64 0, .int .i64 0, .slice none 0 0] 26)
  have R0 := Blk.new ((w.alloc (.cells #[.int .i64 c, .int .i64 f, .slice p l.length cap] 26)).alloc (.cells #[.int .i64 d, .slice pj j.length cj, .slice pd e.length cd, .slice ps L.length cs] 53)) 26 #[.int .i64 0, .int .i64 0, .slice none 0 0]
  have e1 : (w.alloc (.cells #[.int .i64 c, .int .i64 f, .slice p l.length cap] 26)).heap.size = w.heap.size + 1 := by simp
  have e2 : ((w.alloc (.cells #[.int .i64 c, .int .i64 f, .slice p l.length cap] 26)).alloc (.cells #[.int .i64 d, .slice pj j.length cj, .slice pd e.length cd, .slice ps L.length cs] 53)).heap.size = w.heap.size + 2 := by simp
  rw [e1] at N0
  rw [e2] at R0
  have W0 : Below w.heap.size w (((w.alloc (.cells #[.int .i64 c, .int .i64 f, .slice p l.length cap] 26)).alloc (.cells #[.int .i64 d, .slice pj j.length cj, .slice pd e.length cd, .slice ps L.length cs] 53)).alloc (.cells #[.int .i64 0, .int .i64 0, .slice none 0 0] 26)) := (((Below.refl _ _).alloc (Nat.le_refl _) _).alloc (by simp) _).alloc (by simp; omega) _
  have z0 : w.heap.size + 3 ≤ (((w.alloc (.cells #[.int .i64 c, .int .i64 f, .slice p l.length cap] 26)).alloc (.cells #[.int .i64 d, .slice pj j.length cj, .slice pd e.length cd, .slice ps L.length cs] 53)).alloc (.cells #[.int .i64 0, .int .i64 0, .slice none 0 0] 26)).heap.size := by simp
  clear e1 e2
  have hg : ∀ s ∈ L, s.g.l.length ≤ 1048576 := fun s hs => by have := lensL_mem hs; omega
  have hll : l.length ≤ 1048576 := by omega
  obtain k1 | k1 := (Bool.eq_false_or_eq_true (fluxOk c f l)).symm
  · have HV : Hid ((anS c f l d j e L) = ⟨0, 0, [], 1⟩) := Lib.hid (by unfold anS anOk; rw [k1]; rfl)
    have H1 := Lib.hid k1
    clear k1
    go_enter Try.func27, Try.ntmps27
    go_wp2_with fail
    generalize (((w.alloc (.cells #[.int .i64 c, .int .i64 f, .slice p l.length cap] 26)).alloc (.cells #[.int .i64 d, .slice pj j.length cj, .slice pd e.length cd, .slice ps L.length cs] 53)).alloc (.cells #[.int .i64 0, .int .i64 0, .slice none 0 0] 26)) = w0 at F0 N0 R0 W0 z0 ⊢
    obtain ⟨cF0, cF1, cF2⟩ := F0.cell3
    obtain ⟨cN0, cN1, cN2, cN3⟩ := N0.cell4
    refine (impl_ValidFlux c f p l cap _ (hI.below W0) hll).mono ?_
    rintro e' w1 ⟨rfl, hb1⟩
    rw [H1.out]
    have z1 := hb1.size
    have F1 := F0.keep hb1
    have N1 := N0.keep hb1
    have R1 := R0.keep hb1
    have W1 := below_st W0 hb1 (Nat.le_refl _)
    clear cF0 cF1 cF2 cN0 cN1 cN2 cN3
    obtain ⟨r0, r1, r2⟩ := R1.cell3
    have rf := R1.frozen
    have rlt := R1.lt
    obtain ⟨x0, x1, x2⟩ := (R1.set3 (.int .i64 0) (.int .i64 0) (.slice none 0 0)).cell3
    go_wp2_with fail
    refine bodyPost_ret (v := .tuple #[.agg #[.int .i64 0, .int .i64 0, .slice none 0 0], .int .i64 1]) (by simp [results, Try.results27, go_sem, x0, x1, x2]) rfl ?_
    rw [HV.out]
    exact ⟨none, 0, rfl, OwnS.nil_ _ _ _, ((W1.setCell (p := ⟨w.heap.size + 2, 0, none⟩) (by show w.heap.size ≤ w.heap.size + 2; omega) _).setCell (p := ⟨w.heap.size + 2, 1, none⟩) (by show w.heap.size ≤ w.heap.size + 2; omega) _).setCell (p := ⟨w.heap.size + 2, 2, none⟩) (by show w.heap.size ≤ w.heap.size + 2; omega) _⟩
  have H1 := Lib.hid k1
  obtain k2 | k2 := (Bool.eq_false_or_eq_true (nzB d j e L)).symm
  · have HV : Hid ((anS c f l d j e L) = ⟨0, 0, [], 1⟩) := Lib.hid (by unfold anS anOk; rw [k1, k2]; rfl)
    have H2 := Lib.hid k2
    clear k1 k2
    go_enter Try.func27, Try.ntmps27
    go_wp2_with fail
    generalize (((w.alloc (.cells #[.int .i64 c, .int .i64 f, .slice p l.length cap] 26)).alloc (.cells #[.int .i64 d, .slice pj j.length cj, .slice pd e.length cd, .slice ps L.length cs] 53)).alloc (.cells #[.int .i64 0, .int .i64 0, .slice none 0 0] 26)) = w0 at F0 N0 R0 W0 z0 ⊢
    obtain ⟨cF0, cF1, cF2⟩ := F0.cell3
    obtain ⟨cN0, cN1, cN2, cN3⟩ := N0.cell4
    refine (impl_ValidFlux c f p l cap _ (hI.below W0) hll).mono ?_
    rintro e' w1 ⟨rfl, hb1⟩
    rw [H1.out]
    have z1 := hb1.size
    have F1 := F0.keep hb1
    have N1 := N0.keep hb1
    have R1 := R0.keep hb1
    have W1 := below_st W0 hb1 (Nat.le_refl _)
    clear cF0 cF1 cF2 cN0 cN1 cN2 cN3
    obtain ⟨cF0, cF1, cF2⟩ := F1.cell3
    obtain ⟨cN0, cN1, cN2, cN3⟩ := N1.cell4
    go_wp2_with fail
    refine (impl_ValidNoise d pj pd ps j e L cj cd cs _ (h1.below W1) (h2.below W1) (h3.below W1) hj he hl hg).mono ?_
    rintro e' w2 ⟨rfl, hb2⟩
    rw [H2.out]
    have z2 := hb2.size
    have F2 := F1.keep hb2
    have N2 := N1.keep hb2
    have R2 := R1.keep hb2
    have W2 := below_st W1 hb2 (Nat.le_refl _)
    clear cF0 cF1 cF2 cN0 cN1 cN2 cN3
    obtain ⟨r0, r1, r2⟩ := R2.cell3
    have rf := R2.frozen
    have rlt := R2.lt
    obtain ⟨x0, x1, x2⟩ := (R2.set3 (.int .i64 0) (.int .i64 0) (.slice none 0 0)).cell3
    go_wp2_with fail
    refine bodyPost_ret (v := .tuple #[.agg #[.int .i64 0, .int .i64 0, .slice none 0 0], .int .i64 1]) (by simp [results, Try.results27, go_sem, x0, x1, x2]) rfl ?_
    rw [HV.out]
    exact ⟨none, 0, rfl, OwnS.nil_ _ _ _, ((W2.setCell (p := ⟨w.heap.size + 2, 0, none⟩) (by show w.heap.size ≤ w.heap.size + 2; omega) _).setCell (p := ⟨w.heap.size + 2, 1, none⟩) (by show w.heap.size ≤ w.heap.size + 2; omega) _).setCell (p := ⟨w.heap.size + 2, 2, none⟩) (by show w.heap.size ≤ w.heap.size + 2; omega) _⟩
  have H2 := Lib.hid k2
  have HV : Hid ((anS c f l d j e L) = anK (anB c f l d j e) L L.length) := Lib.hid (by unfold anS anOk; rw [k1, k2]; rfl)
  clear k1 k2
  go_enter Try.func27, Try.ntmps27
  go_wp2_with fail
  generalize (((w.alloc (.cells #[.int .i64 c, .int .i64 f, .slice p l.length cap] 26)).alloc (.cells #[.int .i64 d, .slice pj j.length cj, .slice pd e.length cd, .slice ps L.length cs] 53)).alloc (.cells #[.int .i64 0, .int .i64 0, .slice none 0 0] 26)) = w0 at F0 N0 R0 W0 z0 ⊢
  obtain ⟨cF0, cF1, cF2⟩ := F0.cell3
  obtain ⟨cN0, cN1, cN2, cN3⟩ := N0.cell4
  refine (impl_ValidFlux c f p l cap _ (hI.below W0) hll).mono ?_
  rintro e' w1 ⟨rfl, hb1⟩
  rw [H1.out]
  have z1 := hb1.size
  have F1 := F0.keep hb1
  have N1 := N0.keep hb1
  have R1 := R0.keep hb1
  have W1 := below_st W0 hb1 (Nat.le_refl _)
  clear cF0 cF1 cF2 cN0 cN1 cN2 cN3
  obtain ⟨cF0, cF1, cF2⟩ := F1.cell3
  obtain ⟨cN0, cN1, cN2, cN3⟩ := N1.cell4
  go_wp2_with fail
  refine (impl_ValidNoise d pj pd ps j e L cj cd cs _ (h1.below W1) (h2.below W1) (h3.below W1) hj he hl hg).mono ?_
  rintro e' w2 ⟨rfl, hb2⟩
  rw [H2.out]
  have z2 := hb2.size
  have F2 := F1.keep hb2
  have N2 := N1.keep hb2
  have R2 := R1.keep hb2
  have W2 := below_st W1 hb2 (Nat.le_refl _)
  clear cF0 cF1 cF2 cN0 cN1 cN2 cN3
  obtain ⟨⟨c3, f3, l3, x3⟩, E3⟩ : ∃ s, drS c f l d = s := ⟨_, rfl⟩
  have hl3 : l3.length ≤ l.length := by have := drS_len c f l d; rw [E3] at this; exact this
  have CD := fun (w : World) (hI : IntsAt w p l) => impl_AddDriftS c f p l cap d w hI hll
  rw [E3] at CD
  have HV3 : Hid (anB c f l d j e = dpS (jiS ⟨c3, f3, l3, x3⟩ j) e) := Lib.hid (by unfold anB; rw [E3])
  clear E3
  obtain ⟨cF0, cF1, cF2⟩ := F2.cell3
  obtain ⟨cN0, cN1, cN2, cN3⟩ := N2.cell4
  have ff2 := F2.frozen
  have fl2 := F2.lt
  go_wp2_with fail
  refine (CD _ (hI.below W2)).mono ?_
  rintro e' w3 ⟨q3, d3, rfl, S3, hb3⟩
  have z3 := hb3.size
  have F3 := F2.keep hb3
  have N3 := N2.keep hb3
  have R3 := R2.keep hb3
  have W3 := below_st W2 hb3 (Nat.le_refl _)
  replace S3 : OwnS w3 (w.heap.size + 3) q3 l3 := S3.mono (by omega)
  clear cF0 cF1 cF2 cN0 cN1 cN2 cN3
  obtain ⟨r0, r1, r2⟩ := F3.cell3
  have rf := F3.frozen
  have rlt := F3.lt
  go_upto_if 26 with fail
  have HF3 := F3.set3 (.int .i64 c3) (.int .i64 f3) (.slice q3 l3.length d3)
  replace N3 := ((N3.off (g' := w.heap.size) (by omega) 0 (.int .i64 c3)).off (g' := w.heap.size) (by omega) 1 (.int .i64 f3)).off (g' := w.heap.size) (by omega) 2 (.slice q3 l3.length d3)
  replace R3 := ((R3.off (g' := w.heap.size) (by omega) 0 (.int .i64 c3)).off (g' := w.heap.size) (by omega) 1 (.int .i64 f3)).off (g' := w.heap.size) (by omega) 2 (.slice q3 l3.length d3)
  replace S3 := ((S3.offS (g' := w.heap.size) (by omega) 0 (.int .i64 c3)).offS (g' := w.heap.size) (by omega) 1 (.int .i64 f3)).offS (g' := w.heap.size) (by omega) 2 (.slice q3 l3.length d3)
  replace W3 := ((W3.setCell (p := ⟨w.heap.size, 0, none⟩) (Nat.le_refl _) (.int .i64 c3)).setCell (p := ⟨w.heap.size, 1, none⟩) (Nat.le_refl _) (.int .i64 f3)).setCell (p := ⟨w.heap.size, 2, none⟩) (Nat.le_refl _) (.slice q3 l3.length d3)
  generalize ((w3.setCell ⟨w.heap.size, 0, none⟩ (.int .i64 c3)).setCell ⟨w.heap.size, 1, none⟩ (.int .i64 f3)).setCell ⟨w.heap.size, 2, none⟩ (.slice q3 l3.length d3) = w4 at HF3 N3 R3 S3 W3 ⊢
  clear F3 r0 r1 r2 rf rlt
  have F3 := HF3
  clear HF3 z0 z1 z2 z3 F0 N0 R0 F1 N1 R1 F2 N2 R2 W0 W1 W2 hb1 hb2 hb3 ff2 fl2 CD
  obtain ⟨⟨c4, f4, l4, x4⟩, E4⟩ : ∃ s, jiS ⟨c3, f3, l3, x3⟩ j = s := ⟨_, rfl⟩
  have hl4 : l4.length ≤ l.length := by have := jiS_len ⟨c3, f3, l3, x3⟩ j; rw [E4] at this; exact Nat.le_trans this hl3
  have HE4 := Lib.hid E4
  clear E4
  go_cut [6] (fun v6 wx => ∃ q dq, v6 = .int .i64 x4 ∧ Blk wx w.heap.size 26 #[.int .i64 c4, .int .i64 f4, .slice q l4.length dq] ∧ Blk wx (w.heap.size + 1) 53 #[.int .i64 d, .slice pj j.length cj, .slice pd e.length cd, .slice ps L.length cs] ∧ Blk wx (w.heap.size + 2) 26 #[.int .i64 0, .int .i64 0, .slice none 0 0] ∧ OwnS wx (w.heap.size + 3) q l4 ∧ Below w.heap.size w wx)
  case first =>
    by_cases hx : x3 = 0
    · subst hx
      have CJ := fun (w : World) (hI : IntsAt w q3 l3) (hJ : IntsAt w pj j) => impl_AddJitterS c3 f3 q3 l3 d3 0 pj j cj w hI (by omega) hJ hj
      have E : jiT ⟨c3, f3, l3, 0⟩ j = ⟨c4, f4, l4, x4⟩ := by have := HE4.out; unfold jiS at this; rw [if_pos rfl] at this; exact this
      rw [E] at CJ
      clear E
      obtain ⟨cF0, cF1, cF2⟩ := F3.cell3
      obtain ⟨cN0, cN1, cN2, cN3⟩ := N3.cell4
      have ff := F3.frozen
      have fl := F3.lt
      go_wp2_with fail
      refine (CJ _ S3.ints (h1.below W3)).mono ?_
      rintro e' y ⟨qy, dy, rfl, Sy, hby⟩
      have zy := hby.size
      have zw := W3.size
      have zr := R3.lt
      have Fy := F3.keep hby
      have Ny := N3.keep hby
      have Ry := R3.keep hby
      have Wy := below_st W3 hby (Nat.le_refl _)
      replace Sy : OwnS y (w.heap.size + 3) qy l4 := Sy.mono (by omega)
      clear cF0 cF1 cF2 cN0 cN1 cN2 cN3
      clear ff fl
      obtain ⟨r0, r1, r2⟩ := Fy.cell3
      have rf := Fy.frozen
      have rlt := Fy.lt
      go_wp2_with fail
      go_meet
      exact ⟨qy, dy, rfl, Fy.set3 _ _ _, ((Ny.off (g' := w.heap.size) (by omega) 0 _).off (g' := w.heap.size) (by omega) 1 _).off (g' := w.heap.size) (by omega) 2 _, ((Ry.off (g' := w.heap.size) (by omega) 0 _).off (g' := w.heap.size) (by omega) 1 _).off (g' := w.heap.size) (by omega) 2 _, (((Sy.offS (g' := w.heap.size) (by omega) 0 _).offS (g' := w.heap.size) (by omega) 1 _).offS (g' := w.heap.size) (by omega) 2 _), (((Wy.setCell (p := ⟨w.heap.size, 0, none⟩) (Nat.le_refl _) _).setCell (p := ⟨w.heap.size, 1, none⟩) (Nat.le_refl _) _).setCell (p := ⟨w.heap.size, 2, none⟩) (Nat.le_refl _) _)⟩
    · have E : (⟨c3, f3, l3, x3⟩ : FxS) = ⟨c4, f4, l4, x4⟩ := by have := HE4.out; unfold jiS at this; rw [if_neg hx] at this; exact this
      injection E with E1 E2 E3 E4
      subst E1 E2 E3 E4
      have hx1 : (x3 == 0) = false := by simp [hx]
      have hx2 : decide (x3 = 0) = false := by simp [hx]
      go_wp2_with fail
      go_meet
      exact ⟨q3, d3, rfl, F3, N3, R3, S3, W3⟩
  case rest =>
  obtain ⟨q4, d4, rfl, F4, N4, R4, S4, W4⟩ := hcut
  obtain ⟨w5, hwc⟩ : ∃ w5, w5 = wc := ⟨_, rfl⟩
  subst hwc
  clear F3 N3 R3 S3 W3
  go_upto_if 35 with fail
  obtain ⟨⟨c5, f5, l5, x5⟩, E5⟩ : ∃ s, dpS ⟨c4, f4, l4, x4⟩ e = s := ⟨_, rfl⟩
  have hl5 : l5.length ≤ l.length := by have := dpS_len ⟨c4, f4, l4, x4⟩ e; rw [E5] at this; exact Nat.le_trans this hl4
  have HE5 := Lib.hid E5
  clear E5
  go_cut [6] (fun v6 wx => ∃ q dq, v6 = .int .i64 x5 ∧ Blk wx w.heap.size 26 #[.int .i64 c5, .int .i64 f5, .slice q l5.length dq] ∧ Blk wx (w.heap.size + 1) 53 #[.int .i64 d, .slice pj j.length cj, .slice pd e.length cd, .slice ps L.length cs] ∧ Blk wx (w.heap.size + 2) 26 #[.int .i64 0, .int .i64 0, .slice none 0 0] ∧ OwnS wx (w.heap.size + 3) q l5 ∧ Below w.heap.size w wx)
  case first =>
    by_cases hx : x4 = 0
    · subst hx
      have CJ := fun (w : World) (hI : IntsAt w q4 l4) (hJ : IntsAt w pd e) => impl_DropChangesS c4 f4 q4 l4 d4 0 pd e cd w hI (by omega) hJ he
      have E : dpT ⟨c4, f4, l4, 0⟩ e = ⟨c5, f5, l5, x5⟩ := by have := HE5.out; unfold dpS at this; rw [if_pos rfl] at this; exact this
      rw [E] at CJ
      clear E
      obtain ⟨cF0, cF1, cF2⟩ := F4.cell3
      obtain ⟨cN0, cN1, cN2, cN3⟩ := N4.cell4
      have ff := F4.frozen
      have fl := F4.lt
      go_wp2_with fail
      refine (CJ _ S4.ints (h2.below W4)).mono ?_
      rintro e' y ⟨qy, dy, rfl, Sy, hby⟩
      have zy := hby.size
      have zw := W4.size
      have zr := R4.lt
      have Fy := F4.keep hby
      have Ny := N4.keep hby
      have Ry := R4.keep hby
      have Wy := below_st W4 hby (Nat.le_refl _)
      replace Sy : OwnS y (w.heap.size + 3) qy l5 := Sy.mono (by omega)
      clear cF0 cF1 cF2 cN0 cN1 cN2 cN3
      clear ff fl
      obtain ⟨r0, r1, r2⟩ := Fy.cell3
      have rf := Fy.frozen
      have rlt := Fy.lt
      go_wp2_with fail
      go_meet
      exact ⟨qy, dy, rfl, Fy.set3 _ _ _, ((Ny.off (g' := w.heap.size) (by omega) 0 _).off (g' := w.heap.size) (by omega) 1 _).off (g' := w.heap.size) (by omega) 2 _, ((Ry.off (g' := w.heap.size) (by omega) 0 _).off (g' := w.heap.size) (by omega) 1 _).off (g' := w.heap.size) (by omega) 2 _, (((Sy.offS (g' := w.heap.size) (by omega) 0 _).offS (g' := w.heap.size) (by omega) 1 _).offS (g' := w.heap.size) (by omega) 2 _), (((Wy.setCell (p := ⟨w.heap.size, 0, none⟩) (Nat.le_refl _) _).setCell (p := ⟨w.heap.size, 1, none⟩) (Nat.le_refl _) _).setCell (p := ⟨w.heap.size, 2, none⟩) (Nat.le_refl _) _)⟩
    · have E : (⟨c4, f4, l4, x4⟩ : FxS) = ⟨c5, f5, l5, x5⟩ := by have := HE5.out; unfold dpS at this; rw [if_neg hx] at this; exact this
      injection E with E1 E2 E3 E4
      subst E1 E2 E3 E4
      have hx1 : (x4 == 0) = false := by simp [hx]
      have hx2 : decide (x4 = 0) = false := by simp [hx]
      go_wp2_with fail
      go_meet
      exact ⟨q4, d4, rfl, F4, N4, R4, S4, W4⟩
  case rest =>
  obtain ⟨q5, d5, rfl, F5, N5, R5, S5, W5⟩ := hcut
  obtain ⟨w6, hwc⟩ : ∃ w6, w6 = wc := ⟨_, rfl⟩
  subst hwc
  clear F4 N4 R4 S4 W4
  have HB : Hid (anB c f l d j e = ⟨c5, f5, l5, x5⟩) := Lib.hid (by rw [HV3.out, HE4.out, HE5.out])
  have HV2 : Hid ((anS c f l d j e L) = anK ⟨c5, f5, l5, x5⟩ L L.length) := Lib.hid (by rw [HV.out, HB.out])
  clear HV HB HV3 HE4 HE5
  obtain ⟨cF0, cF1, cF2⟩ := F5.cell3
  obtain ⟨cN0, cN1, cN2, cN3⟩ := N5.cell4
  go_wp2_with fail
  go_loopw [6, 46] (fun v6 i wr => ∃ (k : Nat) (q : Option Addr) (dq : Nat), k ≤ L.length ∧ i = .int .i64 k ∧ v6 = .int .i64 (anK ⟨c5, f5, l5, x5⟩ L k).e ∧ Blk wr w.heap.size 26 #[.int .i64 (anK ⟨c5, f5, l5, x5⟩ L k).c, .int .i64 (anK ⟨c5, f5, l5, x5⟩ L k).f, .slice q (anK ⟨c5, f5, l5, x5⟩ L k).l.length dq] ∧ Blk wr (w.heap.size + 1) 53 #[.int .i64 d, .slice pj j.length cj, .slice pd e.length cd, .slice ps L.length cs] ∧ Blk wr (w.heap.size + 2) 26 #[.int .i64 0, .int .i64 0, .slice none 0 0] ∧ OwnS wr (w.heap.size + 3) q (anK ⟨c5, f5, l5, x5⟩ L k).l ∧ Below w.heap.size w wr) (fun _ i _ => L.length - (intOf i).toNat)
  case atStart => exact ⟨0, q5, d5, Nat.zero_le _, rfl, rfl, F5, N5, R5, S5, W5⟩
  case round =>
    clear cF0 cF1 cF2 cN0 cN1 cN2 cN3
    clear F5 N5 R5 S5 W5
    obtain ⟨k, q, dq, hk, rfl, rfl, F, N, R, SS, W⟩ := hrel
    have hzw := W.size
    have hzr := R.lt
    by_cases hlt : k < L.length
    · obtain ⟨a, hpa, hab, s0, s1, s2, hIk⟩ := (h3.below W).at_ hlt
      have hcapk := hn _ (List.getElem_mem hlt)
      have hlen : (anK ⟨c5, f5, l5, x5⟩ L k).l.length + L[k].g.l.length ≤ 1048576 := by
        have h1 := anK_len ⟨c5, f5, l5, x5⟩ L k hk
        have h2 := lensL_take L hlt
        have h3 := lensL_le L (k + 1)
        have h4 : (FxS.mk c5 f5 l5 x5).l.length = l5.length := rfl
        omega
      have HS : Hid (anK ⟨c5, f5, l5, x5⟩ L (k + 1) = weS (anK ⟨c5, f5, l5, x5⟩ L k) L[k]) := Lib.hid (anK_succ _ L hlt)
      subst hpa
      obtain ⟨⟨x, y, ⟨pg, lg, cg⟩⟩, es⟩ : ∃ s, L[k] = s := ⟨_, rfl⟩
      rw [es] at s0 s1 s2 hIk hcapk hlen HS
      simp only [Num.val] at s0 s1 s2 hIk hcapk hlen
      obtain ⟨⟨ck, fk, lk, xk⟩, EK⟩ : ∃ s, (anK ⟨c5, f5, l5, x5⟩ L k) = s := ⟨_, rfl⟩
      rw [EK] at F SS HS hlen ⊢
      simp only at F SS hlen ⊢
      clear EK es
      obtain ⟨cF0, cF1, cF2⟩ := F.cell3
      obtain ⟨cN0, cN1, cN2, cN3⟩ := N.cell4
      have V5 := Blk.new wr 36 #[.int .i64 x, .int .i64 y, .slice pg lg.length cg]
      have F5 := F.alloc' (.cells #[.int .i64 x, .int .i64 y, .slice pg lg.length cg] 36)
      have N5 := N.alloc' (.cells #[.int .i64 x, .int .i64 y, .slice pg lg.length cg] 36)
      have R5 := R.alloc' (.cells #[.int .i64 x, .int .i64 y, .slice pg lg.length cg] 36)
      have S5 := SS.below ((Below.refl _ wr).alloc (Nat.le_refl _) (.cells #[.int .i64 x, .int .i64 y, .slice pg lg.length cg] 36))
      have W5 := W.alloc W.size (.cells #[.int .i64 x, .int .i64 y, .slice pg lg.length cg] 36)
      have I5 := hIk.alloc (.cells #[.int .i64 x, .int .i64 y, .slice pg lg.length cg] 36)
      go_upto_if 51 with fail
      obtain ⟨bw, ebw⟩ : ∃ bw, wr.heap.size = bw := ⟨_, rfl⟩
      generalize wr.alloc (.cells #[.int .i64 x, .int .i64 y, .slice pg lg.length cg] 36) = w5 at V5 F5 N5 R5 S5 W5 I5 ⊢
      have hbw : w.heap.size + 2 < bw := by omega
      rw [ebw] at V5 ⊢
      clear s0 s1 s2 hIk hab ebw F N R SS W hzw hzr
      clear cF0 cF1 cF2 cN0 cN1 cN2 cN3
      have hzw := W5.size
      by_cases hx : xk = 0
      · subst hx
        have CW := fun (w : World) (hI : IntsAt w q lk) (hJ : IntsAt w pg lg) => impl_WeakenFluxS ck fk q lk dq 0 x y pg lg cg w hI hJ hlen hcapk
        obtain ⟨⟨cn, fn, ln, xn⟩, EN⟩ : ∃ s, weF ⟨ck, fk, lk, 0⟩ ⟨x, y, ⟨pg, lg, cg⟩⟩ = s := ⟨_, rfl⟩
        rw [EN] at CW
        have HN : Hid (anK ⟨c5, f5, l5, x5⟩ L (k + 1) = ⟨cn, fn, ln, xn⟩) := Lib.hid (by rw [HS.out]; unfold weS; rw [if_pos rfl]; exact EN)
        clear EN
        obtain ⟨cF0, cF1, cF2⟩ := F5.cell3
        obtain ⟨cN0, cN1, cN2, cN3⟩ := N5.cell4
        obtain ⟨v0, v1, v2⟩ := V5.cell3
        have vl := V5.lt
        have fl := F5.lt
        go_wp2_with fail
        refine (CW _ S5.ints I5).mono ?_
        rintro e' y ⟨qy, dy, rfl, Sy, hby⟩
        have zy := hby.size
        have Fy := F5.keep hby
        have Ny := N5.keep hby
        have Ry := R5.keep hby
        have zr := R5.lt
        have Wy := below_st W5 hby (Nat.le_refl _)
        replace Sy : OwnS y (w.heap.size + 3) qy ln := Sy.mono (by omega)
        clear cF0 cF1 cF2 cN0 cN1 cN2 cN3
        clear v0 v1 v2 vl fl
        obtain ⟨r0, r1, r2⟩ := Fy.cell3
        have rf := Fy.frozen
        have rlt := Fy.lt
        go_wp2_with fail
        refine ⟨⟨k + 1, qy, dy, by omega, by go_num, by rw [HN.out], by rw [HN.out]; exact Fy.set3 _ _ _, ((Ny.off (g' := w.heap.size) (by omega) 0 _).off (g' := w.heap.size) (by omega) 1 _).off (g' := w.heap.size) (by omega) 2 _, ((Ry.off (g' := w.heap.size) (by omega) 0 _).off (g' := w.heap.size) (by omega) 1 _).off (g' := w.heap.size) (by omega) 2 _, by rw [HN.out]; exact (((Sy.offS (g' := w.heap.size) (by omega) 0 _).offS (g' := w.heap.size) (by omega) 1 _).offS (g' := w.heap.size) (by omega) 2 _), (((Wy.setCell (p := ⟨w.heap.size, 0, none⟩) (Nat.le_refl _) _).setCell (p := ⟨w.heap.size, 1, none⟩) (Nat.le_refl _) _).setCell (p := ⟨w.heap.size, 2, none⟩) (Nat.le_refl _) _)⟩, by simp [intOf]; omega⟩
      · have hx1 : (xk == 0) = false := by simp [hx]
        have hx2 : decide (xk = 0) = false := by simp [hx]
        have HN : Hid (anK ⟨c5, f5, l5, x5⟩ L (k + 1) = ⟨ck, fk, lk, xk⟩) := Lib.hid (by rw [HS.out]; unfold weS; rw [if_neg hx])
        go_wp2_with fail
        exact ⟨⟨k + 1, q, dq, by omega, by go_num, by rw [HN.out], by rw [HN.out]; exact F5, N5, R5, by rw [HN.out]; exact S5, W5⟩, by simp [intOf]; omega⟩
    · have ek : k = L.length := by omega
      have HVk : anK ⟨c5, f5, l5, x5⟩ L L.length = (anK ⟨c5, f5, l5, x5⟩ L k) := by rw [ek]
      obtain ⟨⟨ck, fk, lk, xk⟩, EK⟩ : ∃ s, (anK ⟨c5, f5, l5, x5⟩ L k) = s := ⟨_, rfl⟩
      rw [EK] at F SS HVk ⊢
      simp only at F SS ⊢
      clear EK
      obtain ⟨b0, b1, b2⟩ := F.cell3
      obtain ⟨r0, r1, r2⟩ := R.cell3
      have rf := R.frozen
      obtain ⟨y0, y1, y2⟩ := (R.set3 (.int .i64 ck) (.int .i64 fk) (.slice q lk.length dq)).cell3
      have HVV := Lib.hid HVk
      clear HVk
      go_wp2_with fail
      refine bodyPost_ret (v := .tuple #[.agg #[.int .i64 ck, .int .i64 fk, .slice q lk.length dq], .int .i64 xk]) (by simp [results, Try.results27, go_sem, y0, y1, y2]) rfl ?_
      rw [HV2.out, HVV.out]
      exact ⟨q, dq, rfl, (((SS.offS (g' := w.heap.size + 2) (by omega) 0 _).offS (g' := w.heap.size + 2) (by omega) 1 _).offS (g' := w.heap.size + 2) (by omega) 2 _).mono (by omega), (((W.setCell (p := ⟨w.heap.size + 2, 0, none⟩) (by show w.heap.size ≤ w.heap.size + 2; omega) _).setCell (p := ⟨w.heap.size + 2, 1, none⟩) (by show w.heap.size ≤ w.heap.size + 2; omega) _).setCell (p := ⟨w.heap.size + 2, 2, none⟩) (by show w.heap.size ≤ w.heap.size + 2; omega) _)⟩
set_option maxHeartbeats 4000000 in
set_option maxRecDepth 20000 in
theorem spec_AddNoise (c f : Int) (p : Option Addr) (l : List Int) (cap : Nat) (d : Int) (pj pd ps : Option Addr) (j e : List Int) (L : List Flx) (cj cd cs : Nat) (w : World) (hI : IntsAt w p l) (h1 : IntsAt w pj j) (h2 : IntsAt w pd e) (h3 : SpansAt w ps L) (hsum : l.length + lensL L ≤ 1048576) (hj : j.length ≤ 1048576) (he : e.length ≤ 1048576) (hl : L.length ≤ 1048576) (hn : ∀ s ∈ L, s.g.p = none → s.g.cap = 0) :
    Calls Try.prog 35 #[.agg #[.int .i64 c, .int .i64 f, .slice p l.length cap], .agg #[.int .i64 d, .slice pj j.length cj, .slice pd e.length cd, .slice ps L.length cs]] w fun e' w' => ∃ (q : Option Addr) (dq : Nat), e' = .returned (.tuple #[.agg #[.int .i64 (anS c f l d j e L).c, .int .i64 (anS c f l d j e L).f, .slice q (anS c f l d j e L).l.length dq], .int .i64 (anS c f l d j e L).e]) ∧ OwnS w' w.heap.size q (anS c f l d j e L).l ∧ Below w.heap.size w w' := by
  have F0 := ((Blk.new w 26 #[.int .i64 c, .int .i64 f, .slice p l.length cap]).alloc' (.cells #[.int .i64 d, .slice pj j.length cj, .slice pd e.length cd, .slice ps L.length cs] 53)).alloc' (.cells #[.int .i64 0, .int .i64 0, .slice none 0 0] 26)
  have N0 := (Blk.new (w.alloc (.cells #[.int .i64 c, .int .i64 f, .slice p l.length cap] 26)) 53 #[.int .i64 d, .slice pj j.length cj, .slice pd e.length cd, .slice ps L.length cs]).alloc' (.cells #[.int .i64 0, .int .i64 0, .slice none 0 0] 26)
  have R0 := Blk.new ((w.alloc (.cells #[.int .i64 c, .int .i64 f, .slice p l.length cap] 26)).alloc (.cells #[.int .i64 d, .slice pj j.length cj, .slice pd e.length cd, .slice ps L.length cs] 53)) 26 #[.int .i64 0, .int .i64 0, .slice none 0 0]
  have e1 : (w.alloc (.cells #[.int .i64 c, .int .i64 f, .slice p l.length cap] 26)).heap.size = w.heap.size + 1 := by simp
  have e2 : ((w.alloc (.cells #[.int .i64 c, .int .i64 f, .slice p l.length cap] 26)).alloc (.cells #[.int .i64 d, .slice pj j.length cj, .slice pd e.length cd, .slice ps L.length cs] 53)).heap.size = w.heap.size + 2 := by simp
  rw [e1] at N0
  rw [e2] at R0
  have W0 : Below w.heap.size w (((w.alloc (.cells #[.int .i64 c, .int .i64 f, .slice p l.length cap] 26)).alloc (.cells #[.int .i64 d, .slice pj j.length cj, .slice pd e.length cd, .slice ps L.length cs] 53)).alloc (.cells #[.int .i64 0, .int .i64 0, .slice none 0 0] 26)) := (((Below.refl _ _).alloc (Nat.le_refl _) _).alloc (by simp) _).alloc (by simp; omega) _
  have z0 : w.heap.size + 3 ≤ (((w.alloc (.cells #[.int .i64 c, .int .i64 f, .slice p l.length cap] 26)).alloc (.cells #[.int .i64 d, .slice pj j.length cj, .slice pd e.length cd, .slice ps L.length cs] 53)).alloc (.cells #[.int .i64 0, .int .i64 0, .slice none 0 0] 26)).heap.size := by simp
  clear e1 e2
  have hg : ∀ s ∈ L, s.g.l.length ≤ 1048576 := fun s hs => by have := lensL_mem hs; omega
  have hll : l.length ≤ 1048576 := by omega
  obtain k1 | k1 := (Bool.eq_false_or_eq_true (fluxOk c f l)).symm
  · have HV : Hid ((anS c f l d j e L) = ⟨0, 0, [], 1⟩) := Lib.hid (by unfold anS anOk; rw [k1]; rfl)
    have H1 := Lib.hid k1
    clear k1
    go_enter Try.func35, Try.ntmps35
    go_wp2_with fail
    generalize (((w.alloc (.cells #[.int .i64 c, .int .i64 f, .slice p l.length cap] 26)).alloc (.cells #[.int .i64 d, .slice pj j.length cj, .slice pd e.length cd, .slice ps L.length cs] 53)).alloc (.cells #[.int .i64 0, .int .i64 0, .slice none 0 0] 26)) = w0 at F0 N0 R0 W0 z0 ⊢
    obtain ⟨cF0, cF1, cF2⟩ := F0.cell3
    obtain ⟨cN0, cN1, cN2, cN3⟩ := N0.cell4
    refine (spec_l02Ok c f p l cap _ _ (hI.below W0) hll F0).mono ?_
    rintro e' w1 ⟨rfl, hb1⟩
    rw [H1.out]
    have z1 := hb1.size
    have F1 := F0.keep hb1
    have N1 := N0.keep hb1
    have R1 := R0.keep hb1
    have W1 := below_st W0 hb1 (Nat.le_refl _)
    clear cF0 cF1 cF2 cN0 cN1 cN2 cN3
    obtain ⟨r0, r1, r2⟩ := R1.cell3
    have rf := R1.frozen
    have rlt := R1.lt
    obtain ⟨x0, x1, x2⟩ := (R1.set3 (.int .i64 0) (.int .i64 0) (.slice none 0 0)).cell3
    go_wp2_with fail
    refine bodyPost_ret (v := .tuple #[.agg #[.int .i64 0, .int .i64 0, .slice none 0 0], .int .i64 1]) (by simp [results, Try.results35, go_sem, x0, x1, x2]) rfl ?_
    rw [HV.out]
    exact ⟨none, 0, rfl, OwnS.nil_ _ _ _, ((W1.setCell (p := ⟨w.heap.size + 2, 0, none⟩) (by show w.heap.size ≤ w.heap.size + 2; omega) _).setCell (p := ⟨w.heap.size + 2, 1, none⟩) (by show w.heap.size ≤ w.heap.size + 2; omega) _).setCell (p := ⟨w.heap.size + 2, 2, none⟩) (by show w.heap.size ≤ w.heap.size + 2; omega) _⟩
  have H1 := Lib.hid k1
  obtain k2 | k2 := (Bool.eq_false_or_eq_true (nzB d j e L)).symm
  · have HV : Hid ((anS c f l d j e L) = ⟨0, 0, [], 1⟩) := Lib.hid (by unfold anS anOk; rw [k1, k2]; rfl)
    have H2 := Lib.hid k2
    clear k1 k2
    go_enter Try.func35, Try.ntmps35
    go_wp2_with fail
    generalize (((w.alloc (.cells #[.int .i64 c, .int .i64 f, .slice p l.length cap] 26)).alloc (.cells #[.int .i64 d, .slice pj j.length cj, .slice pd e.length cd, .slice ps L.length cs] 53)).alloc (.cells #[.int .i64 0, .int .i64 0, .slice none 0 0] 26)) = w0 at F0 N0 R0 W0 z0 ⊢
    obtain ⟨cF0, cF1, cF2⟩ := F0.cell3
    obtain ⟨cN0, cN1, cN2, cN3⟩ := N0.cell4
    refine (spec_l02Ok c f p l cap _ _ (hI.below W0) hll F0).mono ?_
    rintro e' w1 ⟨rfl, hb1⟩
    rw [H1.out]
    have z1 := hb1.size
    have F1 := F0.keep hb1
    have N1 := N0.keep hb1
    have R1 := R0.keep hb1
    have W1 := below_st W0 hb1 (Nat.le_refl _)
    clear cF0 cF1 cF2 cN0 cN1 cN2 cN3
    obtain ⟨cF0, cF1, cF2⟩ := F1.cell3
    obtain ⟨cN0, cN1, cN2, cN3⟩ := N1.cell4
    go_wp2_with fail
    refine (spec_l04Ok d pj pd ps j e L cj cd cs _ _ N1 (h1.below W1) (h2.below W1) (h3.below W1) hj he hl hg).mono ?_
    rintro e' w2 ⟨rfl, hb2⟩
    rw [H2.out]
    have z2 := hb2.size
    have F2 := F1.keep hb2
    have N2 := N1.keep hb2
    have R2 := R1.keep hb2
    have W2 := below_st W1 hb2 (Nat.le_refl _)
    clear cF0 cF1 cF2 cN0 cN1 cN2 cN3
    obtain ⟨r0, r1, r2⟩ := R2.cell3
    have rf := R2.frozen
    have rlt := R2.lt
    obtain ⟨x0, x1, x2⟩ := (R2.set3 (.int .i64 0) (.int .i64 0) (.slice none 0 0)).cell3
    go_wp2_with fail
    refine bodyPost_ret (v := .tuple #[.agg #[.int .i64 0, .int .i64 0, .slice none 0 0], .int .i64 1]) (by simp [results, Try.results35, go_sem, x0, x1, x2]) rfl ?_
    rw [HV.out]
    exact ⟨none, 0, rfl, OwnS.nil_ _ _ _, ((W2.setCell (p := ⟨w.heap.size + 2, 0, none⟩) (by show w.heap.size ≤ w.heap.size + 2; omega) _).setCell (p := ⟨w.heap.size + 2, 1, none⟩) (by show w.heap.size ≤ w.heap.size + 2; omega) _).setCell (p := ⟨w.heap.size + 2, 2, none⟩) (by show w.heap.size ≤ w.heap.size + 2; omega) _⟩
  have H2 := Lib.hid k2
  have HV : Hid ((anS c f l d j e L) = anK (anB c f l d j e) L L.length) := Lib.hid (by unfold anS anOk; rw [k1, k2]; rfl)
  clear k1 k2
  go_enter Try.func35, Try.ntmps35
  go_wp2_with fail
  generalize (((w.alloc (.cells #[.int .i64 c, .int .i64 f, .slice p l.length cap] 26)).alloc (.cells #[.int .i64 d, .slice pj j.length cj, .slice pd e.length cd, .slice ps L.length cs] 53)).alloc (.cells #[.int .i64 0, .int .i64 0, .slice none 0 0] 26)) = w0 at F0 N0 R0 W0 z0 ⊢
  obtain ⟨cF0, cF1, cF2⟩ := F0.cell3
  obtain ⟨cN0, cN1, cN2, cN3⟩ := N0.cell4
  refine (spec_l02Ok c f p l cap _ _ (hI.below W0) hll F0).mono ?_
  rintro e' w1 ⟨rfl, hb1⟩
  rw [H1.out]
  have z1 := hb1.size
  have F1 := F0.keep hb1
  have N1 := N0.keep hb1
  have R1 := R0.keep hb1
  have W1 := below_st W0 hb1 (Nat.le_refl _)
  clear cF0 cF1 cF2 cN0 cN1 cN2 cN3
  obtain ⟨cF0, cF1, cF2⟩ := F1.cell3
  obtain ⟨cN0, cN1, cN2, cN3⟩ := N1.cell4
  go_wp2_with fail
  refine (spec_l04Ok d pj pd ps j e L cj cd cs _ _ N1 (h1.below W1) (h2.below W1) (h3.below W1) hj he hl hg).mono ?_
  rintro e' w2 ⟨rfl, hb2⟩
  rw [H2.out]
  have z2 := hb2.size
  have F2 := F1.keep hb2
  have N2 := N1.keep hb2
  have R2 := R1.keep hb2
  have W2 := below_st W1 hb2 (Nat.le_refl _)
  clear cF0 cF1 cF2 cN0 cN1 cN2 cN3
  obtain ⟨⟨c3, f3, l3, x3⟩, E3⟩ : ∃ s, drS c f l d = s := ⟨_, rfl⟩
  have hl3 : l3.length ≤ l.length := by have := drS_len c f l d; rw [E3] at this; exact this
  have CD := fun (w : World) (hI : IntsAt w p l) => spec_AddDriftS c f p l cap d w hI hll
  rw [E3] at CD
  have HV3 : Hid (anB c f l d j e = dpS (jiS ⟨c3, f3, l3, x3⟩ j) e) := Lib.hid (by unfold anB; rw [E3])
  clear E3
  obtain ⟨cF0, cF1, cF2⟩ := F2.cell3
  obtain ⟨cN0, cN1, cN2, cN3⟩ := N2.cell4
  go_wp2_with fail
  refine (CD _ (hI.below W2)).mono ?_
  rintro e' w3 ⟨q3, d3, rfl, S3, hb3⟩
  have z3 := hb3.size
  have F3 := F2.keep hb3
  have N3 := N2.keep hb3
  have R3 := R2.keep hb3
  have W3 := below_st W2 hb3 (Nat.le_refl _)
  replace S3 : OwnS w3 (w.heap.size + 3) q3 l3 := S3.mono (by omega)
  clear cF0 cF1 cF2 cN0 cN1 cN2 cN3
  go_upto_if 24 with fail
  have A3 := Blk.new w3 26 #[.int .i64 c3, .int .i64 f3, .slice q3 l3.length d3]
  replace N3 := N3.alloc' (.cells #[.int .i64 c3, .int .i64 f3, .slice q3 l3.length d3] 26)
  replace R3 := R3.alloc' (.cells #[.int .i64 c3, .int .i64 f3, .slice q3 l3.length d3] 26)
  replace S3 := S3.below ((Below.refl _ w3).alloc (Nat.le_refl _) (.cells #[.int .i64 c3, .int .i64 f3, .slice q3 l3.length d3] 26))
  replace W3 := W3.alloc W3.size (.cells #[.int .i64 c3, .int .i64 f3, .slice q3 l3.length d3] 26)
  obtain ⟨ga, ega⟩ : ∃ ga, w3.heap.size = ga := ⟨_, rfl⟩
  generalize w3.alloc (.cells #[.int .i64 c3, .int .i64 f3, .slice q3 l3.length d3] 26) = w4 at A3 N3 R3 S3 W3 ⊢
  have hga : w.heap.size + 3 ≤ ga := by omega
  rw [ega] at A3 ⊢
  have hgal := A3.lt
  clear F3 ega z0 z1 z2 z3 F0 N0 R0 F1 N1 R1 F2 N2 R2 W0 W1 W2 hb1 hb2 hb3 CD
  have F3 := A3
  clear A3
  obtain ⟨⟨c4, f4, l4, x4⟩, E4⟩ : ∃ s, jiS ⟨c3, f3, l3, x3⟩ j = s := ⟨_, rfl⟩
  have hl4 : l4.length ≤ l.length := by have := jiS_len ⟨c3, f3, l3, x3⟩ j; rw [E4] at this; exact Nat.le_trans this hl3
  have HE4 := Lib.hid E4
  clear E4
  go_cut [7] (fun v6 wx => ∃ q dq, v6 = .int .i64 x4 ∧ Blk wx ga 26 #[.int .i64 c4, .int .i64 f4, .slice q l4.length dq] ∧ Blk wx (w.heap.size + 1) 53 #[.int .i64 d, .slice pj j.length cj, .slice pd e.length cd, .slice ps L.length cs] ∧ Blk wx (w.heap.size + 2) 26 #[.int .i64 0, .int .i64 0, .slice none 0 0] ∧ OwnS wx (w.heap.size + 3) q l4 ∧ Below w.heap.size w wx)
  case first =>
    by_cases hx : x3 = 0
    · subst hx
      have CJ := fun (w : World) (hI : IntsAt w q3 l3) (hJ : IntsAt w pj j) => spec_AddJitterS c3 f3 q3 l3 d3 0 pj j cj w hI (by omega) hJ hj
      have E : jiT ⟨c3, f3, l3, 0⟩ j = ⟨c4, f4, l4, x4⟩ := by have := HE4.out; unfold jiS at this; rw [if_pos rfl] at this; exact this
      rw [E] at CJ
      clear E
      obtain ⟨cF0, cF1, cF2⟩ := F3.cell3
      obtain ⟨cN0, cN1, cN2, cN3⟩ := N3.cell4
      have ff := F3.frozen
      have fl := F3.lt
      go_wp2_with fail
      refine (CJ _ S3.ints (h1.below W3)).mono ?_
      rintro e' y ⟨qy, dy, rfl, Sy, hby⟩
      have zy := hby.size
      have zw := W3.size
      have zr := R3.lt
      have Fy := F3.keep hby
      have Ny := N3.keep hby
      have Ry := R3.keep hby
      have Wy := below_st W3 hby (Nat.le_refl _)
      replace Sy : OwnS y (ga + 1) qy l4 := Sy.mono (by omega)
      clear cF0 cF1 cF2 cN0 cN1 cN2 cN3
      clear ff fl
      obtain ⟨r0, r1, r2⟩ := Fy.cell3
      have rf := Fy.frozen
      have rlt := Fy.lt
      go_wp2_with fail
      go_meet
      exact ⟨qy, dy, rfl, Fy.set3 _ _ _, ((Ny.off (g' := ga) (by omega) 0 _).off (g' := ga) (by omega) 1 _).off (g' := ga) (by omega) 2 _, ((Ry.off (g' := ga) (by omega) 0 _).off (g' := ga) (by omega) 1 _).off (g' := ga) (by omega) 2 _, (((Sy.offS (g' := ga) (by omega) 0 _).offS (g' := ga) (by omega) 1 _).offS (g' := ga) (by omega) 2 _).mono (by omega), (((Wy.setCell (p := ⟨ga, 0, none⟩) (by show w.heap.size ≤ ga; omega) _).setCell (p := ⟨ga, 1, none⟩) (by show w.heap.size ≤ ga; omega) _).setCell (p := ⟨ga, 2, none⟩) (by show w.heap.size ≤ ga; omega) _)⟩
    · have E : (⟨c3, f3, l3, x3⟩ : FxS) = ⟨c4, f4, l4, x4⟩ := by have := HE4.out; unfold jiS at this; rw [if_neg hx] at this; exact this
      injection E with E1 E2 E3 E4
      subst E1 E2 E3 E4
      have hx1 : (x3 == 0) = false := by simp [hx]
      have hx2 : decide (x3 = 0) = false := by simp [hx]
      go_wp2_with fail
      go_meet
      exact ⟨q3, d3, rfl, F3, N3, R3, S3, W3⟩
  case rest =>
  obtain ⟨q4, d4, rfl, F4, N4, R4, S4, W4⟩ := hcut
  obtain ⟨w5, hwc⟩ : ∃ w5, w5 = wc := ⟨_, rfl⟩
  subst hwc
  clear F3 N3 R3 S3 W3
  go_upto_if 33 with fail
  obtain ⟨⟨c5, f5, l5, x5⟩, E5⟩ : ∃ s, dpS ⟨c4, f4, l4, x4⟩ e = s := ⟨_, rfl⟩
  have hl5 : l5.length ≤ l.length := by have := dpS_len ⟨c4, f4, l4, x4⟩ e; rw [E5] at this; exact Nat.le_trans this hl4
  have HE5 := Lib.hid E5
  clear E5
  go_cut [7] (fun v6 wx => ∃ q dq, v6 = .int .i64 x5 ∧ Blk wx ga 26 #[.int .i64 c5, .int .i64 f5, .slice q l5.length dq] ∧ Blk wx (w.heap.size + 1) 53 #[.int .i64 d, .slice pj j.length cj, .slice pd e.length cd, .slice ps L.length cs] ∧ Blk wx (w.heap.size + 2) 26 #[.int .i64 0, .int .i64 0, .slice none 0 0] ∧ OwnS wx (w.heap.size + 3) q l5 ∧ Below w.heap.size w wx)
  case first =>
    by_cases hx : x4 = 0
    · subst hx
      have CJ := fun (w : World) (hI : IntsAt w q4 l4) (hJ : IntsAt w pd e) => spec_DropChangesS c4 f4 q4 l4 d4 0 pd e cd w hI (by omega) hJ he
      have E : dpT ⟨c4, f4, l4, 0⟩ e = ⟨c5, f5, l5, x5⟩ := by have := HE5.out; unfold dpS at this; rw [if_pos rfl] at this; exact this
      rw [E] at CJ
      clear E
      obtain ⟨cF0, cF1, cF2⟩ := F4.cell3
      obtain ⟨cN0, cN1, cN2, cN3⟩ := N4.cell4
      have ff := F4.frozen
      have fl := F4.lt
      go_wp2_with fail
      refine (CJ _ S4.ints (h2.below W4)).mono ?_
      rintro e' y ⟨qy, dy, rfl, Sy, hby⟩
      have zy := hby.size
      have zw := W4.size
      have zr := R4.lt
      have Fy := F4.keep hby
      have Ny := N4.keep hby
      have Ry := R4.keep hby
      have Wy := below_st W4 hby (Nat.le_refl _)
      replace Sy : OwnS y (ga + 1) qy l5 := Sy.mono (by omega)
      clear cF0 cF1 cF2 cN0 cN1 cN2 cN3
      clear ff fl
      obtain ⟨r0, r1, r2⟩ := Fy.cell3
      have rf := Fy.frozen
      have rlt := Fy.lt
      go_wp2_with fail
      go_meet
      exact ⟨qy, dy, rfl, Fy.set3 _ _ _, ((Ny.off (g' := ga) (by omega) 0 _).off (g' := ga) (by omega) 1 _).off (g' := ga) (by omega) 2 _, ((Ry.off (g' := ga) (by omega) 0 _).off (g' := ga) (by omega) 1 _).off (g' := ga) (by omega) 2 _, (((Sy.offS (g' := ga) (by omega) 0 _).offS (g' := ga) (by omega) 1 _).offS (g' := ga) (by omega) 2 _).mono (by omega), (((Wy.setCell (p := ⟨ga, 0, none⟩) (by show w.heap.size ≤ ga; omega) _).setCell (p := ⟨ga, 1, none⟩) (by show w.heap.size ≤ ga; omega) _).setCell (p := ⟨ga, 2, none⟩) (by show w.heap.size ≤ ga; omega) _)⟩
    · have E : (⟨c4, f4, l4, x4⟩ : FxS) = ⟨c5, f5, l5, x5⟩ := by have := HE5.out; unfold dpS at this; rw [if_neg hx] at this; exact this
      injection E with E1 E2 E3 E4
      subst E1 E2 E3 E4
      have hx1 : (x4 == 0) = false := by simp [hx]
      have hx2 : decide (x4 = 0) = false := by simp [hx]
      go_wp2_with fail
      go_meet
      exact ⟨q4, d4, rfl, F4, N4, R4, S4, W4⟩
  case rest =>
  obtain ⟨q5, d5, rfl, F5, N5, R5, S5, W5⟩ := hcut
  obtain ⟨w6, hwc⟩ : ∃ w6, w6 = wc := ⟨_, rfl⟩
  subst hwc
  clear F4 N4 R4 S4 W4
  have HB : Hid (anB c f l d j e = ⟨c5, f5, l5, x5⟩) := Lib.hid (by rw [HV3.out, HE4.out, HE5.out])
  have HV2 : Hid ((anS c f l d j e L) = anK ⟨c5, f5, l5, x5⟩ L L.length) := Lib.hid (by rw [HV.out, HB.out])
  clear HV HB HV3 HE4 HE5
  obtain ⟨cF0, cF1, cF2⟩ := F5.cell3
  obtain ⟨cN0, cN1, cN2, cN3⟩ := N5.cell4
  go_wp2_with fail
  go_loopw [7, 8] (fun v6 i wr => ∃ (k : Nat) (q : Option Addr) (dq : Nat), k ≤ L.length ∧ i = .int .i64 k ∧ v6 = .int .i64 (anK ⟨c5, f5, l5, x5⟩ L k).e ∧ Blk wr ga 26 #[.int .i64 (anK ⟨c5, f5, l5, x5⟩ L k).c, .int .i64 (anK ⟨c5, f5, l5, x5⟩ L k).f, .slice q (anK ⟨c5, f5, l5, x5⟩ L k).l.length dq] ∧ Blk wr (w.heap.size + 1) 53 #[.int .i64 d, .slice pj j.length cj, .slice pd e.length cd, .slice ps L.length cs] ∧ Blk wr (w.heap.size + 2) 26 #[.int .i64 0, .int .i64 0, .slice none 0 0] ∧ OwnS wr (w.heap.size + 3) q (anK ⟨c5, f5, l5, x5⟩ L k).l ∧ Below w.heap.size w wr) (fun _ i _ => L.length - (intOf i).toNat)
  case atStart => exact ⟨0, q5, d5, Nat.zero_le _, rfl, rfl, F5, N5, R5, S5, W5⟩
  case round =>
    clear cF0 cF1 cF2 cN0 cN1 cN2 cN3
    clear F5 N5 R5 S5 W5
    obtain ⟨k, q, dq, hk, rfl, rfl, F, N, R, SS, W⟩ := hrel
    have hzw := W.size
    have hzr := R.lt
    by_cases hlt : k < L.length
    · obtain ⟨a, hpa, hab, s0, s1, s2, hIk⟩ := (h3.below W).at_ hlt
      have hcapk := hn _ (List.getElem_mem hlt)
      have hlen : (anK ⟨c5, f5, l5, x5⟩ L k).l.length + L[k].g.l.length ≤ 1048576 := by
        have h1 := anK_len ⟨c5, f5, l5, x5⟩ L k hk
        have h2 := lensL_take L hlt
        have h3 := lensL_le L (k + 1)
        have h4 : (FxS.mk c5 f5 l5 x5).l.length = l5.length := rfl
        omega
      have HS : Hid (anK ⟨c5, f5, l5, x5⟩ L (k + 1) = weS (anK ⟨c5, f5, l5, x5⟩ L k) L[k]) := Lib.hid (anK_succ _ L hlt)
      have HST := Lib.hid (fun h => (anK_stop ⟨c5, f5, l5, x5⟩ L k h L.length hk (Nat.le_refl _)))
      have hab0 : a.block < w.heap.size := by obtain ⟨a', ha', hb', -⟩ := h3.at_ hlt; rw [hpa] at ha'; injection ha' with ha'; subst ha'; exact hb'
      subst hpa
      obtain ⟨⟨x, y, ⟨pg, lg, cg⟩⟩, es⟩ : ∃ s, L[k] = s := ⟨_, rfl⟩
      rw [es] at s0 s1 s2 hIk hcapk hlen HS
      simp only [Num.val] at s0 s1 s2 hIk hcapk hlen
      obtain ⟨⟨ck, fk, lk, xk⟩, EK⟩ : ∃ s, (anK ⟨c5, f5, l5, x5⟩ L k) = s := ⟨_, rfl⟩
      rw [EK] at F SS HS hlen HST ⊢
      simp only at F SS hlen ⊢
      have HEK := Lib.hid EK
      clear EK es
      obtain ⟨cF0, cF1, cF2⟩ := F.cell3
      obtain ⟨cN0, cN1, cN2, cN3⟩ := N.cell4
      by_cases hx : xk = 0
      · subst hx
        have CW := fun (w : World) (hI : IntsAt w q lk) (hJ : IntsAt w pg lg) => spec_WeakenFluxS ck fk q lk dq 0 x y pg lg cg w hI hJ hlen hcapk
        obtain ⟨⟨cn, fn, ln, xn⟩, EN⟩ : ∃ s, weF ⟨ck, fk, lk, 0⟩ ⟨x, y, ⟨pg, lg, cg⟩⟩ = s := ⟨_, rfl⟩
        rw [EN] at CW
        have HN : Hid (anK ⟨c5, f5, l5, x5⟩ L (k + 1) = ⟨cn, fn, ln, xn⟩) := Lib.hid (by rw [HS.out]; unfold weS; rw [if_pos rfl]; exact EN)
        clear EN HST HEK
        have fl := F.lt
        go_wp2_with fail
        have Sd := SS.below (Below.refl _ _).drew
        have Id := hIk.below (Below.refl _ _).drew
        have Wd := W.drew
        have Fd : Blk wr.drew ga 26 #[.int .i64 ck, .int .i64 fk, .slice q lk.length dq] := F
        have Nd : Blk wr.drew (w.heap.size + 1) 53 #[.int .i64 d, .slice pj j.length cj, .slice pd e.length cd, .slice (some a) L.length cs] := N
        have Rd : Blk wr.drew (w.heap.size + 2) 26 #[.int .i64 0, .int .i64 0, .slice none 0 0] := R
        have hab1 : (a.add (k * 3)).block < w.heap.size := by rw [Go.ChangeShapes.block_add]; exact hab0
        have hab2 : (a.add (k * 3)).block < wr.heap.size := by omega
        have Nl := N.lt
        go_region_with (first | (go_at_call 22; refine (CW _ Sd.ints Id).mono ?_; rintro e' y ⟨qy, dy, rfl, Sy, hby⟩; have zy := hby.size; have Fy := Fd.keep hby; have Ny := Nd.keep hby; have Ry := Rd.keep hby; have Wy := below_st Wd hby (Nat.le_refl _); obtain ⟨r0, r1, r2⟩ := Fy.cell3; have rf := Fy.frozen; have rlt := Fy.lt))
        all_goals
          go_wp2_with fail
          replace Sy : OwnS y (ga + 1) qy ln := Sy.mono (by show ga + 1 ≤ wr.heap.size; omega)
          exact ⟨⟨k + 1, qy, dy, by omega, by go_num, by rw [HN.out], by rw [HN.out]; exact Fy.set3 _ _ _, ((Ny.off (g' := ga) (by omega) 0 _).off (g' := ga) (by omega) 1 _).off (g' := ga) (by omega) 2 _, ((Ry.off (g' := ga) (by omega) 0 _).off (g' := ga) (by omega) 1 _).off (g' := ga) (by omega) 2 _, by rw [HN.out]; exact ((((Sy.offS (g' := ga) (by omega) 0 _).offS (g' := ga) (by omega) 1 _).offS (g' := ga) (by omega) 2 _).mono (by omega)), (((Wy.setCell (p := ⟨ga, 0, none⟩) (by show w.heap.size ≤ ga; omega) _).setCell (p := ⟨ga, 1, none⟩) (by show w.heap.size ≤ ga; omega) _).setCell (p := ⟨ga, 2, none⟩) (by show w.heap.size ≤ ga; omega) _)⟩, by simp [intOf]; omega⟩
      · have hx1 : (xk == 0) = false := by simp [hx]
        have hx2 : decide (xk = 0) = false := by simp [hx]
        have HVk : anK ⟨c5, f5, l5, x5⟩ L L.length = ⟨ck, fk, lk, xk⟩ := HST.out hx
        obtain ⟨r0, r1, r2⟩ := R.cell3
        have rf := R.frozen
        obtain ⟨y0, y1, y2⟩ := (R.set3 (.int .i64 ck) (.int .i64 fk) (.slice q lk.length dq)).cell3
        have HVV := Lib.hid HVk
        clear HVk HST HEK HS
        go_wp2_with fail
        refine bodyPost_ret (v := .tuple #[.agg #[.int .i64 ck, .int .i64 fk, .slice q lk.length dq], .int .i64 xk]) (by simp [results, Try.results35, go_sem, y0, y1, y2]) rfl ?_
        rw [HV2.out, HVV.out]
        exact ⟨q, dq, rfl, (((SS.offS (g' := w.heap.size + 2) (by omega) 0 _).offS (g' := w.heap.size + 2) (by omega) 1 _).offS (g' := w.heap.size + 2) (by omega) 2 _).mono (by omega), (((W.setCell (p := ⟨w.heap.size + 2, 0, none⟩) (by show w.heap.size ≤ w.heap.size + 2; omega) _).setCell (p := ⟨w.heap.size + 2, 1, none⟩) (by show w.heap.size ≤ w.heap.size + 2; omega) _).setCell (p := ⟨w.heap.size + 2, 2, none⟩) (by show w.heap.size ≤ w.heap.size + 2; omega) _)⟩
    · have ek : k = L.length := by omega
      have HVk : anK ⟨c5, f5, l5, x5⟩ L L.length = (anK ⟨c5, f5, l5, x5⟩ L k) := by rw [ek]
      obtain ⟨⟨ck, fk, lk, xk⟩, EK⟩ : ∃ s, (anK ⟨c5, f5, l5, x5⟩ L k) = s := ⟨_, rfl⟩
      rw [EK] at F SS HVk ⊢
      simp only at F SS ⊢
      clear EK
      obtain ⟨b0, b1, b2⟩ := F.cell3
      obtain ⟨n0, n1, n2, n3⟩ := N.cell4
      obtain ⟨r0, r1, r2⟩ := R.cell3
      have rf := R.frozen
      obtain ⟨y0, y1, y2⟩ := (R.set3 (.int .i64 ck) (.int .i64 fk) (.slice q lk.length dq)).cell3
      have HVV := Lib.hid HVk
      clear HVk
      go_wp2_with fail
      refine bodyPost_ret (v := .tuple #[.agg #[.int .i64 ck, .int .i64 fk, .slice q lk.length dq], .int .i64 xk]) (by simp [results, Try.results35, go_sem, y0, y1, y2]) rfl ?_
      rw [HV2.out, HVV.out]
      exact ⟨q, dq, rfl, (((SS.offS (g' := w.heap.size + 2) (by omega) 0 _).offS (g' := w.heap.size + 2) (by omega) 1 _).offS (g' := w.heap.size + 2) (by omega) 2 _).mono (by omega), (((W.setCell (p := ⟨w.heap.size + 2, 0, none⟩) (by show w.heap.size ≤ w.heap.size + 2; omega) _).setCell (p := ⟨w.heap.size + 2, 1, none⟩) (by show w.heap.size ≤ w.heap.size + 2; omega) _).setCell (p := ⟨w.heap.size + 2, 2, none⟩) (by show w.heap.size ≤ w.heap.size + 2; omega) _)⟩
end Go.Proofs.Ytfdcainjppljhaa
namespace Go.Proofs.Ytfdcainjppljhaa
open Go.RowKit
theorem size_alloc' (w : World) (o : Obj) : (w.alloc o).heap.size = w.heap.size + 1 := by simp
theorem i64_bd {n : Int} (h : (Lit.int .i64 n).wf = true) : -9223372036854775808 ≤ n ∧ n ≤ 9223372036854775807 := by
  have h1 : IntKind.i64.min = -9223372036854775808 := rfl
  have h2 : IntKind.i64.max = 9223372036854775807 := rfl
  simp [Lit.wf] at h
  omega
end Go.Proofs.Ytfdcainjppljhaa
namespace Go.Proofs.Ytfdcainjppljhaa
open Go.RowKit
set_option linter.unusedVariables false
theorem SpansAt.nil (w : World) (p : Option Addr) : SpansAt w p [] := fun h => absurd rfl h
theorem era_at {T : List Int} {k i : Nat} (hi : i < (T.eraseIdx k).length) (h1 : k ≤ i → i + 1 < T.length) (h2 : i < k → i < T.length) : (∀ h : i < k, (T.eraseIdx k)[i] = T[i]'(h2 h)) ∧ (∀ h : k ≤ i, (T.eraseIdx k)[i] = T[i + 1]'(h1 h)) := by
  rw [List.getElem_eraseIdx]
  refine ⟨fun h => ?_, fun h => ?_⟩
  · rw [dif_pos h]
  · rw [dif_neg (by omega)]
theorem OwnS.set3 {w : World} {base g' : Nat} {p : Option Addr} {l : List Int} (h : OwnS w base p l) (hb : g' < base) (x y z : Value) : OwnS (((w.setCell ⟨g', 0, none⟩ x).setCell ⟨g', 1, none⟩ y).setCell ⟨g', 2, none⟩ z) base p l := ((h.offS hb 0 x).offS hb 1 y).offS hb 2 z
theorem below_set3 {B g : Nat} {w w' : World} (h : Below B w w') (hg : B ≤ g) (x y z : Value) : Below B w (((w'.setCell ⟨g, 0, none⟩ x).setCell ⟨g, 1, none⟩ y).setCell ⟨g, 2, none⟩ z) :=
  ((h.setCell (p := ⟨g, 0, none⟩) hg x).setCell (p := ⟨g, 1, none⟩) hg y).setCell (p := ⟨g, 2, none⟩) hg z
theorem Blk.off3 {w : World} {b g : Nat} {t : TypeId} {cs : Array Value} (h : Blk w b t cs) (hne : b ≠ g) (x y z : Value) : Blk (((w.setCell ⟨g, 0, none⟩ x).setCell ⟨g, 1, none⟩ y).setCell ⟨g, 2, none⟩ z) b t cs := ((h.off hne 0 x).off hne 1 y).off hne 2 z
set_option maxHeartbeats 3000000 in
set_option maxRecDepth 20000 in
theorem walk_FnNoise (x y : Byt) (w : World) (hx : x.ok w) (hy : y.ok w) :
    Calls Try.prog 6 #[x.val, y.val] w fun e w' => e = .returned (.bool true) ∧ Below w.heap.size w w' := by
  obtain ⟨p, cs, cap⟩ := x
  obtain ⟨pm, ms, capm⟩ := y
  obtain ⟨hI, -⟩ := hx
  obtain ⟨hM, -⟩ := hy
  simp only [Byt.val] at hI hM ⊢
  have hlong := laws_a2Long p pm cs ms cap capm w
  by_cases hl : cs.length ≤ 3000 ∧ ms.length ≤ 3000
  rotate_left
  · have hd : (decide (3000 < (cs.length : Int)) || decide (3000 < (ms.length : Int))) = true := by simp; omega
    rw [hd] at hlong
    go_enter Try.func6, Try.ntmps6
    go_wp2_with fail
    refine hlong.mono ?_
    rintro e w0 ⟨rfl, hww⟩
    rw [hww]
    clear hww w0
    go_wp2_with fail
    go_ret
    exact ⟨rfl, Below.refl _ _⟩
  have hd : (decide (3000 < (cs.length : Int)) || decide (3000 < (ms.length : Int))) = false := by simp; omega
  rw [hd] at hlong
  go_enter Try.func6, Try.ntmps6
  go_wp2_with fail
  refine hlong.mono ?_
  rintro e w0 ⟨rfl, hww⟩
  rw [hww]
  clear hww w0 hd
  go_wp2_with fail
  refine (spec_A2Flux p cs cap _ hI (by omega)).mono ?_
  rintro e w1 ⟨c, f, q, l, dq, rfl, hok, hll, S1, W1⟩
  obtain ⟨gq, rfl, hgq, R1⟩ := S1 (flux_ne hok)
  have hgl := R1.lt
  have BF := Blk.new w1 26 #[.int .i64 c, .int .i64 f, .slice (some ⟨gq, 0, none⟩) l.length dq]
  have R2 := R1.alloc (.cells #[.int .i64 c, .int .i64 f, .slice (some ⟨gq, 0, none⟩) l.length dq] 26)
  have W2 := W1.alloc W1.size (.cells #[.int .i64 c, .int .i64 f, .slice (some ⟨gq, 0, none⟩) l.length dq] 26)
  have zw := W1.size
  have z2 : (w1.alloc (.cells #[.int .i64 c, .int .i64 f, .slice (some ⟨gq, 0, none⟩) l.length dq] 26)).heap.size = w1.heap.size + 1 := by simp
  obtain ⟨f0, f1, f2⟩ := BF.cell3
  clear S1 W1 R1
  go_wp2_with fail
  obtain ⟨bf, ebf⟩ : ∃ bf, w1.heap.size = bf := ⟨_, rfl⟩
  clear f0 f1 f2
  generalize w1.alloc (.cells #[.int .i64 c, .int .i64 f, .slice (some ⟨gq, 0, none⟩) l.length dq] 26) = w2 at BF R2 W2 z2 ⊢
  rw [ebf] at BF z2 hgl zw ⊢
  clear ebf w1
  -- f stands behind whatever leaves the blocks below bf + 1
  have KF : ∀ wx, Below (bf + 1) w2 wx → Blk wx bf 26 #[.int .i64 c, .int .i64 f, .slice (some ⟨gq, 0, none⟩) l.length dq] := fun wx h => BF.below h (Nat.lt_succ_self _)
  have KR : ∀ wx, Below (bf + 1) w2 wx → IntsAt wx (some ⟨gq, 0, none⟩) l := fun wx h => (R2.aside (by omega) h).ints
  have KW : ∀ wx, Below (bf + 1) w2 wx → Below w.heap.size w wx := fun wx h => W2.trans (h.mono (by omega))
  have CN : ∀ wx, IntsAt wx (some ⟨gq, 0, none⟩) l → Calls Try.prog 27 #[.agg #[.int .i64 c, .int .i64 f, .slice (some ⟨gq, 0, none⟩) l.length dq], .agg #[.int .i64 0, .slice none 0 0, .slice none 0 0, .slice none 0 0]] wx fun e' w' => ∃ (q : Option Addr) (d : Nat), e' = .returned (.tuple #[.agg #[.int .i64 c, .int .i64 f, .slice q l.length d], .int .i64 0]) ∧ OwnS w' wx.heap.size q l ∧ Below wx.heap.size wx w' := by
    intro wx hx
    have h := impl_AddNoise c f (some ⟨gq, 0, none⟩) l dq 0 none none none [] [] [] 0 0 0 wx hx (IntsAt.nil _ _) (IntsAt.nil _ _) (SpansAt.nil _ _) (by simp [lensL]; omega) (by simp) (by simp) (by simp) (fun s hs => by simp at hs)
    rw [anS_zero hok] at h
    exact h
  refine (CN _ R2.ints).mono ?_
  rintro e w3 ⟨q3, d3, rfl, S3, hb3⟩
  have H3 : Below (bf + 1) w2 w3 := hb3.mono (by omega)
  have BG := Blk.new w3 26 #[.int .i64 c, .int .i64 f, .slice q3 l.length d3]
  have z3 := hb3.size
  have H4 : Below (bf + 1) w2 (w3.alloc (.cells #[.int .i64 c, .int .i64 f, .slice q3 l.length d3] 26)) := H3.alloc (by omega) _
  replace S3 := S3.below ((Below.refl _ w3).alloc (Nat.le_refl _) (.cells #[.int .i64 c, .int .i64 f, .slice q3 l.length d3] 26))
  have BF4 := KF _ H4
  have I4 := KR _ H4
  clear hb3 H3 CN
  obtain ⟨f0, f1, f2⟩ := BF4.cell3
  obtain ⟨g0, g1, g2⟩ := BG.cell3
  have gl := BG.lt
  have fl := BF4.lt
  go_wp2_with fail
  obtain ⟨bg, ebg⟩ : ∃ bg, w3.heap.size = bg := ⟨_, rfl⟩
  clear f0 f1 f2 g0 g1 g2 BF4 fl gl
  generalize w3.alloc (.cells #[.int .i64 c, .int .i64 f, .slice q3 l.length d3] 26) = w4 at BG H4 S3 I4 ⊢
  rw [ebg] at BG z3 ⊢
  rw [z2] at z3
  clear ebg w3
  refine (impl_SameFlux c f _ l dq c f q3 l d3 _ I4 S3.ints (by omega) (by omega)).mono ?_
  rintro e w5 ⟨rfl, hb5⟩
  rw [same_self]
  have gl4 := BG.lt
  replace BG := BG.keep hb5
  have H5 : Below (bf + 1) w2 w5 := below_st H4 hb5 (by omega)
  clear H4 S3 I4 hb5
  go_wp2_with fail
  refine (spec_A2Noise pm ms capm _ (hM.below (KW _ H5)) (by omega)).mono ?_
  rintro e w6 ⟨d, qj, js, dj, rfl, hj1, hjl, SJ, hb6⟩
  have gl5 := BG.lt
  replace BG := (BG.keep hb6).alloc' (.cells #[.int .i64 d, .slice qj js.length dj, .slice none 0 0, .slice none 0 0] 53)
  have BN := Blk.new w6 53 #[.int .i64 d, .slice qj js.length dj, .slice none 0 0, .slice none 0 0]
  have H6 : Below (bf + 1) w2 (w6.alloc (.cells #[.int .i64 d, .slice qj js.length dj, .slice none 0 0, .slice none 0 0] 53)) := (below_st H5 hb6 (by omega)).alloc (by have := (below_st H5 hb6 (by omega) : Below (bf + 1) w2 w6).size; omega) _
  replace SJ : OwnS _ (bg + 1) qj js := (SJ.mono (by omega)).below ((Below.refl _ w6).alloc (Nat.le_refl _) (.cells #[.int .i64 d, .slice qj js.length dj, .slice none 0 0, .slice none 0 0] 53))
  have hbn : bg < w6.heap.size := by have := hb6.size; omega
  clear H5 hb6 gl4 gl5
  have BF6 := KF _ H6
  have I6 := KR _ H6
  obtain ⟨f0, f1, f2⟩ := BF6.cell3
  obtain ⟨n0, n1, n2, n3⟩ := BN.cell4
  have fl := BF6.lt
  have nl := BN.lt
  go_wp2_with fail
  obtain ⟨bn, ebn⟩ : ∃ bn, w6.heap.size = bn := ⟨_, rfl⟩
  clear f0 f1 f2 n0 n1 n2 n3 BF6 fl nl
  generalize w6.alloc (.cells #[.int .i64 d, .slice qj js.length dj, .slice none 0 0, .slice none 0 0] 53) = w7 at BG BN H6 SJ I6 ⊢
  rw [ebn] at BN hbn ⊢
  clear ebn w6
  have hJO : jitOk js = true := by
    unfold jitOk
    rw [Bool.and_eq_true, List.all_eq_true, decide_eq_true_eq]
    exact ⟨fun x hx => inB_iff.2 (by have := hj1 x hx; omega), by omega⟩
  have HAN := anS_jit hok hJO
  have HLW := jit_law hok hj1
  have HJS := fun wx hI hJ => impl_AddJitterS c f (some ⟨gq, 0, none⟩) l dq 0 qj js dj wx hI (by omega) hJ (by omega)
  have hJlen : (jiT ⟨c, f, l, 0⟩ js).l.length ≤ l.length := by have := jiS_len ⟨c, f, l, 0⟩ js; unfold jiS at this; simpa using this
  obtain ⟨J, eJ⟩ : ∃ J, jiT ⟨c, f, l, 0⟩ js = J := ⟨_, rfl⟩
  rw [eJ] at HAN HLW HJS hJlen
  obtain ⟨C0, F0, L0, E0⟩ := J
  simp only at HLW HJS hJlen
  clear eJ hJO
  refine (HJS _ I6 SJ.ints).mono ?_
  rintro e w8 ⟨q8, d8, rfl, S8, hb8⟩
  have z8 := hb8.size
  have gl7 := BG.lt
  have nl7 := BN.lt
  have zf : bf + 1 ≤ w7.heap.size := by omega
  have BG8 := BG.keep hb8
  have G8 := BG8.set3 (.int .i64 C0) (.int .i64 F0) (.slice q8 L0.length d8)
  have N8 := (BN.keep hb8).off3 (g := bg) (by omega) (.int .i64 C0) (.int .i64 F0) (.slice q8 L0.length d8)
  have J8 := (SJ.below hb8).set3 (g' := bg) (by omega) (.int .i64 C0) (.int .i64 F0) (.slice q8 L0.length d8)
  have H8 : Below (bf + 1) w2 (((w8.setCell ⟨bg, 0, none⟩ (.int .i64 C0)).setCell ⟨bg, 1, none⟩ (.int .i64 F0)).setCell ⟨bg, 2, none⟩ (.slice q8 L0.length d8)) := below_set3 (below_st H6 hb8 (by omega)) (by omega) _ _ _
  replace S8 : OwnS _ (bg + 1) q8 L0 := (S8.set3 (g' := bg) (by omega) (.int .i64 C0) (.int .i64 F0) (.slice q8 L0.length d8)).mono (by omega)
  have zs : (((w8.setCell ⟨bg, 0, none⟩ (.int .i64 C0)).setCell ⟨bg, 1, none⟩ (.int .i64 F0)).setCell ⟨bg, 2, none⟩ (.slice q8 L0.length d8)).heap.size = w8.heap.size := by simp [World.setCell]
  have BF8 := KF _ H8
  have I8 := KR _ H8
  obtain ⟨o0, o1, o2⟩ := BG8.cell3
  have of := BG8.frozen
  have ol := BG8.lt
  obtain ⟨f0, f1, f2⟩ := BF8.cell3
  obtain ⟨g0, g1, g2⟩ := G8.cell3
  have fl := BF8.lt
  clear BG BN SJ H6 I6 hb8 gl7 nl7
  go_wp2_with fail
  clear o0 o1 o2 of ol BG8 f0 f1 f2 g0 g1 g2 fl BF8
  generalize ((w8.setCell ⟨bg, 0, none⟩ (.int .i64 C0)).setCell ⟨bg, 1, none⟩ (.int .i64 F0)).setCell ⟨bg, 2, none⟩ (.slice q8 L0.length d8) = w9 at *
  refine (impl_JitterBetween c f _ l dq C0 F0 q8 L0 d8 _ I8 S8.ints (by omega) (by omega)).mono ?_
  rintro e w10 ⟨rfl, hb10⟩
  have z10 := hb10.size
  have G10 := G8.keep hb10
  have N10 := N8.keep hb10
  have J10 := J8.below hb10
  have S10 := S8.below hb10
  have H10 : Below (bf + 1) w2 w10 := below_st H8 hb10 (by omega)
  clear G8 N8 J8 S8 H8 I8 hb10
  have BFa := KF _ H10
  have Ia := KR _ H10
  have HLWh := Lib.hid HLW
  have HANh := Lib.hid HAN
  clear HLW HAN
  generalize hjv : jitV c f l C0 F0 L0 = JV at *
  generalize hjb : jitB c f l C0 F0 L0 = JB at *
  clear z8 zs zf z10 w8 w9
  go_wp2_with fail
  obtain ⟨wa, hwa⟩ : ∃ wa, wa = w10 := ⟨_, rfl⟩
  go_cut [68] (fun v wx => v = .bool false ∧ Below w10.heap.size w10 wx)
  case first =>
    by_cases hE : E0 = 0
    · obtain ⟨eJB, hJV, hr1, hr2⟩ := HLWh.out hE
      subst hE
      subst eJB
      have dJ : decide (1 < JV) = false := decide_eq_false (by omega)
      have RA := fun w' hI' => impl_RevolutionOf C0 F0 q8 L0 d8 w' hI' (by omega)
      have RB := fun w' hI' => impl_RevolutionOf c f (some ⟨gq, 0, none⟩) l dq w' hI' (by omega)
      rw [hr1] at RA
      rw [hr2] at RB
      obtain ⟨f0, f1, f2⟩ := BFa.cell3
      obtain ⟨g0, g1, g2⟩ := G10.cell3
      have I10d : IntsAt w10.drew q8 L0 := S10.ints
      have HRA := Lib.hid RA
      have HRB := Lib.hid RB
      clear RA RB KF KR KW hlong hM hI N10 J10 hr1 hr2 HLWh HANh hjv hjb HJS
      have S0 : (w10.drew.cell? ⟨bf, 0, none⟩ = some (.int .i64 c) ∧ w10.drew.cell? ⟨bf, 1, none⟩ = some (.int .i64 f) ∧ w10.drew.cell? ⟨bf, 2, none⟩ = some (.slice (some ⟨gq, 0, none⟩) l.length dq)) ∧ (w10.drew.cell? ⟨bg, 0, none⟩ = some (.int .i64 C0) ∧ w10.drew.cell? ⟨bg, 1, none⟩ = some (.int .i64 F0) ∧ w10.drew.cell? ⟨bg, 2, none⟩ = some (.slice q8 L0.length d8)) ∧ IntsAt w10.drew (some ⟨gq, 0, none⟩) l ∧ IntsAt w10.drew q8 L0 ∧ Below w10.heap.size w10 w10.drew := ⟨⟨f0, f1, f2⟩, ⟨g0, g1, g2⟩, Ia, I10d, (Below.refl _ _).drew⟩
      go_region_held3 (fun w' => (w'.cell? ⟨bf, 0, none⟩ = some (.int .i64 c) ∧ w'.cell? ⟨bf, 1, none⟩ = some (.int .i64 f) ∧ w'.cell? ⟨bf, 2, none⟩ = some (.slice (some ⟨gq, 0, none⟩) l.length dq)) ∧ (w'.cell? ⟨bg, 0, none⟩ = some (.int .i64 C0) ∧ w'.cell? ⟨bg, 1, none⟩ = some (.int .i64 F0) ∧ w'.cell? ⟨bg, 2, none⟩ = some (.slice q8 L0.length d8)) ∧ IntsAt w' (some ⟨gq, 0, none⟩) l ∧ IntsAt w' q8 L0 ∧ Below w10.heap.size w10 w')
        (first | with_reducible exact S0 | with_reducible exact S1 | with_reducible exact S2 | go_keep)
        (first | (go_at_call 20; (with_reducible refine (HRA.out _ S0.2.2.2.1).mono ?_); rintro e y1 ⟨rfl, hb1⟩; have BF1 : Blk y1 bf 26 #[.int .i64 c, .int .i64 f, .slice (some ⟨gq, 0, none⟩) l.length dq] := Blk.keep (w := w10.drew) (by exact BFa) hb1; have BG1 : Blk y1 bg 26 #[.int .i64 C0, .int .i64 F0, .slice q8 L0.length d8] := Blk.keep (w := w10.drew) (by exact G10) hb1; have S1 : (y1.cell? ⟨bf, 0, none⟩ = some (.int .i64 c) ∧ y1.cell? ⟨bf, 1, none⟩ = some (.int .i64 f) ∧ y1.cell? ⟨bf, 2, none⟩ = some (.slice (some ⟨gq, 0, none⟩) l.length dq)) ∧ (y1.cell? ⟨bg, 0, none⟩ = some (.int .i64 C0) ∧ y1.cell? ⟨bg, 1, none⟩ = some (.int .i64 F0) ∧ y1.cell? ⟨bg, 2, none⟩ = some (.slice q8 L0.length d8)) ∧ IntsAt y1 (some ⟨gq, 0, none⟩) l ∧ IntsAt y1 q8 L0 ∧ Below w10.heap.size w10 y1 := ⟨BF1.cell3, BG1.cell3, S0.2.2.1.below hb1, S0.2.2.2.1.below hb1, below_st S0.2.2.2.2 hb1 (Nat.le_refl _)⟩) | (go_at_call 20; (with_reducible refine (HRB.out _ S1.2.2.1).mono ?_); rintro e y2 ⟨rfl, hb2⟩; have S2 : (y2.cell? ⟨bf, 0, none⟩ = some (.int .i64 c) ∧ y2.cell? ⟨bf, 1, none⟩ = some (.int .i64 f) ∧ y2.cell? ⟨bf, 2, none⟩ = some (.slice (some ⟨gq, 0, none⟩) l.length dq)) ∧ (y2.cell? ⟨bg, 0, none⟩ = some (.int .i64 C0) ∧ y2.cell? ⟨bg, 1, none⟩ = some (.int .i64 F0) ∧ y2.cell? ⟨bg, 2, none⟩ = some (.slice q8 L0.length d8)) ∧ IntsAt y2 (some ⟨gq, 0, none⟩) l ∧ IntsAt y2 q8 L0 ∧ Below w10.heap.size w10 y2 := ⟨(BF1.keep hb2).cell3, (BG1.keep hb2).cell3, S1.2.2.1.below hb2, S1.2.2.2.1.below hb2, below_st S1.2.2.2.2 hb2 (Nat.le_refl _)⟩))
      all_goals
        go_wp2_with fail
        go_meet
        exact ⟨rfl, S2.2.2.2.2⟩
    · have dE : (E0 == 0) = false := by simpa using hE
      clear HLWh HANh HJS
      go_quiet (fail)
      go_wp2_with fail
      go_meet
      exact ⟨rfl, below_drewN (Below.refl _ _) _⟩
  case rest =>
    obtain ⟨rfl, hbc⟩ := hcut
    obtain ⟨wb, hwb⟩ : ∃ wb, wb = wc := ⟨_, rfl⟩
    subst hwb
    replace G10 := G10.keep hbc
    replace N10 := N10.keep hbc
    replace J10 := J10.below hbc
    replace S10 := S10.below hbc
    replace H10 : Below (bf + 1) w2 wb := below_st H10 hbc (by omega)
    clear BFa Ia hbc hwa wa
    have BFb := KF _ H10
    have Ib := KR _ H10
    obtain ⟨f0, f1, f2⟩ := BFb.cell3
    obtain ⟨n0, n1, n2, n3⟩ := N10.cell4
    have CN2 : ∀ wx, IntsAt wx (some ⟨gq, 0, none⟩) l → IntsAt wx qj js → Calls Try.prog 27 #[.agg #[.int .i64 c, .int .i64 f, .slice (some ⟨gq, 0, none⟩) l.length dq], .agg #[.int .i64 0, .slice qj js.length dj, .slice none 0 0, .slice none 0 0]] wx fun e' w' => ∃ (q : Option Addr) (d : Nat), e' = .returned (.tuple #[.agg #[.int .i64 C0, .int .i64 F0, .slice q L0.length d], .int .i64 E0]) ∧ OwnS w' wx.heap.size q L0 ∧ Below wx.heap.size wx w' := by
      intro wx hx hj
      have h := impl_AddNoise c f (some ⟨gq, 0, none⟩) l dq 0 qj none none js [] [] dj 0 0 wx hx hj (IntsAt.nil _ _) (SpansAt.nil _ _) (by simp [lensL]; omega) (by omega) (by simp) (by simp) (fun s hs => by simp at hs)
      rw [HANh.out] at h
      exact h
    clear HJS HANh HLWh
    go_wp2_with fail
    refine (CN2 _ Ib J10.ints).mono ?_
    rintro e w11 ⟨q11, d11, rfl, S11, hb11⟩
    have hgw := G10.lt
    have zb := H10.size
    replace G10 := (G10.keep hb11).alloc' (.cells #[.int .i64 C0, .int .i64 F0, .slice q11 L0.length d11] 26)
    have BH := Blk.new w11 26 #[.int .i64 C0, .int .i64 F0, .slice q11 L0.length d11]
    replace S10 := (S10.below hb11).below ((Below.refl _ w11).alloc (Nat.le_refl _) (.cells #[.int .i64 C0, .int .i64 F0, .slice q11 L0.length d11] 26))
    replace S11 := S11.below ((Below.refl _ w11).alloc (Nat.le_refl _) (.cells #[.int .i64 C0, .int .i64 F0, .slice q11 L0.length d11] 26))
    have H11 : Below (bf + 1) w2 (w11.alloc (.cells #[.int .i64 C0, .int .i64 F0, .slice q11 L0.length d11] 26)) := (below_st H10 hb11 (by omega)).alloc (by have := hb11.size; omega) _
    obtain ⟨g0, g1, g2⟩ := G10.cell3
    obtain ⟨h0, h1, h2⟩ := BH.cell3
    have gl := G10.lt
    have hlh := BH.lt
    clear f0 f1 f2 n0 n1 n2 n3 BFb Ib J10 N10 H10 hb11 CN2 hgw zb
    go_upto_region 13 with (fail)
    obtain ⟨bh, ebh⟩ : ∃ bh, w11.heap.size = bh := ⟨_, rfl⟩
    clear g0 g1 g2 h0 h1 h2 gl hlh
    generalize w11.alloc (.cells #[.int .i64 C0, .int .i64 F0, .slice q11 L0.length d11] 26) = w12 at *
    rw [ebh] at BH ⊢
    clear ebh w11
    go_cut [89] (fun v wx => v = .bool false ∧ Below w12.heap.size w12 wx)
    case first =>
      obtain ⟨g0, g1, g2⟩ := G10.cell3
      obtain ⟨h0, h1, h2⟩ := BH.cell3
      by_cases hE : E0 = 0
      · subst hE
        have RS := impl_SameFlux C0 F0 q8 L0 d8 C0 F0 q11 L0 d11 w12 S10.ints S11.ints (by omega) (by omega)
        rw [same_self] at RS
        go_wp2_with fail
        refine RS.mono ?_
        rintro e y1 ⟨rfl, hb1⟩
        go_wp2_with fail
        go_meet
        exact ⟨rfl, hb1⟩
      · have dE : (E0 == 0) = false := by simpa using hE
        go_wp2_with fail
        go_meet
        exact ⟨rfl, Below.refl _ _⟩
    case rest =>
      obtain ⟨rfl, hbc⟩ := hcut
      obtain ⟨wd, hwd⟩ : ∃ wd, wd = wc := ⟨_, rfl⟩
      subst hwd
      have gl := G10.lt
      replace G10 := G10.keep hbc
      have H13 : Below (bf + 1) w2 wd := below_st H11 hbc (by omega)
      clear S10 S11 BH H11 hbc
      have BF13 := KF _ H13
      have I13 := KR _ H13
      obtain ⟨f0, f1, f2⟩ := BF13.cell3
      have CC := fun wx hx => impl_ChangesOf c f (some ⟨gq, 0, none⟩) l dq wx hx (by omega)
      rw [(rev_ok hok).2] at CC
      have hTl := chgL_len f l
      rw [hTl] at CC
      go_wp2_with fail
      refine (CC _ I13).mono ?_
      rintro e w14 ⟨q14, d14, rfl, T14, hb14⟩
      have H14 : Below (bf + 1) w2 w14 := below_st H13 hb14 (by omega)
      have gl13 := G10.lt
      replace G10 := G10.keep hb14
      have hz14 : bg < wd.heap.size := gl13
      replace T14 : OwnS w14 (bg + 1) q14 (chgL f l) := T14.mono (by omega)
      clear f0 f1 f2 BF13 I13 CC H13 hb14 gl gl13
      have hlp := fluxOk_bd hok
      have hab := fun wx hx => laws_a2Byte pm ms capm (l.length : Int) wx hx (by omega) (by omega)
      go_wp2_with fail
      refine (hab _ (hM.below (KW _ H14))).mono ?_
      rintro e w15 ⟨k, rfl, hk, rfl⟩
      clear hab
      have HDL := drop_law (k := k) hok (by omega)
      have HDS := fun wx hI (b : Nat) hJ => impl_DropChangesS c f (some ⟨gq, 0, none⟩) l dq 0 (some ⟨b, 0, none⟩) [(k : Int)] 1 wx hI (by omega) hJ (by simp)
      have hDlen : (dpT ⟨c, f, l, 0⟩ [(k : Int)]).l.length ≤ l.length := by have := dpS_len ⟨c, f, l, 0⟩ [(k : Int)]; unfold dpS at this; simpa using this
      obtain ⟨D, eD⟩ : ∃ D, dpT ⟨c, f, l, 0⟩ [(k : Int)] = D := ⟨_, rfl⟩
      rw [eD] at HDL HDS hDlen
      obtain ⟨C1, F1, L1, E1⟩ := D
      simp only at HDL HDS hDlen
      have BFf := KF _ H14
      have HF15 : Below (bf + 1) w2 (w15.alloc (.cells #[.int .i64 (k : Int)] 2)) := H14.alloc (by have := H14.size; omega) _
      have I15 := KR _ HF15
      have G15 := G10.alloc' (.cells #[.int .i64 (k : Int)] 2)
      have T15 := T14.below ((Below.refl _ w15).alloc (Nat.le_refl _) (.cells #[.int .i64 (k : Int)] 2))
      have LI : IntsAt (w15.alloc (.cells #[.int .i64 (k : Int)] 2)) (some ⟨w15.heap.size, 0, none⟩) [(k : Int)] := by exact lit_ints w15 [(k : Int)]
      obtain ⟨f0, f1, f2⟩ := BFf.cell3
      have zz : w15.heap.size < (w15.alloc (.cells #[.int .i64 (k : Int)] 2)).heap.size := by simp
      clear eD G10 T14 H14
      go_wp2_with fail
      obtain ⟨b15, eb15⟩ : ∃ b15, w15.heap.size = b15 := ⟨_, rfl⟩
      clear f0 f1 f2 BFf
      generalize w15.alloc (.cells #[.int .i64 (k : Int)] 2) = w16 at *
      refine (HDS _ I15 _ LI).mono ?_
      rintro e w17 ⟨q17, d17, rfl, S17, hb17⟩
      have hz17 := hb17.size
      have G17 := G15.keep hb17
      have gl15 := G15.lt
      have G18 := G17.set3 (.int .i64 C1) (.int .i64 F1) (.slice q17 L1.length d17)
      have T18 := (T15.below hb17).set3 (g' := bg) (by omega) (.int .i64 C1) (.int .i64 F1) (.slice q17 L1.length d17)
      have H18 : Below (bf + 1) w2 (((w17.setCell ⟨bg, 0, none⟩ (.int .i64 C1)).setCell ⟨bg, 1, none⟩ (.int .i64 F1)).setCell ⟨bg, 2, none⟩ (.slice q17 L1.length d17)) := below_set3 (below_st HF15 hb17 (by omega)) (by omega) _ _ _
      have S18 : OwnS _ (bg + 1) q17 L1 := (S17.set3 (g' := bg) (by omega) (.int .i64 C1) (.int .i64 F1) (.slice q17 L1.length d17)).mono (by omega)
      obtain ⟨o0, o1, o2⟩ := G17.cell3
      have of := G17.frozen
      have ol := G17.lt
      obtain ⟨g0, g1, g2⟩ := G18.cell3
      clear HF15 I15 G15 T15 LI S17 hb17 HDS
      go_wp2_with fail
      clear o0 o1 o2 of G17
      generalize ((w17.setCell ⟨bg, 0, none⟩ (.int .i64 C1)).setCell ⟨bg, 1, none⟩ (.int .i64 F1)).setCell ⟨bg, 2, none⟩ (.slice q17 L1.length d17) = w18 at *
      refine (impl_ChangesOf C1 F1 q17 L1 d17 _ S18.ints (by omega)).mono ?_
      rintro e w19 ⟨q19, d19, rfl, T19, hb19⟩
      have H19 : Below (bf + 1) w2 w19 := below_st H18 hb19 (by omega)
      have T20 := T18.below hb19
      clear g0 g1 g2 G18 T18 H18 S18 hb19
      have W19 := KW _ H19
      clear KF KR KW H19
      obtain ⟨h6, h02, h0⟩ := HDL
      obtain ⟨X, eX⟩ : ∃ X, chV C1 F1 L1 = X := ⟨_, rfl⟩
      rw [eX] at T19 h0 ⊢
      clear eX
      generalize chgL f l = T at *
      have hl4 := hlp.2.1
      clear hlp hDlen hJlen hj1 hlong hI hM BF R2 W2 hjv hjb zz hz17 gl15 ol hok
      by_cases h2 : l.length < 2
      · have hE := h6 h2
        have d1 : decide ((l.length : Int) < 2) = true := decide_eq_true (by omega)
        clear h6 h02 h0
        subst hE
        go_wp2_with fail
        go_ret
        exact ⟨rfl, W19⟩
      · have d1 : decide ((l.length : Int) < 2) = false := decide_eq_false (by omega)
        rcases h02 (by omega) with hE | hE
        rotate_left
        · clear h6 h02 h0
          subst hE
          go_wp2_with fail
          go_ret
          exact ⟨rfl, W19⟩
        · have hX := h0 hE
          clear h6 h02 h0
          subst hE
          have hXl : X.length = l.length - 1 := by rw [hX, List.length_eraseIdx_of_lt (by omega)]; omega
          have qn : IntKind.i64.wrap ((l.length : Int) - 1) = (l.length : Int) - 1 := IntWalk.i64_in _ (by omega)
          have qx : ((X.length : Int) != (l.length : Int) - 1) = false := by simp; omega
          obtain ⟨gT, rfl, -, RT⟩ := T20 (by intro e; rw [e] at hTl; simp at hTl; omega)
          obtain ⟨gX, rfl, -, RX⟩ := T19 (by intro e; rw [e] at hXl; simp at hXl; omega)
          have hat : ∀ j (hj : j < X.length), (∀ h : j < k, X[j] = T[j]'(by omega)) ∧ (∀ h : k ≤ j, X[j] = T[j + 1]'(by omega)) := by
            intro j hj
            subst hX
            exact era_at hj (fun _ => by omega) (fun _ => by omega)
          have HAT := Lib.hid hat
          clear hat hX
          go_wp2_with fail
          go_loopw [16] (fun i wr => ∃ j : Nat, j ≤ X.length ∧ i = .int .i64 j ∧ Below w19.heap.size w19 wr) (fun i _ => X.length - (intOf i).toNat)
          case atStart => exact ⟨0, Nat.zero_le _, rfl, Below.refl _ _⟩
          case round =>
            obtain ⟨j, hj, rfl, hbel⟩ := hrel
            have hW := below_st W19 hbel (Nat.le_refl _)
            by_cases hlt : j < X.length
            · have hcX := ((RX.below hbel).cell hlt).1
              obtain ⟨x, ex⟩ : ∃ x, X[j] = x := ⟨_, rfl⟩
              rw [ex] at hcX
              by_cases hjk : j < k
              · have hcT := ((RT.below hbel).cell (show j < T.length by omega)).1
                rw [← (HAT.out j hlt).1 hjk, ex] at hcT
                have d2 : decide ((k : Int) ≤ (j : Int)) = false := decide_eq_false (by omega)
                clear ex
                go_wp2_with fail
                go_quiet (fail)
                go_wp2_with fail
                exact ⟨⟨j + 1, by omega, by go_num, below_drewN hbel _⟩, by simp [intOf]; omega⟩
              · have hcT := ((RT.below hbel).cell (show j + 1 < T.length by omega)).1
                rw [← (HAT.out j hlt).2 (by omega), ex] at hcT
                have d2 : decide ((k : Int) ≤ (j : Int)) = true := decide_eq_true (by omega)
                have q1 : IntKind.i64.wrap ((j : Int) + 1) = (j : Int) + 1 := IntWalk.i64_in _ (by omega)
                clear ex
                go_wp2_with fail
                go_quiet (fail)
                go_wp2_with fail
                exact ⟨⟨j + 1, by omega, by go_num, below_drewN hbel _⟩, by simp [intOf]; omega⟩
            · go_wp2_with fail
              go_ret
              exact ⟨rfl, hW⟩
end Go.Proofs.Ytfdcainjppljhaa
namespace Go.Proofs.Ytfdcainjppljhaa
set_option maxRecDepth 100000

theorem head_signs : (behindMainWord (wordsSigns Try.prog.initOrder.toList)).head? = some "cut".toList := by
  rw [show Try.prog.initOrder = String.ofList _ from rfl, String.toList_ofList]
  kernel_rfl
theorem head_cut : ∃ rest, behindMainWord (wordsSigns Try.prog.initOrder.toList) = "cut".toList :: rest := by
  have h := head_signs
  cases e : behindMainWord (wordsSigns Try.prog.initOrder.toList) with
  | nil => rw [e] at h; cases h
  | cons a l =>
    rw [e] at h
    simp only [List.head?_cons, Option.some.injEq] at h
    exact ⟨l, by rw [h]⟩
theorem strip_cut (rest : List (List Char)) : stripLifts liftWords ("cut".toList :: rest) = ([], "cut".toList :: rest) := by kernel_rfl
theorem head_lifts_of {P : Program} {rest : List (List Char)} (h : behindMainWord (wordsSigns P.initOrder.toList) = "cut".toList :: rest) : P.headLifts = [] := by
  unfold Program.headLifts
  rw [h, strip_cut]
  rfl
theorem may_enter_of {P : Program} {rest : List (List Char)} (h : behindMainWord (wordsSigns P.initOrder.toList) = "cut".toList :: rest)
    (h1 : P.laysLater = false) (h2 : P.bearsReflect = false) (h3 : P.doorFits [] = true) : P.mayEnter = true := by
  unfold Program.mayEnter
  rw [h]
  dsimp only
  rw [strip_cut, h1, h2, h3]
  simp
theorem lifts_final_of {P : Program} {rest : List (List Char)} (h : behindMainWord (wordsSigns P.initOrder.toList) = "cut".toList :: rest) : P.liftsFinal = false := by
  unfold Program.liftsFinal
  rw [h, head_lifts_of h]
  kernel_rfl
theorem make_cut_of {P : Program} {rest : List (List Char)} (h : behindMainWord (wordsSigns P.initOrder.toList) = "cut".toList :: rest) : P.make = some .cut := by
  unfold Program.make
  rw [h]
  kernel_rfl
theorem may_enter : Try.prog.mayEnter = true := by
  obtain ⟨rest, h⟩ := head_cut
  exact may_enter_of h (by kernel_rfl) (by kernel_rfl) (by kernel_rfl)
theorem lifts_final : Try.prog.liftsFinal = false := by
  obtain ⟨rest, h⟩ := head_cut
  exact lifts_final_of h
theorem make_cut : Try.prog.make = some .cut := by
  obtain ⟨rest, h⟩ := head_cut
  exact make_cut_of h
theorem own : ownKnob Try.prog.godebug = none := by kernel_rfl
theorem laidOut : laidOutB Try.prog = true := by kernel_rfl
theorem mapsRow : mapsRowed Try.prog = true := by kernel_rfl
theorem plain_keys : Try.prog.plainKeys = true := by kernel_rfl
theorem stops_heard : Try.prog.stopsHeard = true := by kernel_rfl
end Go.Proofs.Ytfdcainjppljhaa
