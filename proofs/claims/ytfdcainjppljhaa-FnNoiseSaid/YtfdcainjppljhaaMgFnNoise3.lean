/- The tests of a noise's drift, jitter, drops (as XJittW, XDropW, XDriftW have them). AddDrift. Printed by opgen.py. AddJitter. Printed by opgen.py. -/
import Derived.Test.YtfdcainjppljhaaMgFnNoise2
import Derived.Deep.RegionHeld3
import Derived.StillTailTactics
namespace Go.Proofs.Ytfdcainjppljhaa
open Go.RowKit
set_option linter.unusedVariables false
def jitOk (js : List Int) : Bool := js.all (fun x => inB x (-50) 50) && decide (js.length ≤ 4000)
theorem jitOk_at {js : List Int} (h : jitOk js = true) (i : Nat) (hi : i < js.length) : -50 ≤ js[i] ∧ js[i] ≤ 50 := by
  unfold jitOk at h
  rw [Bool.and_eq_true, List.all_eq_true] at h
  exact inB_iff.1 (h.1 _ (List.getElem_mem hi))
theorem jitOk_no {js : List Int} {i : Nat} (hi : i < js.length) (h : inB js[i] (-50) 50 = false) : jitOk js = false := by
  unfold jitOk
  rw [Bool.and_eq_false_iff]
  exact .inl (List.all_eq_false.2 ⟨_, List.getElem_mem hi, by rw [h]; decide⟩)
theorem jitOk_yes {js : List Int} (h : ∀ i (hi : i < js.length), inB js[i] (-50) 50 = true) : jitOk js = decide (js.length ≤ 4000) := by
  unfold jitOk
  rw [List.all_eq_true.2 (fun x hx => by obtain ⟨i, hi, rfl⟩ := List.getElem_of_mem hx; exact h i hi), Bool.true_and]
theorem jit_step {js : List Int} {k : Nat} (hlt : k < js.length) (h : Hid (∀ i (hi : i < js.length), i < k → inB js[i] (-50) 50 = true)) (hk : inB js[k] (-50) 50 = true) :
    Hid (∀ i (hi : i < js.length), i < k + 1 → inB js[i] (-50) 50 = true) := by
  intro j hj hjk
  by_cases e : j = k
  · subst e; exact hk
  · exact h.out j hj (by omega)
set_option maxHeartbeats 1000000 in
set_option maxRecDepth 20000 in
theorem spec_l04Jitter (p : Option Addr) (js : List Int) (cap : Nat) (w : World) (hI : IntsAt w p js) (hl : js.length ≤ 1048576) :
    Calls Try.prog 97 #[.slice p js.length cap] w fun e w' => e = .returned (.bool (jitOk js)) ∧ Below w.heap.size w w' := by
  go_enter Try.func97, Try.ntmps97
  go_wp2_with fail
  go_loopw [3] (fun i wr => ∃ k : Nat, k ≤ js.length ∧ i = .int .i64 k ∧ Hid (∀ i (hi : i < js.length), i < k → inB js[i] (-50) 50 = true) ∧ wr = w) (fun i _ => js.length - (intOf i).toNat)
  case atStart => exact ⟨0, Nat.zero_le _, rfl, fun i _ h => absurd h (Nat.not_lt_zero _), rfl⟩
  case round =>
    obtain ⟨k, hk, rfl, HA, rfl⟩ := hrel
    by_cases hlt : k < js.length
    · obtain ⟨a, rfl, hx⟩ := hI.at_ hlt
      obtain hin | hin := (Bool.eq_false_or_eq_true (inB js[k] (-50) 50)).symm
      · have HN := Lib.hid (jitOk_no hlt hin)
        have HI := Lib.hid hin
        clear hin
        generalize js[k] = x at hx HI
        go_wp2_with (go_at_call 42; refine (l00In_any _ _ _ _).mono ?_; rintro e w' ⟨rfl, rfl⟩; try rw [HI.out])
        go_ret
        exact ⟨ret_bool HN.out.symm, Below.refl _ _⟩
      · have HN := Lib.hid (jit_step hlt HA hin)
        have HI := Lib.hid hin
        clear hin
        generalize js[k] = x at hx HI
        go_wp2_with (go_at_call 42; refine (l00In_any _ _ _ _).mono ?_; rintro e w' ⟨rfl, rfl⟩; try rw [HI.out])
        exact ⟨⟨k + 1, by omega, by go_num, HN.out, trivial⟩, by simp [intOf]; omega⟩
    · have HN := Lib.hid (jitOk_yes fun j hj => HA.out j hj (by omega))
      go_wp2_with fail
      go_ret
      exact ⟨ret_bool (by rw [HN.out]; simp; omega), Below.refl _ _⟩
set_option maxHeartbeats 1000000 in
set_option maxRecDepth 20000 in
theorem impl_validJitter (p : Option Addr) (js : List Int) (cap : Nat) (w : World) (hI : IntsAt w p js) (hl : js.length ≤ 1048576) :
    Calls Try.prog 68 #[.slice p js.length cap] w fun e w' => e = .returned (.bool (jitOk js)) ∧ Below w.heap.size w w' := by
  go_enter Try.func68, Try.ntmps68
  go_wp2_with fail
  go_loopw [7] (fun i wr => ∃ k : Nat, k ≤ js.length ∧ i = .int .i64 k ∧ Hid (∀ i (hi : i < js.length), i < k → inB js[i] (-50) 50 = true) ∧ wr = w) (fun i _ => js.length - (intOf i).toNat)
  case atStart => exact ⟨0, Nat.zero_le _, rfl, fun i _ h => absurd h (Nat.not_lt_zero _), rfl⟩
  case round =>
    obtain ⟨k, hk, rfl, HA, rfl⟩ := hrel
    by_cases hlt : k < js.length
    · obtain ⟨a, rfl, hx⟩ := hI.at_ hlt
      obtain hin | hin := (Bool.eq_false_or_eq_true (inB js[k] (-50) 50)).symm
      · have HN := Lib.hid (jitOk_no hlt hin)
        have HI := Lib.hid hin
        clear hin
        generalize js[k] = x at hx HI
        go_wp2_with (go_at_call 48; refine (within_any _ _ _ _).mono ?_; rintro e w' ⟨rfl, rfl⟩; try rw [HI.out])
        go_ret
        exact ⟨ret_bool HN.out.symm, Below.refl _ _⟩
      · have HN := Lib.hid (jit_step hlt HA hin)
        have HI := Lib.hid hin
        clear hin
        generalize js[k] = x at hx HI
        go_wp2_with (go_at_call 48; refine (within_any _ _ _ _).mono ?_; rintro e w' ⟨rfl, rfl⟩; try rw [HI.out])
        exact ⟨⟨k + 1, by omega, by go_num, HN.out, trivial⟩, by simp [intOf]; omega⟩
    · have HN := Lib.hid (jitOk_yes fun j hj => HA.out j hj (by omega))
      go_wp2_with fail
      go_ret
      exact ⟨ret_bool (by rw [HN.out]; simp; omega), Below.refl _ _⟩
theorem spec_l04Drops (p : Option Addr) (js : List Int) (cap : Nat) (w : World) (hI : IntsAt w p js) (hl : js.length ≤ 1048576) :
    Calls Try.prog 98 #[.slice p js.length cap] w fun e w' => e = .returned (.bool (risesB js 0 3999)) ∧ Below w.heap.size w w' := by
  go_enter Try.func98, Try.ntmps98
  go_wp2_with (go_at_call 90; refine (spec_l00Rises _ _ _ _ _ _ hI hl).mono ?_; rintro e w1 ⟨rfl, hb⟩)
  go_ret
  exact ⟨rfl, hb⟩
theorem impl_validDrops (p : Option Addr) (js : List Int) (cap : Nat) (w : World) (hI : IntsAt w p js) (hl : js.length ≤ 1048576) :
    Calls Try.prog 69 #[.slice p js.length cap] w fun e w' => e = .returned (.bool (risesB js 0 3999)) ∧ Below w.heap.size w w' := by
  go_enter Try.func69, Try.ntmps69
  go_wp2_with (go_at_call 88; refine (impl_rises _ _ _ _ _ _ hI hl).mono ?_; rintro e w1 ⟨rfl, hb⟩)
  go_ret
  exact ⟨rfl, hb⟩
theorem spec_l04Drift (d : Int) (w : World) :
    Calls Try.prog 96 #[.int .i64 d] w fun e w' => e = .returned (.bool (inB d (-100) 100)) ∧ Below w.heap.size w w' := by
  go_enter Try.func96, Try.ntmps96
  go_wp2_with (go_at_call 42; refine (l00In_any _ _ _ _).mono ?_; rintro e w' ⟨rfl, rfl⟩)
  go_ret
  exact ⟨rfl, Below.refl _ _⟩
theorem impl_validDrift (d : Int) (w : World) :
    Calls Try.prog 92 #[.int .i64 d] w fun e w' => e = .returned (.bool (inB d (-100) 100)) ∧ Below w.heap.size w w' := by
  go_enter Try.func92, Try.ntmps92
  go_wp2_with (go_at_call 48; refine (within_any _ _ _ _).mono ?_; rintro e w' ⟨rfl, rfl⟩)
  go_ret
  exact ⟨rfl, Below.refl _ _⟩
end Go.Proofs.Ytfdcainjppljhaa
namespace Go.Proofs.Ytfdcainjppljhaa
open Go.RowKit
set_option linter.unusedVariables false
def driftL (f : Int) (l : List Int) (d : Int) : List Int := (chgL f l).map fun x => (x * (1000 + d)).tdiv 1000
theorem drift_len (f : Int) (l : List Int) (d : Int) : (driftL f l d).length = l.length := by rw [driftL, List.length_map, chgL_len]
set_option maxHeartbeats 4000000 in
set_option maxRecDepth 20000 in
theorem spec_AddDrift (c f : Int) (p : Option Addr) (l : List Int) (cap : Nat) (d : Int) (w : World) (hI : IntsAt w p l) (hl : l.length ≤ 1048576)  :
    Calls Try.prog 74 #[.agg #[.int .i64 c, .int .i64 f, .slice p l.length cap], .int .i64 d] w fun e w' => ∃ (q : Option Addr) (dq : Nat), e = .returned (.tuple #[.agg #[.int .i64 (fxC (fluxOk c f l && inB d (-100) 100) (driftL f l d) (l.sum * (1000 + d) / 1000) c), .int .i64 (fxF (fluxOk c f l && inB d (-100) 100) (driftL f l d) (l.sum * (1000 + d) / 1000) c), .slice q (fxL (fluxOk c f l && inB d (-100) 100) (driftL f l d) (l.sum * (1000 + d) / 1000) c).length dq], .int .i64 (fxE (fluxOk c f l && inB d (-100) 100) (driftL f l d) (l.sum * (1000 + d) / 1000) c)]) ∧ OwnS w' w.heap.size q (fxL (fluxOk c f l && inB d (-100) 100) (driftL f l d) (l.sum * (1000 + d) / 1000) c) ∧ Below w.heap.size w w' := by
  have BF0 := (Blk.new w 26 #[.int .i64 c, .int .i64 f, .slice p l.length cap]).alloc' (.cells #[.int .i64 0, .int .i64 0, .slice none 0 0] 26)
  have R0 := Blk.new (w.alloc (.cells #[.int .i64 c, .int .i64 f, .slice p l.length cap] 26)) 26 #[.int .i64 0, .int .i64 0, .slice none 0 0]
  have esz : (w.alloc (.cells #[.int .i64 c, .int .i64 f, .slice p l.length cap] 26)).heap.size = w.heap.size + 1 := by simp
  rw [esz] at R0
  have W0 : Below w.heap.size w ((w.alloc (.cells #[.int .i64 c, .int .i64 f, .slice p l.length cap] 26)).alloc (.cells #[.int .i64 0, .int .i64 0, .slice none 0 0] 26)) := ((Below.refl _ _).alloc (Nat.le_refl _) _).alloc (by simp) _
  clear esz
  obtain ⟨f0, f1, f2⟩ := BF0.cell3
  obtain h1 | h1 := (Bool.eq_false_or_eq_true (fluxOk c f l)).symm
  · have hv : (fluxOk c f l && inB d (-100) 100) = false := by simp [h1]
    have HC : Hid (fxC (fluxOk c f l && inB d (-100) 100) (driftL f l d) (l.sum * (1000 + d) / 1000) c = 0) := Lib.hid (by unfold fxC; rw [hv]; rfl)
    have HF : Hid (fxF (fluxOk c f l && inB d (-100) 100) (driftL f l d) (l.sum * (1000 + d) / 1000) c = 0) := Lib.hid (by unfold fxF; rw [hv]; rfl)
    have HL : Hid (fxL (fluxOk c f l && inB d (-100) 100) (driftL f l d) (l.sum * (1000 + d) / 1000) c = []) := Lib.hid (by unfold fxL; rw [hv]; rfl)
    have HE : Hid (fxE (fluxOk c f l && inB d (-100) 100) (driftL f l d) (l.sum * (1000 + d) / 1000) c = 1) := Lib.hid (by unfold fxE; rw [hv]; rfl)
    have H := Lib.hid h1
    clear h1 hv
    go_enter Try.func74, Try.ntmps74
    go_wp2_with fail
    generalize (w.alloc (.cells #[.int .i64 c, .int .i64 f, .slice p l.length cap] 26)).alloc (.cells #[.int .i64 0, .int .i64 0, .slice none 0 0] 26) = w0 at BF0 R0 W0 f0 f1 f2 ⊢
    refine (spec_l02Ok c f p l cap _ _ (hI.below W0) hl BF0).mono ?_
    rintro e w1 ⟨rfl, hb1⟩
    rw [H.out]
    have R1 := R0.keep hb1
    have BF1 := BF0.keep hb1
    have hw1 := below_st W0 hb1 (Nat.le_refl _)
    obtain ⟨r0, r1', r2⟩ := R1.cell3
    have rf := R1.frozen
    have rlt := R1.lt
    obtain ⟨e0, e1, e2⟩ := (R1.set3 (.int .i64 0) (.int .i64 0) (.slice none 0 0)).cell3
    go_wp2_with fail
    refine bodyPost_ret (v := .tuple #[.agg #[.int .i64 0, .int .i64 0, .slice none 0 0], .int .i64 1]) (by simp [results, Try.results74, go_sem, e0, e1, e2]) rfl ?_
    rw [HC.out, HF.out, HL.out, HE.out]
    exact ⟨none, 0, rfl, OwnS.nil_ _ _ _, ((hw1.setCell (p := ⟨w.heap.size + 1, 0, none⟩) (Nat.le_succ _) _).setCell (p := ⟨w.heap.size + 1, 1, none⟩) (Nat.le_succ _) _).setCell (p := ⟨w.heap.size + 1, 2, none⟩) (Nat.le_succ _) _⟩
  obtain h2 | h2 := (Bool.eq_false_or_eq_true (inB d (-100) 100)).symm
  · have hv : (fluxOk c f l && inB d (-100) 100) = false := by simp [h2]
    have HC : Hid (fxC (fluxOk c f l && inB d (-100) 100) (driftL f l d) (l.sum * (1000 + d) / 1000) c = 0) := Lib.hid (by unfold fxC; rw [hv]; rfl)
    have HF : Hid (fxF (fluxOk c f l && inB d (-100) 100) (driftL f l d) (l.sum * (1000 + d) / 1000) c = 0) := Lib.hid (by unfold fxF; rw [hv]; rfl)
    have HL : Hid (fxL (fluxOk c f l && inB d (-100) 100) (driftL f l d) (l.sum * (1000 + d) / 1000) c = []) := Lib.hid (by unfold fxL; rw [hv]; rfl)
    have HE : Hid (fxE (fluxOk c f l && inB d (-100) 100) (driftL f l d) (l.sum * (1000 + d) / 1000) c = 1) := Lib.hid (by unfold fxE; rw [hv]; rfl)
    have H := Lib.hid h1
    have H2 := Lib.hid h2
    clear h1 h2 hv
    go_enter Try.func74, Try.ntmps74
    go_wp2_with fail
    generalize (w.alloc (.cells #[.int .i64 c, .int .i64 f, .slice p l.length cap] 26)).alloc (.cells #[.int .i64 0, .int .i64 0, .slice none 0 0] 26) = w0 at BF0 R0 W0 f0 f1 f2 ⊢
    refine (spec_l02Ok c f p l cap _ _ (hI.below W0) hl BF0).mono ?_
    rintro e w1 ⟨rfl, hb1⟩
    rw [H.out]
    have R1 := R0.keep hb1
    have BF1 := BF0.keep hb1
    have hw1 := below_st W0 hb1 (Nat.le_refl _)
    go_wp2_with fail
    refine (spec_l04Drift d _).mono ?_
    rintro e w2 ⟨rfl, hb2⟩
    rw [H2.out]
    have R2 := R1.keep hb2
    have hw2 := below_st hw1 hb2 (Nat.le_refl _)
    obtain ⟨r0, r1', r2⟩ := R2.cell3
    have rf := R2.frozen
    have rlt := R2.lt
    obtain ⟨e0, e1, e2⟩ := (R2.set3 (.int .i64 0) (.int .i64 0) (.slice none 0 0)).cell3
    go_wp2_with fail
    refine bodyPost_ret (v := .tuple #[.agg #[.int .i64 0, .int .i64 0, .slice none 0 0], .int .i64 1]) (by simp [results, Try.results74, go_sem, e0, e1, e2]) rfl ?_
    rw [HC.out, HF.out, HL.out, HE.out]
    exact ⟨none, 0, rfl, OwnS.nil_ _ _ _, ((hw2.setCell (p := ⟨w.heap.size + 1, 0, none⟩) (Nat.le_succ _) _).setCell (p := ⟨w.heap.size + 1, 1, none⟩) (Nat.le_succ _) _).setCell (p := ⟨w.heap.size + 1, 2, none⟩) (Nat.le_succ _) _⟩
  have hv : (fluxOk c f l && inB d (-100) 100) = true := by simp [h1, h2]
  obtain ⟨-, hlen, hgm, hpre, hf0, hsum⟩ := fluxOk_bd h1
  have hsums := fluxOk_sums h1
  have hcb := chg_bd h1
  have hd := inB_iff.1 h2
  have HC : Hid (fxC (fluxOk c f l && inB d (-100) 100) (driftL f l d) (l.sum * (1000 + d) / 1000) c = tmC (driftL f l d) (l.sum * (1000 + d) / 1000) c) := Lib.hid (by unfold fxC; rw [hv]; rfl)
  have HF : Hid (fxF (fluxOk c f l && inB d (-100) 100) (driftL f l d) (l.sum * (1000 + d) / 1000) c = tmF (driftL f l d) (l.sum * (1000 + d) / 1000) c) := Lib.hid (by unfold fxF; rw [hv]; rfl)
  have HL : Hid (fxL (fluxOk c f l && inB d (-100) 100) (driftL f l d) (l.sum * (1000 + d) / 1000) c = tmL (driftL f l d) (l.sum * (1000 + d) / 1000) c) := Lib.hid (by unfold fxL; rw [hv]; rfl)
  have HE : Hid (fxE (fluxOk c f l && inB d (-100) 100) (driftL f l d) (l.sum * (1000 + d) / 1000) c = tmE 2 (driftL f l d) (l.sum * (1000 + d) / 1000) c) := Lib.hid (by unfold fxE; rw [hv]; rfl)
  have H := Lib.hid h1
  have H2 := Lib.hid h2
  have HS := Lib.hid hsums
  have HCB := Lib.hid hcb
  have HGM := Lib.hid hgm
  have hml : ((driftL f l d)).length = (chgL f l).length := by simp [driftL]
  have hma : ∀ k (h : k < (chgL f l).length), ((driftL f l d))[k]'(by rw [hml]; exact h) = ((chgL f l)[k] * (1000 + d)).tdiv 1000 := fun k h => by simp [driftL]
  have hcl := chgL_len f l
  clear h1 h2 hv hsums hcb hgm hpre
  go_enter Try.func74, Try.ntmps74
  go_wp2_with fail
  generalize (w.alloc (.cells #[.int .i64 c, .int .i64 f, .slice p l.length cap] 26)).alloc (.cells #[.int .i64 0, .int .i64 0, .slice none 0 0] 26) = w0 at BF0 R0 W0 f0 f1 f2 ⊢
  refine (spec_l02Ok c f p l cap _ _ (hI.below W0) hl BF0).mono ?_
  rintro e w1 ⟨rfl, hb1⟩
  rw [H.out]
  have R1 := R0.keep hb1
  have BF1 := BF0.keep hb1
  have hw1 := below_st W0 hb1 (Nat.le_refl _)
  clear f0 f1 f2
  obtain ⟨f0, f1, f2⟩ := BF1.cell3
  go_wp2_with fail
  refine (spec_l04Drift d _).mono ?_
  rintro e w2 ⟨rfl, hb2⟩
  rw [H2.out]
  have R2 := R1.keep hb2
  have BF2 := BF1.keep hb2
  have hw2 := below_st hw1 hb2 (Nat.le_refl _)
  clear f0 f1 f2
  obtain ⟨f0, f1, f2⟩ := BF2.cell3
  go_wp2_with fail
  refine (spec_l02Changes c f p l cap _ _ (hI.below hw2) hl HS.out.2 BF2).mono ?_
  rintro e w3 ⟨q, dq, rfl, S3, hb3⟩
  have R3 := R2.keep hb3
  have BF3 := BF2.keep hb3
  have hw3 := below_st hw2 hb3 (Nat.le_refl _)
  obtain ⟨g, rfl, hg, hrow0⟩ := S3 (by intro e; rw [e] at hcl; simp at hcl; omega)
  have hz3 := hb3.size
  have hzR := R2.lt
  have hzF := BF2.lt
  clear hb3 S3 f0 f1 f2
  generalize hX : (driftL f l d) = T at *
  generalize hY : chgL f l = X at *
  obtain ⟨B, eB⟩ : ∃ B, w2.heap.size = B := ⟨_, rfl⟩
  rw [eB] at hg hz3 hzR hzF
  rw [hcl]
  go_wp2_with fail
  go_loopw [7] (fun i wr => ∃ k : Nat, k ≤ l.length ∧ i = .int .i64 k ∧ RowI wr g (T.take k ++ X.drop k) ∧ Below B w3 wr) (fun i _ => l.length - (intOf i).toNat)
  case atStart => exact ⟨0, Nat.zero_le _, rfl, by simpa using hrow0, Below.refl _ _⟩
  case round =>
    obtain ⟨k, hk, rfl, hrow, hbel⟩ := hrel
    by_cases hlt : k < l.length
    · have hkX : k < X.length := by omega
      have hnow : (T.take k ++ X.drop k).length = X.length := by simp; omega
      obtain ⟨hc, hf⟩ := hrow.cell (k := k) (by omega)
      rw [mix_at hml hkX] at hc
      have hxb := HCB.out k hkX
      have hset := hrow.set_ k (T[k]'(by omega))
      rw [mix_set hml hkX, hma k hkX] at hset
      obtain ⟨x, ex⟩ : ∃ x, X[k] = x := ⟨_, rfl⟩
      rw [ex] at hc hxb hset
      have m0 : 0 ≤ x * (1000 + d) ∧ x * (1000 + d) ≤ 4400000000 := by have h3 := Int.mul_nonneg hxb.1 (show 0 ≤ 1000 + d by omega); have h4 := Int.mul_le_mul hxb.2 (show 1000 + d ≤ 1100 by omega) (show 0 ≤ 1000 + d by omega) (by omega : (0 : Int) ≤ 4000000); omega
      obtain ⟨y, ey⟩ : ∃ y, x * (1000 + d) = y := ⟨_, rfl⟩
      have q1 : IntKind.i64.wrap y = y := IntWalk.i64_in _ (by omega)
      rw [ey] at hset m0
      have hya := Lib.hid hset
      clear hset
      have ht : y.tdiv 1000 = y / 1000 := Int.tdiv_eq_ediv_of_nonneg (by omega)
      go_wp2_with fail
      refine ⟨⟨k + 1, by omega, by go_num, ?_, hbel.setCell (p := ⟨g, k, none⟩) hg _⟩, by simp [intOf]; omega⟩
      have := hya.out
      rw [ht] at this
      exact this
    · have hT : T.take k ++ X.drop k = T := by rw [List.take_of_length_le (by omega), List.drop_of_length_le (by omega), List.append_nil]
      rw [hT] at hrow
      have ST : OwnS wr B (some ⟨g, 0, none⟩) T := OwnS.of_row hrow hg
      have Rr := R3.below hbel hzR
      have BFr := BF3.below hbel hzF
      have hwr : Below w.heap.size w wr := hw3.trans (hbel.mono (by have := hw2.size; omega))
      obtain ⟨f0, f1, f2⟩ := BFr.cell3
      have hTl : T.length ≤ 1048576 := by omega
      have hsb : 0 ≤ l.sum ∧ l.sum ≤ 2000000 := hsum
      have m0 : 0 ≤ l.sum * (1000 + d) ∧ l.sum * (1000 + d) ≤ 2200000000 := by have h3 := Int.mul_nonneg hsb.1 (show 0 ≤ 1000 + d by omega); have h4 := Int.mul_le_mul hsb.2 (show 1000 + d ≤ 1100 by omega) (show 0 ≤ 1000 + d by omega) (by omega : (0 : Int) ≤ 2000000); omega
      obtain ⟨y, ey⟩ : ∃ y, l.sum * (1000 + d) = y := ⟨_, rfl⟩
      rw [ey] at m0
      have HREV : Hid (l.sum * (1000 + d) / 1000 = y / 1000) := Lib.hid (by rw [ey])
      have q1 : IntKind.i64.wrap y = y := IntWalk.i64_in _ (by omega)
      have q2 : IntKind.i64.wrap (1000 + d) = 1000 + d := IntWalk.i64_in _ (by omega)
      have ht : y.tdiv 1000 = y / 1000 := Int.tdiv_eq_ediv_of_nonneg (by omega)
      have q3 : IntKind.i64.wrap (y / 1000) = y / 1000 := IntWalk.i64_in _ (by omega)
      have hrb : -9223372036854775808 ≤ y / 1000 ∧ y / 1000 ≤ 9223372036854775807 := by omega
      have Rd := Rr.drew
      have Bd := BFr.drew
      have hwd := hwr.drew
      have hzw := hwr.size
      have hzr' := Rr.lt
      have CD := fun (q : Option Addr) (d5 : Nat) (w5 : World) (h : IntsAt w5 q T) => spec_l04Done q T d5 (y / 1000) c w5 h hTl hrb
      have hTL : T.length = l.length := by omega
      simp only [hTL] at CD
      go_wp2_with fail
      have keepS : ∀ y1 y2 : World, ((w.heap.size < y1.heap.size ∧ y1.cell? ⟨w.heap.size, 0, none⟩ = some (.int .i64 c) ∧ y1.cell? ⟨w.heap.size, 1, none⟩ = some (.int .i64 f) ∧ y1.cell? ⟨w.heap.size, 2, none⟩ = some (.slice p l.length cap)) ∧ OwnS y1 B (some ⟨g, 0, none⟩) T ∧ Below w.heap.size w y1) → Below y1.heap.size y1 y2 → ((w.heap.size < y2.heap.size ∧ y2.cell? ⟨w.heap.size, 0, none⟩ = some (.int .i64 c) ∧ y2.cell? ⟨w.heap.size, 1, none⟩ = some (.int .i64 f) ∧ y2.cell? ⟨w.heap.size, 2, none⟩ = some (.slice p l.length cap)) ∧ OwnS y2 B (some ⟨g, 0, none⟩) T ∧ Below w.heap.size w y2) := by
        rintro y1 y2 ⟨⟨s0, s1, s2, s3⟩, s4, s5⟩ hb
        obtain ⟨hc, -⟩ := bcell hb
        have := hb.size
        exact ⟨⟨by omega, (hc _ _ s0).trans s1, (hc _ _ s0).trans s2, (hc _ _ s0).trans s3⟩, s4.below hb, below_st s5 hb (Nat.le_refl _)⟩
      have keepW : ∀ (y : World) (i : Nat) (v : Value), ((w.heap.size < y.heap.size ∧ y.cell? ⟨w.heap.size, 0, none⟩ = some (.int .i64 c) ∧ y.cell? ⟨w.heap.size, 1, none⟩ = some (.int .i64 f) ∧ y.cell? ⟨w.heap.size, 2, none⟩ = some (.slice p l.length cap)) ∧ OwnS y B (some ⟨g, 0, none⟩) T ∧ Below w.heap.size w y) → ((w.heap.size < (y.setCell ⟨w.heap.size + 1, i, none⟩ v).heap.size ∧ (y.setCell ⟨w.heap.size + 1, i, none⟩ v).cell? ⟨w.heap.size, 0, none⟩ = some (.int .i64 c) ∧ (y.setCell ⟨w.heap.size + 1, i, none⟩ v).cell? ⟨w.heap.size, 1, none⟩ = some (.int .i64 f) ∧ (y.setCell ⟨w.heap.size + 1, i, none⟩ v).cell? ⟨w.heap.size, 2, none⟩ = some (.slice p l.length cap)) ∧ OwnS (y.setCell ⟨w.heap.size + 1, i, none⟩ v) B (some ⟨g, 0, none⟩) T ∧ Below w.heap.size w (y.setCell ⟨w.heap.size + 1, i, none⟩ v)) := by
        rintro y i v ⟨⟨s0, s1, s2, s3⟩, s4, s5⟩
        have ho : ∀ j, (y.setCell ⟨w.heap.size + 1, i, none⟩ v).cell? ⟨w.heap.size, j, none⟩ = y.cell? ⟨w.heap.size, j, none⟩ := fun j => World.cell?_setCell_other _ _ _ _ (by intro h'; injection h' with h2; omega)
        exact ⟨⟨by simpa [World.setCell] using s0, (ho 0).trans s1, (ho 1).trans s2, (ho 2).trans s3⟩, s4.offS (g' := w.heap.size + 1) hzR i v, s5.setCell (p := ⟨w.heap.size + 1, i, none⟩) (Nat.le_succ _) _⟩
      have S0 : (w.heap.size < wr.drew.heap.size ∧ wr.drew.cell? ⟨w.heap.size, 0, none⟩ = some (.int .i64 c) ∧ wr.drew.cell? ⟨w.heap.size, 1, none⟩ = some (.int .i64 f) ∧ wr.drew.cell? ⟨w.heap.size, 2, none⟩ = some (.slice p l.length cap)) ∧ OwnS wr.drew B (some ⟨g, 0, none⟩) T ∧ Below w.heap.size w wr.drew := ⟨⟨Bd.lt, Bd.cell3.1, Bd.cell3.2.1, Bd.cell3.2.2⟩, ST.below (Below.refl _ _).drew, hwd⟩
      go_region_held3 (fun w' => (w.heap.size < w'.heap.size ∧ w'.cell? ⟨w.heap.size, 0, none⟩ = some (.int .i64 c) ∧ w'.cell? ⟨w.heap.size, 1, none⟩ = some (.int .i64 f) ∧ w'.cell? ⟨w.heap.size, 2, none⟩ = some (.slice p l.length cap)) ∧ OwnS w' B (some ⟨g, 0, none⟩) T ∧ Below w.heap.size w w')
        (first | with_reducible exact S0 | (with_reducible refine keepS _ _ S0 ?_; assumption) | (with_reducible refine keepW _ _ _ (keepW _ _ _ (keepW _ _ _ ?_)); exact keepS _ _ S0 hb5))
        (first | (go_at_call 63; refine (CD _ _ _ S0.2.1.ints).mono ?_; rintro e w5 ⟨q5, d5, rfl, S5, hb5⟩; have R5 := Rd.keep hb5; obtain ⟨r0, r1', r2⟩ := R5.cell3; have rf := R5.frozen) | (go_at_call 41; refine (spec_l02Revolution c f p l cap _ _ (by exact hI.below hwd) hl HS.out.1 (by exact Bd)).mono ?_; rintro e w' ⟨rfl, rfl⟩))
      all_goals
        have hw5 := below_st hwd hb5 (Nat.le_refl _)
        obtain ⟨e0, e1, e2⟩ := (R5.set3 (.int .i64 (tmC T (y / 1000) c)) (.int .i64 (tmF T (y / 1000) c)) (.slice q5 (tmL T (y / 1000) c).length d5)).cell3
        have S6 := ((S5.offS (g' := w.heap.size + 1) hzr' 0 (.int .i64 (tmC T (y / 1000) c))).offS (g' := w.heap.size + 1) hzr' 1 (.int .i64 (tmF T (y / 1000) c))).offS (g' := w.heap.size + 1) hzr' 2 (.slice q5 (tmL T (y / 1000) c).length d5)
        go_wp2_with fail
        refine bodyPost_ret (v := .tuple #[.agg #[.int .i64 (tmC T (y / 1000) c), .int .i64 (tmF T (y / 1000) c), .slice q5 (tmL T (y / 1000) c).length d5], .int .i64 (tmE 2 T (y / 1000) c)]) (by simp [results, Try.results74, go_sem, e0, e1, e2]) rfl ?_
        rw [hX, HC.out, HF.out, HL.out, HE.out]
        exact ⟨q5, d5, by rw [HREV.out], by rw [HREV.out]; exact S6.mono hzw, ((hw5.setCell (p := ⟨w.heap.size + 1, 0, none⟩) (Nat.le_succ _) _).setCell (p := ⟨w.heap.size + 1, 1, none⟩) (Nat.le_succ _) _).setCell (p := ⟨w.heap.size + 1, 2, none⟩) (Nat.le_succ _) _⟩
set_option maxHeartbeats 4000000 in
set_option maxRecDepth 20000 in
theorem impl_AddDrift (c f : Int) (p : Option Addr) (l : List Int) (cap : Nat) (d : Int) (w : World) (hI : IntsAt w p l) (hl : l.length ≤ 1048576)  :
    Calls Try.prog 65 #[.agg #[.int .i64 c, .int .i64 f, .slice p l.length cap], .int .i64 d] w fun e w' => ∃ (q : Option Addr) (dq : Nat), e = .returned (.tuple #[.agg #[.int .i64 (fxC (fluxOk c f l && inB d (-100) 100) (driftL f l d) (l.sum * (1000 + d) / 1000) c), .int .i64 (fxF (fluxOk c f l && inB d (-100) 100) (driftL f l d) (l.sum * (1000 + d) / 1000) c), .slice q (fxL (fluxOk c f l && inB d (-100) 100) (driftL f l d) (l.sum * (1000 + d) / 1000) c).length dq], .int .i64 (fxE (fluxOk c f l && inB d (-100) 100) (driftL f l d) (l.sum * (1000 + d) / 1000) c)]) ∧ OwnS w' w.heap.size q (fxL (fluxOk c f l && inB d (-100) 100) (driftL f l d) (l.sum * (1000 + d) / 1000) c) ∧ Below w.heap.size w w' := by
  have BF0 := (Blk.new w 26 #[.int .i64 c, .int .i64 f, .slice p l.length cap]).alloc' (.cells #[.int .i64 0, .int .i64 0, .slice none 0 0] 26)
  have R0 := Blk.new (w.alloc (.cells #[.int .i64 c, .int .i64 f, .slice p l.length cap] 26)) 26 #[.int .i64 0, .int .i64 0, .slice none 0 0]
  have esz : (w.alloc (.cells #[.int .i64 c, .int .i64 f, .slice p l.length cap] 26)).heap.size = w.heap.size + 1 := by simp
  rw [esz] at R0
  have W0 : Below w.heap.size w ((w.alloc (.cells #[.int .i64 c, .int .i64 f, .slice p l.length cap] 26)).alloc (.cells #[.int .i64 0, .int .i64 0, .slice none 0 0] 26)) := ((Below.refl _ _).alloc (Nat.le_refl _) _).alloc (by simp) _
  clear esz
  obtain ⟨f0, f1, f2⟩ := BF0.cell3
  obtain h1 | h1 := (Bool.eq_false_or_eq_true (fluxOk c f l)).symm
  · have hv : (fluxOk c f l && inB d (-100) 100) = false := by simp [h1]
    have HC : Hid (fxC (fluxOk c f l && inB d (-100) 100) (driftL f l d) (l.sum * (1000 + d) / 1000) c = 0) := Lib.hid (by unfold fxC; rw [hv]; rfl)
    have HF : Hid (fxF (fluxOk c f l && inB d (-100) 100) (driftL f l d) (l.sum * (1000 + d) / 1000) c = 0) := Lib.hid (by unfold fxF; rw [hv]; rfl)
    have HL : Hid (fxL (fluxOk c f l && inB d (-100) 100) (driftL f l d) (l.sum * (1000 + d) / 1000) c = []) := Lib.hid (by unfold fxL; rw [hv]; rfl)
    have HE : Hid (fxE (fluxOk c f l && inB d (-100) 100) (driftL f l d) (l.sum * (1000 + d) / 1000) c = 1) := Lib.hid (by unfold fxE; rw [hv]; rfl)
    have H := Lib.hid h1
    clear h1 hv
    go_enter Try.func65, Try.ntmps65
    go_wp2_with fail
    generalize (w.alloc (.cells #[.int .i64 c, .int .i64 f, .slice p l.length cap] 26)).alloc (.cells #[.int .i64 0, .int .i64 0, .slice none 0 0] 26) = w0 at BF0 R0 W0 f0 f1 f2 ⊢
    refine (impl_ValidFlux c f p l cap _ (hI.below W0) hl).mono ?_
    rintro e w1 ⟨rfl, hb1⟩
    rw [H.out]
    have R1 := R0.keep hb1
    have BF1 := BF0.keep hb1
    have hw1 := below_st W0 hb1 (Nat.le_refl _)
    obtain ⟨r0, r1', r2⟩ := R1.cell3
    have rf := R1.frozen
    have rlt := R1.lt
    obtain ⟨e0, e1, e2⟩ := (R1.set3 (.int .i64 0) (.int .i64 0) (.slice none 0 0)).cell3
    go_wp2_with fail
    refine bodyPost_ret (v := .tuple #[.agg #[.int .i64 0, .int .i64 0, .slice none 0 0], .int .i64 1]) (by simp [results, Try.results65, go_sem, e0, e1, e2]) rfl ?_
    rw [HC.out, HF.out, HL.out, HE.out]
    exact ⟨none, 0, rfl, OwnS.nil_ _ _ _, ((hw1.setCell (p := ⟨w.heap.size + 1, 0, none⟩) (Nat.le_succ _) _).setCell (p := ⟨w.heap.size + 1, 1, none⟩) (Nat.le_succ _) _).setCell (p := ⟨w.heap.size + 1, 2, none⟩) (Nat.le_succ _) _⟩
  obtain h2 | h2 := (Bool.eq_false_or_eq_true (inB d (-100) 100)).symm
  · have hv : (fluxOk c f l && inB d (-100) 100) = false := by simp [h2]
    have HC : Hid (fxC (fluxOk c f l && inB d (-100) 100) (driftL f l d) (l.sum * (1000 + d) / 1000) c = 0) := Lib.hid (by unfold fxC; rw [hv]; rfl)
    have HF : Hid (fxF (fluxOk c f l && inB d (-100) 100) (driftL f l d) (l.sum * (1000 + d) / 1000) c = 0) := Lib.hid (by unfold fxF; rw [hv]; rfl)
    have HL : Hid (fxL (fluxOk c f l && inB d (-100) 100) (driftL f l d) (l.sum * (1000 + d) / 1000) c = []) := Lib.hid (by unfold fxL; rw [hv]; rfl)
    have HE : Hid (fxE (fluxOk c f l && inB d (-100) 100) (driftL f l d) (l.sum * (1000 + d) / 1000) c = 1) := Lib.hid (by unfold fxE; rw [hv]; rfl)
    have H := Lib.hid h1
    have H2 := Lib.hid h2
    clear h1 h2 hv
    go_enter Try.func65, Try.ntmps65
    go_wp2_with fail
    generalize (w.alloc (.cells #[.int .i64 c, .int .i64 f, .slice p l.length cap] 26)).alloc (.cells #[.int .i64 0, .int .i64 0, .slice none 0 0] 26) = w0 at BF0 R0 W0 f0 f1 f2 ⊢
    refine (impl_ValidFlux c f p l cap _ (hI.below W0) hl).mono ?_
    rintro e w1 ⟨rfl, hb1⟩
    rw [H.out]
    have R1 := R0.keep hb1
    have BF1 := BF0.keep hb1
    have hw1 := below_st W0 hb1 (Nat.le_refl _)
    go_wp2_with fail
    refine (impl_validDrift d _).mono ?_
    rintro e w2 ⟨rfl, hb2⟩
    rw [H2.out]
    have R2 := R1.keep hb2
    have hw2 := below_st hw1 hb2 (Nat.le_refl _)
    obtain ⟨r0, r1', r2⟩ := R2.cell3
    have rf := R2.frozen
    have rlt := R2.lt
    obtain ⟨e0, e1, e2⟩ := (R2.set3 (.int .i64 0) (.int .i64 0) (.slice none 0 0)).cell3
    go_wp2_with fail
    refine bodyPost_ret (v := .tuple #[.agg #[.int .i64 0, .int .i64 0, .slice none 0 0], .int .i64 1]) (by simp [results, Try.results65, go_sem, e0, e1, e2]) rfl ?_
    rw [HC.out, HF.out, HL.out, HE.out]
    exact ⟨none, 0, rfl, OwnS.nil_ _ _ _, ((hw2.setCell (p := ⟨w.heap.size + 1, 0, none⟩) (Nat.le_succ _) _).setCell (p := ⟨w.heap.size + 1, 1, none⟩) (Nat.le_succ _) _).setCell (p := ⟨w.heap.size + 1, 2, none⟩) (Nat.le_succ _) _⟩
  have hv : (fluxOk c f l && inB d (-100) 100) = true := by simp [h1, h2]
  obtain ⟨-, hlen, hgm, hpre, hf0, hsum⟩ := fluxOk_bd h1
  have hsums := fluxOk_sums h1
  have hcb := chg_bd h1
  have hd := inB_iff.1 h2
  have HC : Hid (fxC (fluxOk c f l && inB d (-100) 100) (driftL f l d) (l.sum * (1000 + d) / 1000) c = tmC (driftL f l d) (l.sum * (1000 + d) / 1000) c) := Lib.hid (by unfold fxC; rw [hv]; rfl)
  have HF : Hid (fxF (fluxOk c f l && inB d (-100) 100) (driftL f l d) (l.sum * (1000 + d) / 1000) c = tmF (driftL f l d) (l.sum * (1000 + d) / 1000) c) := Lib.hid (by unfold fxF; rw [hv]; rfl)
  have HL : Hid (fxL (fluxOk c f l && inB d (-100) 100) (driftL f l d) (l.sum * (1000 + d) / 1000) c = tmL (driftL f l d) (l.sum * (1000 + d) / 1000) c) := Lib.hid (by unfold fxL; rw [hv]; rfl)
  have HE : Hid (fxE (fluxOk c f l && inB d (-100) 100) (driftL f l d) (l.sum * (1000 + d) / 1000) c = tmE 2 (driftL f l d) (l.sum * (1000 + d) / 1000) c) := Lib.hid (by unfold fxE; rw [hv]; rfl)
  have H := Lib.hid h1
  have H2 := Lib.hid h2
  have HS := Lib.hid hsums
  have HCB := Lib.hid hcb
  have HGM := Lib.hid hgm
  have hml : ((driftL f l d)).length = (chgL f l).length := by simp [driftL]
  have hma : ∀ k (h : k < (chgL f l).length), ((driftL f l d))[k]'(by rw [hml]; exact h) = ((chgL f l)[k] * (1000 + d)).tdiv 1000 := fun k h => by simp [driftL]
  have hcl := chgL_len f l
  clear h1 h2 hv hsums hcb hgm hpre
  go_enter Try.func65, Try.ntmps65
  go_wp2_with fail
  generalize (w.alloc (.cells #[.int .i64 c, .int .i64 f, .slice p l.length cap] 26)).alloc (.cells #[.int .i64 0, .int .i64 0, .slice none 0 0] 26) = w0 at BF0 R0 W0 f0 f1 f2 ⊢
  refine (impl_ValidFlux c f p l cap _ (hI.below W0) hl).mono ?_
  rintro e w1 ⟨rfl, hb1⟩
  rw [H.out]
  have R1 := R0.keep hb1
  have BF1 := BF0.keep hb1
  have hw1 := below_st W0 hb1 (Nat.le_refl _)
  clear f0 f1 f2
  obtain ⟨f0, f1, f2⟩ := BF1.cell3
  go_wp2_with fail
  refine (impl_validDrift d _).mono ?_
  rintro e w2 ⟨rfl, hb2⟩
  rw [H2.out]
  have R2 := R1.keep hb2
  have BF2 := BF1.keep hb2
  have hw2 := below_st hw1 hb2 (Nat.le_refl _)
  clear f0 f1 f2
  obtain ⟨f0, f1, f2⟩ := BF2.cell3
  go_wp2_with fail
  refine (impl_changes c f p l cap _ (hI.below hw2) hl HS.out.2).mono ?_
  rintro e w3 ⟨q, dq, rfl, S3, hb3⟩
  have R3 := R2.keep hb3
  have BF3 := BF2.keep hb3
  have hw3 := below_st hw2 hb3 (Nat.le_refl _)
  obtain ⟨g, rfl, hg, hrow0⟩ := S3 (by intro e; rw [e] at hcl; simp at hcl; omega)
  have hz3 := hb3.size
  have hzR := R2.lt
  have hzF := BF2.lt
  clear hb3 S3 f0 f1 f2
  generalize hX : (driftL f l d) = T at *
  generalize hY : chgL f l = X at *
  obtain ⟨B, eB⟩ : ∃ B, w2.heap.size = B := ⟨_, rfl⟩
  rw [eB] at hg hz3 hzR hzF
  rw [hcl]
  go_wp2_with fail
  go_loopw [22] (fun i wr => ∃ k : Nat, k ≤ l.length ∧ i = .int .i64 k ∧ RowI wr g (T.take k ++ X.drop k) ∧ Below B w3 wr) (fun i _ => l.length - (intOf i).toNat)
  case atStart => exact ⟨0, Nat.zero_le _, rfl, by simpa using hrow0, Below.refl _ _⟩
  case round =>
    obtain ⟨k, hk, rfl, hrow, hbel⟩ := hrel
    by_cases hlt : k < l.length
    · have hkX : k < X.length := by omega
      have hnow : (T.take k ++ X.drop k).length = X.length := by simp; omega
      obtain ⟨hc, hf⟩ := hrow.cell (k := k) (by omega)
      rw [mix_at hml hkX] at hc
      have hxb := HCB.out k hkX
      have hset := hrow.set_ k (T[k]'(by omega))
      rw [mix_set hml hkX, hma k hkX] at hset
      obtain ⟨x, ex⟩ : ∃ x, X[k] = x := ⟨_, rfl⟩
      rw [ex] at hc hxb hset
      have m0 : 0 ≤ x * (1000 + d) ∧ x * (1000 + d) ≤ 4400000000 := by have h3 := Int.mul_nonneg hxb.1 (show 0 ≤ 1000 + d by omega); have h4 := Int.mul_le_mul hxb.2 (show 1000 + d ≤ 1100 by omega) (show 0 ≤ 1000 + d by omega) (by omega : (0 : Int) ≤ 4000000); omega
      obtain ⟨y, ey⟩ : ∃ y, x * (1000 + d) = y := ⟨_, rfl⟩
      have q1 : IntKind.i64.wrap y = y := IntWalk.i64_in _ (by omega)
      rw [ey] at hset m0
      have hya := Lib.hid hset
      clear hset
      have ht : y.tdiv 1000 = y / 1000 := Int.tdiv_eq_ediv_of_nonneg (by omega)
      go_wp2_with fail
      refine ⟨⟨k + 1, by omega, by go_num, ?_, hbel.setCell (p := ⟨g, k, none⟩) hg _⟩, by simp [intOf]; omega⟩
      have := hya.out
      rw [ht] at this
      exact this
    · have hT : T.take k ++ X.drop k = T := by rw [List.take_of_length_le (by omega), List.drop_of_length_le (by omega), List.append_nil]
      rw [hT] at hrow
      have ST : OwnS wr B (some ⟨g, 0, none⟩) T := OwnS.of_row hrow hg
      have Rr := R3.below hbel hzR
      have BFr := BF3.below hbel hzF
      have hwr : Below w.heap.size w wr := hw3.trans (hbel.mono (by have := hw2.size; omega))
      obtain ⟨f0, f1, f2⟩ := BFr.cell3
      have hTl : T.length ≤ 1048576 := by omega
      have hsb : 0 ≤ l.sum ∧ l.sum ≤ 2000000 := hsum
      have m0 : 0 ≤ l.sum * (1000 + d) ∧ l.sum * (1000 + d) ≤ 2200000000 := by have h3 := Int.mul_nonneg hsb.1 (show 0 ≤ 1000 + d by omega); have h4 := Int.mul_le_mul hsb.2 (show 1000 + d ≤ 1100 by omega) (show 0 ≤ 1000 + d by omega) (by omega : (0 : Int) ≤ 2000000); omega
      obtain ⟨y, ey⟩ : ∃ y, l.sum * (1000 + d) = y := ⟨_, rfl⟩
      rw [ey] at m0
      have HREV : Hid (l.sum * (1000 + d) / 1000 = y / 1000) := Lib.hid (by rw [ey])
      have q1 : IntKind.i64.wrap y = y := IntWalk.i64_in _ (by omega)
      have q2 : IntKind.i64.wrap (1000 + d) = 1000 + d := IntWalk.i64_in _ (by omega)
      have ht : y.tdiv 1000 = y / 1000 := Int.tdiv_eq_ediv_of_nonneg (by omega)
      have q3 : IntKind.i64.wrap (y / 1000) = y / 1000 := IntWalk.i64_in _ (by omega)
      have hrb : -9223372036854775808 ≤ y / 1000 ∧ y / 1000 ≤ 9223372036854775807 := by omega
      have Rd := Rr.drew
      have Bd := BFr.drew
      have hwd := hwr.drew
      have hzw := hwr.size
      have hzr' := Rr.lt
      have CD := fun (q : Option Addr) (d5 : Nat) (w5 : World) (h : IntsAt w5 q T) => impl_changed q T d5 (y / 1000) c w5 h hTl hrb
      have hTL : T.length = l.length := by omega
      simp only [hTL] at CD
      go_wp2_with fail
      have keepS : ∀ y1 y2 : World, ((w.heap.size < y1.heap.size ∧ y1.cell? ⟨w.heap.size, 0, none⟩ = some (.int .i64 c) ∧ y1.cell? ⟨w.heap.size, 1, none⟩ = some (.int .i64 f) ∧ y1.cell? ⟨w.heap.size, 2, none⟩ = some (.slice p l.length cap)) ∧ OwnS y1 B (some ⟨g, 0, none⟩) T ∧ Below w.heap.size w y1) → Below y1.heap.size y1 y2 → ((w.heap.size < y2.heap.size ∧ y2.cell? ⟨w.heap.size, 0, none⟩ = some (.int .i64 c) ∧ y2.cell? ⟨w.heap.size, 1, none⟩ = some (.int .i64 f) ∧ y2.cell? ⟨w.heap.size, 2, none⟩ = some (.slice p l.length cap)) ∧ OwnS y2 B (some ⟨g, 0, none⟩) T ∧ Below w.heap.size w y2) := by
        rintro y1 y2 ⟨⟨s0, s1, s2, s3⟩, s4, s5⟩ hb
        obtain ⟨hc, -⟩ := bcell hb
        have := hb.size
        exact ⟨⟨by omega, (hc _ _ s0).trans s1, (hc _ _ s0).trans s2, (hc _ _ s0).trans s3⟩, s4.below hb, below_st s5 hb (Nat.le_refl _)⟩
      have keepW : ∀ (y : World) (i : Nat) (v : Value), ((w.heap.size < y.heap.size ∧ y.cell? ⟨w.heap.size, 0, none⟩ = some (.int .i64 c) ∧ y.cell? ⟨w.heap.size, 1, none⟩ = some (.int .i64 f) ∧ y.cell? ⟨w.heap.size, 2, none⟩ = some (.slice p l.length cap)) ∧ OwnS y B (some ⟨g, 0, none⟩) T ∧ Below w.heap.size w y) → ((w.heap.size < (y.setCell ⟨w.heap.size + 1, i, none⟩ v).heap.size ∧ (y.setCell ⟨w.heap.size + 1, i, none⟩ v).cell? ⟨w.heap.size, 0, none⟩ = some (.int .i64 c) ∧ (y.setCell ⟨w.heap.size + 1, i, none⟩ v).cell? ⟨w.heap.size, 1, none⟩ = some (.int .i64 f) ∧ (y.setCell ⟨w.heap.size + 1, i, none⟩ v).cell? ⟨w.heap.size, 2, none⟩ = some (.slice p l.length cap)) ∧ OwnS (y.setCell ⟨w.heap.size + 1, i, none⟩ v) B (some ⟨g, 0, none⟩) T ∧ Below w.heap.size w (y.setCell ⟨w.heap.size + 1, i, none⟩ v)) := by
        rintro y i v ⟨⟨s0, s1, s2, s3⟩, s4, s5⟩
        have ho : ∀ j, (y.setCell ⟨w.heap.size + 1, i, none⟩ v).cell? ⟨w.heap.size, j, none⟩ = y.cell? ⟨w.heap.size, j, none⟩ := fun j => World.cell?_setCell_other _ _ _ _ (by intro h'; injection h' with h2; omega)
        exact ⟨⟨by simpa [World.setCell] using s0, (ho 0).trans s1, (ho 1).trans s2, (ho 2).trans s3⟩, s4.offS (g' := w.heap.size + 1) hzR i v, s5.setCell (p := ⟨w.heap.size + 1, i, none⟩) (Nat.le_succ _) _⟩
      have S0 : (w.heap.size < wr.drew.heap.size ∧ wr.drew.cell? ⟨w.heap.size, 0, none⟩ = some (.int .i64 c) ∧ wr.drew.cell? ⟨w.heap.size, 1, none⟩ = some (.int .i64 f) ∧ wr.drew.cell? ⟨w.heap.size, 2, none⟩ = some (.slice p l.length cap)) ∧ OwnS wr.drew B (some ⟨g, 0, none⟩) T ∧ Below w.heap.size w wr.drew := ⟨⟨Bd.lt, Bd.cell3.1, Bd.cell3.2.1, Bd.cell3.2.2⟩, ST.below (Below.refl _ _).drew, hwd⟩
      go_region_held3 (fun w' => (w.heap.size < w'.heap.size ∧ w'.cell? ⟨w.heap.size, 0, none⟩ = some (.int .i64 c) ∧ w'.cell? ⟨w.heap.size, 1, none⟩ = some (.int .i64 f) ∧ w'.cell? ⟨w.heap.size, 2, none⟩ = some (.slice p l.length cap)) ∧ OwnS w' B (some ⟨g, 0, none⟩) T ∧ Below w.heap.size w w')
        (first | with_reducible exact S0 | (with_reducible refine keepS _ _ S0 ?_; assumption) | (with_reducible refine keepW _ _ _ (keepW _ _ _ (keepW _ _ _ ?_)); exact keepS _ _ S0 hb5))
        (first | (go_at_call 61; refine (CD _ _ _ S0.2.1.ints).mono ?_; rintro e w5 ⟨q5, d5, rfl, S5, hb5⟩; have R5 := Rd.keep hb5; obtain ⟨r0, r1', r2⟩ := R5.cell3; have rf := R5.frozen) | (go_at_call 47; refine (impl_total p l cap _ (by exact hI.below hwd) hl HS.out.1).mono ?_; rintro e w' ⟨rfl, rfl⟩))
      all_goals
        have hw5 := below_st hwd hb5 (Nat.le_refl _)
        obtain ⟨e0, e1, e2⟩ := (R5.set3 (.int .i64 (tmC T (y / 1000) c)) (.int .i64 (tmF T (y / 1000) c)) (.slice q5 (tmL T (y / 1000) c).length d5)).cell3
        have S6 := ((S5.offS (g' := w.heap.size + 1) hzr' 0 (.int .i64 (tmC T (y / 1000) c))).offS (g' := w.heap.size + 1) hzr' 1 (.int .i64 (tmF T (y / 1000) c))).offS (g' := w.heap.size + 1) hzr' 2 (.slice q5 (tmL T (y / 1000) c).length d5)
        go_wp2_with fail
        refine bodyPost_ret (v := .tuple #[.agg #[.int .i64 (tmC T (y / 1000) c), .int .i64 (tmF T (y / 1000) c), .slice q5 (tmL T (y / 1000) c).length d5], .int .i64 (tmE 2 T (y / 1000) c)]) (by simp [results, Try.results65, go_sem, e0, e1, e2]) rfl ?_
        rw [hX, HC.out, HF.out, HL.out, HE.out]
        exact ⟨q5, d5, by rw [HREV.out], by rw [HREV.out]; exact S6.mono hzw, ((hw5.setCell (p := ⟨w.heap.size + 1, 0, none⟩) (Nat.le_succ _) _).setCell (p := ⟨w.heap.size + 1, 1, none⟩) (Nat.le_succ _) _).setCell (p := ⟨w.heap.size + 1, 2, none⟩) (Nat.le_succ _) _⟩
end Go.Proofs.Ytfdcainjppljhaa
namespace Go.Proofs.Ytfdcainjppljhaa
open Go.RowKit
set_option linter.unusedVariables false
def jitL (f : Int) (l js : List Int) : List Int := (chgL f l).mapIdx fun i x => x + js.getD (i % js.length) 0
theorem jit_len (f : Int) (l js : List Int) : (jitL f l js).length = l.length := by rw [jitL, List.length_mapIdx, chgL_len]
theorem jitL_nil {f : Int} {l js : List Int} (h : js.length = 0) : jitL f l js = chgL f l := by
  obtain rfl : js = [] := List.length_eq_zero_iff.1 h
  apply List.ext_getElem <;> simp [jitL]
set_option maxHeartbeats 4000000 in
set_option maxRecDepth 20000 in
theorem spec_AddJitter (c f : Int) (p : Option Addr) (l : List Int) (cap : Nat) (pj : Option Addr) (js : List Int) (capj : Nat) (w : World) (hI : IntsAt w p l) (hl : l.length ≤ 1048576) (hJ : IntsAt w pj js) (hjl : js.length ≤ 1048576) :
    Calls Try.prog 75 #[.agg #[.int .i64 c, .int .i64 f, .slice p l.length cap], .slice pj js.length capj] w fun e w' => ∃ (q : Option Addr) (dq : Nat), e = .returned (.tuple #[.agg #[.int .i64 (fxC (fluxOk c f l && jitOk js) (jitL f l js) l.sum c), .int .i64 (fxF (fluxOk c f l && jitOk js) (jitL f l js) l.sum c), .slice q (fxL (fluxOk c f l && jitOk js) (jitL f l js) l.sum c).length dq], .int .i64 (fxE (fluxOk c f l && jitOk js) (jitL f l js) l.sum c)]) ∧ OwnS w' w.heap.size q (fxL (fluxOk c f l && jitOk js) (jitL f l js) l.sum c) ∧ Below w.heap.size w w' := by
  have BF0 := (Blk.new w 26 #[.int .i64 c, .int .i64 f, .slice p l.length cap]).alloc' (.cells #[.int .i64 0, .int .i64 0, .slice none 0 0] 26)
  have R0 := Blk.new (w.alloc (.cells #[.int .i64 c, .int .i64 f, .slice p l.length cap] 26)) 26 #[.int .i64 0, .int .i64 0, .slice none 0 0]
  have esz : (w.alloc (.cells #[.int .i64 c, .int .i64 f, .slice p l.length cap] 26)).heap.size = w.heap.size + 1 := by simp
  rw [esz] at R0
  have W0 : Below w.heap.size w ((w.alloc (.cells #[.int .i64 c, .int .i64 f, .slice p l.length cap] 26)).alloc (.cells #[.int .i64 0, .int .i64 0, .slice none 0 0] 26)) := ((Below.refl _ _).alloc (Nat.le_refl _) _).alloc (by simp) _
  clear esz
  obtain ⟨f0, f1, f2⟩ := BF0.cell3
  obtain h1 | h1 := (Bool.eq_false_or_eq_true (fluxOk c f l)).symm
  · have hv : (fluxOk c f l && jitOk js) = false := by simp [h1]
    have HC : Hid (fxC (fluxOk c f l && jitOk js) (jitL f l js) l.sum c = 0) := Lib.hid (by unfold fxC; rw [hv]; rfl)
    have HF : Hid (fxF (fluxOk c f l && jitOk js) (jitL f l js) l.sum c = 0) := Lib.hid (by unfold fxF; rw [hv]; rfl)
    have HL : Hid (fxL (fluxOk c f l && jitOk js) (jitL f l js) l.sum c = []) := Lib.hid (by unfold fxL; rw [hv]; rfl)
    have HE : Hid (fxE (fluxOk c f l && jitOk js) (jitL f l js) l.sum c = 1) := Lib.hid (by unfold fxE; rw [hv]; rfl)
    have H := Lib.hid h1
    clear h1 hv
    go_enter Try.func75, Try.ntmps75
    go_wp2_with fail
    generalize (w.alloc (.cells #[.int .i64 c, .int .i64 f, .slice p l.length cap] 26)).alloc (.cells #[.int .i64 0, .int .i64 0, .slice none 0 0] 26) = w0 at BF0 R0 W0 f0 f1 f2 ⊢
    refine (spec_l02Ok c f p l cap _ _ (hI.below W0) hl BF0).mono ?_
    rintro e w1 ⟨rfl, hb1⟩
    rw [H.out]
    have R1 := R0.keep hb1
    have BF1 := BF0.keep hb1
    have hw1 := below_st W0 hb1 (Nat.le_refl _)
    obtain ⟨r0, r1', r2⟩ := R1.cell3
    have rf := R1.frozen
    have rlt := R1.lt
    obtain ⟨e0, e1, e2⟩ := (R1.set3 (.int .i64 0) (.int .i64 0) (.slice none 0 0)).cell3
    go_wp2_with fail
    refine bodyPost_ret (v := .tuple #[.agg #[.int .i64 0, .int .i64 0, .slice none 0 0], .int .i64 1]) (by simp [results, Try.results75, go_sem, e0, e1, e2]) rfl ?_
    rw [HC.out, HF.out, HL.out, HE.out]
    exact ⟨none, 0, rfl, OwnS.nil_ _ _ _, ((hw1.setCell (p := ⟨w.heap.size + 1, 0, none⟩) (Nat.le_succ _) _).setCell (p := ⟨w.heap.size + 1, 1, none⟩) (Nat.le_succ _) _).setCell (p := ⟨w.heap.size + 1, 2, none⟩) (Nat.le_succ _) _⟩
  obtain h2 | h2 := (Bool.eq_false_or_eq_true (jitOk js)).symm
  · have hv : (fluxOk c f l && jitOk js) = false := by simp [h2]
    have HC : Hid (fxC (fluxOk c f l && jitOk js) (jitL f l js) l.sum c = 0) := Lib.hid (by unfold fxC; rw [hv]; rfl)
    have HF : Hid (fxF (fluxOk c f l && jitOk js) (jitL f l js) l.sum c = 0) := Lib.hid (by unfold fxF; rw [hv]; rfl)
    have HL : Hid (fxL (fluxOk c f l && jitOk js) (jitL f l js) l.sum c = []) := Lib.hid (by unfold fxL; rw [hv]; rfl)
    have HE : Hid (fxE (fluxOk c f l && jitOk js) (jitL f l js) l.sum c = 1) := Lib.hid (by unfold fxE; rw [hv]; rfl)
    have H := Lib.hid h1
    have H2 := Lib.hid h2
    clear h1 h2 hv
    go_enter Try.func75, Try.ntmps75
    go_wp2_with fail
    generalize (w.alloc (.cells #[.int .i64 c, .int .i64 f, .slice p l.length cap] 26)).alloc (.cells #[.int .i64 0, .int .i64 0, .slice none 0 0] 26) = w0 at BF0 R0 W0 f0 f1 f2 ⊢
    refine (spec_l02Ok c f p l cap _ _ (hI.below W0) hl BF0).mono ?_
    rintro e w1 ⟨rfl, hb1⟩
    rw [H.out]
    have R1 := R0.keep hb1
    have BF1 := BF0.keep hb1
    have hw1 := below_st W0 hb1 (Nat.le_refl _)
    go_wp2_with fail
    refine (spec_l04Jitter pj js capj _ (hJ.below hw1) hjl).mono ?_
    rintro e w2 ⟨rfl, hb2⟩
    rw [H2.out]
    have R2 := R1.keep hb2
    have hw2 := below_st hw1 hb2 (Nat.le_refl _)
    obtain ⟨r0, r1', r2⟩ := R2.cell3
    have rf := R2.frozen
    have rlt := R2.lt
    obtain ⟨e0, e1, e2⟩ := (R2.set3 (.int .i64 0) (.int .i64 0) (.slice none 0 0)).cell3
    go_wp2_with fail
    refine bodyPost_ret (v := .tuple #[.agg #[.int .i64 0, .int .i64 0, .slice none 0 0], .int .i64 1]) (by simp [results, Try.results75, go_sem, e0, e1, e2]) rfl ?_
    rw [HC.out, HF.out, HL.out, HE.out]
    exact ⟨none, 0, rfl, OwnS.nil_ _ _ _, ((hw2.setCell (p := ⟨w.heap.size + 1, 0, none⟩) (Nat.le_succ _) _).setCell (p := ⟨w.heap.size + 1, 1, none⟩) (Nat.le_succ _) _).setCell (p := ⟨w.heap.size + 1, 2, none⟩) (Nat.le_succ _) _⟩
  have hv : (fluxOk c f l && jitOk js) = true := by simp [h1, h2]
  obtain ⟨-, hlen, hgm, hpre, hf0, hsum⟩ := fluxOk_bd h1
  have hsums := fluxOk_sums h1
  have hcb := chg_bd h1
  have HJB := Lib.hid (jitOk_at h2)
  have HC : Hid (fxC (fluxOk c f l && jitOk js) (jitL f l js) l.sum c = tmC (jitL f l js) l.sum c) := Lib.hid (by unfold fxC; rw [hv]; rfl)
  have HF : Hid (fxF (fluxOk c f l && jitOk js) (jitL f l js) l.sum c = tmF (jitL f l js) l.sum c) := Lib.hid (by unfold fxF; rw [hv]; rfl)
  have HL : Hid (fxL (fluxOk c f l && jitOk js) (jitL f l js) l.sum c = tmL (jitL f l js) l.sum c) := Lib.hid (by unfold fxL; rw [hv]; rfl)
  have HE : Hid (fxE (fluxOk c f l && jitOk js) (jitL f l js) l.sum c = tmE 2 (jitL f l js) l.sum c) := Lib.hid (by unfold fxE; rw [hv]; rfl)
  have H := Lib.hid h1
  have H2 := Lib.hid h2
  have HS := Lib.hid hsums
  have HCB := Lib.hid hcb
  have HGM := Lib.hid hgm
  have hml : ((jitL f l js)).length = (chgL f l).length := by simp [jitL]
  have hma : ∀ k (h : k < (chgL f l).length), ((jitL f l js))[k]'(by rw [hml]; exact h) = (chgL f l)[k] + js.getD (k % js.length) 0 := fun k h => by simp [jitL]
  have hcl := chgL_len f l
  clear h1 h2 hv hsums hcb hgm hpre
  go_enter Try.func75, Try.ntmps75
  go_wp2_with fail
  generalize (w.alloc (.cells #[.int .i64 c, .int .i64 f, .slice p l.length cap] 26)).alloc (.cells #[.int .i64 0, .int .i64 0, .slice none 0 0] 26) = w0 at BF0 R0 W0 f0 f1 f2 ⊢
  refine (spec_l02Ok c f p l cap _ _ (hI.below W0) hl BF0).mono ?_
  rintro e w1 ⟨rfl, hb1⟩
  rw [H.out]
  have R1 := R0.keep hb1
  have BF1 := BF0.keep hb1
  have hw1 := below_st W0 hb1 (Nat.le_refl _)
  clear f0 f1 f2
  obtain ⟨f0, f1, f2⟩ := BF1.cell3
  go_wp2_with fail
  refine (spec_l04Jitter pj js capj _ (hJ.below hw1) hjl).mono ?_
  rintro e w2 ⟨rfl, hb2⟩
  rw [H2.out]
  have R2 := R1.keep hb2
  have BF2 := BF1.keep hb2
  have hw2 := below_st hw1 hb2 (Nat.le_refl _)
  clear f0 f1 f2
  obtain ⟨f0, f1, f2⟩ := BF2.cell3
  go_wp2_with fail
  refine (spec_l02Changes c f p l cap _ _ (hI.below hw2) hl HS.out.2 BF2).mono ?_
  rintro e w3 ⟨q, dq, rfl, S3, hb3⟩
  have R3 := R2.keep hb3
  have BF3 := BF2.keep hb3
  have hw3 := below_st hw2 hb3 (Nat.le_refl _)
  obtain ⟨g, rfl, hg, hrow0⟩ := S3 (by intro e; rw [e] at hcl; simp at hcl; omega)
  have hz3 := hb3.size
  have hzR := R2.lt
  have hzF := BF2.lt
  clear hb3 S3 f0 f1 f2
  generalize hX : (jitL f l js) = T at *
  generalize hY : chgL f l = X at *
  obtain ⟨B, eB⟩ : ∃ B, w2.heap.size = B := ⟨_, rfl⟩
  rw [eB] at hg hz3 hzR hzF
  by_cases hje : js.length = 0
  · have hd0 : decide (0 < (js.length : Int)) = false := decide_eq_false (by omega)
    have hTX : T = X := by rw [← hX, ← hY]; exact jitL_nil hje
    have hrow : RowI w3 g T := by rw [hTX]; exact hrow0
    rw [hcl]
    go_wp2_with fail
    go_loopw [7] (fun i wr => i = .int .i64 0 ∧ RowI wr g T ∧ Below B w3 wr) (fun i _ => 0)
    case atStart => exact ⟨rfl, hrow, Below.refl _ _⟩
    case round =>
      obtain ⟨rfl, hrow, hbel⟩ := hrel
      clear hTX
      have ST : OwnS wr B (some ⟨g, 0, none⟩) T := OwnS.of_row hrow hg
      have Rr := R3.below hbel hzR
      have BFr := BF3.below hbel hzF
      have hwr : Below w.heap.size w wr := hw3.trans (hbel.mono (by have := hw2.size; omega))
      obtain ⟨f0, f1, f2⟩ := BFr.cell3
      have hTl : T.length ≤ 1048576 := by omega
      have hsb : 0 ≤ l.sum ∧ l.sum ≤ 2000000 := hsum
      have hrb : -9223372036854775808 ≤ l.sum ∧ l.sum ≤ 9223372036854775807 := by omega
      have Rd := Rr.drew
      have Bd := BFr.drew
      have hwd := hwr.drew
      have hzw := hwr.size
      have hzr' := Rr.lt
      have CD := fun (q : Option Addr) (d5 : Nat) (w5 : World) (h : IntsAt w5 q T) => spec_l04Done q T d5 l.sum c w5 h hTl hrb
      have hTL : T.length = l.length := by omega
      simp only [hTL] at CD
      go_wp2_with fail
      have keepS : ∀ y1 y2 : World, ((w.heap.size < y1.heap.size ∧ y1.cell? ⟨w.heap.size, 0, none⟩ = some (.int .i64 c) ∧ y1.cell? ⟨w.heap.size, 1, none⟩ = some (.int .i64 f) ∧ y1.cell? ⟨w.heap.size, 2, none⟩ = some (.slice p l.length cap)) ∧ OwnS y1 B (some ⟨g, 0, none⟩) T ∧ Below w.heap.size w y1) → Below y1.heap.size y1 y2 → ((w.heap.size < y2.heap.size ∧ y2.cell? ⟨w.heap.size, 0, none⟩ = some (.int .i64 c) ∧ y2.cell? ⟨w.heap.size, 1, none⟩ = some (.int .i64 f) ∧ y2.cell? ⟨w.heap.size, 2, none⟩ = some (.slice p l.length cap)) ∧ OwnS y2 B (some ⟨g, 0, none⟩) T ∧ Below w.heap.size w y2) := by
        rintro y1 y2 ⟨⟨s0, s1, s2, s3⟩, s4, s5⟩ hb
        obtain ⟨hc, -⟩ := bcell hb
        have := hb.size
        exact ⟨⟨by omega, (hc _ _ s0).trans s1, (hc _ _ s0).trans s2, (hc _ _ s0).trans s3⟩, s4.below hb, below_st s5 hb (Nat.le_refl _)⟩
      have keepW : ∀ (y : World) (i : Nat) (v : Value), ((w.heap.size < y.heap.size ∧ y.cell? ⟨w.heap.size, 0, none⟩ = some (.int .i64 c) ∧ y.cell? ⟨w.heap.size, 1, none⟩ = some (.int .i64 f) ∧ y.cell? ⟨w.heap.size, 2, none⟩ = some (.slice p l.length cap)) ∧ OwnS y B (some ⟨g, 0, none⟩) T ∧ Below w.heap.size w y) → ((w.heap.size < (y.setCell ⟨w.heap.size + 1, i, none⟩ v).heap.size ∧ (y.setCell ⟨w.heap.size + 1, i, none⟩ v).cell? ⟨w.heap.size, 0, none⟩ = some (.int .i64 c) ∧ (y.setCell ⟨w.heap.size + 1, i, none⟩ v).cell? ⟨w.heap.size, 1, none⟩ = some (.int .i64 f) ∧ (y.setCell ⟨w.heap.size + 1, i, none⟩ v).cell? ⟨w.heap.size, 2, none⟩ = some (.slice p l.length cap)) ∧ OwnS (y.setCell ⟨w.heap.size + 1, i, none⟩ v) B (some ⟨g, 0, none⟩) T ∧ Below w.heap.size w (y.setCell ⟨w.heap.size + 1, i, none⟩ v)) := by
        rintro y i v ⟨⟨s0, s1, s2, s3⟩, s4, s5⟩
        have ho : ∀ j, (y.setCell ⟨w.heap.size + 1, i, none⟩ v).cell? ⟨w.heap.size, j, none⟩ = y.cell? ⟨w.heap.size, j, none⟩ := fun j => World.cell?_setCell_other _ _ _ _ (by intro h'; injection h' with h2; omega)
        exact ⟨⟨by simpa [World.setCell] using s0, (ho 0).trans s1, (ho 1).trans s2, (ho 2).trans s3⟩, s4.offS (g' := w.heap.size + 1) hzR i v, s5.setCell (p := ⟨w.heap.size + 1, i, none⟩) (Nat.le_succ _) _⟩
      have S0 : (w.heap.size < wr.drew.heap.size ∧ wr.drew.cell? ⟨w.heap.size, 0, none⟩ = some (.int .i64 c) ∧ wr.drew.cell? ⟨w.heap.size, 1, none⟩ = some (.int .i64 f) ∧ wr.drew.cell? ⟨w.heap.size, 2, none⟩ = some (.slice p l.length cap)) ∧ OwnS wr.drew B (some ⟨g, 0, none⟩) T ∧ Below w.heap.size w wr.drew := ⟨⟨Bd.lt, Bd.cell3.1, Bd.cell3.2.1, Bd.cell3.2.2⟩, ST.below (Below.refl _ _).drew, hwd⟩
      go_region_held3 (fun w' => (w.heap.size < w'.heap.size ∧ w'.cell? ⟨w.heap.size, 0, none⟩ = some (.int .i64 c) ∧ w'.cell? ⟨w.heap.size, 1, none⟩ = some (.int .i64 f) ∧ w'.cell? ⟨w.heap.size, 2, none⟩ = some (.slice p l.length cap)) ∧ OwnS w' B (some ⟨g, 0, none⟩) T ∧ Below w.heap.size w w')
        (first | with_reducible exact S0 | (with_reducible refine keepS _ _ S0 ?_; assumption) | (with_reducible refine keepW _ _ _ (keepW _ _ _ (keepW _ _ _ ?_)); exact keepS _ _ S0 hb5))
        (first | (go_at_call 63; refine (CD _ _ _ S0.2.1.ints).mono ?_; rintro e w5 ⟨q5, d5, rfl, S5, hb5⟩; have R5 := Rd.keep hb5; obtain ⟨r0, r1', r2⟩ := R5.cell3; have rf := R5.frozen) | (go_at_call 41; refine (spec_l02Revolution c f p l cap _ _ (by exact hI.below hwd) hl HS.out.1 (by exact Bd)).mono ?_; rintro e w' ⟨rfl, rfl⟩))
      all_goals
        have hw5 := below_st hwd hb5 (Nat.le_refl _)
        obtain ⟨e0, e1, e2⟩ := (R5.set3 (.int .i64 (tmC T l.sum c)) (.int .i64 (tmF T l.sum c)) (.slice q5 (tmL T l.sum c).length d5)).cell3
        have S6 := ((S5.offS (g' := w.heap.size + 1) hzr' 0 (.int .i64 (tmC T l.sum c))).offS (g' := w.heap.size + 1) hzr' 1 (.int .i64 (tmF T l.sum c))).offS (g' := w.heap.size + 1) hzr' 2 (.slice q5 (tmL T l.sum c).length d5)
        go_wp2_with fail
        refine bodyPost_ret (v := .tuple #[.agg #[.int .i64 (tmC T l.sum c), .int .i64 (tmF T l.sum c), .slice q5 (tmL T l.sum c).length d5], .int .i64 (tmE 2 T l.sum c)]) (by simp [results, Try.results75, go_sem, e0, e1, e2]) rfl ?_
        rw [hX, HC.out, HF.out, HL.out, HE.out]
        exact ⟨q5, d5, rfl, S6.mono hzw, ((hw5.setCell (p := ⟨w.heap.size + 1, 0, none⟩) (Nat.le_succ _) _).setCell (p := ⟨w.heap.size + 1, 1, none⟩) (Nat.le_succ _) _).setCell (p := ⟨w.heap.size + 1, 2, none⟩) (Nat.le_succ _) _⟩
  have hm0 : 0 < js.length := by omega
  have hd0 : decide (0 < (js.length : Int)) = true := decide_eq_true (by omega)
  rw [hcl]
  go_wp2_with fail
  go_loopw [7] (fun i wr => ∃ k : Nat, k ≤ l.length ∧ i = .int .i64 k ∧ RowI wr g (T.take k ++ X.drop k) ∧ Below B w3 wr) (fun i _ => l.length - (intOf i).toNat)
  case atStart => exact ⟨0, Nat.zero_le _, rfl, by simpa using hrow0, Below.refl _ _⟩
  case round =>
    obtain ⟨k, hk, rfl, hrow, hbel⟩ := hrel
    by_cases hlt : k < l.length
    · have hkX : k < X.length := by omega
      have hnow : (T.take k ++ X.drop k).length = X.length := by simp; omega
      obtain ⟨hc, hf⟩ := hrow.cell (k := k) (by omega)
      rw [mix_at hml hkX] at hc
      have hxb := HCB.out k hkX
      have hset := hrow.set_ k (T[k]'(by omega))
      rw [mix_set hml hkX, hma k hkX] at hset
      obtain ⟨x, ex⟩ : ∃ x, X[k] = x := ⟨_, rfl⟩
      rw [ex] at hc hxb hset
      have hkm : k % js.length < js.length := Nat.mod_lt _ hm0
      have hwr : Below w.heap.size w wr := hw3.trans (hbel.mono (by have := hw2.size; omega))
      go_wp2_with fail
      refine still_tail2 13 (by kernel_rfl) (by kernel_rfl) ?_
      intro wq hbq hzq hcq hfq
      have hwq := hwr.trans (hbq.mono hwr.size)
      have hrowq := hrow.below hbq
      have hbelq : Below B w3 wq := below_st hbel hbq (by omega)
      have hrq := (hJ.below hwq).at_ hkm
      obtain ⟨hcw, hfw⟩ := hrowq.cell (k := k) (by omega)
      rw [mix_at hml hkX, ex] at hcw
      have hsetq := hrowq.set_ k (T[k]'(by omega))
      rw [mix_set hml hkX, hma k hkX, ex] at hsetq
      have hgd : js.getD (k % js.length) 0 = js[k % js.length] := by rw [List.getD_eq_getElem?_getD, List.getElem?_eq_getElem hkm]; rfl
      rw [hgd] at hsetq
      have hzb := HJB.out _ hkm
      have qm : (k : Int).tmod (js.length : Int) = ((k % js.length : Nat) : Int) := by rw [Int.tmod_eq_emod_of_nonneg (by omega)]; rfl
      obtain ⟨z, ez⟩ : ∃ z, js[k % js.length] = z := ⟨_, rfl⟩
      rw [ez] at hsetq hzb hrq
      clear hgd ez
      generalize k % js.length = r at hkm qm hrq
      obtain ⟨aj, rfl, hjc⟩ := hrq
      have q1 : IntKind.i64.wrap (x + z) = x + z := IntWalk.i64_in _ (by omega)
      have q2 : IntKind.i64.wrap (r : Int) = (r : Int) := IntWalk.i64_in _ (by omega)
      have i1 : (r : Int) < (js.length : Int) := by omega
      have i2 : ¬ ((js.length : Int) = 0) := by omega
      have HSQ := Lib.hid hsetq
      clear hcq hfq hset hc hf hsetq hrow hrowq
      simp only [List.take_succ_cons, List.take_zero, List.drop_succ_cons, List.drop_zero]
      repeat still_step
      refine wpStill_nil ?_
      go_wp2_with fail
      exact ⟨⟨k + 1, by omega, by go_num, HSQ.out, hbelq.setCell (p := ⟨g, k, none⟩) hg _⟩, by simp [intOf]; omega⟩
    · have hT : T.take k ++ X.drop k = T := by rw [List.take_of_length_le (by omega), List.drop_of_length_le (by omega), List.append_nil]
      rw [hT] at hrow
      have ST : OwnS wr B (some ⟨g, 0, none⟩) T := OwnS.of_row hrow hg
      have Rr := R3.below hbel hzR
      have BFr := BF3.below hbel hzF
      have hwr : Below w.heap.size w wr := hw3.trans (hbel.mono (by have := hw2.size; omega))
      obtain ⟨f0, f1, f2⟩ := BFr.cell3
      have hTl : T.length ≤ 1048576 := by omega
      have hsb : 0 ≤ l.sum ∧ l.sum ≤ 2000000 := hsum
      have hrb : -9223372036854775808 ≤ l.sum ∧ l.sum ≤ 9223372036854775807 := by omega
      have Rd := Rr.drew
      have Bd := BFr.drew
      have hwd := hwr.drew
      have hzw := hwr.size
      have hzr' := Rr.lt
      have CD := fun (q : Option Addr) (d5 : Nat) (w5 : World) (h : IntsAt w5 q T) => spec_l04Done q T d5 l.sum c w5 h hTl hrb
      have hTL : T.length = l.length := by omega
      simp only [hTL] at CD
      go_wp2_with fail
      have keepS : ∀ y1 y2 : World, ((w.heap.size < y1.heap.size ∧ y1.cell? ⟨w.heap.size, 0, none⟩ = some (.int .i64 c) ∧ y1.cell? ⟨w.heap.size, 1, none⟩ = some (.int .i64 f) ∧ y1.cell? ⟨w.heap.size, 2, none⟩ = some (.slice p l.length cap)) ∧ OwnS y1 B (some ⟨g, 0, none⟩) T ∧ Below w.heap.size w y1) → Below y1.heap.size y1 y2 → ((w.heap.size < y2.heap.size ∧ y2.cell? ⟨w.heap.size, 0, none⟩ = some (.int .i64 c) ∧ y2.cell? ⟨w.heap.size, 1, none⟩ = some (.int .i64 f) ∧ y2.cell? ⟨w.heap.size, 2, none⟩ = some (.slice p l.length cap)) ∧ OwnS y2 B (some ⟨g, 0, none⟩) T ∧ Below w.heap.size w y2) := by
        rintro y1 y2 ⟨⟨s0, s1, s2, s3⟩, s4, s5⟩ hb
        obtain ⟨hc, -⟩ := bcell hb
        have := hb.size
        exact ⟨⟨by omega, (hc _ _ s0).trans s1, (hc _ _ s0).trans s2, (hc _ _ s0).trans s3⟩, s4.below hb, below_st s5 hb (Nat.le_refl _)⟩
      have keepW : ∀ (y : World) (i : Nat) (v : Value), ((w.heap.size < y.heap.size ∧ y.cell? ⟨w.heap.size, 0, none⟩ = some (.int .i64 c) ∧ y.cell? ⟨w.heap.size, 1, none⟩ = some (.int .i64 f) ∧ y.cell? ⟨w.heap.size, 2, none⟩ = some (.slice p l.length cap)) ∧ OwnS y B (some ⟨g, 0, none⟩) T ∧ Below w.heap.size w y) → ((w.heap.size < (y.setCell ⟨w.heap.size + 1, i, none⟩ v).heap.size ∧ (y.setCell ⟨w.heap.size + 1, i, none⟩ v).cell? ⟨w.heap.size, 0, none⟩ = some (.int .i64 c) ∧ (y.setCell ⟨w.heap.size + 1, i, none⟩ v).cell? ⟨w.heap.size, 1, none⟩ = some (.int .i64 f) ∧ (y.setCell ⟨w.heap.size + 1, i, none⟩ v).cell? ⟨w.heap.size, 2, none⟩ = some (.slice p l.length cap)) ∧ OwnS (y.setCell ⟨w.heap.size + 1, i, none⟩ v) B (some ⟨g, 0, none⟩) T ∧ Below w.heap.size w (y.setCell ⟨w.heap.size + 1, i, none⟩ v)) := by
        rintro y i v ⟨⟨s0, s1, s2, s3⟩, s4, s5⟩
        have ho : ∀ j, (y.setCell ⟨w.heap.size + 1, i, none⟩ v).cell? ⟨w.heap.size, j, none⟩ = y.cell? ⟨w.heap.size, j, none⟩ := fun j => World.cell?_setCell_other _ _ _ _ (by intro h'; injection h' with h2; omega)
        exact ⟨⟨by simpa [World.setCell] using s0, (ho 0).trans s1, (ho 1).trans s2, (ho 2).trans s3⟩, s4.offS (g' := w.heap.size + 1) hzR i v, s5.setCell (p := ⟨w.heap.size + 1, i, none⟩) (Nat.le_succ _) _⟩
      have S0 : (w.heap.size < wr.drew.heap.size ∧ wr.drew.cell? ⟨w.heap.size, 0, none⟩ = some (.int .i64 c) ∧ wr.drew.cell? ⟨w.heap.size, 1, none⟩ = some (.int .i64 f) ∧ wr.drew.cell? ⟨w.heap.size, 2, none⟩ = some (.slice p l.length cap)) ∧ OwnS wr.drew B (some ⟨g, 0, none⟩) T ∧ Below w.heap.size w wr.drew := ⟨⟨Bd.lt, Bd.cell3.1, Bd.cell3.2.1, Bd.cell3.2.2⟩, ST.below (Below.refl _ _).drew, hwd⟩
      go_region_held3 (fun w' => (w.heap.size < w'.heap.size ∧ w'.cell? ⟨w.heap.size, 0, none⟩ = some (.int .i64 c) ∧ w'.cell? ⟨w.heap.size, 1, none⟩ = some (.int .i64 f) ∧ w'.cell? ⟨w.heap.size, 2, none⟩ = some (.slice p l.length cap)) ∧ OwnS w' B (some ⟨g, 0, none⟩) T ∧ Below w.heap.size w w')
        (first | with_reducible exact S0 | (with_reducible refine keepS _ _ S0 ?_; assumption) | (with_reducible refine keepW _ _ _ (keepW _ _ _ (keepW _ _ _ ?_)); exact keepS _ _ S0 hb5))
        (first | (go_at_call 63; refine (CD _ _ _ S0.2.1.ints).mono ?_; rintro e w5 ⟨q5, d5, rfl, S5, hb5⟩; have R5 := Rd.keep hb5; obtain ⟨r0, r1', r2⟩ := R5.cell3; have rf := R5.frozen) | (go_at_call 41; refine (spec_l02Revolution c f p l cap _ _ (by exact hI.below hwd) hl HS.out.1 (by exact Bd)).mono ?_; rintro e w' ⟨rfl, rfl⟩))
      all_goals
        have hw5 := below_st hwd hb5 (Nat.le_refl _)
        obtain ⟨e0, e1, e2⟩ := (R5.set3 (.int .i64 (tmC T l.sum c)) (.int .i64 (tmF T l.sum c)) (.slice q5 (tmL T l.sum c).length d5)).cell3
        have S6 := ((S5.offS (g' := w.heap.size + 1) hzr' 0 (.int .i64 (tmC T l.sum c))).offS (g' := w.heap.size + 1) hzr' 1 (.int .i64 (tmF T l.sum c))).offS (g' := w.heap.size + 1) hzr' 2 (.slice q5 (tmL T l.sum c).length d5)
        go_wp2_with fail
        refine bodyPost_ret (v := .tuple #[.agg #[.int .i64 (tmC T l.sum c), .int .i64 (tmF T l.sum c), .slice q5 (tmL T l.sum c).length d5], .int .i64 (tmE 2 T l.sum c)]) (by simp [results, Try.results75, go_sem, e0, e1, e2]) rfl ?_
        rw [hX, HC.out, HF.out, HL.out, HE.out]
        exact ⟨q5, d5, rfl, S6.mono hzw, ((hw5.setCell (p := ⟨w.heap.size + 1, 0, none⟩) (Nat.le_succ _) _).setCell (p := ⟨w.heap.size + 1, 1, none⟩) (Nat.le_succ _) _).setCell (p := ⟨w.heap.size + 1, 2, none⟩) (Nat.le_succ _) _⟩
set_option maxHeartbeats 4000000 in
set_option maxRecDepth 20000 in
theorem impl_AddJitter (c f : Int) (p : Option Addr) (l : List Int) (cap : Nat) (pj : Option Addr) (js : List Int) (capj : Nat) (w : World) (hI : IntsAt w p l) (hl : l.length ≤ 1048576) (hJ : IntsAt w pj js) (hjl : js.length ≤ 1048576) :
    Calls Try.prog 30 #[.agg #[.int .i64 c, .int .i64 f, .slice p l.length cap], .slice pj js.length capj] w fun e w' => ∃ (q : Option Addr) (dq : Nat), e = .returned (.tuple #[.agg #[.int .i64 (fxC (fluxOk c f l && jitOk js) (jitL f l js) l.sum c), .int .i64 (fxF (fluxOk c f l && jitOk js) (jitL f l js) l.sum c), .slice q (fxL (fluxOk c f l && jitOk js) (jitL f l js) l.sum c).length dq], .int .i64 (fxE (fluxOk c f l && jitOk js) (jitL f l js) l.sum c)]) ∧ OwnS w' w.heap.size q (fxL (fluxOk c f l && jitOk js) (jitL f l js) l.sum c) ∧ Below w.heap.size w w' := by
  have BF0 := (Blk.new w 26 #[.int .i64 c, .int .i64 f, .slice p l.length cap]).alloc' (.cells #[.int .i64 0, .int .i64 0, .slice none 0 0] 26)
  have R0 := Blk.new (w.alloc (.cells #[.int .i64 c, .int .i64 f, .slice p l.length cap] 26)) 26 #[.int .i64 0, .int .i64 0, .slice none 0 0]
  have esz : (w.alloc (.cells #[.int .i64 c, .int .i64 f, .slice p l.length cap] 26)).heap.size = w.heap.size + 1 := by simp
  rw [esz] at R0
  have W0 : Below w.heap.size w ((w.alloc (.cells #[.int .i64 c, .int .i64 f, .slice p l.length cap] 26)).alloc (.cells #[.int .i64 0, .int .i64 0, .slice none 0 0] 26)) := ((Below.refl _ _).alloc (Nat.le_refl _) _).alloc (by simp) _
  clear esz
  obtain ⟨f0, f1, f2⟩ := BF0.cell3
  obtain h1 | h1 := (Bool.eq_false_or_eq_true (fluxOk c f l)).symm
  · have hv : (fluxOk c f l && jitOk js) = false := by simp [h1]
    have HC : Hid (fxC (fluxOk c f l && jitOk js) (jitL f l js) l.sum c = 0) := Lib.hid (by unfold fxC; rw [hv]; rfl)
    have HF : Hid (fxF (fluxOk c f l && jitOk js) (jitL f l js) l.sum c = 0) := Lib.hid (by unfold fxF; rw [hv]; rfl)
    have HL : Hid (fxL (fluxOk c f l && jitOk js) (jitL f l js) l.sum c = []) := Lib.hid (by unfold fxL; rw [hv]; rfl)
    have HE : Hid (fxE (fluxOk c f l && jitOk js) (jitL f l js) l.sum c = 1) := Lib.hid (by unfold fxE; rw [hv]; rfl)
    have H := Lib.hid h1
    clear h1 hv
    go_enter Try.func30, Try.ntmps30
    go_wp2_with fail
    generalize (w.alloc (.cells #[.int .i64 c, .int .i64 f, .slice p l.length cap] 26)).alloc (.cells #[.int .i64 0, .int .i64 0, .slice none 0 0] 26) = w0 at BF0 R0 W0 f0 f1 f2 ⊢
    refine (impl_ValidFlux c f p l cap _ (hI.below W0) hl).mono ?_
    rintro e w1 ⟨rfl, hb1⟩
    rw [H.out]
    have R1 := R0.keep hb1
    have BF1 := BF0.keep hb1
    have hw1 := below_st W0 hb1 (Nat.le_refl _)
    obtain ⟨r0, r1', r2⟩ := R1.cell3
    have rf := R1.frozen
    have rlt := R1.lt
    obtain ⟨e0, e1, e2⟩ := (R1.set3 (.int .i64 0) (.int .i64 0) (.slice none 0 0)).cell3
    go_wp2_with fail
    refine bodyPost_ret (v := .tuple #[.agg #[.int .i64 0, .int .i64 0, .slice none 0 0], .int .i64 1]) (by simp [results, Try.results30, go_sem, e0, e1, e2]) rfl ?_
    rw [HC.out, HF.out, HL.out, HE.out]
    exact ⟨none, 0, rfl, OwnS.nil_ _ _ _, ((hw1.setCell (p := ⟨w.heap.size + 1, 0, none⟩) (Nat.le_succ _) _).setCell (p := ⟨w.heap.size + 1, 1, none⟩) (Nat.le_succ _) _).setCell (p := ⟨w.heap.size + 1, 2, none⟩) (Nat.le_succ _) _⟩
  obtain h2 | h2 := (Bool.eq_false_or_eq_true (jitOk js)).symm
  · have hv : (fluxOk c f l && jitOk js) = false := by simp [h2]
    have HC : Hid (fxC (fluxOk c f l && jitOk js) (jitL f l js) l.sum c = 0) := Lib.hid (by unfold fxC; rw [hv]; rfl)
    have HF : Hid (fxF (fluxOk c f l && jitOk js) (jitL f l js) l.sum c = 0) := Lib.hid (by unfold fxF; rw [hv]; rfl)
    have HL : Hid (fxL (fluxOk c f l && jitOk js) (jitL f l js) l.sum c = []) := Lib.hid (by unfold fxL; rw [hv]; rfl)
    have HE : Hid (fxE (fluxOk c f l && jitOk js) (jitL f l js) l.sum c = 1) := Lib.hid (by unfold fxE; rw [hv]; rfl)
    have H := Lib.hid h1
    have H2 := Lib.hid h2
    clear h1 h2 hv
    go_enter Try.func30, Try.ntmps30
    go_wp2_with fail
    generalize (w.alloc (.cells #[.int .i64 c, .int .i64 f, .slice p l.length cap] 26)).alloc (.cells #[.int .i64 0, .int .i64 0, .slice none 0 0] 26) = w0 at BF0 R0 W0 f0 f1 f2 ⊢
    refine (impl_ValidFlux c f p l cap _ (hI.below W0) hl).mono ?_
    rintro e w1 ⟨rfl, hb1⟩
    rw [H.out]
    have R1 := R0.keep hb1
    have BF1 := BF0.keep hb1
    have hw1 := below_st W0 hb1 (Nat.le_refl _)
    go_wp2_with fail
    refine (impl_validJitter pj js capj _ (hJ.below hw1) hjl).mono ?_
    rintro e w2 ⟨rfl, hb2⟩
    rw [H2.out]
    have R2 := R1.keep hb2
    have hw2 := below_st hw1 hb2 (Nat.le_refl _)
    obtain ⟨r0, r1', r2⟩ := R2.cell3
    have rf := R2.frozen
    have rlt := R2.lt
    obtain ⟨e0, e1, e2⟩ := (R2.set3 (.int .i64 0) (.int .i64 0) (.slice none 0 0)).cell3
    go_wp2_with fail
    refine bodyPost_ret (v := .tuple #[.agg #[.int .i64 0, .int .i64 0, .slice none 0 0], .int .i64 1]) (by simp [results, Try.results30, go_sem, e0, e1, e2]) rfl ?_
    rw [HC.out, HF.out, HL.out, HE.out]
    exact ⟨none, 0, rfl, OwnS.nil_ _ _ _, ((hw2.setCell (p := ⟨w.heap.size + 1, 0, none⟩) (Nat.le_succ _) _).setCell (p := ⟨w.heap.size + 1, 1, none⟩) (Nat.le_succ _) _).setCell (p := ⟨w.heap.size + 1, 2, none⟩) (Nat.le_succ _) _⟩
  have hv : (fluxOk c f l && jitOk js) = true := by simp [h1, h2]
  obtain ⟨-, hlen, hgm, hpre, hf0, hsum⟩ := fluxOk_bd h1
  have hsums := fluxOk_sums h1
  have hcb := chg_bd h1
  have HJB := Lib.hid (jitOk_at h2)
  have HC : Hid (fxC (fluxOk c f l && jitOk js) (jitL f l js) l.sum c = tmC (jitL f l js) l.sum c) := Lib.hid (by unfold fxC; rw [hv]; rfl)
  have HF : Hid (fxF (fluxOk c f l && jitOk js) (jitL f l js) l.sum c = tmF (jitL f l js) l.sum c) := Lib.hid (by unfold fxF; rw [hv]; rfl)
  have HL : Hid (fxL (fluxOk c f l && jitOk js) (jitL f l js) l.sum c = tmL (jitL f l js) l.sum c) := Lib.hid (by unfold fxL; rw [hv]; rfl)
  have HE : Hid (fxE (fluxOk c f l && jitOk js) (jitL f l js) l.sum c = tmE 2 (jitL f l js) l.sum c) := Lib.hid (by unfold fxE; rw [hv]; rfl)
  have H := Lib.hid h1
  have H2 := Lib.hid h2
  have HS := Lib.hid hsums
  have HCB := Lib.hid hcb
  have HGM := Lib.hid hgm
  have hml : ((jitL f l js)).length = (chgL f l).length := by simp [jitL]
  have hma : ∀ k (h : k < (chgL f l).length), ((jitL f l js))[k]'(by rw [hml]; exact h) = (chgL f l)[k] + js.getD (k % js.length) 0 := fun k h => by simp [jitL]
  have hcl := chgL_len f l
  clear h1 h2 hv hsums hcb hgm hpre
  go_enter Try.func30, Try.ntmps30
  go_wp2_with fail
  generalize (w.alloc (.cells #[.int .i64 c, .int .i64 f, .slice p l.length cap] 26)).alloc (.cells #[.int .i64 0, .int .i64 0, .slice none 0 0] 26) = w0 at BF0 R0 W0 f0 f1 f2 ⊢
  refine (impl_ValidFlux c f p l cap _ (hI.below W0) hl).mono ?_
  rintro e w1 ⟨rfl, hb1⟩
  rw [H.out]
  have R1 := R0.keep hb1
  have BF1 := BF0.keep hb1
  have hw1 := below_st W0 hb1 (Nat.le_refl _)
  clear f0 f1 f2
  obtain ⟨f0, f1, f2⟩ := BF1.cell3
  go_wp2_with fail
  refine (impl_validJitter pj js capj _ (hJ.below hw1) hjl).mono ?_
  rintro e w2 ⟨rfl, hb2⟩
  rw [H2.out]
  have R2 := R1.keep hb2
  have BF2 := BF1.keep hb2
  have hw2 := below_st hw1 hb2 (Nat.le_refl _)
  clear f0 f1 f2
  obtain ⟨f0, f1, f2⟩ := BF2.cell3
  go_wp2_with fail
  refine (impl_changes c f p l cap _ (hI.below hw2) hl HS.out.2).mono ?_
  rintro e w3 ⟨q, dq, rfl, S3, hb3⟩
  have R3 := R2.keep hb3
  have BF3 := BF2.keep hb3
  have hw3 := below_st hw2 hb3 (Nat.le_refl _)
  obtain ⟨g, rfl, hg, hrow0⟩ := S3 (by intro e; rw [e] at hcl; simp at hcl; omega)
  have hz3 := hb3.size
  have hzR := R2.lt
  have hzF := BF2.lt
  clear hb3 S3 f0 f1 f2
  generalize hX : (jitL f l js) = T at *
  generalize hY : chgL f l = X at *
  obtain ⟨B, eB⟩ : ∃ B, w2.heap.size = B := ⟨_, rfl⟩
  rw [eB] at hg hz3 hzR hzF
  by_cases hje : js.length = 0
  · have hd0 : decide (0 < (js.length : Int)) = false := decide_eq_false (by omega)
    have hTX : T = X := by rw [← hX, ← hY]; exact jitL_nil hje
    have hrow : RowI w3 g T := by rw [hTX]; exact hrow0
    rw [hcl]
    have hbel : Below B w3 w3 := Below.refl _ _
    clear hTX
    have ST : OwnS w3 B (some ⟨g, 0, none⟩) T := OwnS.of_row hrow hg
    have Rr := R3.below hbel hzR
    have BFr := BF3.below hbel hzF
    have hwr : Below w.heap.size w w3 := hw3.trans (hbel.mono (by have := hw2.size; omega))
    obtain ⟨f0, f1, f2⟩ := BFr.cell3
    have hTl : T.length ≤ 1048576 := by omega
    have hsb : 0 ≤ l.sum ∧ l.sum ≤ 2000000 := hsum
    have hrb : -9223372036854775808 ≤ l.sum ∧ l.sum ≤ 9223372036854775807 := by omega
    have Rd := Rr.drew
    have Bd := BFr.drew
    have hwd := hwr.drew
    have hzw := hwr.size
    have hzr' := Rr.lt
    have CD := fun (q : Option Addr) (d5 : Nat) (w5 : World) (h : IntsAt w5 q T) => impl_changed q T d5 l.sum c w5 h hTl hrb
    have hTL : T.length = l.length := by omega
    simp only [hTL] at CD
    go_wp2_with fail
    have keepS : ∀ y1 y2 : World, ((w.heap.size < y1.heap.size ∧ y1.cell? ⟨w.heap.size, 0, none⟩ = some (.int .i64 c) ∧ y1.cell? ⟨w.heap.size, 1, none⟩ = some (.int .i64 f) ∧ y1.cell? ⟨w.heap.size, 2, none⟩ = some (.slice p l.length cap)) ∧ OwnS y1 B (some ⟨g, 0, none⟩) T ∧ Below w.heap.size w y1) → Below y1.heap.size y1 y2 → ((w.heap.size < y2.heap.size ∧ y2.cell? ⟨w.heap.size, 0, none⟩ = some (.int .i64 c) ∧ y2.cell? ⟨w.heap.size, 1, none⟩ = some (.int .i64 f) ∧ y2.cell? ⟨w.heap.size, 2, none⟩ = some (.slice p l.length cap)) ∧ OwnS y2 B (some ⟨g, 0, none⟩) T ∧ Below w.heap.size w y2) := by
      rintro y1 y2 ⟨⟨s0, s1, s2, s3⟩, s4, s5⟩ hb
      obtain ⟨hc, -⟩ := bcell hb
      have := hb.size
      exact ⟨⟨by omega, (hc _ _ s0).trans s1, (hc _ _ s0).trans s2, (hc _ _ s0).trans s3⟩, s4.below hb, below_st s5 hb (Nat.le_refl _)⟩
    have keepW : ∀ (y : World) (i : Nat) (v : Value), ((w.heap.size < y.heap.size ∧ y.cell? ⟨w.heap.size, 0, none⟩ = some (.int .i64 c) ∧ y.cell? ⟨w.heap.size, 1, none⟩ = some (.int .i64 f) ∧ y.cell? ⟨w.heap.size, 2, none⟩ = some (.slice p l.length cap)) ∧ OwnS y B (some ⟨g, 0, none⟩) T ∧ Below w.heap.size w y) → ((w.heap.size < (y.setCell ⟨w.heap.size + 1, i, none⟩ v).heap.size ∧ (y.setCell ⟨w.heap.size + 1, i, none⟩ v).cell? ⟨w.heap.size, 0, none⟩ = some (.int .i64 c) ∧ (y.setCell ⟨w.heap.size + 1, i, none⟩ v).cell? ⟨w.heap.size, 1, none⟩ = some (.int .i64 f) ∧ (y.setCell ⟨w.heap.size + 1, i, none⟩ v).cell? ⟨w.heap.size, 2, none⟩ = some (.slice p l.length cap)) ∧ OwnS (y.setCell ⟨w.heap.size + 1, i, none⟩ v) B (some ⟨g, 0, none⟩) T ∧ Below w.heap.size w (y.setCell ⟨w.heap.size + 1, i, none⟩ v)) := by
      rintro y i v ⟨⟨s0, s1, s2, s3⟩, s4, s5⟩
      have ho : ∀ j, (y.setCell ⟨w.heap.size + 1, i, none⟩ v).cell? ⟨w.heap.size, j, none⟩ = y.cell? ⟨w.heap.size, j, none⟩ := fun j => World.cell?_setCell_other _ _ _ _ (by intro h'; injection h' with h2; omega)
      exact ⟨⟨by simpa [World.setCell] using s0, (ho 0).trans s1, (ho 1).trans s2, (ho 2).trans s3⟩, s4.offS (g' := w.heap.size + 1) hzR i v, s5.setCell (p := ⟨w.heap.size + 1, i, none⟩) (Nat.le_succ _) _⟩
    have S0 : (w.heap.size < w3.drew.heap.size ∧ w3.drew.cell? ⟨w.heap.size, 0, none⟩ = some (.int .i64 c) ∧ w3.drew.cell? ⟨w.heap.size, 1, none⟩ = some (.int .i64 f) ∧ w3.drew.cell? ⟨w.heap.size, 2, none⟩ = some (.slice p l.length cap)) ∧ OwnS w3.drew B (some ⟨g, 0, none⟩) T ∧ Below w.heap.size w w3.drew := ⟨⟨Bd.lt, Bd.cell3.1, Bd.cell3.2.1, Bd.cell3.2.2⟩, ST.below (Below.refl _ _).drew, hwd⟩
    go_region_held3 (fun w' => (w.heap.size < w'.heap.size ∧ w'.cell? ⟨w.heap.size, 0, none⟩ = some (.int .i64 c) ∧ w'.cell? ⟨w.heap.size, 1, none⟩ = some (.int .i64 f) ∧ w'.cell? ⟨w.heap.size, 2, none⟩ = some (.slice p l.length cap)) ∧ OwnS w' B (some ⟨g, 0, none⟩) T ∧ Below w.heap.size w w')
      (first | with_reducible exact S0 | (with_reducible refine keepS _ _ S0 ?_; assumption) | (with_reducible refine keepW _ _ _ (keepW _ _ _ (keepW _ _ _ ?_)); exact keepS _ _ S0 hb5))
      (first | (go_at_call 61; refine (CD _ _ _ S0.2.1.ints).mono ?_; rintro e w5 ⟨q5, d5, rfl, S5, hb5⟩; have R5 := Rd.keep hb5; obtain ⟨r0, r1', r2⟩ := R5.cell3; have rf := R5.frozen) | (go_at_call 47; refine (impl_total p l cap _ (by exact hI.below hwd) hl HS.out.1).mono ?_; rintro e w' ⟨rfl, rfl⟩))
    all_goals
      have hw5 := below_st hwd hb5 (Nat.le_refl _)
      obtain ⟨e0, e1, e2⟩ := (R5.set3 (.int .i64 (tmC T l.sum c)) (.int .i64 (tmF T l.sum c)) (.slice q5 (tmL T l.sum c).length d5)).cell3
      have S6 := ((S5.offS (g' := w.heap.size + 1) hzr' 0 (.int .i64 (tmC T l.sum c))).offS (g' := w.heap.size + 1) hzr' 1 (.int .i64 (tmF T l.sum c))).offS (g' := w.heap.size + 1) hzr' 2 (.slice q5 (tmL T l.sum c).length d5)
      go_wp2_with fail
      refine bodyPost_ret (v := .tuple #[.agg #[.int .i64 (tmC T l.sum c), .int .i64 (tmF T l.sum c), .slice q5 (tmL T l.sum c).length d5], .int .i64 (tmE 2 T l.sum c)]) (by simp [results, Try.results30, go_sem, e0, e1, e2]) rfl ?_
      rw [hX, HC.out, HF.out, HL.out, HE.out]
      exact ⟨q5, d5, rfl, S6.mono hzw, ((hw5.setCell (p := ⟨w.heap.size + 1, 0, none⟩) (Nat.le_succ _) _).setCell (p := ⟨w.heap.size + 1, 1, none⟩) (Nat.le_succ _) _).setCell (p := ⟨w.heap.size + 1, 2, none⟩) (Nat.le_succ _) _⟩
  have hm0 : 0 < js.length := by omega
  have hd0 : decide (0 < (js.length : Int)) = true := decide_eq_true (by omega)
  rw [hcl]
  go_wp2_with fail
  go_loopw [24] (fun i wr => ∃ k : Nat, k ≤ l.length ∧ i = .int .i64 k ∧ RowI wr g (T.take k ++ X.drop k) ∧ Below B w3 wr) (fun i _ => l.length - (intOf i).toNat)
  case atStart => exact ⟨0, Nat.zero_le _, rfl, by simpa using hrow0, Below.refl _ _⟩
  case round =>
    obtain ⟨k, hk, rfl, hrow, hbel⟩ := hrel
    by_cases hlt : k < l.length
    · have hkX : k < X.length := by omega
      have hnow : (T.take k ++ X.drop k).length = X.length := by simp; omega
      obtain ⟨hc, hf⟩ := hrow.cell (k := k) (by omega)
      rw [mix_at hml hkX] at hc
      have hxb := HCB.out k hkX
      have hset := hrow.set_ k (T[k]'(by omega))
      rw [mix_set hml hkX, hma k hkX] at hset
      obtain ⟨x, ex⟩ : ∃ x, X[k] = x := ⟨_, rfl⟩
      rw [ex] at hc hxb hset
      have hkm : k % js.length < js.length := Nat.mod_lt _ hm0
      have hwr : Below w.heap.size w wr := hw3.trans (hbel.mono (by have := hw2.size; omega))
      go_wp2_with fail
      refine still_tail2 13 (by kernel_rfl) (by kernel_rfl) ?_
      intro wq hbq hzq hcq hfq
      have hwq := hwr.trans (hbq.mono hwr.size)
      have hrowq := hrow.below hbq
      have hbelq : Below B w3 wq := below_st hbel hbq (by omega)
      have hrq := (hJ.below hwq).at_ hkm
      obtain ⟨hcw, hfw⟩ := hrowq.cell (k := k) (by omega)
      rw [mix_at hml hkX, ex] at hcw
      have hsetq := hrowq.set_ k (T[k]'(by omega))
      rw [mix_set hml hkX, hma k hkX, ex] at hsetq
      have hgd : js.getD (k % js.length) 0 = js[k % js.length] := by rw [List.getD_eq_getElem?_getD, List.getElem?_eq_getElem hkm]; rfl
      rw [hgd] at hsetq
      have hzb := HJB.out _ hkm
      have qm : (k : Int).tmod (js.length : Int) = ((k % js.length : Nat) : Int) := by rw [Int.tmod_eq_emod_of_nonneg (by omega)]; rfl
      obtain ⟨z, ez⟩ : ∃ z, js[k % js.length] = z := ⟨_, rfl⟩
      rw [ez] at hsetq hzb hrq
      clear hgd ez
      generalize k % js.length = r at hkm qm hrq
      obtain ⟨aj, rfl, hjc⟩ := hrq
      have q1 : IntKind.i64.wrap (x + z) = x + z := IntWalk.i64_in _ (by omega)
      have q2 : IntKind.i64.wrap (r : Int) = (r : Int) := IntWalk.i64_in _ (by omega)
      have i1 : (r : Int) < (js.length : Int) := by omega
      have i2 : ¬ ((js.length : Int) = 0) := by omega
      have HSQ := Lib.hid hsetq
      clear hcq hfq hset hc hf hsetq hrow hrowq
      simp only [List.take_succ_cons, List.take_zero, List.drop_succ_cons, List.drop_zero]
      repeat still_step
      refine wpStill_nil ?_
      go_wp2_with fail
      exact ⟨⟨k + 1, by omega, by go_num, HSQ.out, hbelq.setCell (p := ⟨g, k, none⟩) hg _⟩, by simp [intOf]; omega⟩
    · have hT : T.take k ++ X.drop k = T := by rw [List.take_of_length_le (by omega), List.drop_of_length_le (by omega), List.append_nil]
      rw [hT] at hrow
      have ST : OwnS wr B (some ⟨g, 0, none⟩) T := OwnS.of_row hrow hg
      have Rr := R3.below hbel hzR
      have BFr := BF3.below hbel hzF
      have hwr : Below w.heap.size w wr := hw3.trans (hbel.mono (by have := hw2.size; omega))
      obtain ⟨f0, f1, f2⟩ := BFr.cell3
      have hTl : T.length ≤ 1048576 := by omega
      have hsb : 0 ≤ l.sum ∧ l.sum ≤ 2000000 := hsum
      have hrb : -9223372036854775808 ≤ l.sum ∧ l.sum ≤ 9223372036854775807 := by omega
      have Rd := Rr.drew
      have Bd := BFr.drew
      have hwd := hwr.drew
      have hzw := hwr.size
      have hzr' := Rr.lt
      have CD := fun (q : Option Addr) (d5 : Nat) (w5 : World) (h : IntsAt w5 q T) => impl_changed q T d5 l.sum c w5 h hTl hrb
      have hTL : T.length = l.length := by omega
      simp only [hTL] at CD
      go_wp2_with fail
      have keepS : ∀ y1 y2 : World, ((w.heap.size < y1.heap.size ∧ y1.cell? ⟨w.heap.size, 0, none⟩ = some (.int .i64 c) ∧ y1.cell? ⟨w.heap.size, 1, none⟩ = some (.int .i64 f) ∧ y1.cell? ⟨w.heap.size, 2, none⟩ = some (.slice p l.length cap)) ∧ OwnS y1 B (some ⟨g, 0, none⟩) T ∧ Below w.heap.size w y1) → Below y1.heap.size y1 y2 → ((w.heap.size < y2.heap.size ∧ y2.cell? ⟨w.heap.size, 0, none⟩ = some (.int .i64 c) ∧ y2.cell? ⟨w.heap.size, 1, none⟩ = some (.int .i64 f) ∧ y2.cell? ⟨w.heap.size, 2, none⟩ = some (.slice p l.length cap)) ∧ OwnS y2 B (some ⟨g, 0, none⟩) T ∧ Below w.heap.size w y2) := by
        rintro y1 y2 ⟨⟨s0, s1, s2, s3⟩, s4, s5⟩ hb
        obtain ⟨hc, -⟩ := bcell hb
        have := hb.size
        exact ⟨⟨by omega, (hc _ _ s0).trans s1, (hc _ _ s0).trans s2, (hc _ _ s0).trans s3⟩, s4.below hb, below_st s5 hb (Nat.le_refl _)⟩
      have keepW : ∀ (y : World) (i : Nat) (v : Value), ((w.heap.size < y.heap.size ∧ y.cell? ⟨w.heap.size, 0, none⟩ = some (.int .i64 c) ∧ y.cell? ⟨w.heap.size, 1, none⟩ = some (.int .i64 f) ∧ y.cell? ⟨w.heap.size, 2, none⟩ = some (.slice p l.length cap)) ∧ OwnS y B (some ⟨g, 0, none⟩) T ∧ Below w.heap.size w y) → ((w.heap.size < (y.setCell ⟨w.heap.size + 1, i, none⟩ v).heap.size ∧ (y.setCell ⟨w.heap.size + 1, i, none⟩ v).cell? ⟨w.heap.size, 0, none⟩ = some (.int .i64 c) ∧ (y.setCell ⟨w.heap.size + 1, i, none⟩ v).cell? ⟨w.heap.size, 1, none⟩ = some (.int .i64 f) ∧ (y.setCell ⟨w.heap.size + 1, i, none⟩ v).cell? ⟨w.heap.size, 2, none⟩ = some (.slice p l.length cap)) ∧ OwnS (y.setCell ⟨w.heap.size + 1, i, none⟩ v) B (some ⟨g, 0, none⟩) T ∧ Below w.heap.size w (y.setCell ⟨w.heap.size + 1, i, none⟩ v)) := by
        rintro y i v ⟨⟨s0, s1, s2, s3⟩, s4, s5⟩
        have ho : ∀ j, (y.setCell ⟨w.heap.size + 1, i, none⟩ v).cell? ⟨w.heap.size, j, none⟩ = y.cell? ⟨w.heap.size, j, none⟩ := fun j => World.cell?_setCell_other _ _ _ _ (by intro h'; injection h' with h2; omega)
        exact ⟨⟨by simpa [World.setCell] using s0, (ho 0).trans s1, (ho 1).trans s2, (ho 2).trans s3⟩, s4.offS (g' := w.heap.size + 1) hzR i v, s5.setCell (p := ⟨w.heap.size + 1, i, none⟩) (Nat.le_succ _) _⟩
      have S0 : (w.heap.size < wr.drew.heap.size ∧ wr.drew.cell? ⟨w.heap.size, 0, none⟩ = some (.int .i64 c) ∧ wr.drew.cell? ⟨w.heap.size, 1, none⟩ = some (.int .i64 f) ∧ wr.drew.cell? ⟨w.heap.size, 2, none⟩ = some (.slice p l.length cap)) ∧ OwnS wr.drew B (some ⟨g, 0, none⟩) T ∧ Below w.heap.size w wr.drew := ⟨⟨Bd.lt, Bd.cell3.1, Bd.cell3.2.1, Bd.cell3.2.2⟩, ST.below (Below.refl _ _).drew, hwd⟩
      go_region_held3 (fun w' => (w.heap.size < w'.heap.size ∧ w'.cell? ⟨w.heap.size, 0, none⟩ = some (.int .i64 c) ∧ w'.cell? ⟨w.heap.size, 1, none⟩ = some (.int .i64 f) ∧ w'.cell? ⟨w.heap.size, 2, none⟩ = some (.slice p l.length cap)) ∧ OwnS w' B (some ⟨g, 0, none⟩) T ∧ Below w.heap.size w w')
        (first | with_reducible exact S0 | (with_reducible refine keepS _ _ S0 ?_; assumption) | (with_reducible refine keepW _ _ _ (keepW _ _ _ (keepW _ _ _ ?_)); exact keepS _ _ S0 hb5))
        (first | (go_at_call 61; refine (CD _ _ _ S0.2.1.ints).mono ?_; rintro e w5 ⟨q5, d5, rfl, S5, hb5⟩; have R5 := Rd.keep hb5; obtain ⟨r0, r1', r2⟩ := R5.cell3; have rf := R5.frozen) | (go_at_call 47; refine (impl_total p l cap _ (by exact hI.below hwd) hl HS.out.1).mono ?_; rintro e w' ⟨rfl, rfl⟩))
      all_goals
        have hw5 := below_st hwd hb5 (Nat.le_refl _)
        obtain ⟨e0, e1, e2⟩ := (R5.set3 (.int .i64 (tmC T l.sum c)) (.int .i64 (tmF T l.sum c)) (.slice q5 (tmL T l.sum c).length d5)).cell3
        have S6 := ((S5.offS (g' := w.heap.size + 1) hzr' 0 (.int .i64 (tmC T l.sum c))).offS (g' := w.heap.size + 1) hzr' 1 (.int .i64 (tmF T l.sum c))).offS (g' := w.heap.size + 1) hzr' 2 (.slice q5 (tmL T l.sum c).length d5)
        go_wp2_with fail
        refine bodyPost_ret (v := .tuple #[.agg #[.int .i64 (tmC T l.sum c), .int .i64 (tmF T l.sum c), .slice q5 (tmL T l.sum c).length d5], .int .i64 (tmE 2 T l.sum c)]) (by simp [results, Try.results30, go_sem, e0, e1, e2]) rfl ?_
        rw [hX, HC.out, HF.out, HL.out, HE.out]
        exact ⟨q5, d5, rfl, S6.mono hzw, ((hw5.setCell (p := ⟨w.heap.size + 1, 0, none⟩) (Nat.le_succ _) _).setCell (p := ⟨w.heap.size + 1, 1, none⟩) (Nat.le_succ _) _).setCell (p := ⟨w.heap.size + 1, 2, none⟩) (Nat.le_succ _) _⟩
end Go.Proofs.Ytfdcainjppljhaa
