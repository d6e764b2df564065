/- RotateFlux: contracts. Printed by rotgen.py. -/
import Derived.Test.YtfdcainjppljhaaMgFnNoise2
import Derived.Test.YtfdcainjppljhaaMgFnNoise4
import Derived.Deep.RegionHeld3
namespace Go.Proofs.Ytfdcainjppljhaa
open Go.RowKit
set_option linter.unusedVariables false
def roIn (l : List Int) (b : Int) : Bool := inB b 0 (l.sum - 1)
def roV (c f : Int) (l : List Int) (b : Int) : Bool := fluxOk c f l && roIn l b
def roT (f : Int) (l : List Int) (b : Int) : List Int := rotT b l.sum (chgL f l)
def roC (c f : Int) (l : List Int) (b : Int) : Int := if roV c f l b then c else 0
def roF (c f : Int) (l : List Int) (b : Int) : Int := if roV c f l b then (roT f l b).headD 0 else 0
def roL (c f : Int) (l : List Int) (b : Int) : List Int := if roV c f l b then gapsT (roT f l b) l.sum else []
def roE (c f : Int) (l : List Int) (b : Int) : Int := if fluxOk c f l then (if roIn l b then 0 else 2) else 1
theorem roT_len (f : Int) (l : List Int) (b : Int) : (roT f l b).length = l.length := by unfold roT; rw [rotT_len, chgL_len]
theorem roL_len (c f : Int) (l : List Int) (b : Int) : (roL c f l b).length ≤ l.length := by
  unfold roL
  split
  · rename_i h
    have h1 : fluxOk c f l = true := by unfold roV at h; rw [Bool.and_eq_true] at h; exact h.1
    obtain ⟨-, hl, -⟩ := fluxOk_bd h1
    rw [gapsT_len _ _ (by rw [roT_len]; exact hl.1), roT_len]
    exact Nat.le_refl _
  · simp
theorem chg_in {c f : Int} {l : List Int} (h : fluxOk c f l = true) : ∀ x ∈ chgL f l, 0 ≤ x ∧ x ≤ l.sum - 1 := by
  obtain ⟨-, hl, hm, hp, hf, hs⟩ := fluxOk_bd h
  obtain ⟨-, -, -, -, -, -, h7⟩ := fluxOk_iff.1 h
  have hne : l ≠ [] := by intro e; rw [e] at hl; simp at hl
  have hd : l.dropLast.sum + l.getLastD 0 = l.sum := by
    have e := List.dropLast_concat_getLast hne
    have e2 : l.getLastD 0 = l.getLast hne := by rw [List.getLastD_eq_getLast?, List.getLast?_eq_some_getLast hne]; rfl
    rw [e2]
    have := congrArg List.sum e
    rw [List.sum_append] at this
    simpa using this
  intro x hx
  obtain ⟨i, hi, rfl⟩ := List.getElem_of_mem hx
  have hcl := chgL_len f l
  have hrise := chg_rises h
  have hat := chgL_at f l i hi
  have h1 := hp i
  have hlastv : (chgL f l)[l.length - 1]'(by omega) = f + l.dropLast.sum := by
    rw [chgL_at, List.dropLast_eq_take]
  have h2 : (chgL f l)[i] ≤ (chgL f l)[l.length - 1]'(by omega) := by
    rcases Nat.lt_or_ge i (l.length - 1) with h3 | h3
    · have := List.pairwise_iff_getElem.1 hrise i (l.length - 1) hi (by omega) h3
      omega
    · have : i = l.length - 1 := by omega
      subst this; exact Int.le_refl _
  omega
set_option maxHeartbeats 4000000 in
set_option maxRecDepth 20000 in
theorem impl_RotateFlux (c f : Int) (p : Option Addr) (l : List Int) (cap : Nat) (b : Int) (w : World) (hI : IntsAt w p l) (hl : l.length ≤ 1048576) :
    Calls Try.prog 11 #[.agg #[.int .i64 c, .int .i64 f, .slice p l.length cap], .int .i64 b] w fun e w' => ∃ (q : Option Addr) (dq : Nat), e = .returned (.tuple #[.agg #[.int .i64 (roC c f l b), .int .i64 (roF c f l b), .slice q (roL c f l b).length dq], .int .i64 (roE c f l b)]) ∧ OwnS w' w.heap.size q (roL c f l b) ∧ Below w.heap.size w w' := by
  have BF0 := (Blk.new w 26 #[.int .i64 c, .int .i64 f, .slice p l.length cap]).alloc' (.cells #[.int .i64 0, .int .i64 0, .slice none 0 0] 26)
  have R0 := Blk.new (w.alloc (.cells #[.int .i64 c, .int .i64 f, .slice p l.length cap] 26)) 26 #[.int .i64 0, .int .i64 0, .slice none 0 0]
  have esz : (w.alloc (.cells #[.int .i64 c, .int .i64 f, .slice p l.length cap] 26)).heap.size = w.heap.size + 1 := by simp
  rw [esz] at R0
  have W0 : Below w.heap.size w ((w.alloc (.cells #[.int .i64 c, .int .i64 f, .slice p l.length cap] 26)).alloc (.cells #[.int .i64 0, .int .i64 0, .slice none 0 0] 26)) := ((Below.refl _ _).alloc (Nat.le_refl _) _).alloc (by simp) _
  clear esz
  obtain ⟨f0, f1, f2⟩ := BF0.cell3
  obtain h1 | h1 := (Bool.eq_false_or_eq_true (fluxOk c f l)).symm
  · have hv : roV c f l b = false := by unfold roV; rw [h1]; rfl
    have HE : Hid (roE c f l b = 1) := Lib.hid (by unfold roE; rw [h1]; rfl)
    have HN : Hid (roC c f l b = 0 ∧ roF c f l b = 0 ∧ roL c f l b = []) := Lib.hid (by unfold roC roF roL; rw [hv]; exact ⟨rfl, rfl, rfl⟩)
    have H := Lib.hid h1
    clear h1 hv
    go_enter Try.func11, Try.ntmps11
    go_wp2_with fail
    generalize (w.alloc (.cells #[.int .i64 c, .int .i64 f, .slice p l.length cap] 26)).alloc (.cells #[.int .i64 0, .int .i64 0, .slice none 0 0] 26) = w0 at BF0 R0 W0 f0 f1 f2 ⊢
    refine (impl_ValidFlux c f p l cap _ (hI.below W0) hl).mono ?_
    rintro e w1 ⟨rfl, hb1⟩
    rw [H.out]
    have R1 := R0.keep hb1
    have BF1 := BF0.keep hb1
    have W1 := below_st W0 hb1 (Nat.le_refl _)
    obtain ⟨r0, r1', r2⟩ := R1.cell3
    have rf := R1.frozen
    have rlt := R1.lt
    obtain ⟨e0, e1, e2⟩ := (R1.set3 (.int .i64 0) (.int .i64 0) (.slice none 0 0)).cell3
    go_wp2_with fail
    refine bodyPost_ret (v := .tuple #[.agg #[.int .i64 0, .int .i64 0, .slice none 0 0], .int .i64 1]) (by simp [results, Try.results11, go_sem, e0, e1, e2]) rfl ?_
    rw [HN.out.1, HN.out.2.1, HN.out.2.2, HE.out]
    exact ⟨none, 0, rfl, OwnS.nil_ _ _ _, ((W1.setCell (p := ⟨w.heap.size + 1, 0, none⟩) (Nat.le_succ _) (.int .i64 0)).setCell (p := ⟨w.heap.size + 1, 1, none⟩) (Nat.le_succ _) (.int .i64 0)).setCell (p := ⟨w.heap.size + 1, 2, none⟩) (Nat.le_succ _) (.slice none 0 0)⟩
  obtain ⟨-, hlen, hgm, hpre, hf0, hsum⟩ := fluxOk_bd h1
  have hsums := fluxOk_sums h1
  have HS := Lib.hid hsums
  have HIN := Lib.hid (chg_in h1)
  have HUP := Lib.hid (chg_rises h1)
  have H := Lib.hid h1
  have hsm1 : IntKind.i64.wrap (l.sum - 1) = l.sum - 1 := IntWalk.i64_in _ (by omega)
  obtain h2 | h2 := (Bool.eq_false_or_eq_true (roIn l b)).symm
  · have hv : roV c f l b = false := by unfold roV; rw [h2, Bool.and_false]
    have HE : Hid (roE c f l b = 2) := Lib.hid (by unfold roE; rw [h1, h2]; rfl)
    have HN : Hid (roC c f l b = 0 ∧ roF c f l b = 0 ∧ roL c f l b = []) := Lib.hid (by unfold roC roF roL; rw [hv]; exact ⟨rfl, rfl, rfl⟩)
    have H2 : Hid (inB b 0 (l.sum - 1) = false) := Lib.hid h2
    clear h1 h2 hv hgm hpre hsums
    go_enter Try.func11, Try.ntmps11
    go_wp2_with fail
    generalize (w.alloc (.cells #[.int .i64 c, .int .i64 f, .slice p l.length cap] 26)).alloc (.cells #[.int .i64 0, .int .i64 0, .slice none 0 0] 26) = w0 at BF0 R0 W0 f0 f1 f2 ⊢
    refine (impl_ValidFlux c f p l cap _ (hI.below W0) hl).mono ?_
    rintro e w1 ⟨rfl, hb1⟩
    rw [H.out]
    have R1 := R0.keep hb1
    have BF1 := BF0.keep hb1
    have W1 := below_st W0 hb1 (Nat.le_refl _)
    clear f0 f1 f2
    obtain ⟨f0, f1, f2⟩ := BF1.cell3
    go_wp2_with fail
    refine (impl_total p l cap _ (hI.below W1) hl HS.out.1).mono ?_
    rintro e w' ⟨rfl, hww⟩
    rw [hww]
    clear hww w'
    go_wp2_with fail
    refine (within_any b 0 (l.sum - 1) _).mono ?_
    rintro e w'' ⟨rfl, hww⟩
    rw [← hww, H2.out]
    clear hww w''
    obtain ⟨r0, r1', r2⟩ := R1.cell3
    have rf := R1.frozen
    have rlt := R1.lt
    obtain ⟨e0, e1, e2⟩ := (R1.set3 (.int .i64 0) (.int .i64 0) (.slice none 0 0)).cell3
    go_wp2_with fail
    refine bodyPost_ret (v := .tuple #[.agg #[.int .i64 0, .int .i64 0, .slice none 0 0], .int .i64 2]) (by simp [results, Try.results11, go_sem, e0, e1, e2]) rfl ?_
    rw [HN.out.1, HN.out.2.1, HN.out.2.2, HE.out]
    exact ⟨none, 0, rfl, OwnS.nil_ _ _ _, ((W1.setCell (p := ⟨w.heap.size + 1, 0, none⟩) (Nat.le_succ _) (.int .i64 0)).setCell (p := ⟨w.heap.size + 1, 1, none⟩) (Nat.le_succ _) (.int .i64 0)).setCell (p := ⟨w.heap.size + 1, 2, none⟩) (Nat.le_succ _) (.slice none 0 0)⟩
  have hv : roV c f l b = true := by unfold roV; rw [h1, h2]; rfl
  have HC : Hid (roC c f l b = c) := Lib.hid (by unfold roC; rw [hv]; rfl)
  have HF : Hid (roF c f l b = (roT f l b).headD 0) := Lib.hid (by unfold roF; rw [hv]; rfl)
  have HL : Hid (roL c f l b = gapsT (roT f l b) l.sum) := Lib.hid (by unfold roL; rw [hv]; rfl)
  have HE : Hid (roE c f l b = 0) := Lib.hid (by unfold roE; rw [h1, h2]; rfl)
  have H2 : Hid (inB b 0 (l.sum - 1) = true) := Lib.hid h2
  have hb := inB_iff.1 (show inB b 0 (l.sum - 1) = true from h2)
  have hcl := chgL_len f l
  have hTl := roT_len f l b
  clear h1 h2 hv hgm hpre hsums
  go_enter Try.func11, Try.ntmps11
  go_wp2_with fail
  generalize (w.alloc (.cells #[.int .i64 c, .int .i64 f, .slice p l.length cap] 26)).alloc (.cells #[.int .i64 0, .int .i64 0, .slice none 0 0] 26) = w0 at BF0 R0 W0 f0 f1 f2 ⊢
  refine (impl_ValidFlux c f p l cap _ (hI.below W0) hl).mono ?_
  rintro e w1 ⟨rfl, hb1⟩
  rw [H.out]
  have R1 := R0.keep hb1
  have BF1 := BF0.keep hb1
  have W1 := below_st W0 hb1 (Nat.le_refl _)
  clear f0 f1 f2
  obtain ⟨f0, f1, f2⟩ := BF1.cell3
  go_wp2_with fail
  refine (impl_total p l cap _ (hI.below W1) hl HS.out.1).mono ?_
  rintro e w' ⟨rfl, hww⟩
  rw [hww]
  clear hww w'
  go_wp2_with fail
  refine (within_any b 0 (l.sum - 1) _).mono ?_
  rintro e w'' ⟨rfl, hww⟩
  rw [← hww, H2.out]
  clear hww w''
  clear f0 f1 f2
  obtain ⟨f0, f1, f2⟩ := BF1.cell3
  go_wp2_with fail
  refine (impl_changes c f p l cap _ (hI.below W1) hl HS.out.2).mono ?_
  rintro e w3 ⟨q, dq, rfl, S3, hb3⟩
  have R3 := R1.keep hb3
  have BF3 := BF1.keep hb3
  have W3 := below_st W1 hb3 (Nat.le_refl _)
  have hz3 := hb3.size
  have hzR := R1.lt
  have hzF := BF1.lt
  obtain ⟨g, rfl, hg, hrow0⟩ := S3 (by intro e; rw [e] at hcl; simp at hcl; omega)
  clear hb3 S3 f0 f1 f2
  have hTE : Hid (roT f l b = rotT b l.sum (chgL f l)) := Lib.hid rfl
  generalize roT f l b = T at *
  generalize chgL f l = X at *
  obtain ⟨B, eB⟩ : ∃ B, w1.heap.size = B := ⟨_, rfl⟩
  rw [eB] at hg hz3 hzR hzF
  have hsort : Hid (((rotM b l.sum X).mergeSort fun x y => decide (x ≤ y)) = T) := Lib.hid (by rw [hTE.out]; exact rot_sort hb HIN.out HUP.out)
  have hml : (rotM b l.sum X).length = X.length := by simp [rotM]
  have hma : ∀ k (h : k < X.length), (rotM b l.sum X)[k]'(by rw [hml]; exact h) = (X[k] - b) % l.sum := fun k h => by simp [rotM]
  generalize rotM b l.sum X = M at *
  rw [hcl]
  go_wp2_with fail
  go_loopw [27] (fun i wr => ∃ k : Nat, k ≤ l.length ∧ i = .int .i64 k ∧ RowI wr g (M.take k ++ X.drop k) ∧ Below B w3 wr) (fun i _ => l.length - (intOf i).toNat)
  case atStart => exact ⟨0, Nat.zero_le _, rfl, by simpa using hrow0, Below.refl _ _⟩
  case round =>
    obtain ⟨k, hk, rfl, hrow, hbel⟩ := hrel
    by_cases hlt : k < l.length
    · have hkX : k < X.length := by omega
      have hnow : (M.take k ++ X.drop k).length = X.length := by simp; omega
      obtain ⟨hc, hf⟩ := hrow.cell (k := k) (by omega)
      rw [mix_at hml hkX] at hc
      have hxb := HIN.out _ (List.getElem_mem hkX)
      have hset := hrow.set_ k (M[k]'(by omega))
      rw [mix_set hml hkX, hma k hkX] at hset
      obtain ⟨x, ex⟩ : ∃ x, X[k] = x := ⟨_, rfl⟩
      rw [ex] at hc hxb hset
      have q1 : IntKind.i64.wrap (x - b) = x - b := IntWalk.i64_in _ (by omega)
      obtain ⟨y, ey⟩ : ∃ y, (x - b) % l.sum = y := ⟨_, rfl⟩
      have hmod := fun w' => modulo_any (x - b) l.sum w' (by omega) (by omega)
      rw [ey] at hset hmod
      have HSET := Lib.hid hset
      clear hset
      go_wp2_with (go_at_call 50; refine (hmod _).mono ?_; rintro e w' ⟨rfl, rfl⟩)
      exact ⟨⟨k + 1, by omega, by go_num, HSET.out, hbel.setCell (p := ⟨g, k, none⟩) hg _⟩, by simp [intOf]; omega⟩
    · have hT : M.take k ++ X.drop k = M := by rw [List.take_of_length_le (by omega), List.drop_of_length_le (by omega), List.append_nil]
      rw [hT] at hrow
      have hmm : M.length = l.length := by omega
      have hsr := sort_row dq hrow (by omega)
      rw [hmm, hsort.out] at hsr
      go_wp2_with fail
      refine hsr.mono ?_
      rintro e w4 ⟨rfl, hrow4, ha4⟩
      replace hbel : Below B w3 w4 := hbel.trans (ha4.below (by have := hbel.size; omega) (fun g' e => by injection e with e; omega))
      have hTI : IntsAt w4 (some ⟨g, 0, none⟩) T := hrow4.ints
      have Rr := R3.below hbel hzR
      have BFr := BF3.below hbel hzF
      have Wr : Below w.heap.size w w4 := W3.trans (hbel.mono (by have := W1.size; omega))
      obtain ⟨f0, f1, f2⟩ := BFr.cell3
      have hcon := impl_fluxOfTimes _ T dq l.sum c _ hTI (by omega) (by omega)
      rw [hTl] at hcon
      obtain ⟨t0, et0⟩ : ∃ t0, T.headD 0 = t0 := ⟨_, rfl⟩
      rw [et0] at hcon
      have HT0 := Lib.hid et0
      clear et0
      have HCON := Lib.hid hcon
      clear hcon
      go_wp2_with fail
      refine HCON.out.mono ?_
      rintro e w5 ⟨q5, d5, rfl, S5, hb5⟩
      have R5 := Rr.keep hb5
      obtain ⟨r0, r1', r2⟩ := R5.cell3
      have rf := R5.frozen
      have hw5 := below_st Wr hb5 (Nat.le_refl _)
      have hzw := Wr.size
      have hzr' := Rr.lt
      obtain ⟨e0, e1, e2⟩ := (R5.set3 (.int .i64 c) (.int .i64 t0) (.slice q5 (gapsT T l.sum).length d5)).cell3
      have S6 := ((S5.offS (g' := w.heap.size + 1) hzr' 0 (.int .i64 c)).offS (g' := w.heap.size + 1) hzr' 1 (.int .i64 t0)).offS (g' := w.heap.size + 1) hzr' 2 (.slice q5 (gapsT T l.sum).length d5)
      go_wp2_with fail
      refine bodyPost_ret (v := .tuple #[.agg #[.int .i64 c, .int .i64 t0, .slice q5 (gapsT T l.sum).length d5], .int .i64 0]) (by simp [results, Try.results11, go_sem, e0, e1, e2]) rfl ?_
      rw [HC.out, HF.out, HL.out, HE.out, HT0.out]
      exact ⟨q5, d5, rfl, S6.mono hzw, ((hw5.setCell (p := ⟨w.heap.size + 1, 0, none⟩) (Nat.le_succ _) _).setCell (p := ⟨w.heap.size + 1, 1, none⟩) (Nat.le_succ _) _).setCell (p := ⟨w.heap.size + 1, 2, none⟩) (Nat.le_succ _) _⟩
set_option maxHeartbeats 4000000 in
set_option maxRecDepth 20000 in
theorem spec_RotateFlux (c f : Int) (p : Option Addr) (l : List Int) (cap : Nat) (b : Int) (w : World) (hI : IntsAt w p l) (hl : l.length ≤ 1048576) :
    Calls Try.prog 9 #[.agg #[.int .i64 c, .int .i64 f, .slice p l.length cap], .int .i64 b] w fun e w' => ∃ (q : Option Addr) (dq : Nat), e = .returned (.tuple #[.agg #[.int .i64 (roC c f l b), .int .i64 (roF c f l b), .slice q (roL c f l b).length dq], .int .i64 (roE c f l b)]) ∧ OwnS w' w.heap.size q (roL c f l b) ∧ Below w.heap.size w w' := by
  have BF0 := (Blk.new w 26 #[.int .i64 c, .int .i64 f, .slice p l.length cap]).alloc' (.cells #[.int .i64 0, .int .i64 0, .slice none 0 0] 26)
  have R0 := Blk.new (w.alloc (.cells #[.int .i64 c, .int .i64 f, .slice p l.length cap] 26)) 26 #[.int .i64 0, .int .i64 0, .slice none 0 0]
  have esz : (w.alloc (.cells #[.int .i64 c, .int .i64 f, .slice p l.length cap] 26)).heap.size = w.heap.size + 1 := by simp
  rw [esz] at R0
  have W0 : Below w.heap.size w ((w.alloc (.cells #[.int .i64 c, .int .i64 f, .slice p l.length cap] 26)).alloc (.cells #[.int .i64 0, .int .i64 0, .slice none 0 0] 26)) := ((Below.refl _ _).alloc (Nat.le_refl _) _).alloc (by simp) _
  clear esz
  obtain ⟨f0, f1, f2⟩ := BF0.cell3
  obtain h1 | h1 := (Bool.eq_false_or_eq_true (fluxOk c f l)).symm
  · have hv : roV c f l b = false := by unfold roV; rw [h1]; rfl
    have HE : Hid (roE c f l b = 1) := Lib.hid (by unfold roE; rw [h1]; rfl)
    have HN : Hid (roC c f l b = 0 ∧ roF c f l b = 0 ∧ roL c f l b = []) := Lib.hid (by unfold roC roF roL; rw [hv]; exact ⟨rfl, rfl, rfl⟩)
    have H := Lib.hid h1
    clear h1 hv
    go_enter Try.func9, Try.ntmps9
    go_wp2_with fail
    generalize (w.alloc (.cells #[.int .i64 c, .int .i64 f, .slice p l.length cap] 26)).alloc (.cells #[.int .i64 0, .int .i64 0, .slice none 0 0] 26) = w0 at BF0 R0 W0 f0 f1 f2 ⊢
    refine (spec_l02Ok c f p l cap _ _ (hI.below W0) hl BF0).mono ?_
    rintro e w1 ⟨rfl, hb1⟩
    rw [H.out]
    have R1 := R0.keep hb1
    have BF1 := BF0.keep hb1
    have W1 := below_st W0 hb1 (Nat.le_refl _)
    obtain ⟨r0, r1', r2⟩ := R1.cell3
    have rf := R1.frozen
    have rlt := R1.lt
    obtain ⟨e0, e1, e2⟩ := (R1.set3 (.int .i64 0) (.int .i64 0) (.slice none 0 0)).cell3
    go_wp2_with fail
    refine bodyPost_ret (v := .tuple #[.agg #[.int .i64 0, .int .i64 0, .slice none 0 0], .int .i64 1]) (by simp [results, Try.results9, go_sem, e0, e1, e2]) rfl ?_
    rw [HN.out.1, HN.out.2.1, HN.out.2.2, HE.out]
    exact ⟨none, 0, rfl, OwnS.nil_ _ _ _, ((W1.setCell (p := ⟨w.heap.size + 1, 0, none⟩) (Nat.le_succ _) (.int .i64 0)).setCell (p := ⟨w.heap.size + 1, 1, none⟩) (Nat.le_succ _) (.int .i64 0)).setCell (p := ⟨w.heap.size + 1, 2, none⟩) (Nat.le_succ _) (.slice none 0 0)⟩
  obtain ⟨-, hlen, hgm, hpre, hf0, hsum⟩ := fluxOk_bd h1
  have hsums := fluxOk_sums h1
  have HS := Lib.hid hsums
  have HIN := Lib.hid (chg_in h1)
  have HUP := Lib.hid (chg_rises h1)
  have H := Lib.hid h1
  have hsm1 : IntKind.i64.wrap (l.sum - 1) = l.sum - 1 := IntWalk.i64_in _ (by omega)
  obtain h2 | h2 := (Bool.eq_false_or_eq_true (roIn l b)).symm
  · have hv : roV c f l b = false := by unfold roV; rw [h2, Bool.and_false]
    have HE : Hid (roE c f l b = 2) := Lib.hid (by unfold roE; rw [h1, h2]; rfl)
    have HN : Hid (roC c f l b = 0 ∧ roF c f l b = 0 ∧ roL c f l b = []) := Lib.hid (by unfold roC roF roL; rw [hv]; exact ⟨rfl, rfl, rfl⟩)
    have H2 : Hid (inB b 0 (l.sum - 1) = false) := Lib.hid h2
    clear h1 h2 hv hgm hpre hsums
    go_enter Try.func9, Try.ntmps9
    go_wp2_with fail
    generalize (w.alloc (.cells #[.int .i64 c, .int .i64 f, .slice p l.length cap] 26)).alloc (.cells #[.int .i64 0, .int .i64 0, .slice none 0 0] 26) = w0 at BF0 R0 W0 f0 f1 f2 ⊢
    refine (spec_l02Ok c f p l cap _ _ (hI.below W0) hl BF0).mono ?_
    rintro e w1 ⟨rfl, hb1⟩
    rw [H.out]
    have R1 := R0.keep hb1
    have BF1 := BF0.keep hb1
    have W1 := below_st W0 hb1 (Nat.le_refl _)
    clear f0 f1 f2
    obtain ⟨f0, f1, f2⟩ := BF1.cell3
    go_wp2_with fail
    refine (spec_l02Revolution c f p l cap _ _ (hI.below W1) hl HS.out.1 BF1).mono ?_
    rintro e w' ⟨rfl, hww⟩
    rw [hww]
    clear hww w'
    go_wp2_with fail
    refine (l00In_any b 0 (l.sum - 1) _).mono ?_
    rintro e w'' ⟨rfl, hww⟩
    rw [← hww, H2.out]
    clear hww w''
    obtain ⟨r0, r1', r2⟩ := R1.cell3
    have rf := R1.frozen
    have rlt := R1.lt
    obtain ⟨e0, e1, e2⟩ := (R1.set3 (.int .i64 0) (.int .i64 0) (.slice none 0 0)).cell3
    go_wp2_with fail
    refine bodyPost_ret (v := .tuple #[.agg #[.int .i64 0, .int .i64 0, .slice none 0 0], .int .i64 2]) (by simp [results, Try.results9, go_sem, e0, e1, e2]) rfl ?_
    rw [HN.out.1, HN.out.2.1, HN.out.2.2, HE.out]
    exact ⟨none, 0, rfl, OwnS.nil_ _ _ _, ((W1.setCell (p := ⟨w.heap.size + 1, 0, none⟩) (Nat.le_succ _) (.int .i64 0)).setCell (p := ⟨w.heap.size + 1, 1, none⟩) (Nat.le_succ _) (.int .i64 0)).setCell (p := ⟨w.heap.size + 1, 2, none⟩) (Nat.le_succ _) (.slice none 0 0)⟩
  have hv : roV c f l b = true := by unfold roV; rw [h1, h2]; rfl
  have HC : Hid (roC c f l b = c) := Lib.hid (by unfold roC; rw [hv]; rfl)
  have HF : Hid (roF c f l b = (roT f l b).headD 0) := Lib.hid (by unfold roF; rw [hv]; rfl)
  have HL : Hid (roL c f l b = gapsT (roT f l b) l.sum) := Lib.hid (by unfold roL; rw [hv]; rfl)
  have HE : Hid (roE c f l b = 0) := Lib.hid (by unfold roE; rw [h1, h2]; rfl)
  have H2 : Hid (inB b 0 (l.sum - 1) = true) := Lib.hid h2
  have hb := inB_iff.1 (show inB b 0 (l.sum - 1) = true from h2)
  have hcl := chgL_len f l
  have hTl := roT_len f l b
  clear h1 h2 hv hgm hpre hsums
  go_enter Try.func9, Try.ntmps9
  go_wp2_with fail
  generalize (w.alloc (.cells #[.int .i64 c, .int .i64 f, .slice p l.length cap] 26)).alloc (.cells #[.int .i64 0, .int .i64 0, .slice none 0 0] 26) = w0 at BF0 R0 W0 f0 f1 f2 ⊢
  refine (spec_l02Ok c f p l cap _ _ (hI.below W0) hl BF0).mono ?_
  rintro e w1 ⟨rfl, hb1⟩
  rw [H.out]
  have R1 := R0.keep hb1
  have BF1 := BF0.keep hb1
  have W1 := below_st W0 hb1 (Nat.le_refl _)
  clear f0 f1 f2
  obtain ⟨f0, f1, f2⟩ := BF1.cell3
  go_wp2_with fail
  refine (spec_l02Revolution c f p l cap _ _ (hI.below W1) hl HS.out.1 BF1).mono ?_
  rintro e w' ⟨rfl, hww⟩
  rw [hww]
  clear hww w'
  go_wp2_with fail
  refine (l00In_any b 0 (l.sum - 1) _).mono ?_
  rintro e w'' ⟨rfl, hww⟩
  rw [← hww, H2.out]
  clear hww w''
  clear f0 f1 f2
  obtain ⟨f0, f1, f2⟩ := BF1.cell3
  go_wp2_with fail
  refine (spec_l02Changes c f p l cap _ _ (hI.below W1) hl HS.out.2 BF1).mono ?_
  rintro e w3 ⟨q, dq, rfl, S3, hb3⟩
  have R3 := R1.keep hb3
  have BF3 := BF1.keep hb3
  have W3 := below_st W1 hb3 (Nat.le_refl _)
  have hz3 := hb3.size
  have hzR := R1.lt
  have hzF := BF1.lt
  obtain ⟨g, rfl, hg, hrow0⟩ := S3 (by intro e; rw [e] at hcl; simp at hcl; omega)
  clear hb3 S3 f0 f1 f2
  have hTE : Hid (roT f l b = rotT b l.sum (chgL f l)) := Lib.hid rfl
  generalize roT f l b = T at *
  generalize chgL f l = X at *
  obtain ⟨B, eB⟩ : ∃ B, w1.heap.size = B := ⟨_, rfl⟩
  rw [eB] at hg hz3 hzR hzF
  rw [hcl]
  go_wp2_with fail
  have I3 := hrow0.ints
  have hRT := fun (k : Nat) (hk : k ≤ X.length) h1 h2 i hi => @rotT_at X k b l.sum hk HUP.out h1 h2 i hi (Nat.mod_lt _ (by omega))
  rw [← hTE.out] at hRT
  have HRT := Lib.hid hRT
  clear hRT
  go_loopw [8] (fun i wr => ∃ k : Nat, k ≤ l.length ∧ i = .int .i64 k ∧ Hid (∀ j (h : j < X.length), j < k → X[j] < b) ∧ w3 = wr) (fun i _ => l.length - (intOf i).toNat)
  case atStart => exact ⟨0, Nat.zero_le _, rfl, fun j _ h => absurd h (Nat.not_lt_zero _), rfl⟩
  case round =>
    obtain ⟨k, hk, rfl, HB, rfl⟩ := hrel
    by_cases hgo : ∃ h : k < X.length, X[k] < b
    · obtain ⟨hkX, hxb⟩ := hgo
      obtain ⟨hc, -⟩ := hrow0.cell hkX
      have HN : Hid (∀ j (h : j < X.length), j < k + 1 → X[j] < b) := Lib.hid fun j h hj => by
        by_cases e : j = k
        · subst e; exact hxb
        · exact HB.out j h (by omega)
      have hlt : k < l.length := by omega
      generalize X[k] = x at hc hxb
      go_wp2_with fail
      exact ⟨⟨k + 1, by omega, by go_num, HN, trivial⟩, by simp [intOf]; omega⟩
    · have HK : Hid (∀ h : k < X.length, b ≤ X[k]) := Lib.hid fun h => by
        rcases Int.lt_or_le X[k] b with h1 | h1
        · exact absurd ⟨h, h1⟩ hgo
        · exact h1
      obtain ⟨B2, eB2⟩ : ∃ B2, w3.heap.size = B2 := ⟨_, rfl⟩
      have hAL := (Below.refl B2 w3).alloc (by omega) (.cells #[] 2)
      clear hgo
      have hstop : k = l.length ∨ ∃ x, w3.cell? ⟨g, k, none⟩ = some (.int .i64 x) ∧ b ≤ x ∧ k < l.length := by
        by_cases hlt : k < X.length
        · exact .inr ⟨_, (hrow0.cell hlt).1, HK.out hlt, by omega⟩
        · exact .inl (by omega)
      rcases hstop with hd | ⟨x, hcx, hbx, hlt0⟩
      · subst hd
        go_wp2_with fail
        go_loopw [9, 10] (fun v i wq => ∃ j : Nat, j ≤ l.length ∧ i = .int .i64 j ∧ OwnI wq B2 v (T.take j) ∧ Below B2 w3 wq) (fun _ i _ => l.length - (intOf i).toNat)
        case atStart => exact ⟨0, Nat.zero_le _, rfl, by have h := OwnI.nil0 w3; rw [eB2] at h; exact h, (Below.refl _ _).alloc (by omega) _⟩
        case round =>
          obtain ⟨j, hj, rfl, hown, hbel⟩ := hrel
          have hz : B2 ≤ wr.heap.size := by have := hbel.size; omega
          by_cases hlj : j < l.length
          · obtain ⟨s, es⟩ : ∃ s, l.length + j = s := ⟨_, rfl⟩
            have hrm : s % l.length < l.length := Nat.mod_lt _ (by omega)
            obtain ⟨hTlen, hat⟩ := HRT.out l.length (by omega) HB.out HK.out j (by omega)
            rw [es] at hat
            simp only [hcl] at hat
            obtain ⟨r, er⟩ : ∃ r, s % l.length = r := ⟨_, rfl⟩
            have hrX : r < X.length := by omega
            obtain ⟨hc, -⟩ := (hrow0.aside (g := g) (by have := hrow0.lt; omega) hbel).cell hrX
            have hxb := HIN.out _ (List.getElem_mem hrX)
            have hat2 : T[j]? = some (if X[r] - b < 0 then X[r] - b + l.sum else X[r] - b) := by rw [hat]; simp only [er]
            obtain ⟨x, ex⟩ : ∃ x, X[r] = x := ⟨_, rfl⟩
            rw [ex] at hat2 hc hxb
            clear hat ex
            have hjT : j < T.length := by omega
            rw [List.getElem?_eq_getElem hjT] at hat2
            injection hat2 with hat2
            have HT := Lib.hid (takeI_snoc hjT)
            have q0 : IntKind.i64.wrap ((l.length : Int) + (j : Int)) = (s : Int) := by rw [IntWalk.i64_in _ (by omega)]; omega
            have qm : (s : Int).tmod (l.length : Int) = (r : Int) := by rw [Int.tmod_eq_emod_of_nonneg (by omega), ← er]; rfl
            have q2 : IntKind.i64.wrap (r : Int) = (r : Int) := IntWalk.i64_in _ (by omega)
            have i1 : (r : Int) < (l.length : Int) := by omega
            have i2 : ¬ ((l.length : Int) = 0) := by omega
            have q3 : IntKind.i64.wrap (x - b) = x - b := IntWalk.i64_in _ (by omega)
            have hTj : (T.take j).length ≤ 1048576 := by rw [List.length_take]; omega
            by_cases hneg : x - b < 0
            · rw [if_pos hneg] at hat2
              have q4 : IntKind.i64.wrap (x - b + l.sum) = x - b + l.sum := IntWalk.i64_in _ (by omega)
              have HA := Lib.hid hat2
              clear hat2
              go_wp2_with (at_builtin; refine append_int _ rfl (.tmp 60) (.tmp 62) rfl B2 u9 (T.take j) _ rfl rfl hown (by omega) hz ?_; intro v1 w2 hown1 hbel1)
              rw [← HA.out, ← HT.out] at hown1
              exact ⟨⟨j + 1, by omega, by go_num, hown1, hbel.trans (hbel1.mono (Nat.le_refl _))⟩, by simp [intOf]; omega⟩
            · rw [if_neg hneg] at hat2
              have HA := Lib.hid hat2
              clear hat2
              go_wp2_with (at_builtin; refine append_int _ rfl (.tmp 60) (.tmp 62) rfl B2 u9 (T.take j) _ rfl rfl hown (by omega) hz ?_; intro v1 w2 hown1 hbel1)
              rw [← HA.out, ← HT.out] at hown1
              exact ⟨⟨j + 1, by omega, by go_num, hown1, hbel.trans (hbel1.mono (Nat.le_refl _))⟩, by simp [intOf]; omega⟩
          · have hTt : T.take j = T := List.take_of_length_le (by omega)
            rw [hTt] at hown
            obtain ⟨q6, d6, rfl, ST⟩ := hown.open_
            replace hbel : Below B w3 wr := hbel.mono (by omega)
            have hTI := ST.ints
            have Rr := R3.below hbel hzR
            have BFr := BF3.below hbel hzF
            have Wr : Below w.heap.size w wr := W3.trans (hbel.mono (by have := W1.size; omega))
            obtain ⟨f0, f1, f2⟩ := BFr.cell3
            have hcon := spec_l02Times _ T d6 l.sum c _ hTI (by omega) (by omega)
            rw [hTl] at hcon
            obtain ⟨t0, et0⟩ : ∃ t0, T.headD 0 = t0 := ⟨_, rfl⟩
            rw [et0] at hcon
            have HT0 := Lib.hid et0
            clear et0
            have HCON := Lib.hid hcon
            clear hcon
            go_wp2_with fail
            refine HCON.out.mono ?_
            rintro e w5 ⟨q5, d5, rfl, S5, hb5⟩
            have R5 := Rr.keep hb5
            obtain ⟨r0, r1', r2⟩ := R5.cell3
            have rf := R5.frozen
            have hw5 := below_st Wr hb5 (Nat.le_refl _)
            have hzw := Wr.size
            have hzr' := Rr.lt
            obtain ⟨e0, e1, e2⟩ := (R5.set3 (.int .i64 c) (.int .i64 t0) (.slice q5 (gapsT T l.sum).length d5)).cell3
            have S6 := ((S5.offS (g' := w.heap.size + 1) hzr' 0 (.int .i64 c)).offS (g' := w.heap.size + 1) hzr' 1 (.int .i64 t0)).offS (g' := w.heap.size + 1) hzr' 2 (.slice q5 (gapsT T l.sum).length d5)
            go_wp2_with fail
            refine bodyPost_ret (v := .tuple #[.agg #[.int .i64 c, .int .i64 t0, .slice q5 (gapsT T l.sum).length d5], .int .i64 0]) (by simp [results, Try.results9, go_sem, e0, e1, e2]) rfl ?_
            rw [HC.out, HF.out, HL.out, HE.out, HT0.out]
            exact ⟨q5, d5, rfl, S6.mono hzw, ((hw5.setCell (p := ⟨w.heap.size + 1, 0, none⟩) (Nat.le_succ _) _).setCell (p := ⟨w.heap.size + 1, 1, none⟩) (Nat.le_succ _) _).setCell (p := ⟨w.heap.size + 1, 2, none⟩) (Nat.le_succ _) _⟩
      · skip
        go_wp2_with fail
        go_loopw [9, 10] (fun v i wq => ∃ j : Nat, j ≤ l.length ∧ i = .int .i64 j ∧ OwnI wq B2 v (T.take j) ∧ Below B2 w3 wq) (fun _ i _ => l.length - (intOf i).toNat)
        case atStart => exact ⟨0, Nat.zero_le _, rfl, by have h := OwnI.nil0 w3; rw [eB2] at h; exact h, (Below.refl _ _).alloc (by omega) _⟩
        case round =>
          obtain ⟨j, hj, rfl, hown, hbel⟩ := hrel
          have hz : B2 ≤ wr.heap.size := by have := hbel.size; omega
          by_cases hlj : j < l.length
          · obtain ⟨s, es⟩ : ∃ s, k + j = s := ⟨_, rfl⟩
            have hrm : s % l.length < l.length := Nat.mod_lt _ (by omega)
            obtain ⟨hTlen, hat⟩ := HRT.out k (by omega) HB.out HK.out j (by omega)
            rw [es] at hat
            simp only [hcl] at hat
            obtain ⟨r, er⟩ : ∃ r, s % l.length = r := ⟨_, rfl⟩
            have hrX : r < X.length := by omega
            obtain ⟨hc, -⟩ := (hrow0.aside (g := g) (by have := hrow0.lt; omega) hbel).cell hrX
            have hxb := HIN.out _ (List.getElem_mem hrX)
            have hat2 : T[j]? = some (if X[r] - b < 0 then X[r] - b + l.sum else X[r] - b) := by rw [hat]; simp only [er]
            obtain ⟨x, ex⟩ : ∃ x, X[r] = x := ⟨_, rfl⟩
            rw [ex] at hat2 hc hxb
            clear hat ex
            have hjT : j < T.length := by omega
            rw [List.getElem?_eq_getElem hjT] at hat2
            injection hat2 with hat2
            have HT := Lib.hid (takeI_snoc hjT)
            have q0 : IntKind.i64.wrap ((k : Int) + (j : Int)) = (s : Int) := by rw [IntWalk.i64_in _ (by omega)]; omega
            have qm : (s : Int).tmod (l.length : Int) = (r : Int) := by rw [Int.tmod_eq_emod_of_nonneg (by omega), ← er]; rfl
            have q2 : IntKind.i64.wrap (r : Int) = (r : Int) := IntWalk.i64_in _ (by omega)
            have i1 : (r : Int) < (l.length : Int) := by omega
            have i2 : ¬ ((l.length : Int) = 0) := by omega
            have q3 : IntKind.i64.wrap (x - b) = x - b := IntWalk.i64_in _ (by omega)
            have hTj : (T.take j).length ≤ 1048576 := by rw [List.length_take]; omega
            by_cases hneg : x - b < 0
            · rw [if_pos hneg] at hat2
              have q4 : IntKind.i64.wrap (x - b + l.sum) = x - b + l.sum := IntWalk.i64_in _ (by omega)
              have HA := Lib.hid hat2
              clear hat2
              go_wp2_with (at_builtin; refine append_int _ rfl (.tmp 60) (.tmp 62) rfl B2 u9 (T.take j) _ rfl rfl hown (by omega) hz ?_; intro v1 w2 hown1 hbel1)
              rw [← HA.out, ← HT.out] at hown1
              exact ⟨⟨j + 1, by omega, by go_num, hown1, hbel.trans (hbel1.mono (Nat.le_refl _))⟩, by simp [intOf]; omega⟩
            · rw [if_neg hneg] at hat2
              have HA := Lib.hid hat2
              clear hat2
              go_wp2_with (at_builtin; refine append_int _ rfl (.tmp 60) (.tmp 62) rfl B2 u9 (T.take j) _ rfl rfl hown (by omega) hz ?_; intro v1 w2 hown1 hbel1)
              rw [← HA.out, ← HT.out] at hown1
              exact ⟨⟨j + 1, by omega, by go_num, hown1, hbel.trans (hbel1.mono (Nat.le_refl _))⟩, by simp [intOf]; omega⟩
          · have hTt : T.take j = T := List.take_of_length_le (by omega)
            rw [hTt] at hown
            obtain ⟨q6, d6, rfl, ST⟩ := hown.open_
            replace hbel : Below B w3 wr := hbel.mono (by omega)
            have hTI := ST.ints
            have Rr := R3.below hbel hzR
            have BFr := BF3.below hbel hzF
            have Wr : Below w.heap.size w wr := W3.trans (hbel.mono (by have := W1.size; omega))
            obtain ⟨f0, f1, f2⟩ := BFr.cell3
            have hcon := spec_l02Times _ T d6 l.sum c _ hTI (by omega) (by omega)
            rw [hTl] at hcon
            obtain ⟨t0, et0⟩ : ∃ t0, T.headD 0 = t0 := ⟨_, rfl⟩
            rw [et0] at hcon
            have HT0 := Lib.hid et0
            clear et0
            have HCON := Lib.hid hcon
            clear hcon
            go_wp2_with fail
            refine HCON.out.mono ?_
            rintro e w5 ⟨q5, d5, rfl, S5, hb5⟩
            have R5 := Rr.keep hb5
            obtain ⟨r0, r1', r2⟩ := R5.cell3
            have rf := R5.frozen
            have hw5 := below_st Wr hb5 (Nat.le_refl _)
            have hzw := Wr.size
            have hzr' := Rr.lt
            obtain ⟨e0, e1, e2⟩ := (R5.set3 (.int .i64 c) (.int .i64 t0) (.slice q5 (gapsT T l.sum).length d5)).cell3
            have S6 := ((S5.offS (g' := w.heap.size + 1) hzr' 0 (.int .i64 c)).offS (g' := w.heap.size + 1) hzr' 1 (.int .i64 t0)).offS (g' := w.heap.size + 1) hzr' 2 (.slice q5 (gapsT T l.sum).length d5)
            go_wp2_with fail
            refine bodyPost_ret (v := .tuple #[.agg #[.int .i64 c, .int .i64 t0, .slice q5 (gapsT T l.sum).length d5], .int .i64 0]) (by simp [results, Try.results9, go_sem, e0, e1, e2]) rfl ?_
            rw [HC.out, HF.out, HL.out, HE.out, HT0.out]
            exact ⟨q5, d5, rfl, S6.mono hzw, ((hw5.setCell (p := ⟨w.heap.size + 1, 0, none⟩) (Nat.le_succ _) _).setCell (p := ⟨w.heap.size + 1, 1, none⟩) (Nat.le_succ _) _).setCell (p := ⟨w.heap.size + 1, 2, none⟩) (Nat.le_succ _) _⟩
end Go.Proofs.Ytfdcainjppljhaa
