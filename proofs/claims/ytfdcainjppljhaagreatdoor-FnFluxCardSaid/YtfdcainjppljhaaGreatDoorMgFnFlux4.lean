/- ComW. Printed by conr3.py. RotateFlux: contracts. Printed by rotgen.py. Small lemmas for the laws' walks. RotateCells. FnFlux, plain: the text of flux is read back; turned cells give turned flux. The source of choices: next, pick, one, among, and what they leave alone. Draws of strings; the laws' own helpers. Draws of cells. Draws of flux. b10At's number, named; the draw of FluxOf. Equality of lists; SameFlux. Arguments opened: structs by value, slices. Arguments opened: slices of bytes. -/
import Derived.Test.YtfdcainjppljhaaGreatDoorMgFnFlux1
import Derived.Test.YtfdcainjppljhaaGreatDoorMgFnFlux2
import Derived.Test.YtfdcainjppljhaaGreatDoorMgFnFlux3
import Derived.Deep.RegionHeld3
import Derived.Deep.DeepCutAuto
import Derived.BigRegion
import Derived.Deep.QuietTactic
import Derived.Handy
import Derived.Deep.RegionLaw
import Derived.Lib.SmallJoins
import Derived.ChangeSame
import Derived.ProofKit
import Derived.OpenShut
import Derived.Deep.Slices
import Derived.Deep.Fields
import Derived.ChangeSlices
namespace Go.Proofs.YtfdcainjppljhaaGreatDoor
open Go.RowKit
set_option linter.unusedVariables false
/-- How many of the first k numbers of a list another has. -/
def comP (x y : List Int) (k : Nat) : Int := (((x.take k).filter fun a => decide (a ∈ y)).length : Nat)
theorem comP_yes {x y : List Int} {k : Nat} (hx : k < x.length) (h : decide (x[k] ∈ y) = true) : comP x y (k + 1) = comP x y k + 1 := by
  unfold comP
  rw [takeI_snoc hx, List.filter_append, List.filter_cons, if_pos h]
  simp
theorem comP_no {x y : List Int} {k : Nat} (hx : k < x.length) (h : decide (x[k] ∈ y) = false) : comP x y (k + 1) = comP x y k := by
  unfold comP
  rw [takeI_snoc hx, List.filter_append, List.filter_cons, if_neg (by rw [h]; decide)]
  simp
theorem comP_bd (x y : List Int) (k : Nat) : 0 ≤ comP x y k ∧ comP x y k ≤ k := by
  unfold comP
  have h1 := List.length_filter_le (fun a => decide (a ∈ y)) (x.take k)
  have h2 := List.length_take_le k x
  omega
def comV (ca fa : Int) (la : List Int) (cb fb : Int) (lb : List Int) : Int := if fluxOk ca fa la && fluxOk cb fb lb then comP (chgL fa la) (chgL fb lb) la.length else 0
theorem chg_rises {c f : Int} {l : List Int} (h : fluxOk c f l = true) : (chgL f l).Pairwise (· < ·) := by
  obtain ⟨-, -, hm, -⟩ := fluxOk_bd h
  rw [List.pairwise_iff_getElem]
  intro i j hi hj hij
  have hl := chgL_len f l
  rw [chgL_at, chgL_at]
  have key : ∀ d, i + d + 1 ≤ l.length → (l.take i).sum < (l.take (i + d + 1)).sum := by
    intro d
    induction d with
    | zero =>
      intro hd
      have h1 := takeI_snoc (l := l) (k := i) (by omega)
      have h2 := hm l[i] (List.getElem_mem _)
      rw [Nat.add_zero, h1, List.sum_append]
      simp
      omega
    | succ d ih =>
      intro hd
      have h1 := takeI_snoc (l := l) (k := i + d + 1) (by omega)
      have h2 := hm l[i + d + 1] (List.getElem_mem _)
      have h3 := ih (by omega)
      rw [show i + (d + 1) + 1 = i + d + 1 + 1 by omega, h1, List.sum_append]
      simp
      omega
  have := key (j - i - 1) (by omega)
  rw [show i + (j - i - 1) + 1 = j by omega] at this
  omega
theorem rises_le {l : List Int} (h : l.Pairwise (· < ·)) : l.Pairwise (· ≤ ·) := h.imp fun h => by omega
end Go.Proofs.YtfdcainjppljhaaGreatDoor
namespace Go.Proofs.YtfdcainjppljhaaGreatDoor
open Go.RowKit
set_option linter.unusedVariables false
def roIn (l : List Int) (b : Int) : Bool := inB b 0 (l.sum - 1)
def roV (c f : Int) (l : List Int) (b : Int) : Bool := fluxOk c f l && roIn l b
def roT (f : Int) (l : List Int) (b : Int) : List Int := rotT b l.sum (chgL f l)
def roC (c f : Int) (l : List Int) (b : Int) : Int := if roV c f l b then c else 0
def roF (c f : Int) (l : List Int) (b : Int) : Int := if roV c f l b then (roT f l b).headD 0 else 0
def roL (c f : Int) (l : List Int) (b : Int) : List Int := if roV c f l b then gapsT (roT f l b) l.sum else []
def roE (c f : Int) (l : List Int) (b : Int) : Int := if fluxOk c f l then (if roIn l b then 0 else 2) else 1
theorem roT_len (f : Int) (l : List Int) (b : Int) : (roT f l b).length = l.length := by unfold roT; rw [rotT_len, chgL_len]
theorem roL_len (c f : Int) (l : List Int) (b : Int) : (roL c f l b).length ≤ l.length := by
  unfold roL
  split
  · rename_i h
    have h1 : fluxOk c f l = true := by unfold roV at h; rw [Bool.and_eq_true] at h; exact h.1
    obtain ⟨-, hl, -⟩ := fluxOk_bd h1
    rw [gapsT_len _ _ (by rw [roT_len]; exact hl.1), roT_len]
    exact Nat.le_refl _
  · simp
theorem chg_in {c f : Int} {l : List Int} (h : fluxOk c f l = true) : ∀ x ∈ chgL f l, 0 ≤ x ∧ x ≤ l.sum - 1 := by
  obtain ⟨-, hl, hm, hp, hf, hs⟩ := fluxOk_bd h
  obtain ⟨-, -, -, -, -, -, h7⟩ := fluxOk_iff.1 h
  have hne : l ≠ [] := by intro e; rw [e] at hl; simp at hl
  have hd : l.dropLast.sum + l.getLastD 0 = l.sum := by
    have e := List.dropLast_concat_getLast hne
    have e2 : l.getLastD 0 = l.getLast hne := by rw [List.getLastD_eq_getLast?, List.getLast?_eq_some_getLast hne]; rfl
    rw [e2]
    have := congrArg List.sum e
    rw [List.sum_append] at this
    simpa using this
  intro x hx
  obtain ⟨i, hi, rfl⟩ := List.getElem_of_mem hx
  have hcl := chgL_len f l
  have hrise := chg_rises h
  have hat := chgL_at f l i hi
  have h1 := hp i
  have hlastv : (chgL f l)[l.length - 1]'(by omega) = f + l.dropLast.sum := by
    rw [chgL_at, List.dropLast_eq_take]
  have h2 : (chgL f l)[i] ≤ (chgL f l)[l.length - 1]'(by omega) := by
    rcases Nat.lt_or_ge i (l.length - 1) with h3 | h3
    · have := List.pairwise_iff_getElem.1 hrise i (l.length - 1) hi (by omega) h3
      omega
    · have : i = l.length - 1 := by omega
      subst this; exact Int.le_refl _
  omega
set_option maxHeartbeats 4000000 in
set_option maxRecDepth 20000 in
theorem impl_RotateFlux (c f : Int) (p : Option Addr) (l : List Int) (cap : Nat) (b : Int) (w : World) (hI : IntsAt w p l) (hl : l.length ≤ 1048576) :
    Calls Tryz.prog 14 #[.agg #[.int .i64 c, .int .i64 f, .slice p l.length cap], .int .i64 b] w fun e w' => ∃ (q : Option Addr) (dq : Nat), e = .returned (.tuple #[.agg #[.int .i64 (roC c f l b), .int .i64 (roF c f l b), .slice q (roL c f l b).length dq], .int .i64 (roE c f l b)]) ∧ OwnS w' w.heap.size q (roL c f l b) ∧ Below w.heap.size w w' := by
  have BF0 := (Blk.new w 28 #[.int .i64 c, .int .i64 f, .slice p l.length cap]).alloc' (.cells #[.int .i64 0, .int .i64 0, .slice none 0 0] 28)
  have R0 := Blk.new (w.alloc (.cells #[.int .i64 c, .int .i64 f, .slice p l.length cap] 28)) 28 #[.int .i64 0, .int .i64 0, .slice none 0 0]
  have esz : (w.alloc (.cells #[.int .i64 c, .int .i64 f, .slice p l.length cap] 28)).heap.size = w.heap.size + 1 := by simp
  rw [esz] at R0
  have W0 : Below w.heap.size w ((w.alloc (.cells #[.int .i64 c, .int .i64 f, .slice p l.length cap] 28)).alloc (.cells #[.int .i64 0, .int .i64 0, .slice none 0 0] 28)) := ((Below.refl _ _).alloc (Nat.le_refl _) _).alloc (by simp) _
  clear esz
  obtain ⟨f0, f1, f2⟩ := BF0.cell3
  obtain h1 | h1 := (Bool.eq_false_or_eq_true (fluxOk c f l)).symm
  · have hv : roV c f l b = false := by unfold roV; rw [h1]; rfl
    have HE : Hid (roE c f l b = 1) := Lib.hid (by unfold roE; rw [h1]; rfl)
    have HN : Hid (roC c f l b = 0 ∧ roF c f l b = 0 ∧ roL c f l b = []) := Lib.hid (by unfold roC roF roL; rw [hv]; exact ⟨rfl, rfl, rfl⟩)
    have H := Lib.hid h1
    clear h1 hv
    go_enter Tryz.func14, Tryz.ntmps14
    go_wp2_with fail
    generalize (w.alloc (.cells #[.int .i64 c, .int .i64 f, .slice p l.length cap] 28)).alloc (.cells #[.int .i64 0, .int .i64 0, .slice none 0 0] 28) = w0 at BF0 R0 W0 f0 f1 f2 ⊢
    refine (impl_ValidFlux c f p l cap _ (hI.below W0) hl).mono ?_
    rintro e w1 ⟨rfl, hb1⟩
    rw [H.out]
    have R1 := R0.keep hb1
    have BF1 := BF0.keep hb1
    have W1 := below_st W0 hb1 (Nat.le_refl _)
    obtain ⟨r0, r1', r2⟩ := R1.cell3
    have rf := R1.frozen
    have rlt := R1.lt
    obtain ⟨e0, e1, e2⟩ := (R1.set3 (.int .i64 0) (.int .i64 0) (.slice none 0 0)).cell3
    go_wp2_with fail
    refine bodyPost_ret (v := .tuple #[.agg #[.int .i64 0, .int .i64 0, .slice none 0 0], .int .i64 1]) (by simp [results, Tryz.results14, go_sem, e0, e1, e2]) rfl ?_
    rw [HN.out.1, HN.out.2.1, HN.out.2.2, HE.out]
    exact ⟨none, 0, rfl, OwnS.nil_ _ _ _, ((W1.setCell (p := ⟨w.heap.size + 1, 0, none⟩) (Nat.le_succ _) (.int .i64 0)).setCell (p := ⟨w.heap.size + 1, 1, none⟩) (Nat.le_succ _) (.int .i64 0)).setCell (p := ⟨w.heap.size + 1, 2, none⟩) (Nat.le_succ _) (.slice none 0 0)⟩
  obtain ⟨-, hlen, hgm, hpre, hf0, hsum⟩ := fluxOk_bd h1
  have hsums := fluxOk_sums h1
  have HS := Lib.hid hsums
  have HIN := Lib.hid (chg_in h1)
  have HUP := Lib.hid (chg_rises h1)
  have H := Lib.hid h1
  have hsm1 : IntKind.i64.wrap (l.sum - 1) = l.sum - 1 := IntWalk.i64_in _ (by omega)
  obtain h2 | h2 := (Bool.eq_false_or_eq_true (roIn l b)).symm
  · have hv : roV c f l b = false := by unfold roV; rw [h2, Bool.and_false]
    have HE : Hid (roE c f l b = 2) := Lib.hid (by unfold roE; rw [h1, h2]; rfl)
    have HN : Hid (roC c f l b = 0 ∧ roF c f l b = 0 ∧ roL c f l b = []) := Lib.hid (by unfold roC roF roL; rw [hv]; exact ⟨rfl, rfl, rfl⟩)
    have H2 : Hid (inB b 0 (l.sum - 1) = false) := Lib.hid h2
    clear h1 h2 hv hgm hpre hsums
    go_enter Tryz.func14, Tryz.ntmps14
    go_wp2_with fail
    generalize (w.alloc (.cells #[.int .i64 c, .int .i64 f, .slice p l.length cap] 28)).alloc (.cells #[.int .i64 0, .int .i64 0, .slice none 0 0] 28) = w0 at BF0 R0 W0 f0 f1 f2 ⊢
    refine (impl_ValidFlux c f p l cap _ (hI.below W0) hl).mono ?_
    rintro e w1 ⟨rfl, hb1⟩
    rw [H.out]
    have R1 := R0.keep hb1
    have BF1 := BF0.keep hb1
    have W1 := below_st W0 hb1 (Nat.le_refl _)
    clear f0 f1 f2
    obtain ⟨f0, f1, f2⟩ := BF1.cell3
    go_wp2_with fail
    refine (impl_total p l cap _ (hI.below W1) hl HS.out.1).mono ?_
    rintro e w' ⟨rfl, hww⟩
    rw [hww]
    clear hww w'
    go_wp2_with fail
    refine (within_any b 0 (l.sum - 1) _).mono ?_
    rintro e w'' ⟨rfl, hww⟩
    rw [← hww, H2.out]
    clear hww w''
    obtain ⟨r0, r1', r2⟩ := R1.cell3
    have rf := R1.frozen
    have rlt := R1.lt
    obtain ⟨e0, e1, e2⟩ := (R1.set3 (.int .i64 0) (.int .i64 0) (.slice none 0 0)).cell3
    go_wp2_with fail
    refine bodyPost_ret (v := .tuple #[.agg #[.int .i64 0, .int .i64 0, .slice none 0 0], .int .i64 2]) (by simp [results, Tryz.results14, go_sem, e0, e1, e2]) rfl ?_
    rw [HN.out.1, HN.out.2.1, HN.out.2.2, HE.out]
    exact ⟨none, 0, rfl, OwnS.nil_ _ _ _, ((W1.setCell (p := ⟨w.heap.size + 1, 0, none⟩) (Nat.le_succ _) (.int .i64 0)).setCell (p := ⟨w.heap.size + 1, 1, none⟩) (Nat.le_succ _) (.int .i64 0)).setCell (p := ⟨w.heap.size + 1, 2, none⟩) (Nat.le_succ _) (.slice none 0 0)⟩
  have hv : roV c f l b = true := by unfold roV; rw [h1, h2]; rfl
  have HC : Hid (roC c f l b = c) := Lib.hid (by unfold roC; rw [hv]; rfl)
  have HF : Hid (roF c f l b = (roT f l b).headD 0) := Lib.hid (by unfold roF; rw [hv]; rfl)
  have HL : Hid (roL c f l b = gapsT (roT f l b) l.sum) := Lib.hid (by unfold roL; rw [hv]; rfl)
  have HE : Hid (roE c f l b = 0) := Lib.hid (by unfold roE; rw [h1, h2]; rfl)
  have H2 : Hid (inB b 0 (l.sum - 1) = true) := Lib.hid h2
  have hb := inB_iff.1 (show inB b 0 (l.sum - 1) = true from h2)
  have hcl := chgL_len f l
  have hTl := roT_len f l b
  clear h1 h2 hv hgm hpre hsums
  go_enter Tryz.func14, Tryz.ntmps14
  go_wp2_with fail
  generalize (w.alloc (.cells #[.int .i64 c, .int .i64 f, .slice p l.length cap] 28)).alloc (.cells #[.int .i64 0, .int .i64 0, .slice none 0 0] 28) = w0 at BF0 R0 W0 f0 f1 f2 ⊢
  refine (impl_ValidFlux c f p l cap _ (hI.below W0) hl).mono ?_
  rintro e w1 ⟨rfl, hb1⟩
  rw [H.out]
  have R1 := R0.keep hb1
  have BF1 := BF0.keep hb1
  have W1 := below_st W0 hb1 (Nat.le_refl _)
  clear f0 f1 f2
  obtain ⟨f0, f1, f2⟩ := BF1.cell3
  go_wp2_with fail
  refine (impl_total p l cap _ (hI.below W1) hl HS.out.1).mono ?_
  rintro e w' ⟨rfl, hww⟩
  rw [hww]
  clear hww w'
  go_wp2_with fail
  refine (within_any b 0 (l.sum - 1) _).mono ?_
  rintro e w'' ⟨rfl, hww⟩
  rw [← hww, H2.out]
  clear hww w''
  clear f0 f1 f2
  obtain ⟨f0, f1, f2⟩ := BF1.cell3
  go_wp2_with fail
  refine (impl_changes c f p l cap _ (hI.below W1) hl HS.out.2).mono ?_
  rintro e w3 ⟨q, dq, rfl, S3, hb3⟩
  have R3 := R1.keep hb3
  have BF3 := BF1.keep hb3
  have W3 := below_st W1 hb3 (Nat.le_refl _)
  have hz3 := hb3.size
  have hzR := R1.lt
  have hzF := BF1.lt
  obtain ⟨g, rfl, hg, hrow0⟩ := S3 (by intro e; rw [e] at hcl; simp at hcl; omega)
  clear hb3 S3 f0 f1 f2
  have hTE : Hid (roT f l b = rotT b l.sum (chgL f l)) := Lib.hid rfl
  generalize roT f l b = T at *
  generalize chgL f l = X at *
  obtain ⟨B, eB⟩ : ∃ B, w1.heap.size = B := ⟨_, rfl⟩
  rw [eB] at hg hz3 hzR hzF
  have hsort : Hid (((rotM b l.sum X).mergeSort fun x y => decide (x ≤ y)) = T) := Lib.hid (by rw [hTE.out]; exact rot_sort hb HIN.out HUP.out)
  have hml : (rotM b l.sum X).length = X.length := by simp [rotM]
  have hma : ∀ k (h : k < X.length), (rotM b l.sum X)[k]'(by rw [hml]; exact h) = (X[k] - b) % l.sum := fun k h => by simp [rotM]
  generalize rotM b l.sum X = M at *
  rw [hcl]
  go_wp2_with fail
  go_loopw [27] (fun i wr => ∃ k : Nat, k ≤ l.length ∧ i = .int .i64 k ∧ RowI wr g (M.take k ++ X.drop k) ∧ Below B w3 wr) (fun i _ => l.length - (intOf i).toNat)
  case atStart => exact ⟨0, Nat.zero_le _, rfl, by simpa using hrow0, Below.refl _ _⟩
  case round =>
    obtain ⟨k, hk, rfl, hrow, hbel⟩ := hrel
    by_cases hlt : k < l.length
    · have hkX : k < X.length := by omega
      have hnow : (M.take k ++ X.drop k).length = X.length := by simp; omega
      obtain ⟨hc, hf⟩ := hrow.cell (k := k) (by omega)
      rw [mix_at hml hkX] at hc
      have hxb := HIN.out _ (List.getElem_mem hkX)
      have hset := hrow.set_ k (M[k]'(by omega))
      rw [mix_set hml hkX, hma k hkX] at hset
      obtain ⟨x, ex⟩ : ∃ x, X[k] = x := ⟨_, rfl⟩
      rw [ex] at hc hxb hset
      have q1 : IntKind.i64.wrap (x - b) = x - b := IntWalk.i64_in _ (by omega)
      obtain ⟨y, ey⟩ : ∃ y, (x - b) % l.sum = y := ⟨_, rfl⟩
      have hmod := fun w' => modulo_any (x - b) l.sum w' (by omega) (by omega)
      rw [ey] at hset hmod
      have HSET := Lib.hid hset
      clear hset
      go_wp2_with (go_at_call 32; refine (hmod _).mono ?_; rintro e w' ⟨rfl, rfl⟩)
      exact ⟨⟨k + 1, by omega, by go_num, HSET.out, hbel.setCell (p := ⟨g, k, none⟩) hg _⟩, by simp [intOf]; omega⟩
    · have hT : M.take k ++ X.drop k = M := by rw [List.take_of_length_le (by omega), List.drop_of_length_le (by omega), List.append_nil]
      rw [hT] at hrow
      have hmm : M.length = l.length := by omega
      have hsr := sort_row dq hrow (by omega)
      rw [hmm, hsort.out] at hsr
      go_wp2_with fail
      refine hsr.mono ?_
      rintro e w4 ⟨rfl, hrow4, ha4⟩
      replace hbel : Below B w3 w4 := hbel.trans (ha4.below (by have := hbel.size; omega) (fun g' e => by injection e with e; omega))
      have hTI : IntsAt w4 (some ⟨g, 0, none⟩) T := hrow4.ints
      have Rr := R3.below hbel hzR
      have BFr := BF3.below hbel hzF
      have Wr : Below w.heap.size w w4 := W3.trans (hbel.mono (by have := W1.size; omega))
      obtain ⟨f0, f1, f2⟩ := BFr.cell3
      have hcon := impl_fluxOfTimes _ T dq l.sum c _ hTI (by omega) (by omega)
      rw [hTl] at hcon
      obtain ⟨t0, et0⟩ : ∃ t0, T.headD 0 = t0 := ⟨_, rfl⟩
      rw [et0] at hcon
      have HT0 := Lib.hid et0
      clear et0
      have HCON := Lib.hid hcon
      clear hcon
      go_wp2_with fail
      refine HCON.out.mono ?_
      rintro e w5 ⟨q5, d5, rfl, S5, hb5⟩
      have R5 := Rr.keep hb5
      obtain ⟨r0, r1', r2⟩ := R5.cell3
      have rf := R5.frozen
      have hw5 := below_st Wr hb5 (Nat.le_refl _)
      have hzw := Wr.size
      have hzr' := Rr.lt
      obtain ⟨e0, e1, e2⟩ := (R5.set3 (.int .i64 c) (.int .i64 t0) (.slice q5 (gapsT T l.sum).length d5)).cell3
      have S6 := ((S5.offS (g' := w.heap.size + 1) hzr' 0 (.int .i64 c)).offS (g' := w.heap.size + 1) hzr' 1 (.int .i64 t0)).offS (g' := w.heap.size + 1) hzr' 2 (.slice q5 (gapsT T l.sum).length d5)
      go_wp2_with fail
      refine bodyPost_ret (v := .tuple #[.agg #[.int .i64 c, .int .i64 t0, .slice q5 (gapsT T l.sum).length d5], .int .i64 0]) (by simp [results, Tryz.results14, go_sem, e0, e1, e2]) rfl ?_
      rw [HC.out, HF.out, HL.out, HE.out, HT0.out]
      exact ⟨q5, d5, rfl, S6.mono hzw, ((hw5.setCell (p := ⟨w.heap.size + 1, 0, none⟩) (Nat.le_succ _) _).setCell (p := ⟨w.heap.size + 1, 1, none⟩) (Nat.le_succ _) _).setCell (p := ⟨w.heap.size + 1, 2, none⟩) (Nat.le_succ _) _⟩
end Go.Proofs.YtfdcainjppljhaaGreatDoor
namespace Go.Proofs.YtfdcainjppljhaaGreatDoor
open Go.RowKit
theorem size_alloc' (w : World) (o : Obj) : (w.alloc o).heap.size = w.heap.size + 1 := by simp
theorem i64_bd {n : Int} (h : (Lit.int .i64 n).wf = true) : -9223372036854775808 ≤ n ∧ n ≤ 9223372036854775807 := by
  have h1 : IntKind.i64.min = -9223372036854775808 := rfl
  have h2 : IntKind.i64.max = 9223372036854775807 := rfl
  simp [Lit.wf] at h
  omega
end Go.Proofs.YtfdcainjppljhaaGreatDoor
namespace Go.Proofs.YtfdcainjppljhaaGreatDoor
open Go.RowKit
set_option linter.unusedVariables false
/-- Cells that begin with another cell. -/
def rotS (s : ByteArray) (x : Int) : ByteArray := s.extract (x % (s.size : Int)).toNat s.size ++ s.extract 0 (x % (s.size : Int)).toNat
theorem rotS_size (s : ByteArray) (x : Int) (h : 0 < s.size) : (rotS s x).size = s.size := by
  have h3 := Int.emod_nonneg x (show (s.size : Int) ≠ 0 by omega)
  have h4 := Int.emod_lt_of_pos x (show 0 < (s.size : Int) by omega)
  unfold rotS
  rw [ByteArray.size_append, ByteArray.size_extract, ByteArray.size_extract]
  omega
def rotC (s : ByteArray) (x : Int) : ByteArray := if cellsB s then rotS s x else ByteArray.empty
theorem cellsB_pos {s : ByteArray} (h : cellsB s = true) : 0 < s.size ∧ s.size ≤ 8000 := by
  unfold cellsB cellStr at h
  simp at h
  omega
set_option maxHeartbeats 1000000 in
theorem impl_RotateCells (s : ByteArray) (x : Int) (w : World) (hs : s.size ≤ 1048576) (hx : -9223372036854775808 ≤ x ∧ x ≤ 9223372036854775807) :
    Calls Tryz.prog 13 #[.string s, .int .i64 x] w fun e w' => e = .returned (.tuple #[.string (rotC s x), .bool (cellsB s)]) ∧ Below w.heap.size w w' := by
  obtain h | h := (Bool.eq_false_or_eq_true (cellsB s)).symm
  · have H := Lib.hid h
    have H2 : Hid (rotC s x = ByteArray.empty) := Lib.hid (by unfold rotC; rw [h]; rfl)
    clear h
    go_enter Tryz.func13, Tryz.ntmps13
    go_wp2_with (go_at_call 21; refine (impl_ValidCells s _ (by omega)).mono ?_; rintro e w1 ⟨rfl, hb⟩; rw [H.out])
    go_ret2
    exact ⟨ret_str_bool (by rw [H2.out]; rfl) (by rw [H.out]), hb⟩
  · have hp := cellsB_pos h
    have H := Lib.hid h
    have H2 : Hid (rotC s x = rotS s x) := Lib.hid (by unfold rotC; rw [h]; rfl)
    clear h
    have h1 := Int.tmod_lt_of_pos x (show 0 < (s.size : Int) by omega)
    have h2 := Int.lt_tmod_of_pos x (show 0 < (s.size : Int) by omega)
    have hr := rot_num x (s.size : Int) (by omega)
    have h3 := Int.emod_nonneg x (show (s.size : Int) ≠ 0 by omega)
    have h4 := Int.emod_lt_of_pos x (show 0 < (s.size : Int) by omega)
    obtain ⟨k, hk⟩ : ∃ k : Nat, x % (s.size : Int) = k := ⟨(x % (s.size : Int)).toNat, by omega⟩
    rw [hk] at hr h3 h4
    have q0 : ¬ ((s.size : Int) = 0) := by omega
    have q1 : IntKind.i64.wrap (x.tmod (s.size : Int)) = x.tmod (s.size : Int) := IntWalk.i64_in _ (by omega)
    have q2 : IntKind.i64.wrap (x.tmod (s.size : Int) + (s.size : Int)) = x.tmod (s.size : Int) + (s.size : Int) := IntWalk.i64_in _ (by omega)
    have q4 : wrap64 (x.tmod (s.size : Int) + (s.size : Int)) = x.tmod (s.size : Int) + (s.size : Int) := wrap64_of (by omega) (by omega)
    have q3 : IntKind.i64.wrap (k : Int) = (k : Int) := IntWalk.i64_in _ (by omega)
    have i1 : k ≤ s.size := by omega
    have i2 : (k : Int) ≤ (s.size : Int) := by omega
    have HK : Hid (rotS s x = s.extract k s.size ++ s.extract 0 k) := Lib.hid (by unfold rotS; rw [hk]; rfl)
    have hm := fun w => modulo_any x (s.size : Int) w (by omega) hx
    rw [hk] at hm
    clear hk
    go_enter Tryz.func13, Tryz.ntmps13
    go_wp2_with (first | (go_at_call 21; refine (impl_ValidCells s _ (by omega)).mono ?_; rintro e w1 ⟨rfl, hb⟩; rw [H.out]) | (go_at_call 32; refine (hm _).mono ?_; rintro e w2 ⟨rfl, rfl⟩))
    go_quiet (fail)
    go_wp2_with fail
    go_ret2
    exact ⟨ret_str_bool (by rw [H2.out, HK.out]) (by rw [H.out]), below_drewN hb _⟩
end Go.Proofs.YtfdcainjppljhaaGreatDoor
namespace Go.Proofs.YtfdcainjppljhaaGreatDoor
open Go.RowKit
set_option linter.unusedVariables false
theorem cut_blank : ∀ (p r : List UInt8), (∀ b ∈ p, b ≠ 32) → cutL (p ++ 32 :: r) = p :: cutL r
  | [], r, _ => cutL_blank r
  | b :: p, r, h => by
    rw [List.cons_append, cutL_other (h b (by simp)) (cut_blank p r fun x hx => h x (by simp [hx]))]
theorem cut_one : ∀ (p : List UInt8), (∀ b ∈ p, b ≠ 32) → cutL p = [p]
  | [], _ => rfl
  | b :: p, h => by rw [cutL_other (h b (by simp)) (cut_one p fun x hx => h x (by simp [hx]))]
theorem decS_no (x : Int) : ∀ b ∈ decS x, b ≠ 32 := by
  intro b hb e
  have h := (dec_is x.toNat).2.1
  have h2 := List.all_eq_true.1 h b hb
  subst e
  exact absurd h2 (by decide)
theorem cut_flat : ∀ (l : List Int) (p : List UInt8), (∀ b ∈ p, b ≠ 32) → cutL (p ++ l.flatMap (fun x => 32 :: decS x)) = p :: l.map decS
  | [], p, h => by simpa using cut_one p h
  | a :: l, p, h => by
    rw [List.flatMap_cons, List.cons_append, cut_blank p _ h, cut_flat l (decS a) (decS_no a)]
    rfl
theorem cut_txt (c f : Int) (l : List Int) : cutL (txtL c f l) = decS c :: decS f :: l.map decS := by
  unfold txtL
  rw [List.append_assoc, List.cons_append, cut_blank _ _ (decS_no c), cut_flat l _ (decS_no f)]
theorem decV_S {x : Int} (h : 0 ≤ x ∧ x < 10000000) : decV (decS x) = some x := by
  have e := decV_dec (n := x.toNat) (by omega)
  rw [Int.toNat_of_nonneg h.1] at e
  exact e
theorem read_txt {c f : Int} {l : List Int} (h : fluxOk c f l = true) :
    rfB (txtV c f l).data.toList = true ∧ rfC (txtV c f l) = c ∧ rfF (txtV c f l) = f ∧ rfL (txtV c f l) = l := by
  have hv : (txtV c f l).data.toList = txtL c f l := by unfold txtV; rw [h]; rfl
  obtain ⟨hc, hl, hm, -, hf, -⟩ := fluxOk_bd h
  have hd : decL (cutL (txtL c f l)) = c :: f :: l := by
    rw [cut_txt]
    unfold decL
    rw [List.map_cons, List.map_cons, decV_S (by omega), decV_S (by omega), List.map_map]
    simp only [Option.getD_some]
    congr 2
    exact (List.map_congr_left (fun x hx => by show (decV (decS x)).getD 0 = id x; rw [decV_S (by have := hm x hx; omega)]; rfl)).trans (List.map_id l)
  have ha : decAll (cutL (txtL c f l)) = true := by
    rw [cut_txt]
    unfold decAll
    rw [List.all_eq_true]
    intro p hp
    have hx : ∃ x : Int, p = decS x ∧ 0 ≤ x ∧ x < 10000000 := by
      simp only [List.mem_cons, List.mem_map] at hp
      rcases hp with rfl | rfl | ⟨x, hx, rfl⟩
      · exact ⟨c, rfl, by omega, by omega⟩
      · exact ⟨f, rfl, by omega, by omega⟩
      · exact ⟨x, rfl, by have := hm x hx; omega, by have := hm x hx; omega⟩
    obtain ⟨x, rfl, hx⟩ := hx
    rw [decV_S hx]; rfl
  have h3 : 3 ≤ (cutL (txtL c f l)).length := by rw [cut_txt]; simp; omega
  have hI : rfI (txtL c f l) = true := by
    unfold rfI
    rw [ha, hd, decide_eq_true h3]
    simpa using h
  have hB : rfB (txtV c f l).data.toList = true := by rw [hv, ← (rf_eq _).1]; exact hI
  have hN := (rf_eq (txtL c f l)).2 (by rw [← hv]; exact hB)
  obtain ⟨e1, e2, e3⟩ := rf_yes hB
  rw [hv, ← hN, hd] at e1 e2 e3
  exact ⟨hB, e1, e2, e3⟩
theorem rotS_data (s : ByteArray) {r : Nat} (h : r < s.size) : (rotS s (r : Int)).data.toList = s.data.toList.drop r ++ s.data.toList.take r := by
  have e : ((r : Int) % (s.size : Int)).toNat = r := by rw [Int.emod_eq_of_lt (by omega) (by omega)]; rfl
  unfold rotS
  rw [e]
  rw [ByteArray.data_append, Array.toList_append, Lib.extract_data, Lib.extract_data]
  have hl : s.data.toList.length = s.size := rfl
  rw [List.take_of_length_le (by rw [List.length_drop]; omega)]
  simp
theorem bitsAll_rot {l : List UInt8} {r : Nat} (h : bitsAll l = true) : bitsAll (l.drop r ++ l.take r) = true := by
  unfold bitsAll at *
  rw [List.all_eq_true] at *
  intro c hc
  rw [List.mem_append] at hc
  rcases hc with hc | hc
  · exact h c (List.mem_of_mem_drop hc)
  · exact h c (List.mem_of_mem_take hc)
theorem rot_ok {s : ByteArray} {r : Nat} (hr : r < s.size) (hs : cellsB s = true) : cellsB (rotS s (r : Int)) = true := by
  unfold cellsB cellStr at *
  rw [rotS_size s _ (by omega), rotS_data s hr]
  simp only [Bool.and_eq_true] at hs ⊢
  exact ⟨hs.1, hs.2.1, bitsAll_rot hs.2.2⟩
theorem getD_rot {L : List UInt8} {k n : Nat} (hn : L.length = n) (hk : k ≤ n) : (∀ i, i < n - k → (L.drop k ++ L.take k).getD i 0 = L.getD (k + i) 0) ∧ (∀ j, j < k → (L.drop k ++ L.take k).getD (n - k + j) 0 = L.getD j 0) := by
  have hd : (L.drop k).length = n - k := by rw [List.length_drop]; omega
  refine ⟨fun i hi => ?_, fun j hj => ?_⟩
  · rw [List.getD_eq_getElem?_getD, List.getD_eq_getElem?_getD, List.getElem?_append_left (by omega), List.getElem?_drop]
  · rw [List.getD_eq_getElem?_getD, List.getD_eq_getElem?_getD, List.getElem?_append_right (by omega), hd, show n - k + j - (n - k) = j by omega, List.getElem?_take, if_pos hj]
/-- The ones of a turned row. -/
theorem ones_rot {L : List UInt8} {k n : Nat} (hn : L.length = n) (hk : k ≤ n) :
    onesL (L.drop k ++ L.take k) n = ((onesL L n).filter fun i => decide (k ≤ i)).map (fun i => i - k) ++ ((onesL L n).filter fun i => decide (i < k)).map (fun i => i + (n - k)) := by
  obtain ⟨g1, g2⟩ := getD_rot hn hk
  generalize L.drop k ++ L.take k = M at *
  obtain ⟨m, rfl⟩ : ∃ m, n = k + m := ⟨n - k, by omega⟩
  rw [show k + m - k = m by omega] at g1 g2 ⊢
  have e1 : onesL M (k + m) = ((List.range m).filter fun i => L.getD (k + i) 0 == 49) ++ ((List.range k).filter fun j => L.getD j 0 == 49).map (fun j => m + j) := by
    unfold onesL
    rw [Nat.add_comm k m, List.range_add, List.filter_append, List.filter_map]
    congr 1
    · exact List.filter_congr fun i hi => by rw [g1 i (List.mem_range.1 hi)]
    · congr 1
      exact List.filter_congr fun j hj => by simp only [Function.comp_apply]; rw [g2 j (List.mem_range.1 hj)]
  have e2 : onesL L (k + m) = ((List.range k).filter fun j => L.getD j 0 == 49) ++ ((List.range m).filter fun i => L.getD (k + i) 0 == 49).map (fun i => k + i) := by
    unfold onesL
    rw [List.range_add, List.filter_append, List.filter_map]
    rfl
  rw [e1, e2, List.filter_append, List.filter_append]
  have f1 : (((List.range k).filter fun j => L.getD j 0 == 49).filter fun i => decide (k ≤ i)) = [] := by
    rw [List.filter_eq_nil_iff]
    intro x hx
    have := List.mem_range.1 (List.mem_filter.1 hx).1
    simp; omega
  have f2 : ((((List.range m).filter fun i => L.getD (k + i) 0 == 49).map (fun i => k + i)).filter fun i => decide (k ≤ i)) = ((List.range m).filter fun i => L.getD (k + i) 0 == 49).map (fun i => k + i) := by
    rw [List.filter_eq_self]
    intro x hx
    obtain ⟨y, -, rfl⟩ := List.mem_map.1 hx
    simp
  have f3 : (((List.range k).filter fun j => L.getD j 0 == 49).filter fun i => decide (i < k)) = ((List.range k).filter fun j => L.getD j 0 == 49) := by
    rw [List.filter_eq_self]
    intro x hx
    have := List.mem_range.1 (List.mem_filter.1 hx).1
    simpa using this
  have f4 : ((((List.range m).filter fun i => L.getD (k + i) 0 == 49).map (fun i => k + i)).filter fun i => decide (i < k)) = [] := by
    rw [List.filter_eq_nil_iff]
    intro x hx
    obtain ⟨y, -, rfl⟩ := List.mem_map.1 hx
    simp
  rw [f1, f2, f3, f4, List.nil_append, List.append_nil, List.map_map]
  congr 1
  · exact ((List.map_congr_left (fun x _ => by show k + x - k = id x; simp)).trans (List.map_id _)).symm
  · exact List.map_congr_left fun x _ => by omega
theorem times_rot {s : ByteArray} {c : Int} {k : Nat} (hc : 4 ≤ c ∧ c ≤ 200) (hk : k < s.size) :
    foT (rotS s (k : Int)) c = rotT ((k : Int) * c) ((s.size : Int) * c) (foT s c) := by
  have hl : s.data.toList.length = s.size := rfl
  have hge : ∀ i : Nat, decide ((k : Int) * c ≤ (i : Int) * c + c / 2) = decide (k ≤ i) := fun i => by
    rw [decide_eq_decide]
    have hh : 0 ≤ c / 2 ∧ c / 2 < c := by omega
    constructor
    · intro h
      rcases Nat.lt_or_ge i k with h1 | h1
      · exfalso
        have h2 : ((i : Int) + 1) * c ≤ (k : Int) * c := Int.mul_le_mul_of_nonneg_right (by omega) (by omega)
        rw [Int.add_mul, Int.one_mul] at h2
        omega
      · exact h1
    · intro h
      have h2 : (k : Int) * c ≤ (i : Int) * c := Int.mul_le_mul_of_nonneg_right (by omega) (by omega)
      omega
  unfold foT timesZ rotT
  rw [rotS_size s _ (by omega), rotS_data s hk, ones_rot hl (by omega), List.map_append, List.filter_map, List.filter_map, List.map_map, List.map_map, List.map_map, List.map_map]
  have e1 : ((onesL s.data.toList s.size).filter ((fun t => decide ((k : Int) * c ≤ t)) ∘ fun (i : Nat) => (i : Int) * c + c / 2)) = (onesL s.data.toList s.size).filter fun i => decide (k ≤ i) := List.filter_congr fun i _ => hge i
  have e2 : ((onesL s.data.toList s.size).filter ((fun t => decide (t < (k : Int) * c)) ∘ fun (i : Nat) => (i : Int) * c + c / 2)) = (onesL s.data.toList s.size).filter fun i => decide (i < k) := List.filter_congr fun i _ => by
    have h := hge i
    simp only [Function.comp_apply]
    rw [decide_eq_decide] at h ⊢
    omega
  rw [e1, e2]
  congr 1
  · refine List.map_congr_left fun i hi => ?_
    have h1 : k ≤ i := by simpa using (List.mem_filter.1 hi).2
    show (((i - k : Nat) : Int)) * c + c / 2 = (i : Int) * c + c / 2 - (k : Int) * c
    rw [show ((i - k : Nat) : Int) = (i : Int) - (k : Int) by omega, Int.sub_mul]
    omega
  · refine List.map_congr_left fun i hi => ?_
    show (((i + (s.size - k) : Nat) : Int)) * c + c / 2 = (i : Int) * c + c / 2 - (k : Int) * c + (s.size : Int) * c
    rw [show ((i + (s.size - k) : Nat) : Int) = (i : Int) + ((s.size : Int) - (k : Int)) by omega, Int.add_mul, Int.sub_mul]
    omega
theorem ones_lenrot {s : ByteArray} {k : Nat} (hk : k < s.size) : foN (rotS s (k : Int)) = foN s := by
  have hl : s.data.toList.length = s.size := rfl
  unfold foN
  rw [rotS_size s _ (by omega), rotS_data s hk, ones_rot hl (by omega), List.length_append, List.length_map, List.length_map]
  generalize onesL s.data.toList s.size = P
  induction P with
  | nil => rfl
  | cons a P ih =>
    simp only [List.filter_cons]
    by_cases h : k ≤ a
    · rw [if_pos (decide_eq_true h), if_neg (by simp; omega)]
      simp only [List.length_cons]; omega
    · rw [if_neg (by simpa using h), if_pos (by simp; omega)]
      simp only [List.length_cons]; omega
/-- All that the law asks of flux of cells. -/
theorem flux_law {s : ByteArray} {c : Int} (h : foE s c = 0) :
    (4 ≤ c ∧ c ≤ 200) ∧ (1 ≤ s.size ∧ s.size ≤ 8000) ∧ cellsB s = true ∧ foC s c = c ∧ fluxOk c (foF s c) (foL s c) = true ∧ (foL s c).sum = (s.size : Int) * c ∧ chgL (foF s c) (foL s c) = foT s c ∧ foT s c ≠ [] := by
  have hg := fo_zero h
  obtain ⟨hc, hb, hN, hne, h4⟩ := fo_parts hg
  have hcb : cellsB s = true := by unfold foGood foOk at hg; simp only [Bool.and_eq_true] at hg; exact hg.1.1
  obtain ⟨e1, e2, e3⟩ := fo_yes hg
  obtain ⟨x1, x2⟩ := exact_ok hc hN hne h4
  have hT : foT s c ≠ [] := by
    intro e
    have := congrArg List.length e
    unfold foT at this
    rw [timesZ_len] at this
    exact hne (List.eq_nil_of_length_eq_zero (by simpa using this))
  refine ⟨hc, cellStr_bd'' hcb, hcb, e1, ?_, ?_, ?_, hT⟩
  · rw [e2, e3]; exact x1
  · rw [e3]; exact x2
  · rw [e2, e3]; exact chg_gaps hT (times_bd hc hN) _
theorem turn_law {s : ByteArray} {c : Int} {k : Nat} (h : foE s c = 0) (hk : k < s.size) :
    rotC s (k : Int) = rotS s (k : Int) ∧ foE (rotS s (k : Int)) c = 0 ∧ roE c (foF s c) (foL s c) ((k : Int) * c) = 0 ∧ foC (rotS s (k : Int)) c = c ∧ roC c (foF s c) (foL s c) ((k : Int) * c) = c ∧
    foF (rotS s (k : Int)) c = roF c (foF s c) (foL s c) ((k : Int) * c) ∧ foL (rotS s (k : Int)) c = roL c (foF s c) (foL s c) ((k : Int) * c) := by
  obtain ⟨hc, hz, hcb, e1, hok, hsum, hch, hT⟩ := flux_law h
  have hg := fo_zero h
  have hr := rot_ok hk hcb
  have hn := ones_lenrot hk
  have hg2 : foGood (rotS s (k : Int)) c = true := by
    unfold foGood foOk at hg ⊢
    rw [hn, hr]
    rw [hcb] at hg
    exact hg
  have hE2 : foE (rotS s (k : Int)) c = 0 := by
    have h2 := hg2
    unfold foGood at h2
    simp only [Bool.and_eq_true, decide_eq_true_eq] at h2
    unfold foE
    rw [h2.1, if_pos rfl, if_neg (by omega), if_neg (by omega)]
  obtain ⟨y1, y2, y3⟩ := fo_yes hg2
  have hk0 : 0 ≤ (k : Int) * c := Int.mul_nonneg (by omega) (by omega)
  have hk1 : (k : Int) * c ≤ (s.size : Int) * c - 1 := by
    have h2 : ((k : Int) + 1) * c ≤ (s.size : Int) * c := Int.mul_le_mul_of_nonneg_right (by omega) (by omega)
    rw [Int.add_mul, Int.one_mul] at h2
    omega
  have hin : roIn (foL s c) ((k : Int) * c) = true := by unfold roIn; rw [hsum]; exact inB_iff.2 ⟨hk0, hk1⟩
  have hv : roV c (foF s c) (foL s c) ((k : Int) * c) = true := by unfold roV; rw [hok, hin]; rfl
  have hro : roT (foF s c) (foL s c) ((k : Int) * c) = foT (rotS s (k : Int)) c := by
    unfold roT
    rw [hch, hsum, times_rot hc hk]
  refine ⟨by unfold rotC; rw [hcb]; rfl, hE2, by unfold roE; rw [hok, hin]; rfl, y1, by unfold roC; rw [hv]; rfl, ?_, ?_⟩
  · unfold roF; rw [hv, hro, y2]; rfl
  · unfold roL; rw [hv, hro, y3, hsum, rotS_size s _ (by omega)]; rfl
end Go.Proofs.YtfdcainjppljhaaGreatDoor
namespace Go.Proofs.YtfdcainjppljhaaGreatDoor
open Go.RowKit
/-- A source of choices in block b, of which at most n have been drawn. -/
def Src (w : World) (b n : Nat) : Prop := ∃ (p : Option Addr) (l : List UInt8) (cap : Nat) (q s : Int), Blk w b 64 #[.slice p l.length cap, .int .i64 q, .int .u64 s] ∧ (0 ≤ q ∧ q ≤ n) ∧ (0 ≤ s ∧ s < 18446744073709551616) ∧ l.length ≤ 1048576 ∧
  (l ≠ [] → ∃ a, p = some a ∧ a.block < b ∧ ∀ i (h : i < l.length), w.cell? (a.add i) = some (.int .u8 (l[i].toNat : Int)))
theorem Src.lt {w : World} {b n : Nat} (h : Src w b n) : b < w.heap.size := by
  obtain ⟨p, l, cap, q, s, hB, -⟩ := h
  exact hB.lt
theorem Src.mono {w : World} {b n m : Nat} (h : Src w b n) (hm : n ≤ m) : Src w b m := by
  obtain ⟨p, l, cap, q, s, hB, hq, r⟩ := h
  exact ⟨p, l, cap, q, s, hB, by omega, r⟩
theorem Src.asides {w w' : World} {b n : Nat} {o : Option Nat} (h : Src w b n) (ha : Aside o w w') (ho : ∀ g, o = some g → b < g) : Src w' b n := by
  obtain ⟨p, l, cap, q, s, hB, hq, hs, hl, hc⟩ := h
  refine ⟨p, l, cap, q, s, hB.asides ha (fun e => by have := ho _ e; omega), hq, hs, hl, fun hne => ?_⟩
  obtain ⟨a, ha', hlt, hcell⟩ := hc hne
  refine ⟨a, ha', hlt, fun i hi => ?_⟩
  rw [← hcell i hi]
  have hbl := hB.lt
  exact World.cell?_of_block (ha.block _ (by rw [Go.ChangeShapes.block_add]; omega) (fun e => by have := ho _ e; rw [Go.ChangeShapes.block_add] at this; omega))
theorem Src.below {w w' : World} {b n : Nat} (h : Src w b n) (hb : Below w.heap.size w w') : Src w' b n := h.asides (o := none) (Aside.of_below hb) (fun g e => by cases e)
theorem Src.drew {w : World} {b n : Nat} (h : Src w b n) : Src w.drew b n := h
theorem and255 (x : Int) : 0 ≤ bits .and .u64 x 255 ∧ bits .and .u64 x 255 ≤ 255 := by
  show 0 ≤ IntKind.u64.wrap ((BitVec.ofInt 64 x &&& BitVec.ofInt 64 255).toNat : Int) ∧ IntKind.u64.wrap ((BitVec.ofInt 64 x &&& BitVec.ofInt 64 255).toNat : Int) ≤ 255
  rw [IntKind.wrap_u64, BitVec.toNat_and]
  have e : (BitVec.ofInt 64 255).toNat = 255 := by decide
  have h := Nat.and_le_right (n := (BitVec.ofInt 64 x).toNat) (m := (BitVec.ofInt 64 255).toNat)
  omega
theorem wrap_u64 (x : Int) : 0 ≤ IntKind.u64.wrap x ∧ IntKind.u64.wrap x < 18446744073709551616 := by
  rw [IntKind.wrap_u64]
  omega
theorem src_set {w : World} {b n : Nat} {p : Option Addr} {l : List UInt8} {cap : Nat} {q s q' s' : Int} (hB : Blk w b 64 #[.slice p l.length cap, .int .i64 q, .int .u64 s])
    (hc : l ≠ [] → ∃ a, p = some a ∧ a.block < b ∧ ∀ i (h : i < l.length), w.cell? (a.add i) = some (.int .u8 (l[i].toNat : Int))) (hl : l.length ≤ 1048576) (hq : 0 ≤ q' ∧ q' ≤ n) (hs : 0 ≤ s' ∧ s' < 18446744073709551616) :
    Src ((w.setCell ⟨b, 1, none⟩ (.int .i64 q')).setCell ⟨b, 2, none⟩ (.int .u64 s')) b n ∧ Aside (some b) w ((w.setCell ⟨b, 1, none⟩ (.int .i64 q')).setCell ⟨b, 2, none⟩ (.int .u64 s')) := by
  have ha : Aside (some b) w ((w.setCell ⟨b, 1, none⟩ (.int .i64 q')).setCell ⟨b, 2, none⟩ (.int .u64 s')) := (Aside.setCell b 1 _).trans (Aside.setCell b 2 _)
  refine ⟨⟨p, l, cap, q', s', ?_, hq, hs, hl, fun hne => ?_⟩, ha⟩
  · have hB' : w.heap[b]? = some (.cells #[.slice p l.length cap, .int .i64 q, .int .u64 s] 64 (0, 0)) := hB
    unfold Blk
    simp [World.setCell, Array.getElem?_modify, hB']
  · obtain ⟨a, ha', hlt, hcell⟩ := hc hne
    refine ⟨a, ha', hlt, fun i hi => ?_⟩
    rw [← hcell i hi]
    exact World.cell?_of_block (ha.block _ (by rw [Go.ChangeShapes.block_add]; have := hB.lt; omega) (fun e => by injection e with e; rw [Go.ChangeShapes.block_add] at e; omega))
set_option maxHeartbeats 1000000 in
set_option maxRecDepth 20000 in
theorem src_next (b n : Nat) (w : World) (hS : Src w b n) (hn : n ≤ 1000000000) :
    Calls Tryz.prog 45 #[.pointer (some ⟨b, 0, none⟩)] w fun e w' => ∃ x, e = .returned (.int .i64 x) ∧ (0 ≤ x ∧ x ≤ 255) ∧ Src w' b (n + 1) ∧ Aside (some b) w w' := by
  obtain ⟨p, l, cap, q, s, hB, hq, hs, hl, hc⟩ := hS
  obtain ⟨b0, b1, b2⟩ := hB.cell3
  have bf := hB.frozen
  obtain ⟨qn, rfl⟩ : ∃ qn : Nat, q = (qn : Int) := ⟨q.toNat, by omega⟩
  by_cases hlt : qn < l.length
  · obtain ⟨a, rfl, hab, hcell⟩ := hc (by intro e; rw [e] at hlt; exact absurd hlt (Nat.not_lt_zero _))
    have hx := hcell qn hlt
    have hxb := u8_bd (l[qn])
    obtain ⟨x, ex⟩ : ∃ x : Int, (l[qn].toNat : Int) = x := ⟨_, rfl⟩
    rw [ex] at hx hxb
    have hd : decide ((qn : Int) < (l.length : Int)) = true := by simp; omega
    have hd2 : decide (((qn : Int) + 1) ≤ (l.length : Int)) = true := by simp; omega
    have hsn := wrap_u64 (IntKind.u64.wrap (IntKind.u64.wrap (s * 6364136223846793005) + x) + 1442695040888963407)
    obtain ⟨sn, esn⟩ : ∃ sn, IntKind.u64.wrap (IntKind.u64.wrap (IntKind.u64.wrap (s * 6364136223846793005) + x) + 1442695040888963407) = sn := ⟨_, rfl⟩
    rw [esn] at hsn
    have hset := src_set hB hc hl (show (0 : Int) ≤ (qn : Int) + 1 ∧ (qn : Int) + 1 ≤ ((n + 1 : Nat) : Int) by omega) hsn
    go_enter Tryz.func45, Tryz.ntmps45
    go_wp2
    go_region
    go_wp2
    go_region
    go_wp2
    go_region
    go_wp2
    go_ret
    exact ⟨x, rfl, by omega, hset.1, hset.2.trans (Aside.of_below (Below.refl _ _).drew.drew.drew)⟩
  · have hd : decide ((qn : Int) < (l.length : Int)) = false := by simp; omega
    have hd2 : decide (((qn : Int) + 1) ≤ (l.length : Int)) = false := by simp; omega
    have hsn := wrap_u64 (IntKind.u64.wrap (IntKind.u64.wrap (s * 6364136223846793005) + 0) + 1442695040888963407)
    obtain ⟨sn, esn⟩ : ∃ sn, IntKind.u64.wrap (IntKind.u64.wrap (IntKind.u64.wrap (s * 6364136223846793005) + 0) + 1442695040888963407) = sn := ⟨_, rfl⟩
    rw [esn] at hsn
    have hset := src_set hB hc hl (show (0 : Int) ≤ (qn : Int) + 1 ∧ (qn : Int) + 1 ≤ ((n + 1 : Nat) : Int) by omega) hsn
    rw [Int.add_zero] at esn
    go_enter Tryz.func45, Tryz.ntmps45
    go_wp2
    go_region
    go_wp2
    go_region
    go_wp2
    go_ret
    have h255 := and255 (sn / 1099511627776)
    refine ⟨_, rfl, ?_, hset.1, hset.2.trans (Aside.of_below (Below.refl _ _).drew.drew)⟩
    rw [wrap64_of (by omega) (by omega)]
    exact h255
theorem Aside.trans_below {o : Option Nat} {a b c : World} (h : Aside o a b) {B : Nat} (hb : Below B b c) (hB : a.heap.size ≤ B) : Aside o a c :=
  ⟨hb.os.trans h.os, hb.tape.trans h.tape, hb.output.trans h.output, Nat.le_trans h.size hb.size, fun i hi ho => (hb.block i (by omega)).trans (h.block i hi ho)⟩
theorem Src.belowB {w w' : World} {b n B : Nat} (h : Src w b n) (hb : Below B w w') (hB : b < B) : Src w' b n := by
  obtain ⟨p, l, cap, q, s, hK, hq, hs, hl, hc⟩ := h
  refine ⟨p, l, cap, q, s, hK.below hb hB, hq, hs, hl, fun hne => ?_⟩
  obtain ⟨a, ha', hlt, hcell⟩ := hc hne
  refine ⟨a, ha', hlt, fun i hi => ?_⟩
  rw [hb.cell (p := a.add i) (by rw [Go.ChangeShapes.block_add]; omega)]
  exact hcell i hi
theorem IntsAt.asides {o : Option Nat} {w w' : World} {p : Option Addr} {l : List Int} (h : IntsAt w p l) (ha : Aside o w w') (hne : ∀ a, p = some a → o ≠ some a.block) : IntsAt w' p l := by
  intro hl
  obtain ⟨a, hp, hlt, hc⟩ := h hl
  refine ⟨a, hp, Nat.lt_of_lt_of_le hlt ha.size, fun i hi => ?_⟩
  rw [← hc i hi]
  exact World.cell?_of_block (ha.block _ (by rw [Go.ChangeShapes.block_add]; exact hlt) (by rw [Go.ChangeShapes.block_add]; exact hne a hp))
theorem OwnB.asides {o : Option Nat} {w w' : World} {base : Nat} {v : Value} {l : List UInt8} (h : OwnB w base v l) (ha : Aside o w w') (hne : ∀ g, o = some g → g < base) : OwnB w' base v l := by
  obtain ⟨h1, h2⟩ := h
  refine ⟨h1, ?_⟩
  rcases h2 with h2 | ⟨g, cap, cur, hv, hg, hh, r⟩
  · exact .inl h2
  · have hlt : g < w.heap.size := by
      rcases Nat.lt_or_ge g w.heap.size with hlt | hge
      · exact hlt
      · rw [Array.getElem?_eq_none hge] at hh; cases hh
    exact .inr ⟨g, cap, cur, hv, hg, (ha.block g hlt (fun e => by have := hne g e; omega)).trans hh, r⟩
set_option maxHeartbeats 1000000 in
set_option maxRecDepth 20000 in
theorem src_pick (b n : Nat) (m : Int) (w : World) (hS : Src w b n) (hn : n ≤ 900000000) (hm : m ≤ 65536) :
    Calls Tryz.prog 36 #[.pointer (some ⟨b, 0, none⟩), .int .i64 m] w fun e w' => ∃ x, e = .returned (.int .i64 x) ∧ (0 ≤ x ∧ (x < m ∨ x = 0)) ∧ Src w' b (n + 2) ∧ Aside (some b) w w' := by
  by_cases h1 : m ≤ 1
  · have hd : decide (m ≤ 1) = true := by simp [h1]
    go_enter Tryz.func36, Tryz.ntmps36
    go_wp2
    go_ret
    exact ⟨0, rfl, by omega, hS.mono (by omega), Aside.refl _ _⟩
  · have hd : decide (m ≤ 1) = false := by simp; omega
    have hm0 : m ≠ 0 := by omega
    by_cases h2 : m ≤ 200
    · have hd2 : decide (200 < m) = false := by simp; omega
      go_enter Tryz.func36, Tryz.ntmps36
      go_wp2_with (go_at_call 45; refine (src_next b n _ hS (by omega)).mono ?_; rintro e w1 ⟨x, rfl, hx, hS1, ha1⟩; have ht : x.tmod m = x % m := Int.tmod_eq_emod_of_nonneg (by omega))
      go_ret
      have h3 := Int.emod_nonneg x (b := m) (by omega)
      have h4 := Int.emod_lt_of_pos x (b := m) (by omega)
      exact ⟨_, rfl, by omega, hS1.mono (by omega), ha1⟩
    · have hd2 : decide (200 < m) = true := by simp; omega
      go_enter Tryz.func36, Tryz.ntmps36
      go_wp2_with fail
      refine (src_next b n _ hS (by omega)).mono ?_
      rintro e w1 ⟨x, rfl, hx, hS1, ha1⟩
      go_wp2_with fail
      refine (src_next b (n + 1) _ hS1 (by omega)).mono ?_
      rintro e w2 ⟨y, rfl, hy, hS2, ha2⟩
      have ht : (x * 256 + y).tmod m = (x * 256 + y) % m := Int.tmod_eq_emod_of_nonneg (by omega)
      go_wp2_with fail
      go_ret
      have h3 := Int.emod_nonneg (x * 256 + y) (b := m) (by omega)
      have h4 := Int.emod_lt_of_pos (x * 256 + y) (b := m) (by omega)
      exact ⟨_, rfl, by omega, hS2.mono (by omega), ha1.trans ha2⟩
set_option maxHeartbeats 1000000 in
theorem src_one (b n : Nat) (m : Int) (w : World) (hS : Src w b n) (hn : n ≤ 900000000) (hm : m ≤ 65536) :
    Calls Tryz.prog 18 #[.pointer (some ⟨b, 0, none⟩), .int .i64 m] w fun e w' => ∃ x, e = .returned (.bool x) ∧ Src w' b (n + 2) ∧ Aside (some b) w w' := by
  go_enter Tryz.func18, Tryz.ntmps18
  go_wp2_with (go_at_call 36; refine (src_pick b n m _ hS hn hm).mono ?_; rintro e w1 ⟨x, rfl, hx, hS1, ha1⟩)
  go_ret
  exact ⟨_, rfl, hS1, ha1⟩
set_option maxHeartbeats 1000000 in
theorem src_among (b n : Nat) (p : Option Addr) (l : List Int) (cap : Nat) (w : World) (hS : Src w b n) (hn : n ≤ 900000000) (hI : IntsAt w p l) (hp : ∀ a, p = some a → a.block ≠ b) (h0 : 0 < l.length) (hl : l.length ≤ 200) :
    Calls Tryz.prog 19 #[.pointer (some ⟨b, 0, none⟩), .slice p l.length cap] w fun e w' => ∃ x, e = .returned (.int .i64 x) ∧ x ∈ l ∧ Src w' b (n + 2) ∧ Aside (some b) w w' := by
  obtain ⟨a, rfl, -⟩ := hI (by intro e; rw [e] at h0; exact absurd h0 (Nat.lt_irrefl _))
  go_enter Tryz.func19, Tryz.ntmps19
  go_wp2_with fail
  refine (src_pick b n l.length _ hS hn (by omega)).mono ?_
  rintro e w1 ⟨x, rfl, hx, hS1, ha1⟩
  obtain ⟨xn, rfl⟩ : ∃ xn : Nat, x = (xn : Int) := ⟨x.toNat, by omega⟩
  have hlt : xn < l.length := by omega
  obtain ⟨a', ha', hc⟩ := (hI.asides ha1 (fun a e => by injection e with e; subst e; intro h; injection h with h; exact hp _ rfl h.symm)).at_ hlt
  cases ha'
  have hmem := List.getElem_mem hlt
  go_wp2_with fail
  go_ret
  exact ⟨_, rfl, hmem, hS1, ha1⟩
end Go.Proofs.YtfdcainjppljhaaGreatDoor
namespace Go.Proofs.YtfdcainjppljhaaGreatDoor
open Go.RowKit
def BytesAt (w : World) (p : Option Addr) (l : List UInt8) : Prop := l ≠ [] → ∃ a, p = some a ∧ a.block < w.heap.size ∧ ∀ i (h : i < l.length), w.cell? (a.add i) = some (.int .u8 (l[i].toNat : Int))
theorem BytesAt.below {w w' : World} {p : Option Addr} {l : List UInt8} (h : BytesAt w p l) (hb : Below w.heap.size w w') : BytesAt w' p l := by
  intro hne
  obtain ⟨a, ha, hlt, hc⟩ := h hne
  refine ⟨a, ha, Nat.lt_of_lt_of_le hlt hb.size, fun i hi => ?_⟩
  rw [hb.cell (p := a.add i) (by rw [Go.ChangeShapes.block_add]; exact hlt)]
  exact hc i hi
theorem BytesAt.at_ {w : World} {p : Option Addr} {l : List UInt8} (h : BytesAt w p l) {k : Nat} (hk : k < l.length) : ∃ a, p = some a ∧ w.cell? (a.add k) = some (.int .u8 (l[k].toNat : Int)) := by
  obtain ⟨a, ha, _, hc⟩ := h (by intro e; rw [e] at hk; exact absurd hk (Nat.not_lt_zero k))
  exact ⟨a, ha, hc k hk⟩
theorem lit_ints (w : World) (l : List Int) : IntsAt (w.alloc (.cells (l.map (Value.int .i64)).toArray 2)) (some ⟨w.heap.size, 0, none⟩) l := by
  have B := Blk.new w 2 (l.map (Value.int .i64)).toArray
  intro _
  refine ⟨_, rfl, B.lt, fun i hi => ?_⟩
  rw [Addr.add_lit, Nat.zero_add, B.cell i]
  simp [hi]
/-- The length of a string in a slot. -/
def strLen : Value → Int | .string s => s.size | _ => 0
theorem u8w_bd (x : Int) : 0 ≤ IntKind.u8.wrap x ∧ IntKind.u8.wrap x < 256 := by
  simp [IntKind.wrap, IntKind.bits, IntKind.signed]
  omega
set_option maxHeartbeats 1000000 in
theorem spec_l00From (p : Option Addr) (l : List UInt8) (cap : Nat) (w : World) (hI : BytesAt w p l) (hl : l.length ≤ 1048576) :
    Calls Tryz.prog 16 #[.slice p l.length cap] w fun e w' => e = .returned (.pointer (some ⟨w.heap.size, 0, none⟩)) ∧ Src w' w.heap.size 0 ∧ Below w.heap.size w w' := by
  go_enter Tryz.func16, Tryz.ntmps16
  go_wp2
  go_ret
  refine ⟨rfl, ⟨p, l, cap, 0, 0, Blk.new _ _ _, by omega, by omega, hl, fun hne => ?_⟩, (Below.refl _ _).alloc (Nat.le_refl _) _⟩
  obtain ⟨a, ha, hlt, hc⟩ := hI hne
  refine ⟨a, ha, hlt, fun i hi => ?_⟩
  rw [((Below.refl _ _).alloc (Nat.le_refl _) _).cell (p := a.add i) (by rw [Go.ChangeShapes.block_add]; exact hlt)]
  exact hc i hi
theorem laws_b10Long (p : Option Addr) (l : List UInt8) (cap : Nat) (w : World) :
    Calls Tryz.prog 4 #[.slice p l.length cap] w fun e w' => e = .returned (.bool (decide (1048576 < (l.length : Int)))) ∧ w' = w := by
  go_enter Tryz.func4, Tryz.ntmps4
  go_wp2
  go_ret
  exact ⟨rfl, rfl⟩
set_option maxHeartbeats 1000000 in
theorem laws_b10At (p : Option Addr) (l : List UInt8) (cap : Nat) (i m : Int) (w : World) (hI : BytesAt w p l) (hi : 0 ≤ i ∧ i ≤ 1000000000) (hm : m ≤ 1000000000000) :
    Calls Tryz.prog 12 #[.slice p l.length cap, .int .i64 i, .int .i64 m] w fun e w' => ∃ x, e = .returned (.int .i64 x) ∧ (0 ≤ x ∧ (x < m ∨ x = 0)) ∧ w' = w := by
  by_cases h1 : m ≤ 1
  · have hd : decide (m ≤ 1) = true := by simp [h1]
    go_enter Tryz.func12, Tryz.ntmps12
    go_wp2
    go_ret
    exact ⟨0, rfl, by omega, rfl⟩
  · have hd : decide (m ≤ 1) = false := by simp; omega
    have hm0 : m ≠ 0 := by omega
    by_cases h2 : i < (l.length : Int)
    · have hd2 : decide (i < (l.length : Int)) = true := by simp [h2]
      obtain ⟨k, rfl⟩ : ∃ k : Nat, i = (k : Int) := ⟨i.toNat, by omega⟩
      obtain ⟨a, rfl, hx⟩ := hI.at_ (k := k) (by omega)
      have hb := u8_bd (l[k]'(by omega))
      obtain ⟨x, ex⟩ : ∃ x : Int, ((l[k]'(by omega)).toNat : Int) = x := ⟨_, rfl⟩
      rw [ex] at hx hb
      have ht : x.tmod m = x % m := Int.tmod_eq_emod_of_nonneg (by omega)
      have h3 := Int.emod_nonneg x (b := m) (by omega)
      have h4 := Int.emod_lt_of_pos x (b := m) (by omega)
      clear ex
      go_enter Tryz.func12, Tryz.ntmps12
      go_wp2
      go_ret
      exact ⟨_, rfl, by omega, rfl⟩
    · have hd2 : decide (i < (l.length : Int)) = false := by simp; omega
      have ht : (i * 37 + 11).tmod m = (i * 37 + 11) % m := Int.tmod_eq_emod_of_nonneg (by omega)
      have h3 := Int.emod_nonneg (i * 37 + 11) (b := m) (by omega)
      have h4 := Int.emod_lt_of_pos (i * 37 + 11) (b := m) (by omega)
      go_enter Tryz.func12, Tryz.ntmps12
      go_wp2
      go_ret
      exact ⟨_, rfl, by omega, rfl⟩
end Go.Proofs.YtfdcainjppljhaaGreatDoor
namespace Go.Proofs.YtfdcainjppljhaaGreatDoor
open Go.RowKit
set_option linter.unusedVariables false
set_option maxHeartbeats 2000000 in
theorem src_l02Draw (b n : Nat) (m : Int) (w : World) (hS : Src w b n) (hn : n ≤ 100000000) (hm : 1 ≤ m ∧ m ≤ 100) :
    Calls Tryz.prog 35 #[.pointer (some ⟨b, 0, none⟩), .int .i64 m] w fun e w' => ∃ s : ByteArray, e = .returned (.string s) ∧ (s.size : Int) ≤ 4 * m + 3 ∧ Src w' b (n + 1000) ∧ Aside (some b) w w' := by
  have hbl := hS.lt
  go_enter Tryz.func35, Tryz.ntmps35
  go_wp2_with fail
  have ha0 : Aside (some b) w (w.alloc (.cells #[] 5)) := Aside.of_below ((Below.refl _ _).alloc (Nat.le_refl _) _)
  refine (src_pick b n m _ (hS.below ((Below.refl _ _).alloc (Nat.le_refl _) _)) (by omega) (by omega)).mono ?_
  rintro e w1 ⟨k0, rfl, hk0, hS1, ha1⟩
  have hown := (OwnB.nil0 w).asides ha1 (fun g e => by injection e with e; omega)
  have ha2 := ha0.trans ha1
  clear ha0 ha1
  go_wp2_with fail
  go_loopw [5, 6] (fun v i wr => ∃ k : Int, (0 ≤ k ∧ k ≤ m) ∧ i = .int .i64 k ∧ (∃ L : List UInt8, OwnB wr w.heap.size v L ∧ (L.length : Int) + 4 * k ≤ 4 * m) ∧ Src wr b (n + 2 + 2 * (m - k).toNat) ∧ Aside (some b) w wr) (fun _ i _ => (intOf i).toNat)
  case atStart => exact ⟨1 + k0, by omega, by go_num, ⟨[], hown, by simp; omega⟩, hS1.mono (by omega), ha2⟩
  case round =>
    obtain ⟨k, hk, rfl, ⟨L, hL, hLk⟩, hSr, har⟩ := hrel
    by_cases h0 : 0 < k
    · have hd : decide (0 < k) = true := decide_eq_true h0
      have hzr := har.size
      go_wp2_with fail
      refine (src_pick b _ 4 _ hSr (by omega) (by omega)).mono ?_
      rintro e w3 ⟨z0, rfl, hz0, hS3, ha3⟩
      have hL3 := hL.asides ha3 (fun g e => by injection e with e; omega)
      have hb3 := har.trans ha3
      have hz3 := hb3.size
      clear ha3
      go_wp2_with fail
      go_loopw [5, 7] (fun v i wq => ∃ z : Int, (0 ≤ z ∧ z ≤ 3) ∧ i = .int .i64 z ∧ (∃ L : List UInt8, OwnB wq w.heap.size v L ∧ (L.length : Int) + z + 1 + 4 * (k - 1) ≤ 4 * m) ∧ Src wq b (n + 4 + 2 * (m - k).toNat) ∧ Aside (some b) w wq) (fun _ i _ => (intOf i).toNat)
      case atStart => exact ⟨z0, by omega, rfl, ⟨L, hL3, by omega⟩, hS3.mono (by omega), hb3⟩
      case round =>
        clear hL hLk hSr har hL3 hS3 hb3
        obtain ⟨z, hz, rfl, ⟨L, hL, hLk⟩, hSr, har⟩ := hrel
        have hzr := har.size
        by_cases h1 : 0 < z
        · have hd : decide (0 < z) = true := decide_eq_true h1
          go_wp2_with (at_builtin; refine append_byte _ rfl _ _ rfl w.heap.size u5 L _ rfl rfl hL (by omega) (by omega) hzr ?_; intro v4 w4 hL4 hb4; have hS4 := hSr.belowB hb4 hbl; have hb5 := har.trans_below hb4 (Nat.le_refl _))
          go_roundw
          case rel => exact ⟨z - 1, by omega, by go_num, ⟨_, hL4, by simp; omega⟩, hS4, hb5⟩
          case measure => simp [intOf]; omega
        · have hz1 : z = 0 := by omega
          subst hz1
          have hd : decide ((0 : Int) < 0) = false := by decide
          go_wp2_with (at_builtin; refine append_byte _ rfl _ _ rfl w.heap.size u5 L _ rfl rfl hL (by omega) (by omega) hzr ?_; intro v4 w4 hL4 hb4; have hS4 := hSr.belowB hb4 hbl; have hb5 := har.trans_below hb4 (Nat.le_refl _))
          go_roundw
          case rel => exact ⟨k - 1, by omega, by go_num, ⟨_, hL4, by simp; omega⟩, hS4.mono (by omega), hb5⟩
          case measure => simp [intOf]; omega
    · have hk0 : k = 0 := by omega
      subst hk0
      have hzr := har.size
      have hd : decide ((0 : Int) < 0) = false := by decide
      go_wp2_with fail
      refine (src_pick b _ 4 _ hSr (by omega) (by omega)).mono ?_
      rintro e w3 ⟨z0, rfl, hz0, hS3, ha3⟩
      have hL3 := hL.asides ha3 (fun g e => by injection e with e; omega)
      have hb3 := har.trans ha3
      clear ha3
      go_wp2_with fail
      go_loopw [5, 8] (fun v i wq => ∃ z : Int, (0 ≤ z ∧ z ≤ 3) ∧ i = .int .i64 z ∧ (∃ L : List UInt8, OwnB wq w.heap.size v L ∧ (L.length : Int) + z ≤ 4 * m + 3) ∧ Src wq b (n + 500) ∧ Aside (some b) w wq) (fun _ i _ => (intOf i).toNat)
      case atStart => exact ⟨z0, by omega, rfl, ⟨L, hL3, by omega⟩, hS3.mono (by omega), hb3⟩
      case round =>
        clear hL hLk hSr har hL3 hS3 hb3
        obtain ⟨z, hz, rfl, ⟨L, hL, hLk⟩, hSr, har⟩ := hrel
        have hzr := har.size
        by_cases h1 : 0 < z
        · have hd : decide (0 < z) = true := decide_eq_true h1
          go_wp2_with (at_builtin; refine append_byte _ rfl _ _ rfl w.heap.size u5 L _ rfl rfl hL (by omega) (by omega) hzr ?_; intro v4 w4 hL4 hb4; have hS4 := hSr.belowB hb4 hbl; have hb5 := har.trans_below hb4 (Nat.le_refl _))
          go_roundw
          case rel => exact ⟨z - 1, by omega, by go_num, ⟨_, hL4, by simp; omega⟩, hS4, hb5⟩
          case measure => simp [intOf]; omega
        · have hz1 : z = 0 := by omega
          subst hz1
          have hd : decide ((0 : Int) < 0) = false := by decide
          go_wp2_with fail
          refine (src_one b _ 40 _ hSr (by omega) (by omega)).mono ?_
          rintro e w4 ⟨x, rfl, hS4, ha4⟩
          have hL4 := hL.asides ha4 (fun g e => by injection e with e; omega)
          have hb4 := har.trans ha4
          have hcv := hL4.str
          cases x
          · go_wp2_with fail
            go_ret
            refine ⟨_, rfl, ?_, hS4.mono (by omega), hb4⟩
            have : (⟨L.toArray⟩ : ByteArray).size = L.length := by show L.toArray.size = _; simp
            omega
          · go_wp2_with fail
            go_ret
            exact ⟨_, rfl, by have : (⟨#[48, 48, 48]⟩ : ByteArray).size = 3 := rfl; omega, hS4.mono (by omega), hb4⟩
set_option maxHeartbeats 1000000 in
theorem src_l02Bent (b n : Nat) (w : World) (hS : Src w b n) (hn : n ≤ 10000000) :
    Calls Tryz.prog 17 #[.pointer (some ⟨b, 0, none⟩)] w fun e w' => ∃ s : ByteArray, e = .returned (.string s) ∧ s.size ≤ 84 ∧ Src w' b (n + 2000) ∧ Aside (some b) w w' := by
  go_enter Tryz.func17, Tryz.ntmps17
  go_wp2_with fail
  refine (src_l02Draw b n 20 _ hS (by omega) (by omega)).mono ?_
  rintro e w1 ⟨s, rfl, hs, hS1, ha1⟩
  go_wp2_with fail
  refine (src_pick b _ 20 _ hS1 (by omega) (by omega)).mono ?_
  rintro e w2 ⟨x, rfl, hx, hS2, ha2⟩
  have h2 : (⟨#[50]⟩ : ByteArray).size = 1 := rfl
  by_cases e0 : x = 0
  · subst e0
    go_wp2_with fail
    go_ret
    exact ⟨_, rfl, by rw [ByteArray.size_append]; omega, hS2.mono (by omega), ha1.trans ha2⟩
  · by_cases e1 : x = 1
    · subst e1
      go_wp2_with fail
      go_ret
      exact ⟨_, rfl, Nat.zero_le _, hS2.mono (by omega), ha1.trans ha2⟩
    · have d0 : (x == 0) = false := by simpa using e0
      have d1 : (x == 1) = false := by simpa using e1
      go_wp2_with fail
      go_ret
      exact ⟨s, rfl, by omega, hS2.mono (by omega), ha1.trans ha2⟩
end Go.Proofs.YtfdcainjppljhaaGreatDoor
namespace Go.Proofs.YtfdcainjppljhaaGreatDoor
open Go.RowKit
set_option linter.unusedVariables false
theorem src_l02DrawCell (b n : Nat) (w : World) (hS : Src w b n) (hn : n ≤ 100000000) :
    Calls Tryz.prog 20 #[.pointer (some ⟨b, 0, none⟩)] w fun e w' => ∃ x, e = .returned (.int .i64 x) ∧ (4 ≤ x ∧ x ≤ 200) ∧ Src w' b (n + 2) ∧ Aside (some b) w w' := by
  have hbl := hS.lt
  go_enter Tryz.func20, Tryz.ntmps20
  go_wp2_with fail
  refine (src_among b _ _ [4, 10, 16, 20, 25, 40, 200] 7 _ (hS.below ((Below.refl _ _).alloc (Nat.le_refl _) _)) (by omega) (lit_ints w [4, 10, 16, 20, 25, 40, 200]) (fun a e => by injection e with e; subst e; simp; omega) (by decide) (by decide)).mono ?_
  rintro e w1 ⟨x, rfl, hx, hS1, ha1⟩
  go_wp2_with fail
  go_ret
  exact ⟨x, rfl, by simp at hx; omega, hS1, (Aside.of_below ((Below.refl _ _).alloc (Nat.le_refl _) _)).trans ha1⟩
/-- Flux under way: the variable's block bf, the result's block. -/
structure DrF (b n : Nat) (w : World) (bf : Nat) (wx : World) (cf f : Int) (q : Option Addr) (l : List Int) (cap : Nat) : Prop where
  src : Src wx b n
  r : Blk wx w.heap.size 28 #[.int .i64 0, .int .i64 0, .slice none 0 0]
  blk : Blk wx bf 28 #[.int .i64 cf, .int .i64 f, .slice q l.length cap]
  own : OwnS wx (w.heap.size + 1) q l
  ne : ∀ g, q = some ⟨g, 0, none⟩ → g ≠ bf
  aside : Aside (some b) w wx
  hb : b < w.heap.size
  hbf : w.heap.size < bf
  len : l.length ≤ 84
theorem DrF.step {b n m : Nat} {w : World} {bf : Nat} {wx wy : World} {cf f : Int} {q : Option Addr} {l : List Int} {cap : Nat} (h : DrF b n w bf wx cf f q l cap) (ha : Aside (some b) wx wy) (hs : Src wy b m) : DrF b m w bf wy cf f q l cap :=
  ⟨hs, h.r.asides ha (fun e => by injection e with e; have := h.hb; omega), h.blk.asides ha (fun e => by injection e with e; have := h.hb; have := h.hbf; omega), h.own.asides ha (fun hl g hp e => by injection e with e; have h1 := (h.own.lt hl hp).1; have := h.hb; omega), h.ne, h.aside.trans ha, h.hb, h.hbf, h.len⟩
theorem DrF.drew {b n : Nat} {w : World} {bf : Nat} {wx : World} {cf f : Int} {q : Option Addr} {l : List Int} {cap : Nat} (h : DrF b n w bf wx cf f q l cap) : DrF b n w bf wx.drew cf f q l cap := h.step (Aside.of_below (Below.refl _ _).drew) h.src.drew
theorem DrF.al {b n : Nat} {w : World} {bf : Nat} {wx : World} {cf f : Int} {q : Option Addr} {l : List Int} {cap : Nat} (h : DrF b n w bf wx cf f q l cap) (o : Obj) : DrF b n w bf (wx.alloc o) cf f q l cap :=
  h.step (Aside.of_below ((Below.refl _ _).alloc (Nat.le_refl _) o)) (h.src.below ((Below.refl _ _).alloc (Nat.le_refl _) o))
theorem DrF.mono {b n m : Nat} {w : World} {bf : Nat} {wx : World} {cf f : Int} {q : Option Addr} {l : List Int} {cap : Nat} (h : DrF b n w bf wx cf f q l cap) (hm : n ≤ m) : DrF b m w bf wx cf f q l cap := { h with src := h.src.mono hm }
theorem Blk.set30 {w : World} {g : Nat} {t : TypeId} {a b c : Value} (h : Blk w g t #[a, b, c]) (x : Value) : Blk (w.setCell ⟨g, 0, none⟩ x) g t #[x, b, c] := by
  have hB' : w.heap[g]? = some (.cells #[a, b, c] t (0, 0)) := h
  unfold Blk
  simp [World.setCell, Array.getElem?_modify, hB']
theorem Blk.set31 {w : World} {g : Nat} {t : TypeId} {a b c : Value} (h : Blk w g t #[a, b, c]) (x : Value) : Blk (w.setCell ⟨g, 1, none⟩ x) g t #[a, x, c] := by
  have hB' : w.heap[g]? = some (.cells #[a, b, c] t (0, 0)) := h
  unfold Blk
  simp [World.setCell, Array.getElem?_modify, hB']
theorem Blk.set32' {w : World} {g : Nat} {t : TypeId} {a b c : Value} (h : Blk w g t #[a, b, c]) (x : Value) : Blk (w.setCell ⟨g, 2, none⟩ x) g t #[a, b, x] := by
  have hB' : w.heap[g]? = some (.cells #[a, b, c] t (0, 0)) := h
  unfold Blk
  simp [World.setCell, Array.getElem?_modify, hB']
theorem DrF.setG {b n : Nat} {w : World} {bf : Nat} {wx : World} {cf f : Int} {g : Nat} {l : List Int} {cap : Nat} (h : DrF b n w bf wx cf f (some ⟨g, 0, none⟩) l cap) (hl : l ≠ []) (i : Nat) (V : Int) : DrF b n w bf (wx.setCell ⟨g, i, none⟩ (.int .i64 V)) cf f (some ⟨g, 0, none⟩) (l.set i V) cap := by
  obtain ⟨g', e, hg, hrow⟩ := h.own hl
  injection e with e; injection e with e
  subst e
  have hb := h.hb
  have hne := h.ne g rfl
  have hB := (Below.refl g wx).setCell (p := ⟨g, i, none⟩) (Nat.le_refl _) (.int .i64 V)
  refine ⟨h.src.belowB hB (by omega), h.r.off (by omega) i _, ?_, OwnS.of_row (hrow.set_ i V) hg, h.ne, h.aside.trans_below hB (by omega), h.hb, h.hbf, by rw [List.length_set]; exact h.len⟩
  rw [List.length_set]
  exact h.blk.off (fun e => hne e.symm) i _
theorem DrF.setC {b n : Nat} {w : World} {bf : Nat} {wx : World} {cf f : Int} {q : Option Addr} {l : List Int} {cap : Nat} (h : DrF b n w bf wx cf f q l cap) (x : Int) : DrF b n w bf (wx.setCell ⟨bf, 0, none⟩ (.int .i64 x)) x f q l cap := by
  have hb := h.hb; have hbf := h.hbf
  have hB := (Below.refl bf wx).setCell (p := ⟨bf, 0, none⟩) (Nat.le_refl _) (.int .i64 x)
  exact ⟨h.src.belowB hB (by omega), h.r.off (by omega) _ _, h.blk.set30 _, h.own.asides (Aside.setCell bf 0 _) (fun hl g hp e => by injection e with e; exact h.ne g hp e.symm), h.ne, h.aside.trans_below hB (by omega), h.hb, h.hbf, h.len⟩
theorem DrF.setF {b n : Nat} {w : World} {bf : Nat} {wx : World} {cf f : Int} {q : Option Addr} {l : List Int} {cap : Nat} (h : DrF b n w bf wx cf f q l cap) (x : Int) : DrF b n w bf (wx.setCell ⟨bf, 1, none⟩ (.int .i64 x)) cf x q l cap := by
  have hb := h.hb; have hbf := h.hbf
  have hB := (Below.refl bf wx).setCell (p := ⟨bf, 1, none⟩) (Nat.le_refl _) (.int .i64 x)
  exact ⟨h.src.belowB hB (by omega), h.r.off (by omega) _ _, h.blk.set31 _, h.own.asides (Aside.setCell bf 1 _) (fun hl g hp e => by injection e with e; exact h.ne g hp e.symm), h.ne, h.aside.trans_below hB (by omega), h.hb, h.hbf, h.len⟩
theorem DrF.setN {b n : Nat} {w : World} {bf : Nat} {wx : World} {cf f : Int} {q : Option Addr} {l : List Int} {cap : Nat} (h : DrF b n w bf wx cf f q l cap) : DrF b n w bf (wx.setCell ⟨bf, 2, none⟩ (.slice none 0 0)) cf f none [] 0 := by
  have hb := h.hb; have hbf := h.hbf
  have hB := (Below.refl bf wx).setCell (p := ⟨bf, 2, none⟩) (Nat.le_refl _) (.slice none 0 0)
  exact ⟨h.src.belowB hB (by omega), h.r.off (by omega) _ _, h.blk.set32' _, OwnS.nil_ _ _ _, (fun g e => by cases e), h.aside.trans_below hB (by omega), h.hb, h.hbf, Nat.zero_le _⟩
/-- What the function leaves. -/
theorem DrF.done {b n : Nat} {w : World} {bf : Nat} {wx : World} {cf f : Int} {q : Option Addr} {l : List Int} {cap : Nat} (h : DrF b n w bf wx cf f q l cap) (x y z : Value) :
    OwnS (((wx.setCell ⟨w.heap.size, 0, none⟩ x).setCell ⟨w.heap.size, 1, none⟩ y).setCell ⟨w.heap.size, 2, none⟩ z) w.heap.size q l ∧ l.length ≤ 84 ∧ Src (((wx.setCell ⟨w.heap.size, 0, none⟩ x).setCell ⟨w.heap.size, 1, none⟩ y).setCell ⟨w.heap.size, 2, none⟩ z) b n ∧ Aside (some b) w (((wx.setCell ⟨w.heap.size, 0, none⟩ x).setCell ⟨w.heap.size, 1, none⟩ y).setCell ⟨w.heap.size, 2, none⟩ z) := by
  have hb := h.hb
  have hB := (((Below.refl w.heap.size wx).setCell (p := ⟨w.heap.size, 0, none⟩) (Nat.le_refl _) x).setCell (p := ⟨w.heap.size, 1, none⟩) (Nat.le_refl _) y).setCell (p := ⟨w.heap.size, 2, none⟩) (Nat.le_refl _) z
  exact ⟨(((h.own.offS (g' := w.heap.size) (Nat.lt_succ_self _) 0 x).offS (g' := w.heap.size) (Nat.lt_succ_self _) 1 y).offS (g' := w.heap.size) (Nat.lt_succ_self _) 2 z).mono (Nat.le_succ _), h.len, h.src.belowB hB hb, h.aside.trans_below hB (Nat.le_refl _)⟩
end Go.Proofs.YtfdcainjppljhaaGreatDoor
namespace Go.Proofs.YtfdcainjppljhaaGreatDoor
open Go.RowKit
set_option linter.unusedVariables false
def b10V (l : List UInt8) (i m : Int) : Int := if m ≤ 1 then 0 else if i < (l.length : Int) then ((l.getD i.toNat 0).toNat : Int) % m else (i * 37 + 11) % m
theorem b10V_bd (l : List UInt8) {i m : Int} (hi : 0 ≤ i) (hm : 1 ≤ m) : 0 ≤ b10V l i m ∧ b10V l i m ≤ m - 1 := by
  unfold b10V
  split
  · omega
  · split
    · have h1 := Int.emod_nonneg ((l.getD i.toNat 0).toNat : Int) (b := m) (by omega)
      have h2 := Int.emod_lt_of_pos ((l.getD i.toNat 0).toNat : Int) (b := m) (by omega)
      omega
    · have h1 := Int.emod_nonneg (i * 37 + 11) (b := m) (by omega)
      have h2 := Int.emod_lt_of_pos (i * 37 + 11) (b := m) (by omega)
      omega
set_option maxHeartbeats 1000000 in
theorem laws_b10AtV (p : Option Addr) (l : List UInt8) (cap : Nat) (i m : Int) (w : World) (hI : BytesAt w p l) (hi : 0 ≤ i ∧ i ≤ 1000000000) (hm : m ≤ 1000000000000) :
    Calls Tryz.prog 12 #[.slice p l.length cap, .int .i64 i, .int .i64 m] w fun e w' => e = .returned (.int .i64 (b10V l i m)) ∧ w' = w := by
  by_cases h1 : m ≤ 1
  · have hd : decide (m ≤ 1) = true := by simp [h1]
    have HV : Hid (b10V l i m = 0) := Lib.hid (by unfold b10V; rw [if_pos h1])
    go_enter Tryz.func12, Tryz.ntmps12
    go_wp2
    go_ret
    exact ⟨ret_int (by rw [HV.out]), rfl⟩
  · have hd : decide (m ≤ 1) = false := by simp; omega
    have hm0 : m ≠ 0 := by omega
    by_cases h2 : i < (l.length : Int)
    · have hd2 : decide (i < (l.length : Int)) = true := by simp [h2]
      obtain ⟨k, rfl⟩ : ∃ k : Nat, i = (k : Int) := ⟨i.toNat, by omega⟩
      have hk : k < l.length := by omega
      obtain ⟨a, rfl, hx⟩ := hI.at_ (k := k) hk
      have hb := u8_bd (l[k]'hk)
      have hv : b10V l (k : Int) m = ((l[k]'hk).toNat : Int) % m := by
        unfold b10V
        rw [if_neg h1, if_pos h2, List.getD_eq_getElem?_getD, Int.toNat_natCast, List.getElem?_eq_getElem hk]
        rfl
      obtain ⟨x, ex⟩ : ∃ x : Int, ((l[k]'hk).toNat : Int) = x := ⟨_, rfl⟩
      rw [ex] at hx hb hv
      have HV := Lib.hid hv
      have ht : x.tmod m = x % m := Int.tmod_eq_emod_of_nonneg (by omega)
      have h3 := Int.emod_nonneg x (b := m) (by omega)
      have h4 := Int.emod_lt_of_pos x (b := m) (by omega)
      clear ex hv
      go_enter Tryz.func12, Tryz.ntmps12
      go_wp2
      go_ret
      exact ⟨ret_int (by rw [HV.out]), rfl⟩
    · have hd2 : decide (i < (l.length : Int)) = false := by simp; omega
      have HV : Hid (b10V l i m = (i * 37 + 11) % m) := Lib.hid (by unfold b10V; rw [if_neg h1, if_neg h2])
      have ht : (i * 37 + 11).tmod m = (i * 37 + 11) % m := Int.tmod_eq_emod_of_nonneg (by omega)
      have h3 := Int.emod_nonneg (i * 37 + 11) (b := m) (by omega)
      have h4 := Int.emod_lt_of_pos (i * 37 + 11) (b := m) (by omega)
      go_enter Tryz.func12, Tryz.ntmps12
      go_wp2
      go_ret
      exact ⟨ret_int (by rw [HV.out]), rfl⟩
set_option maxHeartbeats 1000000 in
theorem spec_DrawFluxOf (p : Option Addr) (l : List UInt8) (cap : Nat) (w : World) (hI : BytesAt w p l) (hl : l.length ≤ 1048576) :
    Calls Tryz.prog 5 #[.slice p l.length cap] w fun e w' => ∃ (s : ByteArray) (x : Int), e = .returned (.tuple #[.string s, .int .i64 x]) ∧ s.size ≤ 84 ∧ (0 ≤ x ∧ x ≤ 201) ∧ Below w.heap.size w w' := by
  go_enter Tryz.func5, Tryz.ntmps5
  go_wp2_with fail
  refine (spec_l00From p l cap _ hI hl).mono ?_
  rintro e w1 ⟨rfl, hS1, hb1⟩
  have hz1 := hb1.size
  go_wp2_with fail
  refine (src_l02Bent w.heap.size 0 _ hS1 (by omega)).mono ?_
  rintro e w2 ⟨s, rfl, hs, hS2, ha2⟩
  go_wp2_with fail
  refine (src_one w.heap.size _ 12 _ hS2 (by omega) (by omega)).mono ?_
  rintro e w3 ⟨x, rfl, hS3, ha3⟩
  have hz2 := ha2.size
  have hz3 := ha3.size
  cases x
  · go_wp2_with fail
    refine (src_l02DrawCell w.heap.size _ _ hS3 (by omega)).mono ?_
    rintro e w4 ⟨x, rfl, hx, hS4, ha4⟩
    have hB : Below w.heap.size w w4 := hb1.trans (((ha2.trans ha3).trans ha4).below hb1.size (fun g e => by injection e with e; omega))
    go_wp2_with fail
    go_returns
    exact ⟨s, x, rfl, hs, by omega, hB⟩
  · go_wp2_with fail
    refine (src_among w.heap.size _ _ [3, 201, 0] 3 _ (hS3.below ((Below.refl _ _).alloc (Nat.le_refl _) _)) (by omega) (lit_ints w3 [3, 201, 0]) (fun a e => by injection e with e; subst e; simp; have := hS1.lt; omega) (by decide) (by decide)).mono ?_
    rintro e w4 ⟨x, rfl, hx, hS4, ha4⟩
    have hB : Below w.heap.size w w4 := hb1.trans (((ha2.trans ha3).trans ((Aside.of_below ((Below.refl _ _).alloc (Nat.le_refl _) _)).trans ha4)).below hb1.size (fun g e => by injection e with e; omega))
    go_wp2_with fail
    go_returns
    exact ⟨s, x, rfl, hs, by simp at hx; omega, hB⟩
end Go.Proofs.YtfdcainjppljhaaGreatDoor
namespace Go.Proofs.YtfdcainjppljhaaGreatDoor
open Go.RowKit
set_option maxHeartbeats 400000 in
theorem spec_l00Same (p q : Option Addr) (l m : List Int) (cap dap : Nat) (w : World) (hI : IntsAt w p l) (hJ : IntsAt w q m) (hl : l.length ≤ 9000000) :
    Calls Tryz.prog 34 #[.slice p l.length cap, .slice q m.length dap] w fun e w' => e = .returned (.bool (decide (l = m))) ∧ Below w.heap.size w w' := by
  by_cases hlen : l.length = m.length
  · go_enter Tryz.func34, Tryz.ntmps34
    go_wp2
    go_loopw [5] (fun i wr => ∃ k : Nat, k ≤ l.length ∧ i = .int .i64 k ∧ l.take k = m.take k ∧ Below w.heap.size w wr) (fun i _ => l.length - (intOf i).toNat)
    case atStart => exact ⟨0, Nat.zero_le _, rfl, rfl, Below.refl _ _⟩
    case round =>
      obtain ⟨k, hk, rfl, heq, hbel⟩ := hrel
      by_cases hlt : k < l.length
      · have hlm : k < m.length := by omega
        obtain ⟨a, rfl, hc⟩ := (hI.below hbel).at_ hlt
        obtain ⟨b, rfl, hd⟩ := (hJ.below hbel).at_ hlm
        have H := Lib.hid hlen
        clear hlen
        by_cases hxy : l[k] = m[k]
        · have hb : (l[k] != m[k]) = false := by simp [hxy]
          have H2 := Lib.hid hxy
          clear hxy
          go_wp2
          go_region
          go_wp2
          have hstep : l.take (k + 1) = m.take (k + 1) := by rw [takeI_snoc hlt, takeI_snoc hlm, heq, H2.out]
          exact ⟨⟨k + 1, by omega, by go_num, hstep, hbel.drew⟩, by simp [intOf]; omega⟩
        · have hb : (l[k] != m[k]) = true := by simp [hxy]
          have H2 := Lib.hid hxy
          clear hxy
          go_wp2
          go_region
          go_wp2
          go_ret
          refine ⟨ret_bool (Eq.symm (decide_eq_false fun e => H2.out (by simp only [e]))), hbel.drew⟩
      · rw [List.take_of_length_le (by omega), List.take_of_length_le (by omega)] at heq
        have H := Lib.hid heq
        clear heq
        go_wp2
        go_ret
        exact ⟨ret_bool (by simp [H.out]), hbel⟩
  · have hd : (l.length : Int) ≠ (m.length : Int) := by omega
    have hd2 : ((l.length : Int) != (m.length : Int)) = true := by simp [hd]
    have H := Lib.hid hlen
    clear hlen hd
    go_enter Tryz.func34, Tryz.ntmps34
    go_wp2
    go_ret
    exact ⟨ret_bool (Eq.symm (decide_eq_false fun e => H.out (by rw [e]))), Below.refl _ _⟩
def sameV (c f : Int) (l : List Int) (c' f' : Int) (l' : List Int) : Bool := decide (c = c') && (decide (f = f') && decide (l = l'))
set_option maxHeartbeats 1000000 in
set_option maxRecDepth 20000 in
theorem spec_SameFlux (c f : Int) (p : Option Addr) (l : List Int) (cap : Nat) (c' f' : Int) (p' : Option Addr) (l' : List Int) (cap' : Nat) (w : World) (hI : IntsAt w p l) (hJ : IntsAt w p' l') (hl : l.length ≤ 9000000) (hl' : l'.length ≤ 9000000) :
    Calls Tryz.prog 15 #[.agg #[.int .i64 c, .int .i64 f, .slice p l.length cap], .agg #[.int .i64 c', .int .i64 f', .slice p' l'.length cap']] w fun e w' => e = .returned (.bool (sameV c f l c' f' l')) ∧ Below w.heap.size w w' := by
  by_cases h1 : c = c'
  · by_cases h2 : f = f'
    · subst h1
      subst h2
      go_enter Tryz.func15, Tryz.ntmps15
      go_wp2_with (go_at_call 34; refine (spec_l00Same p p' l l' cap cap' _ ((hI.alloc _).alloc _) ((hJ.alloc _).alloc _) hl).mono ?_; rintro e w1 ⟨rfl, hb1⟩)
      go_ret
      exact ⟨ret_bool (by simp [sameV]), below_al (((Below.refl _ _).alloc (Nat.le_refl _) _)) hb1 (Nat.le_refl _)⟩
    · subst h1
      have hq : (f == f') = false := by simp [h2]
      have H := Lib.hid h2
      clear h2
      go_enter Tryz.func15, Tryz.ntmps15
      go_wp2
      go_ret
      refine ⟨ret_bool (by simp [sameV, H.out]), ?_⟩
      go_grown
  · have hq : (c == c') = false := by simp [h1]
    have H := Lib.hid h1
    clear h1
    go_enter Tryz.func15, Tryz.ntmps15
    go_wp2
    go_ret
    refine ⟨ret_bool (by simp [sameV, H.out]), ?_⟩
    go_grown
end Go.Proofs.YtfdcainjppljhaaGreatDoor
namespace Go.Proofs.YtfdcainjppljhaaGreatDoor
open Go.Deep Go.RowKit Go.Joins Go.ChangeShapes Go.WideShapes

section
variable {H : Type} {enc : TypeId × Value → H} {P : Program} {w : World} {base : Nat} {spare : Nat → Bool} {held : Bool}
theorem open_agg5 {r : Reach} {b0 : Nat} {t : TypeId} {f0 f1 f2 f3 f4 : Field} {v : Value} {d : DataW H} {p : List MemPlace} (hs : P.underlying t = some (.struct #[f0, f1, f2, f3, f4])) (hone : oneCellFields P #[f0, f1, f2, f3, f4] = true) (hC : P.cellsOf t = 5)
    (hv : Value.okWide P w r b0 t v) (h : DataW.Trod enc P w base spare held t v d p) :
    ∃ (v0 v1 v2 v3 v4 : Value) (y0 y1 y2 y3 y4 : DataW H × List MemPlace) (n : Nat), v = .agg #[v0, v1, v2, v3, v4] ∧ d = .agg [y0.1, y1.1, y2.1, y3.1, y4.1] ∧ p = y0.2 ++ (y1.2 ++ (y2.2 ++ (y3.2 ++ y4.2))) ∧
      DataW.trod enc P w base spare held n f0.type [v0] = some y0 ∧ DataW.trod enc P w base spare held n f1.type [v1] = some y1 ∧ DataW.trod enc P w base spare held n f2.type [v2] = some y2 ∧ DataW.trod enc P w base spare held n f3.type [v3] = some y3 ∧ DataW.trod enc P w base spare held n f4.type [v4] = some y4 := by
  obtain ⟨cs, rfl, hsz⟩ := okWide_struct hs hv
  obtain ⟨l⟩ := cs
  match l, hsz.trans hC with
  | [c0, c1, c2, c3, c4], _ =>
    obtain ⟨fuel, hf⟩ := h
    obtain ⟨xs, n, _, hx, _, hlen, hg⟩ := DataW.trod_struct hs hf
    obtain ⟨o0, k0⟩ := hone_of hone 0 f0 rfl
    obtain ⟨o1, k1⟩ := hone_of hone 1 f1 rfl
    obtain ⟨o2, k2⟩ := hone_of hone 2 f2 rfl
    obtain ⟨o3, k3⟩ := hone_of hone 3 f3 rfl
    obtain ⟨o4, k4⟩ := hone_of hone 4 f4 rfl
    match xs, hlen with
    | [y0, y1, y2, y3, y4], _ =>
      simp only [Prod.mk.injEq] at hx
      exact ⟨c0, c1, c2, c3, c4, y0, y1, y2, y3, y4, n, rfl, by simpa using hx.1, by simpa using hx.2, by simpa [Value.cells, o0, k0] using hg 0 f0 rfl, by simpa [Value.cells, o1, k1] using hg 1 f1 rfl, by simpa [Value.cells, o2, k2] using hg 2 f2 rfl, by simpa [Value.cells, o3, k3] using hg 3 f3 rfl, by simpa [Value.cells, o4, k4] using hg 4 f4 rfl⟩
theorem field_int {t : TypeId} {k : IntKind} {n : Nat} {v : Value} {y : DataW H × List MemPlace} (ht : P.underlying t = some (.int k)) (h : DataW.trod enc P w base spare held n t [v] = some y) :
    ∃ x : Int, v = .int k x ∧ (Lit.int k x).wf = true := by
  obtain ⟨x, e, _, wx⟩ := DataW.trod_int ht h
  simp at e
  exact ⟨x, e, wx⟩

theorem open_agg2 {r : Reach} {b0 : Nat} {t : TypeId} {f0 f1 : Field} {v : Value} {d : DataW H} {p : List MemPlace} (hs : P.underlying t = some (.struct #[f0, f1])) (hone : oneCellFields P #[f0, f1] = true) (hC : P.cellsOf t = 2)
    (hv : Value.okWide P w r b0 t v) (h : DataW.Trod enc P w base spare held t v d p) :
    ∃ (v0 v1 : Value) (y0 y1 : DataW H × List MemPlace) (n : Nat), v = .agg #[v0, v1] ∧ d = .agg [y0.1, y1.1] ∧ p = y0.2 ++ y1.2 ∧
      DataW.trod enc P w base spare held n f0.type [v0] = some y0 ∧ DataW.trod enc P w base spare held n f1.type [v1] = some y1 := by
  obtain ⟨cs, rfl, hsz⟩ := okWide_struct hs hv
  obtain ⟨l⟩ := cs
  match l, hsz.trans hC with
  | [c0, c1], _ =>
    obtain ⟨fuel, hf⟩ := h
    obtain ⟨xs, n, _, hx, _, hlen, hg⟩ := DataW.trod_struct hs hf
    obtain ⟨o0, k0⟩ := hone_of hone 0 f0 rfl
    obtain ⟨o1, k1⟩ := hone_of hone 1 f1 rfl
    match xs, hlen with
    | [y0, y1], _ =>
      simp only [Prod.mk.injEq] at hx
      exact ⟨c0, c1, y0, y1, n, rfl, by simpa using hx.1, by simpa using hx.2, by simpa [Value.cells, o0, k0] using hg 0 f0 rfl, by simpa [Value.cells, o1, k1] using hg 1 f1 rfl⟩
theorem open_locked {r : Reach} {b0 : Nat} {t e : TypeId} {f0 f1 : Field} {v : Value} {d : DataW H} {p : List MemPlace} (hs : P.underlying t = some (.struct #[f0, f1])) (he : P.underlying e = some (.int .i64))
    (hone : oneCellFields P #[f0, f1] = true) (hC : P.cellsOf t = 2) (hv : Value.okWide P w r b0 t v) (h : DataW.Trod enc P w base spare held t v d p)
    (e0 : f0.type = e := by rfl) (e1 : f1.type = e := by rfl) :
    ∃ x y : Int, v = .agg #[.int .i64 x, .int .i64 y] ∧ (Lit.int .i64 x).wf = true ∧ (Lit.int .i64 y).wf = true := by
  obtain ⟨v0, v1, y0, y1, n, rfl, -, -, h0, h1⟩ := open_agg2 hs hone hC hv h
  obtain ⟨x0, rfl, w0⟩ := field_int (e0 ▸ he) h0
  obtain ⟨x1, rfl, w1⟩ := field_int (e1 ▸ he) h1
  exact ⟨x0, x1, rfl, w0, w1⟩
theorem open_clock {r : Reach} {b0 : Nat} {t e : TypeId} {f0 f1 f2 f3 f4 : Field} {v : Value} {d : DataW H} {p : List MemPlace} (hs : P.underlying t = some (.struct #[f0, f1, f2, f3, f4])) (he : P.underlying e = some (.int .i64))
    (hone : oneCellFields P #[f0, f1, f2, f3, f4] = true) (hC : P.cellsOf t = 5) (hv : Value.okWide P w r b0 t v) (h : DataW.Trod enc P w base spare held t v d p)
    (e0 : f0.type = e := by rfl) (e1 : f1.type = e := by rfl) (e2 : f2.type = e := by rfl) (e3 : f3.type = e := by rfl) (e4 : f4.type = e := by rfl) :
    ∃ c : Clk, v = c.val ∧ c.wf := by
  obtain ⟨v0, v1, v2, v3, v4, y0, y1, y2, y3, y4, n, rfl, -, -, h0, h1, h2, h3, h4⟩ := open_agg5 hs hone hC hv h
  obtain ⟨x0, rfl, w0⟩ := field_int (e0 ▸ he) h0
  obtain ⟨x1, rfl, w1⟩ := field_int (e1 ▸ he) h1
  obtain ⟨x2, rfl, w2⟩ := field_int (e2 ▸ he) h2
  obtain ⟨x3, rfl, w3⟩ := field_int (e3 ▸ he) h3
  obtain ⟨x4, rfl, w4⟩ := field_int (e4 ▸ he) h4
  exact ⟨⟨x0, x1, x2, x3, x4⟩, rfl, w0, w1, w2, w3, w4⟩
end
end Go.Proofs.YtfdcainjppljhaaGreatDoor
namespace Go.Proofs.YtfdcainjppljhaaGreatDoor
open Go.Deep Go.RowKit Go.Joins Go.ChangeShapes Go.WideShapes
/-- A slice of bytes: its data pointer, bytes, capacity. -/
structure Byt where
  p : Option Addr
  l : List UInt8
  cap : Nat
def Byt.val (x : Byt) : Value := .slice x.p x.l.length x.cap
def Byt.ok (x : Byt) (w : World) : Prop := BytesAt w x.p x.l ∧ x.l.length ≤ maxLen
section
variable {H : Type} {enc : TypeId × Value → H} {P : Program} {w : World} {base : Nat} {spare : Nat → Bool} {held : Bool}
theorem wf_u8 {n : Int} (h : (Lit.int .u8 n).wf = true) : 0 ≤ n ∧ n < 256 := by
  have h1 : IntKind.u8.min = 0 := rfl
  have h2 : IntKind.u8.max = 255 := rfl
  simp [Lit.wf] at h
  omega
theorem open_bytes {t e : TypeId} {r : Reach} {b0 : Nat} {v : Value} {d : DataW H} {p : List MemPlace} (ht : P.underlying t = some (.slice e)) (he : P.underlying e = some (.int .u8)) (hc : P.cellsOf e = 1)
    (hv : Value.okWide P w r b0 t v) (h : DataW.Trod enc P w base spare held t v d p) : ∃ x : Byt, v = x.val ∧ x.ok w := by
  obtain ⟨a0, len0, cap0, rfl⟩ := okWide_slice ht hv
  obtain ⟨fuel, hf⟩ := h
  rcases open_ints (cs := [.slice a0 len0 cap0]) ht he hc (by simpa [Value.cells] using hf) with ⟨hv, -⟩ | ⟨a, len, cap, zs, hv, -, hl, hm, hz, -, hcell, hwf⟩
  · simp at hv
    exact ⟨⟨none, [], 0⟩, by obtain ⟨rfl, rfl, rfl⟩ := hv; rfl, fun h => absurd rfl h, Nat.zero_le _⟩
  · simp at hv
    obtain ⟨rfl, rfl, rfl⟩ := hv
    have hlen : len0 ≤ zs.length := by rw [hz]; split <;> omega
    refine ⟨⟨some a, (zs.take len0).map b8, cap0⟩, ?_, ?_, ?_⟩
    · simp [Byt.val]; omega
    · intro hne
      have h0 : 0 < len0 := by
        rcases Nat.eq_zero_or_pos len0 with e | e
        · subst e; simp at hne
        · exact e
      refine ⟨a, rfl, ?_, fun i hi => ?_⟩
      · have := World.block_lt_of_cell? w _ (hcell 0 (by omega))
        rw [block_add] at this
        exact this
      · have hi' : i < len0 := by simp at hi; omega
        have hiz : i < zs.length := by omega
        have hw := wf_u8 (hwf _ (List.getElem_mem hiz))
        rw [hcell i hiz]
        simp [List.getD, hiz, b8_val hw.1 hw.2]
    · simp; omega
end
end Go.Proofs.YtfdcainjppljhaaGreatDoor
