/- DropChanges. Printed by dropgen.py. -/
import Derived.Test.YtfdcainjppljhaaOpAid
import Derived.Test.YtfdcainjppljhaaNkW
import Derived.Test.YtfdcainjppljhaaBsW
import Derived.Deep.RegionHeld3
namespace Go.Proofs.Ytfdcainjppljhaa
open Go.RowKit
set_option linter.unusedVariables false
/-- What is left of the first k times. -/
def keepL (x js : List Int) (k : Nat) : List Int := ((List.range k).filter fun (i : Nat) => !decide ((i : Int) ∈ js)).map fun (i : Nat) => x.getD i 0
theorem keepL_yes {x js : List Int} {k : Nat} (hk : k < x.length) (h : decide ((k : Int) ∈ js) = false) : keepL x js (k + 1) = keepL x js k ++ [x[k]] := by
  unfold keepL
  rw [List.range_succ, List.filter_append, List.filter_cons, if_pos (by rw [h]; rfl)]
  simp [hk]
theorem keepL_no {x js : List Int} {k : Nat} (h : decide ((k : Int) ∈ js) = true) : keepL x js (k + 1) = keepL x js k := by
  unfold keepL
  rw [List.range_succ, List.filter_append, List.filter_cons, if_neg (by rw [h]; decide)]
  simp
theorem keepL_len (x js : List Int) (k : Nat) : (keepL x js k).length ≤ k := by
  unfold keepL
  rw [List.length_map]
  have := List.length_filter_le (fun i : Nat => !decide ((i : Int) ∈ js)) (List.range k)
  rw [List.length_range] at this
  exact this
def drOk (c f : Int) (l js : List Int) : Bool := fluxOk c f l && risesB js 0 3999
def drIn (l js : List Int) : Bool := risesB js 0 ((l.length : Int) - 1)
def drV (c f : Int) (l js : List Int) : Bool := drOk c f l js && drIn l js
def drT (f : Int) (l js : List Int) : List Int := keepL (chgL f l) js l.length
def drE (c f : Int) (l js : List Int) : Int := if drOk c f l js then (if drIn l js then tmE 2 (drT f l js) l.sum c else 2) else 1
theorem drT_len (f : Int) (l js : List Int) : (drT f l js).length ≤ l.length := keepL_len _ _ _
theorem rises_pw {js : List Int} {lo hi : Int} (h : risesB js lo hi = true) : js.Pairwise (· ≤ ·) := by
  unfold risesB at h
  rw [Bool.and_eq_true, decide_eq_true_eq] at h
  exact h.2.imp fun h => by omega
/-- The bound of rising numbers is the last one's. -/
theorem rises_last {js : List Int} {n : Nat} (h : risesB js 0 3999 = true) (hn : n ≤ 4000) (hj : 0 < js.length) : risesB js 0 ((n : Int) - 1) = decide (js[js.length - 1]'(by omega) < (n : Int)) := by
  have hs := rises_pw h
  unfold risesB at h ⊢
  rw [Bool.and_eq_true] at h
  rw [h.2, Bool.and_true, Bool.eq_iff_iff, List.all_eq_true, decide_eq_true_iff]
  have h1 := List.all_eq_true.1 h.1
  constructor
  · intro ha
    have := inB_iff.1 (ha _ (List.getElem_mem (by omega : js.length - 1 < js.length)))
    omega
  · intro hl x hx
    obtain ⟨i, hi, rfl⟩ := List.getElem_of_mem hx
    have h2 := inB_iff.1 (h1 _ (List.getElem_mem hi))
    have h3 : js[i] ≤ js[js.length - 1] := by
      rcases Nat.lt_or_ge i (js.length - 1) with h4 | h4
      · exact List.pairwise_iff_getElem.1 hs i (js.length - 1) hi (by omega) h4
      · have : i = js.length - 1 := by omega
        subst this; exact Int.le_refl _
    exact inB_iff.2 ⟨h2.1, by omega⟩
theorem rises_nil (lo hi : Int) : risesB [] lo hi = true := rfl
theorem Blk.drewN {w : World} {g : Nat} {t : TypeId} {cs : Array Value} (h : Blk w g t cs) (n : Nat) : Blk (w.drewN n) g t cs := h
theorem OwnS.drewN' {w : World} {base : Nat} {p : Option Addr} {l : List Int} (h : OwnS w base p l) (n : Nat) : OwnS (w.drewN n) base p l := h
theorem impl_size (p : Option Addr) (n cap : Nat) (w : World) :
    Calls Try.prog 70 #[.slice p n cap] w fun e w' => e = .returned (.int .i64 (n : Int)) ∧ w' = w := by
  go_enter Try.func70, Try.ntmps70
  go_wp2_with fail
  go_ret
  exact ⟨rfl, rfl⟩
set_option maxHeartbeats 4000000 in
set_option maxRecDepth 20000 in
theorem impl_DropChanges (c f : Int) (p : Option Addr) (l : List Int) (cap : Nat) (pj : Option Addr) (js : List Int) (capj : Nat) (w : World) (hI : IntsAt w p l) (hl : l.length ≤ 1048576) (hJ : IntsAt w pj js) (hjl : js.length ≤ 1048576) :
    Calls Try.prog 33 #[.agg #[.int .i64 c, .int .i64 f, .slice p l.length cap], .slice pj js.length capj] w fun e w' => ∃ (q : Option Addr) (dq : Nat), e = .returned (.tuple #[.agg #[.int .i64 (fxC (drV c f l js) (drT f l js) l.sum c), .int .i64 (fxF (drV c f l js) (drT f l js) l.sum c), .slice q (fxL (drV c f l js) (drT f l js) l.sum c).length dq], .int .i64 (drE c f l js)]) ∧ OwnS w' w.heap.size q (fxL (drV c f l js) (drT f l js) l.sum c) ∧ Below w.heap.size w w' := by
  have BF0 := (Blk.new w 26 #[.int .i64 c, .int .i64 f, .slice p l.length cap]).alloc' (.cells #[.int .i64 0, .int .i64 0, .slice none 0 0] 26)
  have R0 := Blk.new (w.alloc (.cells #[.int .i64 c, .int .i64 f, .slice p l.length cap] 26)) 26 #[.int .i64 0, .int .i64 0, .slice none 0 0]
  have esz : (w.alloc (.cells #[.int .i64 c, .int .i64 f, .slice p l.length cap] 26)).heap.size = w.heap.size + 1 := by simp
  rw [esz] at R0
  have W0 : Below w.heap.size w ((w.alloc (.cells #[.int .i64 c, .int .i64 f, .slice p l.length cap] 26)).alloc (.cells #[.int .i64 0, .int .i64 0, .slice none 0 0] 26)) := ((Below.refl _ _).alloc (Nat.le_refl _) _).alloc (by simp) _
  clear esz
  obtain ⟨f0, f1, f2⟩ := BF0.cell3
  obtain h1 | h1 := (Bool.eq_false_or_eq_true (fluxOk c f l)).symm
  · have hv : drV c f l js = false := by unfold drV drOk; rw [h1]; rfl
    have HE : Hid (drE c f l js = 1) := Lib.hid (by unfold drE drOk; rw [h1]; rfl)
    have HN : Hid (fxC (drV c f l js) (drT f l js) l.sum c = 0 ∧ fxF (drV c f l js) (drT f l js) l.sum c = 0 ∧ fxL (drV c f l js) (drT f l js) l.sum c = []) := Lib.hid (by unfold fxC fxF fxL; rw [hv]; exact ⟨rfl, rfl, rfl⟩)
    have H := Lib.hid h1
    clear h1 hv
    go_enter Try.func33, Try.ntmps33
    go_wp2_with fail
    generalize (w.alloc (.cells #[.int .i64 c, .int .i64 f, .slice p l.length cap] 26)).alloc (.cells #[.int .i64 0, .int .i64 0, .slice none 0 0] 26) = w0 at BF0 R0 W0 f0 f1 f2 ⊢
    refine (impl_ValidFlux c f p l cap _ (hI.below W0) hl).mono ?_
    rintro e w1 ⟨rfl, hb1⟩
    rw [H.out]
    have R1 := R0.keep hb1
    have BF1 := BF0.keep hb1
    have W1 := below_st W0 hb1 (Nat.le_refl _)
    obtain ⟨r0, r1', r2⟩ := R1.cell3
    have rf := R1.frozen
    have rlt := R1.lt
    obtain ⟨e0, e1, e2⟩ := (R1.set3 (.int .i64 0) (.int .i64 0) (.slice none 0 0)).cell3
    go_wp2_with fail
    refine bodyPost_ret (v := .tuple #[.agg #[.int .i64 0, .int .i64 0, .slice none 0 0], .int .i64 1]) (by simp [results, Try.results33, go_sem, e0, e1, e2]) rfl ?_
    rw [HN.out.1, HN.out.2.1, HN.out.2.2, HE.out]
    have W9 := ((W1.setCell (p := ⟨w.heap.size + 1, 0, none⟩) (Nat.le_succ _) (.int .i64 0)).setCell (p := ⟨w.heap.size + 1, 1, none⟩) (Nat.le_succ _) (.int .i64 0)).setCell (p := ⟨w.heap.size + 1, 2, none⟩) (Nat.le_succ _) (.slice none 0 0)
    first | exact ⟨none, 0, rfl, OwnS.nil_ _ _ _, W9⟩ | exact ⟨none, ⟨0, rfl⟩, OwnS.nil_ _ _ _, W9⟩
  obtain h2 | h2 := (Bool.eq_false_or_eq_true (risesB js 0 3999)).symm
  · have hv : drV c f l js = false := by unfold drV drOk; rw [h2, Bool.and_false]; rfl
    have HE : Hid (drE c f l js = 1) := Lib.hid (by unfold drE drOk; rw [h2, Bool.and_false]; rfl)
    have HN : Hid (fxC (drV c f l js) (drT f l js) l.sum c = 0 ∧ fxF (drV c f l js) (drT f l js) l.sum c = 0 ∧ fxL (drV c f l js) (drT f l js) l.sum c = []) := Lib.hid (by unfold fxC fxF fxL; rw [hv]; exact ⟨rfl, rfl, rfl⟩)
    have H := Lib.hid h1
    have H2 := Lib.hid h2
    clear h1 h2 hv
    go_enter Try.func33, Try.ntmps33
    go_wp2_with fail
    generalize (w.alloc (.cells #[.int .i64 c, .int .i64 f, .slice p l.length cap] 26)).alloc (.cells #[.int .i64 0, .int .i64 0, .slice none 0 0] 26) = w0 at BF0 R0 W0 f0 f1 f2 ⊢
    refine (impl_ValidFlux c f p l cap _ (hI.below W0) hl).mono ?_
    rintro e w1 ⟨rfl, hb1⟩
    rw [H.out]
    have R1 := R0.keep hb1
    have BF1 := BF0.keep hb1
    have W1 := below_st W0 hb1 (Nat.le_refl _)
    clear f0 f1 f2
    obtain ⟨f0, f1, f2⟩ := BF1.cell3
    go_wp2_with fail
    refine (impl_validDrops pj js capj _ (hJ.below W1) hjl).mono ?_
    rintro e w2 ⟨rfl, hb2⟩
    rw [H2.out]
    have R2 := R1.keep hb2
    have BF2 := BF1.keep hb2
    have W2 := below_st W1 hb2 (Nat.le_refl _)
    obtain ⟨r0, r1', r2⟩ := R2.cell3
    have rf := R2.frozen
    have rlt := R2.lt
    obtain ⟨e0, e1, e2⟩ := (R2.set3 (.int .i64 0) (.int .i64 0) (.slice none 0 0)).cell3
    go_wp2_with fail
    refine bodyPost_ret (v := .tuple #[.agg #[.int .i64 0, .int .i64 0, .slice none 0 0], .int .i64 1]) (by simp [results, Try.results33, go_sem, e0, e1, e2]) rfl ?_
    rw [HN.out.1, HN.out.2.1, HN.out.2.2, HE.out]
    have W9 := ((W2.setCell (p := ⟨w.heap.size + 1, 0, none⟩) (Nat.le_succ _) (.int .i64 0)).setCell (p := ⟨w.heap.size + 1, 1, none⟩) (Nat.le_succ _) (.int .i64 0)).setCell (p := ⟨w.heap.size + 1, 2, none⟩) (Nat.le_succ _) (.slice none 0 0)
    first | exact ⟨none, 0, rfl, OwnS.nil_ _ _ _, W9⟩ | exact ⟨none, ⟨0, rfl⟩, OwnS.nil_ _ _ _, W9⟩
  obtain ⟨-, hlen, hgm, hpre, hf0, hsum⟩ := fluxOk_bd h1
  have hsums := fluxOk_sums h1
  have hcb := chg_bd h1
  have hok : drOk c f l js = true := by unfold drOk; rw [h1, h2]; rfl
  have HS := Lib.hid hsums
  have HPW := Lib.hid (rises_pw h2)
  have hlast := @rises_last js l.length h2 hlen.2
  have H := Lib.hid h1
  have H2 := Lib.hid h2
  have hcl := chgL_len f l
  have HOK := Lib.hid hok
  clear h1 h2 hok hsums hcb hgm hpre
  obtain h3 | h3 := (Bool.eq_false_or_eq_true (drIn l js)).symm
  · have hv : drV c f l js = false := by unfold drV; rw [h3, Bool.and_false]
    have HE : Hid (drE c f l js = 2) := Lib.hid (by unfold drE; rw [HOK.out, h3]; rfl)
    have HN : Hid (fxC (drV c f l js) (drT f l js) l.sum c = 0 ∧ fxF (drV c f l js) (drT f l js) l.sum c = 0 ∧ fxL (drV c f l js) (drT f l js) l.sum c = []) := Lib.hid (by unfold fxC fxF fxL; rw [hv]; exact ⟨rfl, rfl, rfl⟩)
    have hj0 : 0 < js.length := by rcases Nat.eq_zero_or_pos js.length with h | h; exact absurd h3 (by unfold drIn; rw [List.length_eq_zero_iff.1 h, rises_nil]; decide); exact h
    have hd := hlast hj0
    have h3' : risesB js 0 ((l.length : Int) - 1) = false := h3
    rw [h3'] at hd
    have hge : (l.length : Int) ≤ js[js.length - 1]'(by omega) := by have := of_decide_eq_false hd.symm; omega
    clear h3 h3' hv hd hlast
    go_enter Try.func33, Try.ntmps33
    go_wp2_with fail
    generalize (w.alloc (.cells #[.int .i64 c, .int .i64 f, .slice p l.length cap] 26)).alloc (.cells #[.int .i64 0, .int .i64 0, .slice none 0 0] 26) = w0 at BF0 R0 W0 f0 f1 f2 ⊢
    refine (impl_ValidFlux c f p l cap _ (hI.below W0) hl).mono ?_
    rintro e w1 ⟨rfl, hb1⟩
    rw [H.out]
    have R1 := R0.keep hb1
    have BF1 := BF0.keep hb1
    have W1 := below_st W0 hb1 (Nat.le_refl _)
    clear f0 f1 f2
    obtain ⟨f0, f1, f2⟩ := BF1.cell3
    go_wp2_with fail
    refine (impl_validDrops pj js capj _ (hJ.below W1) hjl).mono ?_
    rintro e w2 ⟨rfl, hb2⟩
    rw [H2.out]
    have R2 := R1.keep hb2
    have BF2 := BF1.keep hb2
    have W2 := below_st W1 hb2 (Nat.le_refl _)
    clear f0 f1 f2
    obtain ⟨f0, f1, f2⟩ := BF2.cell3
    go_wp2_with fail
    refine (impl_changes c f p l cap _ (hI.below W2) hl HS.out.2).mono ?_
    rintro e w3 ⟨q, dq, rfl, S3, hb3⟩
    have R3 := R2.keep hb3
    have BF3 := BF2.keep hb3
    have W3 := below_st W2 hb3 (Nat.le_refl _)
    obtain ⟨aj, rfl, hjc⟩ := (hJ.below W3).at_ (k := js.length - 1) (by omega)
    obtain ⟨z, ez⟩ : ∃ z, js[js.length - 1]'(by omega) = z := ⟨_, rfl⟩
    rw [ez] at hge hjc
    obtain ⟨jm, ejm⟩ : ∃ jm, js.length - 1 = jm := ⟨_, rfl⟩
    rw [ejm] at hjc
    have q0 : IntKind.i64.wrap ((js.length : Int) - 1) = (jm : Int) := by rw [IntWalk.i64_in _ (by omega)]; omega
    have q0' : (js.length : Int) - 1 = (jm : Int) := by omega
    have d0 : decide (0 < (js.length : Int)) = true := decide_eq_true (by omega)
    have d1 : decide (z < (l.length : Int)) = false := decide_eq_false (by omega)
    have i0 : (jm : Int) < (js.length : Int) := by omega
    rw [hcl]
    clear f0 f1 f2 ez
    go_wp2_with fail
    go_cut [36] (fun v36 wx => v36 = .bool true ∧ ∃ n, wx = w3.drewN n)
    case first =>
      go_quiet (exact Calls.quiet_of_same (impl_size _ _ _ _))
      go_wp2_with fail
      go_meet
      exact ⟨rfl, _, rfl⟩
    case rest =>
      obtain ⟨rfl, n, rfl⟩ := hcut
      have W4 := below_drewN W3 n
      have R4 := Blk.drewN R3 n
      obtain ⟨r0, r1', r2⟩ := R4.cell3
      have rf := R4.frozen
      have rlt := R4.lt
      obtain ⟨e0, e1, e2⟩ := (R4.set3 (.int .i64 0) (.int .i64 0) (.slice none 0 0)).cell3
      go_wp2_with fail
      refine bodyPost_ret (v := .tuple #[.agg #[.int .i64 0, .int .i64 0, .slice none 0 0], .int .i64 2]) (by simp [results, Try.results33, go_sem, e0, e1, e2]) rfl ?_
      rw [HN.out.1, HN.out.2.1, HN.out.2.2, HE.out]
      have W9 := ((W4.setCell (p := ⟨w.heap.size + 1, 0, none⟩) (Nat.le_succ _) (.int .i64 0)).setCell (p := ⟨w.heap.size + 1, 1, none⟩) (Nat.le_succ _) (.int .i64 0)).setCell (p := ⟨w.heap.size + 1, 2, none⟩) (Nat.le_succ _) (.slice none 0 0)
      first | exact ⟨none, 0, rfl, OwnS.nil_ _ _ _, W9⟩ | exact ⟨none, ⟨0, rfl⟩, OwnS.nil_ _ _ _, W9⟩
  have hv : drV c f l js = true := by unfold drV; rw [HOK.out, h3]; rfl
  have HC : Hid (fxC (drV c f l js) (drT f l js) l.sum c = tmC (drT f l js) l.sum c) := Lib.hid (by unfold fxC; rw [hv]; rfl)
  have HF : Hid (fxF (drV c f l js) (drT f l js) l.sum c = tmF (drT f l js) l.sum c) := Lib.hid (by unfold fxF; rw [hv]; rfl)
  have HL : Hid (fxL (drV c f l js) (drT f l js) l.sum c = tmL (drT f l js) l.sum c) := Lib.hid (by unfold fxL; rw [hv]; rfl)
  have HE : Hid (drE c f l js = tmE 2 (drT f l js) l.sum c) := Lib.hid (by unfold drE; rw [HOK.out, h3]; rfl)
  have hlt : ∀ hj : 0 < js.length, js[js.length - 1]'(by omega) < (l.length : Int) := fun hj => by have hd := hlast hj; rw [show risesB js 0 ((l.length : Int) - 1) = true from h3] at hd; exact of_decide_eq_true hd.symm
  clear h3 hv hlast
  go_enter Try.func33, Try.ntmps33
  go_wp2_with fail
  generalize (w.alloc (.cells #[.int .i64 c, .int .i64 f, .slice p l.length cap] 26)).alloc (.cells #[.int .i64 0, .int .i64 0, .slice none 0 0] 26) = w0 at BF0 R0 W0 f0 f1 f2 ⊢
  refine (impl_ValidFlux c f p l cap _ (hI.below W0) hl).mono ?_
  rintro e w1 ⟨rfl, hb1⟩
  rw [H.out]
  have R1 := R0.keep hb1
  have BF1 := BF0.keep hb1
  have W1 := below_st W0 hb1 (Nat.le_refl _)
  clear f0 f1 f2
  obtain ⟨f0, f1, f2⟩ := BF1.cell3
  go_wp2_with fail
  refine (impl_validDrops pj js capj _ (hJ.below W1) hjl).mono ?_
  rintro e w2 ⟨rfl, hb2⟩
  rw [H2.out]
  have R2 := R1.keep hb2
  have BF2 := BF1.keep hb2
  have W2 := below_st W1 hb2 (Nat.le_refl _)
  clear f0 f1 f2
  obtain ⟨f0, f1, f2⟩ := BF2.cell3
  go_wp2_with fail
  refine (impl_changes c f p l cap _ (hI.below W2) hl HS.out.2).mono ?_
  rintro e w3 ⟨q, dq, rfl, S3, hb3⟩
  have R3 := R2.keep hb3
  have BF3 := BF2.keep hb3
  have W3 := below_st W2 hb3 (Nat.le_refl _)
  have hzB := R2.lt
  have hzF := BF2.lt
  have hz3 := hb3.size
  obtain ⟨B, eB⟩ : ∃ B, w2.heap.size = B := ⟨_, rfl⟩
  rw [eB] at S3 hzB hzF hz3
  rw [hcl]
  clear f0 f1 f2
  go_wp2_with fail
  go_cut [36] (fun v36 wx => v36 = .bool false ∧ ∃ n, wx = w3.drewN n)
  case first =>
    by_cases hj0 : js.length = 0
    · obtain rfl : js = [] := List.length_eq_zero_iff.1 hj0
      go_quiet (exact Calls.quiet_of_same (impl_size _ _ _ _))
      go_wp2_with fail
      go_meet
      exact ⟨rfl, _, rfl⟩
    · obtain ⟨aj, rfl, hjc⟩ := (hJ.below W3).at_ (k := js.length - 1) (by omega)
      have hlt := hlt (by omega)
      have hj1 : 0 < js.length := by omega
      obtain ⟨z, ez⟩ : ∃ z, js[js.length - 1]'(by omega) = z := ⟨_, rfl⟩
      rw [ez] at hlt hjc
      obtain ⟨jm, ejm⟩ : ∃ jm, js.length - 1 = jm := ⟨_, rfl⟩
      rw [ejm] at hjc
      have q0 : IntKind.i64.wrap ((js.length : Int) - 1) = (jm : Int) := by rw [IntWalk.i64_in _ (by omega)]; omega
      have q0' : (js.length : Int) - 1 = (jm : Int) := by omega
      have d0 : decide (0 < (js.length : Int)) = true := decide_eq_true (by omega)
      have d1 : decide ((l.length : Int) ≤ z) = false := decide_eq_false (by omega)
      have i0 : (jm : Int) < (js.length : Int) := by omega
      clear ez
      go_quiet (exact Calls.quiet_of_same (impl_size _ _ _ _))
      go_wp2_with fail
      go_meet
      exact ⟨rfl, _, rfl⟩
  case rest =>
    obtain ⟨rfl, n, rfl⟩ := hcut
    have R4 := Blk.drewN R3 n
    have BF4 := Blk.drewN BF3 n
    have W4 := below_drewN W3 n
    have S4 := S3.drewN' n
    have hz4 : B ≤ (w3.drewN n).heap.size := hz3
    clear S3 R3 BF3 W3 hz3 hb3 hlt
    generalize w3.drewN n = w4 at *
    have I4 := S4.ints
    have hTl := drT_len f l js
    have hTE : keepL (chgL f l) js l.length = drT f l js := rfl
    generalize chgL f l = X at *
    generalize hTD : drT f l js = T at *
    have HT := Lib.hid hTE
    clear hTE
    obtain ⟨B2, eB2⟩ : ∃ B2, w4.heap.size = B2 := ⟨_, rfl⟩
    have hzR := R4.lt
    have hzF2 := BF4.lt
    have hzW := W4.size
    rw [eB2] at hzR hzF2 hzW hz4
    go_wp2_with fail
    go_loopw [7, 40] (fun v i wr => ∃ k : Nat, k ≤ l.length ∧ i = .int .i64 k ∧ OwnI wr B2 v (keepL X js k) ∧ Below B2 w4 wr) (fun _ i _ => l.length - (intOf i).toNat)
    case atStart => exact ⟨0, Nat.zero_le _, rfl, OwnI.none_ _ _, Below.refl _ _⟩
    case round =>
      obtain ⟨k, hk, rfl, hown, hbel⟩ := hrel
      have hz : B2 ≤ wr.heap.size := by have := hbel.size; omega
      have hWr : Below w.heap.size w wr := W4.trans (hbel.mono hzW)
      by_cases hlt : k < l.length
      · have hkX : k < X.length := by omega
        obtain ⟨a, rfl, hx⟩ := (I4.below (by rw [eB2]; exact hbel)).at_ hkX
        have hJr := hJ.below hWr
        have hkl := keepL_len X js k
        have hy := @keepL_yes X js k hkX
        have hn := @keepL_no X js k
        obtain ⟨x, ex⟩ : ∃ x, X[k] = x := ⟨_, rfl⟩
        rw [ex] at hx hy
        clear ex
        have hcon := fun w' hI => slices_BinarySearch pj js capj (k : Int) w' hI hjl HPW.out
        obtain hd | hd := (Bool.eq_false_or_eq_true (decide ((k : Int) ∈ js))).symm
        · have HK := Lib.hid (hy hd)
          rw [hd] at hcon
          clear hy hn hd
          go_wp2_with (first | (go_at_call 71; with_reducible refine (hcon _ (by exact hJr)).mono ?_; rintro e w9 ⟨ix, rfl, rfl⟩) | (at_builtin; refine append_int _ rfl (.tmp 53) (.tmp 55) rfl B2 u7 (keepL X js k) _ rfl rfl hown (by omega) hz ?_; intro v1 w2 hown1 hbel1))
          rw [← HK.out] at hown1
          exact ⟨⟨k + 1, by omega, by go_num, hown1, hbel.trans (hbel1.mono (Nat.le_refl _))⟩, by simp [intOf]; omega⟩
        · have HK := Lib.hid (hn hd)
          rw [hd] at hcon
          clear hy hn hd
          go_wp2_with (go_at_call 71; with_reducible refine (hcon _ (by exact hJr)).mono ?_; rintro e w9 ⟨ix, rfl, rfl⟩)
          exact ⟨⟨k + 1, by omega, by go_num, by rw [HK.out]; exact hown, hbel⟩, by simp [intOf]; omega⟩
      · have hk2 : k = l.length := by omega
        subst hk2
        rw [HT.out] at hown
        obtain ⟨q6, d6, rfl, ST⟩ := hown.open_
        have Rr := R4.below hbel hzR
        have BFr := BF4.below hbel hzF2
        obtain ⟨f0, f1, f2⟩ := BFr.cell3
        have hrb : -9223372036854775808 ≤ l.sum ∧ l.sum ≤ 9223372036854775807 := by omega
        have Rd := Rr.drew
        have Bd := BFr.drew
        have hwd := hWr.drew
        have hzr' := Rr.lt
        have CD := fun (w5 : World) (h : IntsAt w5 q6 T) => impl_changed q6 T d6 l.sum c w5 h (by omega) hrb
        go_wp2_with fail
        have keepS : ∀ y1 y2 : World, ((w.heap.size < y1.heap.size ∧ y1.cell? ⟨w.heap.size, 0, none⟩ = some (.int .i64 c) ∧ y1.cell? ⟨w.heap.size, 1, none⟩ = some (.int .i64 f) ∧ y1.cell? ⟨w.heap.size, 2, none⟩ = some (.slice p l.length cap)) ∧ OwnS y1 B2 q6 T ∧ Below w.heap.size w y1) → Below y1.heap.size y1 y2 → ((w.heap.size < y2.heap.size ∧ y2.cell? ⟨w.heap.size, 0, none⟩ = some (.int .i64 c) ∧ y2.cell? ⟨w.heap.size, 1, none⟩ = some (.int .i64 f) ∧ y2.cell? ⟨w.heap.size, 2, none⟩ = some (.slice p l.length cap)) ∧ OwnS y2 B2 q6 T ∧ Below w.heap.size w y2) := by
          rintro y1 y2 ⟨⟨s0, s1, s2, s3⟩, s4, s5⟩ hb
          obtain ⟨hc, -⟩ := bcell hb
          have := hb.size
          exact ⟨⟨by omega, (hc _ _ s0).trans s1, (hc _ _ s0).trans s2, (hc _ _ s0).trans s3⟩, s4.below hb, below_st s5 hb (Nat.le_refl _)⟩
        have keepW : ∀ (y : World) (i : Nat) (v : Value), ((w.heap.size < y.heap.size ∧ y.cell? ⟨w.heap.size, 0, none⟩ = some (.int .i64 c) ∧ y.cell? ⟨w.heap.size, 1, none⟩ = some (.int .i64 f) ∧ y.cell? ⟨w.heap.size, 2, none⟩ = some (.slice p l.length cap)) ∧ OwnS y B2 q6 T ∧ Below w.heap.size w y) → ((w.heap.size < (y.setCell ⟨w.heap.size + 1, i, none⟩ v).heap.size ∧ (y.setCell ⟨w.heap.size + 1, i, none⟩ v).cell? ⟨w.heap.size, 0, none⟩ = some (.int .i64 c) ∧ (y.setCell ⟨w.heap.size + 1, i, none⟩ v).cell? ⟨w.heap.size, 1, none⟩ = some (.int .i64 f) ∧ (y.setCell ⟨w.heap.size + 1, i, none⟩ v).cell? ⟨w.heap.size, 2, none⟩ = some (.slice p l.length cap)) ∧ OwnS (y.setCell ⟨w.heap.size + 1, i, none⟩ v) B2 q6 T ∧ Below w.heap.size w (y.setCell ⟨w.heap.size + 1, i, none⟩ v)) := by
          rintro y i v ⟨⟨s0, s1, s2, s3⟩, s4, s5⟩
          have ho : ∀ j, (y.setCell ⟨w.heap.size + 1, i, none⟩ v).cell? ⟨w.heap.size, j, none⟩ = y.cell? ⟨w.heap.size, j, none⟩ := fun j => World.cell?_setCell_other _ _ _ _ (by intro h'; injection h' with h2; omega)
          exact ⟨⟨by simpa [World.setCell] using s0, (ho 0).trans s1, (ho 1).trans s2, (ho 2).trans s3⟩, s4.offS (g' := w.heap.size + 1) hzR i v, s5.setCell (p := ⟨w.heap.size + 1, i, none⟩) (Nat.le_succ _) _⟩
        have S0 : (w.heap.size < wr.drew.heap.size ∧ wr.drew.cell? ⟨w.heap.size, 0, none⟩ = some (.int .i64 c) ∧ wr.drew.cell? ⟨w.heap.size, 1, none⟩ = some (.int .i64 f) ∧ wr.drew.cell? ⟨w.heap.size, 2, none⟩ = some (.slice p l.length cap)) ∧ OwnS wr.drew B2 q6 T ∧ Below w.heap.size w wr.drew := ⟨⟨Bd.lt, Bd.cell3.1, Bd.cell3.2.1, Bd.cell3.2.2⟩, ST.below (Below.refl _ _).drew, hwd⟩
        go_region_held3 (fun w' => (w.heap.size < w'.heap.size ∧ w'.cell? ⟨w.heap.size, 0, none⟩ = some (.int .i64 c) ∧ w'.cell? ⟨w.heap.size, 1, none⟩ = some (.int .i64 f) ∧ w'.cell? ⟨w.heap.size, 2, none⟩ = some (.slice p l.length cap)) ∧ OwnS w' B2 q6 T ∧ Below w.heap.size w w')
          (first | with_reducible exact S0 | (with_reducible refine keepS _ _ S0 ?_; assumption) | (with_reducible refine keepW _ _ _ (keepW _ _ _ (keepW _ _ _ ?_)); exact keepS _ _ S0 hb5))
          (first | (go_at_call 61; refine (CD _ (by exact S0.2.1.ints)).mono ?_; rintro e w5 ⟨q5, d5, rfl, S5, hb5⟩; have R5 := Rd.keep hb5; obtain ⟨r0, r1', r2⟩ := R5.cell3; have rf := R5.frozen) | (go_at_call 47; refine (impl_total p l cap _ (by exact hI.below hwd) hl HS.out.1).mono ?_; rintro e w' ⟨rfl, rfl⟩))
        all_goals
          have hw5 := below_st hwd hb5 (Nat.le_refl _)
          obtain ⟨e0, e1, e2⟩ := (R5.set3 (.int .i64 (tmC T l.sum c)) (.int .i64 (tmF T l.sum c)) (.slice q5 (tmL T l.sum c).length d5)).cell3
          have S6 := ((S5.offS (g' := w.heap.size + 1) hzr' 0 (.int .i64 (tmC T l.sum c))).offS (g' := w.heap.size + 1) hzr' 1 (.int .i64 (tmF T l.sum c))).offS (g' := w.heap.size + 1) hzr' 2 (.slice q5 (tmL T l.sum c).length d5)
          go_wp2_with fail
          refine bodyPost_ret (v := .tuple #[.agg #[.int .i64 (tmC T l.sum c), .int .i64 (tmF T l.sum c), .slice q5 (tmL T l.sum c).length d5], .int .i64 (tmE 2 T l.sum c)]) (by simp [results, Try.results33, go_sem, e0, e1, e2]) rfl ?_
          rw [hTD, HC.out, HF.out, HL.out, HE.out]
          exact ⟨q5, d5, rfl, S6.mono (by have := hWr.size; exact this), ((hw5.setCell (p := ⟨w.heap.size + 1, 0, none⟩) (Nat.le_succ _) _).setCell (p := ⟨w.heap.size + 1, 1, none⟩) (Nat.le_succ _) _).setCell (p := ⟨w.heap.size + 1, 2, none⟩) (Nat.le_succ _) _⟩
set_option maxHeartbeats 4000000 in
set_option maxRecDepth 20000 in
theorem spec_DropChanges (c f : Int) (p : Option Addr) (l : List Int) (cap : Nat) (pj : Option Addr) (js : List Int) (capj : Nat) (w : World) (hI : IntsAt w p l) (hl : l.length ≤ 1048576) (hJ : IntsAt w pj js) (hjl : js.length ≤ 1048576) :
    Calls Try.prog 76 #[.agg #[.int .i64 c, .int .i64 f, .slice p l.length cap], .slice pj js.length capj] w fun e w' => ∃ (q : Option Addr) (dq : Nat), e = .returned (.tuple #[.agg #[.int .i64 (fxC (drV c f l js) (drT f l js) l.sum c), .int .i64 (fxF (drV c f l js) (drT f l js) l.sum c), .slice q (fxL (drV c f l js) (drT f l js) l.sum c).length dq], .int .i64 (drE c f l js)]) ∧ OwnS w' w.heap.size q (fxL (drV c f l js) (drT f l js) l.sum c) ∧ Below w.heap.size w w' := by
  have BF0 := (Blk.new w 26 #[.int .i64 c, .int .i64 f, .slice p l.length cap]).alloc' (.cells #[.int .i64 0, .int .i64 0, .slice none 0 0] 26)
  have R0 := Blk.new (w.alloc (.cells #[.int .i64 c, .int .i64 f, .slice p l.length cap] 26)) 26 #[.int .i64 0, .int .i64 0, .slice none 0 0]
  have esz : (w.alloc (.cells #[.int .i64 c, .int .i64 f, .slice p l.length cap] 26)).heap.size = w.heap.size + 1 := by simp
  rw [esz] at R0
  have W0 : Below w.heap.size w ((w.alloc (.cells #[.int .i64 c, .int .i64 f, .slice p l.length cap] 26)).alloc (.cells #[.int .i64 0, .int .i64 0, .slice none 0 0] 26)) := ((Below.refl _ _).alloc (Nat.le_refl _) _).alloc (by simp) _
  clear esz
  obtain ⟨f0, f1, f2⟩ := BF0.cell3
  obtain h1 | h1 := (Bool.eq_false_or_eq_true (fluxOk c f l)).symm
  · have hv : drV c f l js = false := by unfold drV drOk; rw [h1]; rfl
    have HE : Hid (drE c f l js = 1) := Lib.hid (by unfold drE drOk; rw [h1]; rfl)
    have HN : Hid (fxC (drV c f l js) (drT f l js) l.sum c = 0 ∧ fxF (drV c f l js) (drT f l js) l.sum c = 0 ∧ fxL (drV c f l js) (drT f l js) l.sum c = []) := Lib.hid (by unfold fxC fxF fxL; rw [hv]; exact ⟨rfl, rfl, rfl⟩)
    have H := Lib.hid h1
    clear h1 hv
    go_enter Try.func76, Try.ntmps76
    go_wp2_with fail
    generalize (w.alloc (.cells #[.int .i64 c, .int .i64 f, .slice p l.length cap] 26)).alloc (.cells #[.int .i64 0, .int .i64 0, .slice none 0 0] 26) = w0 at BF0 R0 W0 f0 f1 f2 ⊢
    refine (spec_l02Ok c f p l cap _ _ (hI.below W0) hl BF0).mono ?_
    rintro e w1 ⟨rfl, hb1⟩
    rw [H.out]
    have R1 := R0.keep hb1
    have BF1 := BF0.keep hb1
    have W1 := below_st W0 hb1 (Nat.le_refl _)
    obtain ⟨r0, r1', r2⟩ := R1.cell3
    have rf := R1.frozen
    have rlt := R1.lt
    obtain ⟨e0, e1, e2⟩ := (R1.set3 (.int .i64 0) (.int .i64 0) (.slice none 0 0)).cell3
    go_wp2_with fail
    refine bodyPost_ret (v := .tuple #[.agg #[.int .i64 0, .int .i64 0, .slice none 0 0], .int .i64 1]) (by simp [results, Try.results76, go_sem, e0, e1, e2]) rfl ?_
    rw [HN.out.1, HN.out.2.1, HN.out.2.2, HE.out]
    have W9 := ((W1.setCell (p := ⟨w.heap.size + 1, 0, none⟩) (Nat.le_succ _) (.int .i64 0)).setCell (p := ⟨w.heap.size + 1, 1, none⟩) (Nat.le_succ _) (.int .i64 0)).setCell (p := ⟨w.heap.size + 1, 2, none⟩) (Nat.le_succ _) (.slice none 0 0)
    first | exact ⟨none, 0, rfl, OwnS.nil_ _ _ _, W9⟩ | exact ⟨none, ⟨0, rfl⟩, OwnS.nil_ _ _ _, W9⟩
  obtain h2 | h2 := (Bool.eq_false_or_eq_true (risesB js 0 3999)).symm
  · have hv : drV c f l js = false := by unfold drV drOk; rw [h2, Bool.and_false]; rfl
    have HE : Hid (drE c f l js = 1) := Lib.hid (by unfold drE drOk; rw [h2, Bool.and_false]; rfl)
    have HN : Hid (fxC (drV c f l js) (drT f l js) l.sum c = 0 ∧ fxF (drV c f l js) (drT f l js) l.sum c = 0 ∧ fxL (drV c f l js) (drT f l js) l.sum c = []) := Lib.hid (by unfold fxC fxF fxL; rw [hv]; exact ⟨rfl, rfl, rfl⟩)
    have H := Lib.hid h1
    have H2 := Lib.hid h2
    clear h1 h2 hv
    go_enter Try.func76, Try.ntmps76
    go_wp2_with fail
    generalize (w.alloc (.cells #[.int .i64 c, .int .i64 f, .slice p l.length cap] 26)).alloc (.cells #[.int .i64 0, .int .i64 0, .slice none 0 0] 26) = w0 at BF0 R0 W0 f0 f1 f2 ⊢
    refine (spec_l02Ok c f p l cap _ _ (hI.below W0) hl BF0).mono ?_
    rintro e w1 ⟨rfl, hb1⟩
    rw [H.out]
    have R1 := R0.keep hb1
    have BF1 := BF0.keep hb1
    have W1 := below_st W0 hb1 (Nat.le_refl _)
    clear f0 f1 f2
    obtain ⟨f0, f1, f2⟩ := BF1.cell3
    go_wp2_with fail
    refine (spec_l04Drops pj js capj _ (hJ.below W1) hjl).mono ?_
    rintro e w2 ⟨rfl, hb2⟩
    rw [H2.out]
    have R2 := R1.keep hb2
    have BF2 := BF1.keep hb2
    have W2 := below_st W1 hb2 (Nat.le_refl _)
    obtain ⟨r0, r1', r2⟩ := R2.cell3
    have rf := R2.frozen
    have rlt := R2.lt
    obtain ⟨e0, e1, e2⟩ := (R2.set3 (.int .i64 0) (.int .i64 0) (.slice none 0 0)).cell3
    go_wp2_with fail
    refine bodyPost_ret (v := .tuple #[.agg #[.int .i64 0, .int .i64 0, .slice none 0 0], .int .i64 1]) (by simp [results, Try.results76, go_sem, e0, e1, e2]) rfl ?_
    rw [HN.out.1, HN.out.2.1, HN.out.2.2, HE.out]
    have W9 := ((W2.setCell (p := ⟨w.heap.size + 1, 0, none⟩) (Nat.le_succ _) (.int .i64 0)).setCell (p := ⟨w.heap.size + 1, 1, none⟩) (Nat.le_succ _) (.int .i64 0)).setCell (p := ⟨w.heap.size + 1, 2, none⟩) (Nat.le_succ _) (.slice none 0 0)
    first | exact ⟨none, 0, rfl, OwnS.nil_ _ _ _, W9⟩ | exact ⟨none, ⟨0, rfl⟩, OwnS.nil_ _ _ _, W9⟩
  obtain ⟨-, hlen, hgm, hpre, hf0, hsum⟩ := fluxOk_bd h1
  have hsums := fluxOk_sums h1
  have hcb := chg_bd h1
  have hok : drOk c f l js = true := by unfold drOk; rw [h1, h2]; rfl
  have HS := Lib.hid hsums
  have HPW := Lib.hid (rises_pw h2)
  have hlast := @rises_last js l.length h2 hlen.2
  have H := Lib.hid h1
  have H2 := Lib.hid h2
  have hcl := chgL_len f l
  have HOK := Lib.hid hok
  clear h1 h2 hok hsums hcb hgm hpre
  have q0 : IntKind.i64.wrap ((l.length : Int) - 1) = (l.length : Int) - 1 := IntWalk.i64_in _ (by omega)
  obtain h3 | h3 := (Bool.eq_false_or_eq_true (drIn l js)).symm
  · have hv : drV c f l js = false := by unfold drV; rw [h3, Bool.and_false]
    have HE : Hid (drE c f l js = 2) := Lib.hid (by unfold drE; rw [HOK.out, h3]; rfl)
    have HN : Hid (fxC (drV c f l js) (drT f l js) l.sum c = 0 ∧ fxF (drV c f l js) (drT f l js) l.sum c = 0 ∧ fxL (drV c f l js) (drT f l js) l.sum c = []) := Lib.hid (by unfold fxC fxF fxL; rw [hv]; exact ⟨rfl, rfl, rfl⟩)
    have H3 : Hid (risesB js 0 ((l.length : Int) - 1) = false) := Lib.hid h3
    clear h3 hv
    go_enter Try.func76, Try.ntmps76
    go_wp2_with fail
    generalize (w.alloc (.cells #[.int .i64 c, .int .i64 f, .slice p l.length cap] 26)).alloc (.cells #[.int .i64 0, .int .i64 0, .slice none 0 0] 26) = w0 at BF0 R0 W0 f0 f1 f2 ⊢
    refine (spec_l02Ok c f p l cap _ _ (hI.below W0) hl BF0).mono ?_
    rintro e w1 ⟨rfl, hb1⟩
    rw [H.out]
    have R1 := R0.keep hb1
    have BF1 := BF0.keep hb1
    have W1 := below_st W0 hb1 (Nat.le_refl _)
    clear f0 f1 f2
    obtain ⟨f0, f1, f2⟩ := BF1.cell3
    go_wp2_with fail
    refine (spec_l04Drops pj js capj _ (hJ.below W1) hjl).mono ?_
    rintro e w2 ⟨rfl, hb2⟩
    rw [H2.out]
    have R2 := R1.keep hb2
    have BF2 := BF1.keep hb2
    have W2 := below_st W1 hb2 (Nat.le_refl _)
    clear f0 f1 f2
    obtain ⟨f0, f1, f2⟩ := BF2.cell3
    go_wp2_with fail
    refine (spec_l00Rises pj js capj 0 ((l.length : Int) - 1) _ (hJ.below W2) hjl).mono ?_
    rintro e w3 ⟨rfl, hb3⟩
    rw [H3.out]
    have R3 := R2.keep hb3
    have BF3 := BF2.keep hb3
    have W3 := below_st W2 hb3 (Nat.le_refl _)
    obtain ⟨r0, r1', r2⟩ := R3.cell3
    have rf := R3.frozen
    have rlt := R3.lt
    obtain ⟨e0, e1, e2⟩ := (R3.set3 (.int .i64 0) (.int .i64 0) (.slice none 0 0)).cell3
    go_wp2_with fail
    refine bodyPost_ret (v := .tuple #[.agg #[.int .i64 0, .int .i64 0, .slice none 0 0], .int .i64 2]) (by simp [results, Try.results76, go_sem, e0, e1, e2]) rfl ?_
    rw [HN.out.1, HN.out.2.1, HN.out.2.2, HE.out]
    have W9 := ((W3.setCell (p := ⟨w.heap.size + 1, 0, none⟩) (Nat.le_succ _) (.int .i64 0)).setCell (p := ⟨w.heap.size + 1, 1, none⟩) (Nat.le_succ _) (.int .i64 0)).setCell (p := ⟨w.heap.size + 1, 2, none⟩) (Nat.le_succ _) (.slice none 0 0)
    first | exact ⟨none, 0, rfl, OwnS.nil_ _ _ _, W9⟩ | exact ⟨none, ⟨0, rfl⟩, OwnS.nil_ _ _ _, W9⟩
  have H3 : Hid (risesB js 0 ((l.length : Int) - 1) = true) := Lib.hid h3
  have hv : drV c f l js = true := by unfold drV; rw [HOK.out, h3]; rfl
  have HC : Hid (fxC (drV c f l js) (drT f l js) l.sum c = tmC (drT f l js) l.sum c) := Lib.hid (by unfold fxC; rw [hv]; rfl)
  have HF : Hid (fxF (drV c f l js) (drT f l js) l.sum c = tmF (drT f l js) l.sum c) := Lib.hid (by unfold fxF; rw [hv]; rfl)
  have HL : Hid (fxL (drV c f l js) (drT f l js) l.sum c = tmL (drT f l js) l.sum c) := Lib.hid (by unfold fxL; rw [hv]; rfl)
  have HE : Hid (drE c f l js = tmE 2 (drT f l js) l.sum c) := Lib.hid (by unfold drE; rw [HOK.out, h3]; rfl)
  clear h3 hv hlast
  go_enter Try.func76, Try.ntmps76
  go_wp2_with fail
  generalize (w.alloc (.cells #[.int .i64 c, .int .i64 f, .slice p l.length cap] 26)).alloc (.cells #[.int .i64 0, .int .i64 0, .slice none 0 0] 26) = w0 at BF0 R0 W0 f0 f1 f2 ⊢
  refine (spec_l02Ok c f p l cap _ _ (hI.below W0) hl BF0).mono ?_
  rintro e w1 ⟨rfl, hb1⟩
  rw [H.out]
  have R1 := R0.keep hb1
  have BF1 := BF0.keep hb1
  have W1 := below_st W0 hb1 (Nat.le_refl _)
  clear f0 f1 f2
  obtain ⟨f0, f1, f2⟩ := BF1.cell3
  go_wp2_with fail
  refine (spec_l04Drops pj js capj _ (hJ.below W1) hjl).mono ?_
  rintro e w2 ⟨rfl, hb2⟩
  rw [H2.out]
  have R2 := R1.keep hb2
  have BF2 := BF1.keep hb2
  have W2 := below_st W1 hb2 (Nat.le_refl _)
  clear f0 f1 f2
  obtain ⟨f0, f1, f2⟩ := BF2.cell3
  go_wp2_with fail
  refine (spec_l00Rises pj js capj 0 ((l.length : Int) - 1) _ (hJ.below W2) hjl).mono ?_
  rintro e w3 ⟨rfl, hb3⟩
  rw [H3.out]
  have R3 := R2.keep hb3
  have BF3 := BF2.keep hb3
  have W3 := below_st W2 hb3 (Nat.le_refl _)
  clear f0 f1 f2
  obtain ⟨f0, f1, f2⟩ := BF3.cell3
  go_wp2_with fail
  refine (spec_l02Changes c f p l cap _ _ (hI.below W3) hl HS.out.2 BF3).mono ?_
  rintro e w4 ⟨q, dq, rfl, S4, hb4⟩
  have R4 := R3.keep hb4
  have BF4 := BF3.keep hb4
  have W4 := below_st W3 hb4 (Nat.le_refl _)
  have hzB := R3.lt
  have hzF := BF3.lt
  have hz4 := hb4.size
  obtain ⟨B, eB⟩ : ∃ B, w3.heap.size = B := ⟨_, rfl⟩
  rw [eB] at S4 hzB hzF hz4
  have I4 := S4.ints
  have hTl := drT_len f l js
  have hTE : keepL (chgL f l) js l.length = drT f l js := rfl
  generalize chgL f l = X at *
  generalize hTD : drT f l js = T at *
  have HT := Lib.hid hTE
  clear hTE
  obtain ⟨B2, eB2⟩ : ∃ B2, w4.heap.size = B2 := ⟨_, rfl⟩
  have hzR := R4.lt
  have hzF2 := BF4.lt
  have hzW := W4.size
  rw [eB2] at hzR hzF2 hzW hz4
  rw [hcl]
  clear f0 f1 f2
  obtain ⟨f0, f1, f2⟩ := BF4.cell3
  go_wp2_with fail
  go_loopw [7, 8] (fun v i wr => ∃ k : Nat, k ≤ l.length ∧ i = .int .i64 k ∧ OwnI wr B2 v (keepL X js k) ∧ Below B2 w4 wr) (fun _ i _ => l.length - (intOf i).toNat)
  case atStart => exact ⟨0, Nat.zero_le _, rfl, by have h := OwnI.nil0 w4; rw [eB2] at h; exact h, (Below.refl _ _).alloc (by omega) _⟩
  case round =>
    obtain ⟨k, hk, rfl, hown, hbel⟩ := hrel
    have hz : B2 ≤ wr.heap.size := by have := hbel.size; omega
    have hWr : Below w.heap.size w wr := W4.trans (hbel.mono hzW)
    by_cases hlt : k < l.length
    · have hkX : k < X.length := by omega
      obtain ⟨a, rfl, hx⟩ := (I4.below (by rw [eB2]; exact hbel)).at_ hkX
      have hJr := hJ.below hWr
      have hkl := keepL_len X js k
      have hy := @keepL_yes X js k hkX
      have hn := @keepL_no X js k
      obtain ⟨x, ex⟩ : ∃ x, X[k] = x := ⟨_, rfl⟩
      rw [ex] at hx hy
      clear ex
      have hcon := fun w' hI => spec_l00Has pj js capj (k : Int) w' hI hjl
      obtain hd | hd := (Bool.eq_false_or_eq_true (decide ((k : Int) ∈ js))).symm
      · have HK := Lib.hid (hy hd)
        rw [hd] at hcon
        clear hy hn hd
        go_wp2_with (first | (go_at_call 99; with_reducible refine (hcon _ (by exact hJr)).mono ?_; rintro e w9 ⟨rfl, rfl⟩) | (at_builtin; refine append_int _ rfl (.tmp 37) (.tmp 42) rfl B2 u7 (keepL X js k) _ rfl rfl hown (by omega) hz ?_; intro v1 w2 hown1 hbel1))
        rw [← HK.out] at hown1
        exact ⟨⟨k + 1, by omega, by go_num, hown1, hbel.trans (hbel1.mono (Nat.le_refl _))⟩, by simp [intOf]; omega⟩
      · have HK := Lib.hid (hn hd)
        rw [hd] at hcon
        clear hy hn hd
        go_wp2_with (go_at_call 99; with_reducible refine (hcon _ (by exact hJr)).mono ?_; rintro e w9 ⟨rfl, rfl⟩)
        exact ⟨⟨k + 1, by omega, by go_num, by rw [HK.out]; exact hown, hbel⟩, by simp [intOf]; omega⟩
    · have hk2 : k = l.length := by omega
      subst hk2
      rw [HT.out] at hown
      obtain ⟨q6, d6, rfl, ST⟩ := hown.open_
      have Rr := R4.below hbel hzR
      have BFr := BF4.below hbel hzF2
      obtain ⟨f0, f1, f2⟩ := BFr.cell3
      have hrb : -9223372036854775808 ≤ l.sum ∧ l.sum ≤ 9223372036854775807 := by omega
      have Rd := Rr.drew
      have Bd := BFr.drew
      have hwd := hWr.drew
      have hzr' := Rr.lt
      have CD := fun (w5 : World) (h : IntsAt w5 q6 T) => spec_l04Done q6 T d6 l.sum c w5 h (by omega) hrb
      go_wp2_with fail
      have keepS : ∀ y1 y2 : World, ((w.heap.size < y1.heap.size ∧ y1.cell? ⟨w.heap.size, 0, none⟩ = some (.int .i64 c) ∧ y1.cell? ⟨w.heap.size, 1, none⟩ = some (.int .i64 f) ∧ y1.cell? ⟨w.heap.size, 2, none⟩ = some (.slice p l.length cap)) ∧ OwnS y1 B2 q6 T ∧ Below w.heap.size w y1) → Below y1.heap.size y1 y2 → ((w.heap.size < y2.heap.size ∧ y2.cell? ⟨w.heap.size, 0, none⟩ = some (.int .i64 c) ∧ y2.cell? ⟨w.heap.size, 1, none⟩ = some (.int .i64 f) ∧ y2.cell? ⟨w.heap.size, 2, none⟩ = some (.slice p l.length cap)) ∧ OwnS y2 B2 q6 T ∧ Below w.heap.size w y2) := by
        rintro y1 y2 ⟨⟨s0, s1, s2, s3⟩, s4, s5⟩ hb
        obtain ⟨hc, -⟩ := bcell hb
        have := hb.size
        exact ⟨⟨by omega, (hc _ _ s0).trans s1, (hc _ _ s0).trans s2, (hc _ _ s0).trans s3⟩, s4.below hb, below_st s5 hb (Nat.le_refl _)⟩
      have keepW : ∀ (y : World) (i : Nat) (v : Value), ((w.heap.size < y.heap.size ∧ y.cell? ⟨w.heap.size, 0, none⟩ = some (.int .i64 c) ∧ y.cell? ⟨w.heap.size, 1, none⟩ = some (.int .i64 f) ∧ y.cell? ⟨w.heap.size, 2, none⟩ = some (.slice p l.length cap)) ∧ OwnS y B2 q6 T ∧ Below w.heap.size w y) → ((w.heap.size < (y.setCell ⟨w.heap.size + 1, i, none⟩ v).heap.size ∧ (y.setCell ⟨w.heap.size + 1, i, none⟩ v).cell? ⟨w.heap.size, 0, none⟩ = some (.int .i64 c) ∧ (y.setCell ⟨w.heap.size + 1, i, none⟩ v).cell? ⟨w.heap.size, 1, none⟩ = some (.int .i64 f) ∧ (y.setCell ⟨w.heap.size + 1, i, none⟩ v).cell? ⟨w.heap.size, 2, none⟩ = some (.slice p l.length cap)) ∧ OwnS (y.setCell ⟨w.heap.size + 1, i, none⟩ v) B2 q6 T ∧ Below w.heap.size w (y.setCell ⟨w.heap.size + 1, i, none⟩ v)) := by
        rintro y i v ⟨⟨s0, s1, s2, s3⟩, s4, s5⟩
        have ho : ∀ j, (y.setCell ⟨w.heap.size + 1, i, none⟩ v).cell? ⟨w.heap.size, j, none⟩ = y.cell? ⟨w.heap.size, j, none⟩ := fun j => World.cell?_setCell_other _ _ _ _ (by intro h'; injection h' with h2; omega)
        exact ⟨⟨by simpa [World.setCell] using s0, (ho 0).trans s1, (ho 1).trans s2, (ho 2).trans s3⟩, s4.offS (g' := w.heap.size + 1) hzR i v, s5.setCell (p := ⟨w.heap.size + 1, i, none⟩) (Nat.le_succ _) _⟩
      have S0 : (w.heap.size < wr.drew.heap.size ∧ wr.drew.cell? ⟨w.heap.size, 0, none⟩ = some (.int .i64 c) ∧ wr.drew.cell? ⟨w.heap.size, 1, none⟩ = some (.int .i64 f) ∧ wr.drew.cell? ⟨w.heap.size, 2, none⟩ = some (.slice p l.length cap)) ∧ OwnS wr.drew B2 q6 T ∧ Below w.heap.size w wr.drew := ⟨⟨Bd.lt, Bd.cell3.1, Bd.cell3.2.1, Bd.cell3.2.2⟩, ST.below (Below.refl _ _).drew, hwd⟩
      go_region_held3 (fun w' => (w.heap.size < w'.heap.size ∧ w'.cell? ⟨w.heap.size, 0, none⟩ = some (.int .i64 c) ∧ w'.cell? ⟨w.heap.size, 1, none⟩ = some (.int .i64 f) ∧ w'.cell? ⟨w.heap.size, 2, none⟩ = some (.slice p l.length cap)) ∧ OwnS w' B2 q6 T ∧ Below w.heap.size w w')
        (first | with_reducible exact S0 | (with_reducible refine keepS _ _ S0 ?_; assumption) | (with_reducible refine keepW _ _ _ (keepW _ _ _ (keepW _ _ _ ?_)); exact keepS _ _ S0 hb5))
        (first | (go_at_call 63; refine (CD _ (by exact S0.2.1.ints)).mono ?_; rintro e w5 ⟨q5, d5, rfl, S5, hb5⟩; have R5 := Rd.keep hb5; obtain ⟨r0, r1', r2⟩ := R5.cell3; have rf := R5.frozen) | (go_at_call 41; refine (spec_l02Revolution c f p l cap _ _ (by exact hI.below hwd) hl HS.out.1 (by exact Bd)).mono ?_; rintro e w' ⟨rfl, rfl⟩))
      all_goals
        have hw5 := below_st hwd hb5 (Nat.le_refl _)
        obtain ⟨e0, e1, e2⟩ := (R5.set3 (.int .i64 (tmC T l.sum c)) (.int .i64 (tmF T l.sum c)) (.slice q5 (tmL T l.sum c).length d5)).cell3
        have S6 := ((S5.offS (g' := w.heap.size + 1) hzr' 0 (.int .i64 (tmC T l.sum c))).offS (g' := w.heap.size + 1) hzr' 1 (.int .i64 (tmF T l.sum c))).offS (g' := w.heap.size + 1) hzr' 2 (.slice q5 (tmL T l.sum c).length d5)
        go_wp2_with fail
        refine bodyPost_ret (v := .tuple #[.agg #[.int .i64 (tmC T l.sum c), .int .i64 (tmF T l.sum c), .slice q5 (tmL T l.sum c).length d5], .int .i64 (tmE 2 T l.sum c)]) (by simp [results, Try.results76, go_sem, e0, e1, e2]) rfl ?_
        rw [hTD, HC.out, HF.out, HL.out, HE.out]
        exact ⟨q5, d5, rfl, S6.mono (by have := hWr.size; exact this), ((hw5.setCell (p := ⟨w.heap.size + 1, 0, none⟩) (Nat.le_succ _) _).setCell (p := ⟨w.heap.size + 1, 1, none⟩) (Nat.le_succ _) _).setCell (p := ⟨w.heap.size + 1, 2, none⟩) (Nat.le_succ _) _⟩
end Go.Proofs.Ytfdcainjppljhaa
