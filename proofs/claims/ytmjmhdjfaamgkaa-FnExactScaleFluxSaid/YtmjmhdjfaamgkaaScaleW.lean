/- ScaleFlux. Printed by scalegen.py. -/
import Derived.Test.YtmjmhdjfaamgkaaOpAid
import Derived.Deep.RegionHeld3
import Derived.Deep.DeepCutAuto
namespace Go.Proofs.Ytmjmhdjfaamgkaa
open Go.RowKit
set_option linter.unusedVariables false
def scT (f : Int) (l : List Int) (n d : Int) : List Int := (chgL f l).map fun x => (x * n).tdiv d
theorem scT_len (f : Int) (l : List Int) (n d : Int) : (scT f l n d).length = l.length := by rw [scT, List.length_map, chgL_len]
def scR (l : List Int) (n d : Int) : Int := (l.sum * n).tdiv d
def scIn (n d : Int) : Bool := inB n 1 1000 && inB d 1 1000
def scV (c f : Int) (l : List Int) (n d : Int) : Bool := fluxOk c f l && (scIn n d && fluxOk c ((scT f l n d).headD 0) (gapsT (scT f l n d) (scR l n d)))
def scC (c f : Int) (l : List Int) (n d : Int) : Int := if scV c f l n d then c else 0
def scF (c f : Int) (l : List Int) (n d : Int) : Int := if scV c f l n d then (scT f l n d).headD 0 else 0
def scL (c f : Int) (l : List Int) (n d : Int) : List Int := if scV c f l n d then gapsT (scT f l n d) (scR l n d) else []
def scE (c f : Int) (l : List Int) (n d : Int) : Int := if fluxOk c f l then (if scV c f l n d then 0 else 2) else 1
theorem sc_no {c f : Int} {l : List Int} {n d : Int} (h : scV c f l n d = false) : scC c f l n d = 0 ∧ scF c f l n d = 0 ∧ scL c f l n d = [] := by unfold scC scF scL; rw [h]; exact ⟨rfl, rfl, rfl⟩
theorem sc_yes {c f : Int} {l : List Int} {n d : Int} (h : scV c f l n d = true) : scC c f l n d = c ∧ scF c f l n d = (scT f l n d).headD 0 ∧ scL c f l n d = gapsT (scT f l n d) (scR l n d) := by unfold scC scF scL; rw [h]; exact ⟨rfl, rfl, rfl⟩
theorem scL_len (c f : Int) (l : List Int) (n d : Int) : (scL c f l n d).length ≤ l.length := by
  unfold scL
  split
  · rename_i h
    have hl : 1 ≤ l.length := by
      unfold scV at h
      rw [Bool.and_eq_true] at h
      obtain ⟨-, h2, -⟩ := fluxOk_bd h.1
      omega
    rw [gapsT_len _ _ (by rw [scT_len]; exact hl), scT_len]
    exact Nat.le_refl _
  · simp
theorem tdiv_le {x d B : Int} (h : 0 ≤ x ∧ x ≤ B) (hd : 1 ≤ d) : 0 ≤ x.tdiv d ∧ x.tdiv d ≤ B := by
  rw [Int.tdiv_eq_ediv_of_nonneg h.1]
  refine ⟨Int.ediv_nonneg h.1 (by omega), ?_⟩
  exact Int.le_trans (Int.ediv_le_self _ h.1) h.2
theorem mul_le {x n B : Int} (h : 0 ≤ x ∧ x ≤ B) (hn : 1 ≤ n ∧ n ≤ 1000) (hB : 0 ≤ B) : 0 ≤ x * n ∧ x * n ≤ B * 1000 := by
  refine ⟨Int.mul_nonneg h.1 (by omega), ?_⟩
  exact Int.mul_le_mul h.2 hn.2 (by omega) hB
set_option maxHeartbeats 4000000 in
set_option maxRecDepth 20000 in
theorem impl_ScaleFlux (c f : Int) (p : Option Addr) (l : List Int) (cap : Nat) (n d : Int) (w : World) (hI : IntsAt w p l) (hl : l.length ≤ 1048576) :
    Calls Try.prog 31 #[.agg #[.int .i64 c, .int .i64 f, .slice p l.length cap], .int .i64 n, .int .i64 d] w fun e w' => ∃ (q : Option Addr) (dq : Nat), e = .returned (.tuple #[.agg #[.int .i64 (scC c f l n d), .int .i64 (scF c f l n d), .slice q (scL c f l n d).length dq], .int .i64 (scE c f l n d)]) ∧ OwnS w' w.heap.size q (scL c f l n d) ∧ Below w.heap.size w w' := by
  have BF0 := (Blk.new w 24 #[.int .i64 c, .int .i64 f, .slice p l.length cap]).alloc' (.cells #[.int .i64 0, .int .i64 0, .slice none 0 0] 24)
  have R0 := Blk.new (w.alloc (.cells #[.int .i64 c, .int .i64 f, .slice p l.length cap] 24)) 24 #[.int .i64 0, .int .i64 0, .slice none 0 0]
  have esz : (w.alloc (.cells #[.int .i64 c, .int .i64 f, .slice p l.length cap] 24)).heap.size = w.heap.size + 1 := by simp
  rw [esz] at R0
  have W0 : Below w.heap.size w ((w.alloc (.cells #[.int .i64 c, .int .i64 f, .slice p l.length cap] 24)).alloc (.cells #[.int .i64 0, .int .i64 0, .slice none 0 0] 24)) := ((Below.refl _ _).alloc (Nat.le_refl _) _).alloc (by simp) _
  clear esz
  obtain ⟨f0, f1, f2⟩ := BF0.cell3
  obtain h1 | h1 := (Bool.eq_false_or_eq_true (fluxOk c f l)).symm
  · have hv : scV c f l n d = false := by unfold scV; rw [h1]; rfl
    have HE : Hid (scE c f l n d = 1) := Lib.hid (by unfold scE; rw [h1]; rfl)
    have HN := Lib.hid (sc_no hv)
    have H := Lib.hid h1
    clear h1 hv
    go_enter Try.func31, Try.ntmps31
    go_wp2_with fail
    generalize (w.alloc (.cells #[.int .i64 c, .int .i64 f, .slice p l.length cap] 24)).alloc (.cells #[.int .i64 0, .int .i64 0, .slice none 0 0] 24) = w0 at BF0 R0 W0 f0 f1 f2 ⊢
    refine (impl_ValidFlux c f p l cap _ (hI.below W0) hl).mono ?_
    rintro e w1 ⟨rfl, hb1⟩
    rw [H.out]
    have R1 := R0.keep hb1
    have BF1 := BF0.keep hb1
    have hw1 := below_st W0 hb1 (Nat.le_refl _)
    obtain ⟨r0, r1', r2⟩ := R1.cell3
    have rf := R1.frozen
    have rlt := R1.lt
    obtain ⟨e0, e1, e2⟩ := (R1.set3 (.int .i64 0) (.int .i64 0) (.slice none 0 0)).cell3
    go_wp2_with fail
    refine bodyPost_ret (v := .tuple #[.agg #[.int .i64 0, .int .i64 0, .slice none 0 0], .int .i64 1]) (by simp [results, Try.results31, go_sem, e0, e1, e2]) rfl ?_
    rw [HN.out.1, HN.out.2.1, HN.out.2.2, HE.out]
    have W9 := ((hw1.setCell (p := ⟨w.heap.size + 1, 0, none⟩) (Nat.le_succ _) (.int .i64 0)).setCell (p := ⟨w.heap.size + 1, 1, none⟩) (Nat.le_succ _) (.int .i64 0)).setCell (p := ⟨w.heap.size + 1, 2, none⟩) (Nat.le_succ _) (.slice none 0 0)
    first | exact ⟨none, 0, rfl, OwnS.nil_ _ _ _, W9⟩ | exact ⟨none, ⟨0, rfl⟩, OwnS.nil_ _ _ _, W9⟩
  have HE0 : Hid (scE c f l n d = if scV c f l n d then 0 else 2) := Lib.hid (by unfold scE; rw [h1]; rfl)
  obtain h2 | h2 := (Bool.eq_false_or_eq_true (inB n 1 1000)).symm
  · have hv : scV c f l n d = false := by unfold scV scIn; rw [h1, h2]; rfl
    have HE : Hid (scE c f l n d = 2) := Lib.hid (by rw [HE0.out, hv]; rfl)
    have HN := Lib.hid (sc_no hv)
    have H := Lib.hid h1
    have HNN := Lib.hid h2
    clear h1 h2 hv
    go_enter Try.func31, Try.ntmps31
    go_wp2_with fail
    generalize (w.alloc (.cells #[.int .i64 c, .int .i64 f, .slice p l.length cap] 24)).alloc (.cells #[.int .i64 0, .int .i64 0, .slice none 0 0] 24) = w0 at BF0 R0 W0 f0 f1 f2 ⊢
    refine (impl_ValidFlux c f p l cap _ (hI.below W0) hl).mono ?_
    rintro e w1 ⟨rfl, hb1⟩
    rw [H.out]
    have R1 := R0.keep hb1
    have BF1 := BF0.keep hb1
    have hw1 := below_st W0 hb1 (Nat.le_refl _)
    go_wp2_with fail
    refine (within_any _ _ _ _).mono ?_
    rintro e w9 ⟨rfl, rfl⟩
    rw [HNN.out]
    obtain ⟨r0, r1', r2⟩ := R1.cell3
    have rf := R1.frozen
    have rlt := R1.lt
    obtain ⟨e0, e1, e2⟩ := (R1.set3 (.int .i64 0) (.int .i64 0) (.slice none 0 0)).cell3
    go_wp2_with fail
    refine bodyPost_ret (v := .tuple #[.agg #[.int .i64 0, .int .i64 0, .slice none 0 0], .int .i64 2]) (by simp [results, Try.results31, go_sem, e0, e1, e2]) rfl ?_
    rw [HN.out.1, HN.out.2.1, HN.out.2.2, HE.out]
    have W9 := ((hw1.setCell (p := ⟨w.heap.size + 1, 0, none⟩) (Nat.le_succ _) (.int .i64 0)).setCell (p := ⟨w.heap.size + 1, 1, none⟩) (Nat.le_succ _) (.int .i64 0)).setCell (p := ⟨w.heap.size + 1, 2, none⟩) (Nat.le_succ _) (.slice none 0 0)
    first | exact ⟨none, 0, rfl, OwnS.nil_ _ _ _, W9⟩ | exact ⟨none, ⟨0, rfl⟩, OwnS.nil_ _ _ _, W9⟩
  obtain h3 | h3 := (Bool.eq_false_or_eq_true (inB d 1 1000)).symm
  · have hv : scV c f l n d = false := by unfold scV scIn; rw [h1, h2, h3]; rfl
    have HE : Hid (scE c f l n d = 2) := Lib.hid (by rw [HE0.out, hv]; rfl)
    have HN := Lib.hid (sc_no hv)
    have H := Lib.hid h1
    have HNN := Lib.hid h2
    have HDD := Lib.hid h3
    clear h1 h2 h3 hv
    go_enter Try.func31, Try.ntmps31
    go_wp2_with fail
    generalize (w.alloc (.cells #[.int .i64 c, .int .i64 f, .slice p l.length cap] 24)).alloc (.cells #[.int .i64 0, .int .i64 0, .slice none 0 0] 24) = w0 at BF0 R0 W0 f0 f1 f2 ⊢
    refine (impl_ValidFlux c f p l cap _ (hI.below W0) hl).mono ?_
    rintro e w1 ⟨rfl, hb1⟩
    rw [H.out]
    have R1 := R0.keep hb1
    have BF1 := BF0.keep hb1
    have hw1 := below_st W0 hb1 (Nat.le_refl _)
    go_wp2_with fail
    refine (within_any _ _ _ _).mono ?_
    rintro e w9 ⟨rfl, rfl⟩
    rw [HNN.out]
    go_wp2_with fail
    refine (within_any _ _ _ _).mono ?_
    rintro e w9 ⟨rfl, rfl⟩
    rw [HDD.out]
    obtain ⟨r0, r1', r2⟩ := R1.cell3
    have rf := R1.frozen
    have rlt := R1.lt
    obtain ⟨e0, e1, e2⟩ := (R1.set3 (.int .i64 0) (.int .i64 0) (.slice none 0 0)).cell3
    go_wp2_with fail
    refine bodyPost_ret (v := .tuple #[.agg #[.int .i64 0, .int .i64 0, .slice none 0 0], .int .i64 2]) (by simp [results, Try.results31, go_sem, e0, e1, e2]) rfl ?_
    rw [HN.out.1, HN.out.2.1, HN.out.2.2, HE.out]
    have W9 := ((hw1.setCell (p := ⟨w.heap.size + 1, 0, none⟩) (Nat.le_succ _) (.int .i64 0)).setCell (p := ⟨w.heap.size + 1, 1, none⟩) (Nat.le_succ _) (.int .i64 0)).setCell (p := ⟨w.heap.size + 1, 2, none⟩) (Nat.le_succ _) (.slice none 0 0)
    first | exact ⟨none, 0, rfl, OwnS.nil_ _ _ _, W9⟩ | exact ⟨none, ⟨0, rfl⟩, OwnS.nil_ _ _ _, W9⟩
  obtain ⟨-, hlen, hgm, hpre, hf0, hsum⟩ := fluxOk_bd h1
  have hsums := fluxOk_sums h1
  have hcb := chg_bd h1
  have hnb := inB_iff.1 h2
  have hdb := inB_iff.1 h3
  have HV : Hid (scV c f l n d = fluxOk c ((scT f l n d).headD 0) (gapsT (scT f l n d) (scR l n d))) := Lib.hid (by unfold scV scIn; rw [h1, h2, h3]; rfl)
  have H := Lib.hid h1
  have HNN := Lib.hid h2
  have HDD := Lib.hid h3
  have HS := Lib.hid hsums
  have HCB := Lib.hid hcb
  have hml : (scT f l n d).length = (chgL f l).length := by simp [scT]
  have hma : ∀ k (h : k < (chgL f l).length), (scT f l n d)[k]'(by rw [hml]; exact h) = ((chgL f l)[k] * n).tdiv d := fun k h => by simp [scT]
  have hcl := chgL_len f l
  have hsb : 0 ≤ l.sum ∧ l.sum ≤ 2000000 := hsum
  clear h1 h2 h3 hsums hcb hgm hpre
  go_enter Try.func31, Try.ntmps31
  go_wp2_with fail
  generalize (w.alloc (.cells #[.int .i64 c, .int .i64 f, .slice p l.length cap] 24)).alloc (.cells #[.int .i64 0, .int .i64 0, .slice none 0 0] 24) = w0 at BF0 R0 W0 f0 f1 f2 ⊢
  refine (impl_ValidFlux c f p l cap _ (hI.below W0) hl).mono ?_
  rintro e w1 ⟨rfl, hb1⟩
  rw [H.out]
  have R1 := R0.keep hb1
  have BF1 := BF0.keep hb1
  have hw1 := below_st W0 hb1 (Nat.le_refl _)
  clear f0 f1 f2
  obtain ⟨f0, f1, f2⟩ := BF1.cell3
  go_wp2_with fail
  refine (within_any _ _ _ _).mono ?_
  rintro e w9 ⟨rfl, rfl⟩
  rw [HNN.out]
  go_wp2_with fail
  refine (within_any _ _ _ _).mono ?_
  rintro e w9 ⟨rfl, rfl⟩
  rw [HDD.out]
  go_wp2_with fail
  refine (impl_changes c f p l cap _ (hI.below hw1) hl HS.out.2).mono ?_
  rintro e w3 ⟨q, dq, rfl, S3, hb3⟩
  have R3 := R1.keep hb3
  have BF3 := BF1.keep hb3
  have hw3 := below_st hw1 hb3 (Nat.le_refl _)
  obtain ⟨g, rfl, hg, hrow0⟩ := S3 (by intro e; rw [e] at hcl; simp at hcl; omega)
  have hz3 := hb3.size
  have hzR := R1.lt
  have hzF := BF1.lt
  clear hb3 S3 f0 f1 f2
  generalize hX : scT f l n d = T at *
  generalize hY : chgL f l = X at *
  generalize hrv : scR l n d = rv at *
  have hrv2 : (l.sum * n).tdiv d = rv := hrv
  have hrv0 := hrv
  clear hrv
  obtain ⟨B, eB⟩ : ∃ B, w1.heap.size = B := ⟨_, rfl⟩
  rw [eB] at hg hz3 hzR hzF
  have hd0 : ¬ d = 0 := by omega
  rw [hcl]
  go_wp2_with fail
  go_loopw [29] (fun i wr => ∃ k : Nat, k ≤ l.length ∧ i = .int .i64 k ∧ RowI wr g (T.take k ++ X.drop k) ∧ Below B w3 wr) (fun i _ => l.length - (intOf i).toNat)
  case atStart => exact ⟨0, Nat.zero_le _, rfl, by simpa using hrow0, Below.refl _ _⟩
  case round =>
    obtain ⟨k, hk, rfl, hrow, hbel⟩ := hrel
    by_cases hlt : k < l.length
    · have hkX : k < X.length := by omega
      have hnow : (T.take k ++ X.drop k).length = X.length := by simp; omega
      obtain ⟨hc, hf⟩ := hrow.cell (k := k) (by omega)
      rw [mix_at hml hkX] at hc
      have hxb := HCB.out k hkX
      have hset := hrow.set_ k (T[k]'(by omega))
      rw [mix_set hml hkX, hma k hkX] at hset
      obtain ⟨x, ex⟩ : ∃ x, X[k] = x := ⟨_, rfl⟩
      rw [ex] at hc hxb hset
      have m0 := mul_le hxb hnb (by omega)
      obtain ⟨y, ey⟩ : ∃ y, x * n = y := ⟨_, rfl⟩
      rw [ey] at hset m0
      have m1 := tdiv_le m0 hdb.1
      have q1 : IntKind.i64.wrap y = y := IntWalk.i64_in _ (by omega)
      have q2 : IntKind.i64.wrap (y.tdiv d) = y.tdiv d := IntWalk.i64_in _ (by omega)
      have hya := Lib.hid hset
      clear hset
      go_wp2_with fail
      exact ⟨⟨k + 1, by omega, by go_num, hya.out, hbel.setCell (p := ⟨g, k, none⟩) hg _⟩, by simp [intOf]; omega⟩
    · have hT : T.take k ++ X.drop k = T := by rw [List.take_of_length_le (by omega), List.drop_of_length_le (by omega), List.append_nil]
      rw [hT] at hrow
      have ST : OwnS wr B (some ⟨g, 0, none⟩) T := OwnS.of_row hrow hg
      have Rr := R3.below hbel hzR
      have BFr := BF3.below hbel hzF
      have hwr : Below w.heap.size w wr := hw3.trans (hbel.mono (by have := hw1.size; omega))
      have hTl : T.length ≤ 1048576 := by omega
      have hT1 : 1 ≤ T.length := by omega
      have m0 := mul_le hsb hnb (by omega)
      obtain ⟨y, ey⟩ : ∃ y, l.sum * n = y := ⟨_, rfl⟩
      rw [ey] at hrv2 m0
      have m1 := tdiv_le m0 hdb.1
      rw [hrv2] at m1
      have q1 : IntKind.i64.wrap y = y := IntWalk.i64_in _ (by omega)
      have q2 : IntKind.i64.wrap (y.tdiv d) = rv := by rw [hrv2]; exact IntWalk.i64_in _ (by omega)
      have q3 : IntKind.i64.wrap rv = rv := IntWalk.i64_in _ (by omega)
      have Rd := Rr.drew
      have Bd := BFr.drew
      have hwd := hwr.drew
      have hzw := hwr.size
      have hzr' := Rr.lt
      have hTL : T.length = l.length := by omega
      have CD := fun (q : Option Addr) (d5 : Nat) (w5 : World) (h : IntsAt w5 q T) => impl_fluxOfTimes q T d5 rv c w5 h hT1 hTl
      simp only [hTL] at CD
      have hGl : (gapsT T rv).length ≤ 1048576 := by rw [gapsT_len _ _ hT1]; exact hTl
      generalize hy0 : T.headD 0 = y0 at *
      generalize hG : gapsT T rv = G at *
      have keepS : ∀ y1 y2 : World, ((w.heap.size < y1.heap.size ∧ y1.cell? ⟨w.heap.size, 0, none⟩ = some (.int .i64 c) ∧ y1.cell? ⟨w.heap.size, 1, none⟩ = some (.int .i64 f) ∧ y1.cell? ⟨w.heap.size, 2, none⟩ = some (.slice p l.length cap)) ∧ Blk y1 (w.heap.size + 1) 24 #[.int .i64 0, .int .i64 0, .slice none 0 0] ∧ OwnS y1 B (some ⟨g, 0, none⟩) T ∧ Below w.heap.size w y1) → Below y1.heap.size y1 y2 → ((w.heap.size < y2.heap.size ∧ y2.cell? ⟨w.heap.size, 0, none⟩ = some (.int .i64 c) ∧ y2.cell? ⟨w.heap.size, 1, none⟩ = some (.int .i64 f) ∧ y2.cell? ⟨w.heap.size, 2, none⟩ = some (.slice p l.length cap)) ∧ Blk y2 (w.heap.size + 1) 24 #[.int .i64 0, .int .i64 0, .slice none 0 0] ∧ OwnS y2 B (some ⟨g, 0, none⟩) T ∧ Below w.heap.size w y2) := by
        rintro y1 y2 ⟨⟨s0, s1, s2, s3⟩, s6, s4, s5⟩ hb
        obtain ⟨hc, -⟩ := bcell hb
        have := hb.size
        exact ⟨⟨by omega, (hc _ _ s0).trans s1, (hc _ _ s0).trans s2, (hc _ _ s0).trans s3⟩, s6.keep hb, s4.below hb, below_st s5 hb (Nat.le_refl _)⟩
      have hglt := hrow.lt
      have keepW : ∀ (y : World) (i b : Nat) (v : Value), wr.heap.size ≤ b → ((w.heap.size < y.heap.size ∧ y.cell? ⟨w.heap.size, 0, none⟩ = some (.int .i64 c) ∧ y.cell? ⟨w.heap.size, 1, none⟩ = some (.int .i64 f) ∧ y.cell? ⟨w.heap.size, 2, none⟩ = some (.slice p l.length cap)) ∧ Blk y (w.heap.size + 1) 24 #[.int .i64 0, .int .i64 0, .slice none 0 0] ∧ OwnS y B (some ⟨g, 0, none⟩) T ∧ Below w.heap.size w y) → ((w.heap.size < (y.setCell ⟨b, i, none⟩ v).heap.size ∧ (y.setCell ⟨b, i, none⟩ v).cell? ⟨w.heap.size, 0, none⟩ = some (.int .i64 c) ∧ (y.setCell ⟨b, i, none⟩ v).cell? ⟨w.heap.size, 1, none⟩ = some (.int .i64 f) ∧ (y.setCell ⟨b, i, none⟩ v).cell? ⟨w.heap.size, 2, none⟩ = some (.slice p l.length cap)) ∧ Blk (y.setCell ⟨b, i, none⟩ v) (w.heap.size + 1) 24 #[.int .i64 0, .int .i64 0, .slice none 0 0] ∧ OwnS (y.setCell ⟨b, i, none⟩ v) B (some ⟨g, 0, none⟩) T ∧ Below w.heap.size w (y.setCell ⟨b, i, none⟩ v)) := by
        rintro y i b v hwb ⟨⟨s0, s1, s2, s3⟩, s6, s4, s5⟩
        have ho : ∀ j, (y.setCell ⟨b, i, none⟩ v).cell? ⟨w.heap.size, j, none⟩ = y.cell? ⟨w.heap.size, j, none⟩ := fun j => World.cell?_setCell_other _ _ _ _ (by intro h'; injection h' with h2; omega)
        exact ⟨⟨by simpa [World.setCell] using s0, (ho 0).trans s1, (ho 1).trans s2, (ho 2).trans s3⟩, s6.off (by omega) i v, s4.asides (Aside.setCell b i v) (fun _ g' e e2 => by injection e with e; injection e with e; injection e2 with e2; omega), s5.setCell (p := ⟨b, i, none⟩) (show w.heap.size ≤ b by omega) _⟩
      have S0 : (w.heap.size < wr.drew.heap.size ∧ wr.drew.cell? ⟨w.heap.size, 0, none⟩ = some (.int .i64 c) ∧ wr.drew.cell? ⟨w.heap.size, 1, none⟩ = some (.int .i64 f) ∧ wr.drew.cell? ⟨w.heap.size, 2, none⟩ = some (.slice p l.length cap)) ∧ Blk wr.drew (w.heap.size + 1) 24 #[.int .i64 0, .int .i64 0, .slice none 0 0] ∧ OwnS wr.drew B (some ⟨g, 0, none⟩) T ∧ Below w.heap.size w wr.drew := ⟨⟨Bd.lt, Bd.cell3.1, Bd.cell3.2.1, Bd.cell3.2.2⟩, Rd, ST.below (Below.refl _ _).drew, hwd⟩
      go_wp2_with fail
      go_cut [11] (fun ov wx => ∃ (b : Nat) (q5 : Option Addr) (d5 : Nat), ov = .pointer (some ⟨b, 0, none⟩) ∧ w.heap.size + 2 ≤ b ∧ Blk wx b 24 #[.int .i64 c, .int .i64 y0, .slice q5 G.length d5] ∧ OwnS wx (w.heap.size + 2) q5 G ∧ Blk wx (w.heap.size + 1) 24 #[.int .i64 0, .int .i64 0, .slice none 0 0] ∧ Below w.heap.size w wx)
      case first =>
        have SA : (w.heap.size < (wr.alloc (.cells #[.int .i64 0, .int .i64 0, .slice none 0 0] 24)).drew.heap.size ∧ (wr.alloc (.cells #[.int .i64 0, .int .i64 0, .slice none 0 0] 24)).drew.cell? ⟨w.heap.size, 0, none⟩ = some (.int .i64 c) ∧ (wr.alloc (.cells #[.int .i64 0, .int .i64 0, .slice none 0 0] 24)).drew.cell? ⟨w.heap.size, 1, none⟩ = some (.int .i64 f) ∧ (wr.alloc (.cells #[.int .i64 0, .int .i64 0, .slice none 0 0] 24)).drew.cell? ⟨w.heap.size, 2, none⟩ = some (.slice p l.length cap)) ∧ Blk (wr.alloc (.cells #[.int .i64 0, .int .i64 0, .slice none 0 0] 24)).drew (w.heap.size + 1) 24 #[.int .i64 0, .int .i64 0, .slice none 0 0] ∧ OwnS (wr.alloc (.cells #[.int .i64 0, .int .i64 0, .slice none 0 0] 24)).drew B (some ⟨g, 0, none⟩) T ∧ Below w.heap.size w (wr.alloc (.cells #[.int .i64 0, .int .i64 0, .slice none 0 0] 24)).drew := keepS _ _ S0 ((Below.refl _ wr.drew).alloc (Nat.le_refl _) _)
        go_region_held3 (fun w' => (w.heap.size < w'.heap.size ∧ w'.cell? ⟨w.heap.size, 0, none⟩ = some (.int .i64 c) ∧ w'.cell? ⟨w.heap.size, 1, none⟩ = some (.int .i64 f) ∧ w'.cell? ⟨w.heap.size, 2, none⟩ = some (.slice p l.length cap)) ∧ Blk w' (w.heap.size + 1) 24 #[.int .i64 0, .int .i64 0, .slice none 0 0] ∧ OwnS w' B (some ⟨g, 0, none⟩) T ∧ Below w.heap.size w w')
          (first | with_reducible exact S0 | with_reducible exact SA | (with_reducible refine keepS _ _ S0 ?_; assumption) | (with_reducible refine keepS _ _ SA ?_; assumption) | exact keepS _ _ (keepS _ _ S0 hb5) ((Below.refl _ _).alloc (Nat.le_refl _) _) | exact keepW _ _ _ _ (Nat.le_refl _) (keepW _ _ _ _ (Nat.le_refl _) (keepW _ _ _ _ (Nat.le_refl _) (keepS _ _ SA hb5))) | exact keepW _ _ _ _ hb5.size (keepW _ _ _ _ hb5.size (keepW _ _ _ _ hb5.size (keepS _ _ (keepS _ _ S0 hb5) ((Below.refl _ _).alloc (Nat.le_refl _) _)))) | go_keep)
          (first | (go_at_call 74; refine (CD _ _ _ (by first | exact S0.2.2.1.ints | exact SA.2.2.1.ints)).mono ?_; rintro e w5 ⟨q5, d5, rfl, S5, hb5⟩; (try (have y5 := (Blk.drew (Blk.new wr 24 #[.int .i64 0, .int .i64 0, .slice none 0 0])).keep hb5; obtain ⟨u0, u1, u2⟩ := y5.cell3; have u3 := y5.frozen; have u4 := y5.lt))) | (go_at_call 75; refine (impl_total p l cap _ (by first | exact hI.below S0.2.2.2 | exact hI.below SA.2.2.2) hl HS.out.1).mono ?_; rintro e w' ⟨rfl, rfl⟩))
        all_goals
          go_wp2_with fail
          go_meet
          first
            | exact ⟨w5.heap.size, q5, d5, rfl, by have h1 : wr.heap.size ≤ w5.heap.size := hb5.size; omega, Blk.new w5 24 #[.int .i64 c, .int .i64 y0, .slice q5 G.length d5], (S5.below ((Below.refl _ w5).alloc (Nat.le_refl _) _)).mono (show w.heap.size + 2 ≤ wr.heap.size by omega), (keepS _ _ (keepS _ _ S0 hb5) ((Below.refl _ w5).alloc (Nat.le_refl _) _)).2.1, (keepS _ _ (keepS _ _ S0 hb5) ((Below.refl _ w5).alloc (Nat.le_refl _) _)).2.2.2⟩
            | exact ⟨wr.heap.size, q5, d5, rfl, by omega, y5.set3 _ _ _, (((S5.offS (g' := wr.heap.size) (show wr.heap.size < (wr.alloc (.cells #[.int .i64 0, .int .i64 0, .slice none 0 0] 24)).heap.size by simp) 0 _).offS (g' := wr.heap.size) (show wr.heap.size < (wr.alloc (.cells #[.int .i64 0, .int .i64 0, .slice none 0 0] 24)).heap.size by simp) 1 _).offS (g' := wr.heap.size) (show wr.heap.size < (wr.alloc (.cells #[.int .i64 0, .int .i64 0, .slice none 0 0] 24)).heap.size by simp) 2 _).mono (show w.heap.size + 2 ≤ (wr.alloc (.cells #[.int .i64 0, .int .i64 0, .slice none 0 0] 24)).heap.size by (first | (simp; done) | (simp; omega))), (keepW _ _ _ _ (Nat.le_refl _) (keepW _ _ _ _ (Nat.le_refl _) (keepW _ _ _ _ (Nat.le_refl _) (keepS _ _ SA hb5)))).2.1, (keepW _ _ _ _ (Nat.le_refl _) (keepW _ _ _ _ (Nat.le_refl _) (keepW _ _ _ _ (Nat.le_refl _) (keepS _ _ SA hb5)))).2.2.2⟩
      case rest =>
        obtain ⟨b, q5, d5, rfl, hbb, Bb, S5, R5, W5⟩ := hcut
        obtain ⟨wx, hwc⟩ : ∃ wx, wx = wc := ⟨_, rfl⟩
        subst hwc
        obtain ⟨b0, b1, b2⟩ := Bb.cell3
        have blt := Bb.lt
        clear S0 keepS keepW CD Rd Bd hwd Rr BFr hwr
        go_wp2_with fail
        refine (impl_ValidFlux c y0 q5 G d5 _ S5.ints hGl).mono ?_
        rintro e w6 ⟨rfl, hb6⟩
        have hb7 := hb6
        have R6 := R5.keep hb6
        have B6 := Bb.keep hb6
        have W6 := below_st W5 hb6 (Nat.le_refl _)
        have S6 := S5.below hb6
        obtain hg | hg := (Bool.eq_false_or_eq_true (fluxOk c y0 G)).symm
        · have hv : scV c f l n d = false := by rw [HV.out, hg]
          have HE : Hid (scE c f l n d = 2) := Lib.hid (by rw [HE0.out, hv]; rfl)
          have HN := Lib.hid (sc_no hv)
          rw [hg]
          clear hv hg
          obtain ⟨r0, r1', r2⟩ := R6.cell3
          have rf := R6.frozen
          have rlt := R6.lt
          obtain ⟨e0, e1, e2⟩ := (R6.set3 (.int .i64 0) (.int .i64 0) (.slice none 0 0)).cell3
          go_wp2_with fail
          refine bodyPost_ret (v := .tuple #[.agg #[.int .i64 0, .int .i64 0, .slice none 0 0], .int .i64 2]) (by simp [results, Try.results31, go_sem, e0, e1, e2]) rfl ?_
          rw [HN.out.1, HN.out.2.1, HN.out.2.2, HE.out]
          have W9 := ((W6.setCell (p := ⟨w.heap.size + 1, 0, none⟩) (Nat.le_succ _) (.int .i64 0)).setCell (p := ⟨w.heap.size + 1, 1, none⟩) (Nat.le_succ _) (.int .i64 0)).setCell (p := ⟨w.heap.size + 1, 2, none⟩) (Nat.le_succ _) (.slice none 0 0)
          first | exact ⟨none, 0, rfl, OwnS.nil_ _ _ _, W9⟩ | exact ⟨none, ⟨0, rfl⟩, OwnS.nil_ _ _ _, W9⟩
        have hv : scV c f l n d = true := by rw [HV.out, hg]
        have HE : Hid (scE c f l n d = 0) := Lib.hid (by rw [HE0.out, hv]; rfl)
        have HN := Lib.hid (sc_yes hv)
        rw [hg]
        clear hv hg b0 b1 b2
        obtain ⟨b0, b1, b2⟩ := B6.cell3
        obtain ⟨r0, r1', r2⟩ := R6.cell3
        have rf := R6.frozen
        have rlt := R6.lt
        have hne : w.heap.size + 1 ≠ b := by omega
        obtain ⟨e0, e1, e2⟩ := (R6.set3 (.int .i64 c) (.int .i64 y0) (.slice q5 G.length d5)).cell3
        have W9 := ((W6.setCell (p := ⟨w.heap.size + 1, 0, none⟩) (Nat.le_succ _) (.int .i64 c)).setCell (p := ⟨w.heap.size + 1, 1, none⟩) (Nat.le_succ _) (.int .i64 y0)).setCell (p := ⟨w.heap.size + 1, 2, none⟩) (Nat.le_succ _) (.slice q5 G.length d5)
        have S9 := ((S6.offS (g' := w.heap.size + 1) (Nat.lt_succ_self _) 0 (.int .i64 c)).offS (g' := w.heap.size + 1) (Nat.lt_succ_self _) 1 (.int .i64 y0)).offS (g' := w.heap.size + 1) (Nat.lt_succ_self _) 2 (.slice q5 G.length d5)
        go_wp2_with fail
        refine bodyPost_ret (v := .tuple #[.agg #[.int .i64 c, .int .i64 y0, .slice q5 G.length d5], .int .i64 0]) (by simp [results, Try.results31, go_sem, e0, e1, e2]) rfl ?_
        rw [HN.out.1, HN.out.2.1, HN.out.2.2, HE.out, hX, hrv0, hy0, hG]
        exact ⟨q5, d5, rfl, S9.mono (by omega), W9⟩
set_option maxHeartbeats 4000000 in
set_option maxRecDepth 20000 in
theorem spec_ScaleFlux (c f : Int) (p : Option Addr) (l : List Int) (cap : Nat) (n d : Int) (w : World) (hI : IntsAt w p l) (hl : l.length ≤ 1048576) :
    Calls Try.prog 30 #[.agg #[.int .i64 c, .int .i64 f, .slice p l.length cap], .int .i64 n, .int .i64 d] w fun e w' => ∃ (q : Option Addr) (dq : Nat), e = .returned (.tuple #[.agg #[.int .i64 (scC c f l n d), .int .i64 (scF c f l n d), .slice q (scL c f l n d).length dq], .int .i64 (scE c f l n d)]) ∧ OwnS w' w.heap.size q (scL c f l n d) ∧ Below w.heap.size w w' := by
  have BF0 := (Blk.new w 24 #[.int .i64 c, .int .i64 f, .slice p l.length cap]).alloc' (.cells #[.int .i64 0, .int .i64 0, .slice none 0 0] 24)
  have R0 := Blk.new (w.alloc (.cells #[.int .i64 c, .int .i64 f, .slice p l.length cap] 24)) 24 #[.int .i64 0, .int .i64 0, .slice none 0 0]
  have esz : (w.alloc (.cells #[.int .i64 c, .int .i64 f, .slice p l.length cap] 24)).heap.size = w.heap.size + 1 := by simp
  rw [esz] at R0
  have W0 : Below w.heap.size w ((w.alloc (.cells #[.int .i64 c, .int .i64 f, .slice p l.length cap] 24)).alloc (.cells #[.int .i64 0, .int .i64 0, .slice none 0 0] 24)) := ((Below.refl _ _).alloc (Nat.le_refl _) _).alloc (by simp) _
  clear esz
  obtain ⟨f0, f1, f2⟩ := BF0.cell3
  obtain h1 | h1 := (Bool.eq_false_or_eq_true (fluxOk c f l)).symm
  · have hv : scV c f l n d = false := by unfold scV; rw [h1]; rfl
    have HE : Hid (scE c f l n d = 1) := Lib.hid (by unfold scE; rw [h1]; rfl)
    have HN := Lib.hid (sc_no hv)
    have H := Lib.hid h1
    clear h1 hv
    go_enter Try.func30, Try.ntmps30
    go_wp2_with fail
    generalize (w.alloc (.cells #[.int .i64 c, .int .i64 f, .slice p l.length cap] 24)).alloc (.cells #[.int .i64 0, .int .i64 0, .slice none 0 0] 24) = w0 at BF0 R0 W0 f0 f1 f2 ⊢
    refine (spec_l02Ok c f p l cap _ _ (hI.below W0) hl BF0).mono ?_
    rintro e w1 ⟨rfl, hb1⟩
    rw [H.out]
    have R1 := R0.keep hb1
    have BF1 := BF0.keep hb1
    have hw1 := below_st W0 hb1 (Nat.le_refl _)
    obtain ⟨r0, r1', r2⟩ := R1.cell3
    have rf := R1.frozen
    have rlt := R1.lt
    obtain ⟨e0, e1, e2⟩ := (R1.set3 (.int .i64 0) (.int .i64 0) (.slice none 0 0)).cell3
    go_wp2_with fail
    refine bodyPost_ret (v := .tuple #[.agg #[.int .i64 0, .int .i64 0, .slice none 0 0], .int .i64 1]) (by simp [results, Try.results30, go_sem, e0, e1, e2]) rfl ?_
    rw [HN.out.1, HN.out.2.1, HN.out.2.2, HE.out]
    have W9 := ((hw1.setCell (p := ⟨w.heap.size + 1, 0, none⟩) (Nat.le_succ _) (.int .i64 0)).setCell (p := ⟨w.heap.size + 1, 1, none⟩) (Nat.le_succ _) (.int .i64 0)).setCell (p := ⟨w.heap.size + 1, 2, none⟩) (Nat.le_succ _) (.slice none 0 0)
    first | exact ⟨none, 0, rfl, OwnS.nil_ _ _ _, W9⟩ | exact ⟨none, ⟨0, rfl⟩, OwnS.nil_ _ _ _, W9⟩
  have HE0 : Hid (scE c f l n d = if scV c f l n d then 0 else 2) := Lib.hid (by unfold scE; rw [h1]; rfl)
  obtain h2 | h2 := (Bool.eq_false_or_eq_true (inB n 1 1000)).symm
  · have hv : scV c f l n d = false := by unfold scV scIn; rw [h1, h2]; rfl
    have HE : Hid (scE c f l n d = 2) := Lib.hid (by rw [HE0.out, hv]; rfl)
    have HN := Lib.hid (sc_no hv)
    have H := Lib.hid h1
    have HNN := Lib.hid h2
    clear h1 h2 hv
    go_enter Try.func30, Try.ntmps30
    go_wp2_with fail
    generalize (w.alloc (.cells #[.int .i64 c, .int .i64 f, .slice p l.length cap] 24)).alloc (.cells #[.int .i64 0, .int .i64 0, .slice none 0 0] 24) = w0 at BF0 R0 W0 f0 f1 f2 ⊢
    refine (spec_l02Ok c f p l cap _ _ (hI.below W0) hl BF0).mono ?_
    rintro e w1 ⟨rfl, hb1⟩
    rw [H.out]
    have R1 := R0.keep hb1
    have BF1 := BF0.keep hb1
    have hw1 := below_st W0 hb1 (Nat.le_refl _)
    go_wp2_with fail
    refine (l00In_any _ _ _ _).mono ?_
    rintro e w9 ⟨rfl, rfl⟩
    rw [HNN.out]
    obtain ⟨r0, r1', r2⟩ := R1.cell3
    have rf := R1.frozen
    have rlt := R1.lt
    obtain ⟨e0, e1, e2⟩ := (R1.set3 (.int .i64 0) (.int .i64 0) (.slice none 0 0)).cell3
    go_wp2_with fail
    refine bodyPost_ret (v := .tuple #[.agg #[.int .i64 0, .int .i64 0, .slice none 0 0], .int .i64 2]) (by simp [results, Try.results30, go_sem, e0, e1, e2]) rfl ?_
    rw [HN.out.1, HN.out.2.1, HN.out.2.2, HE.out]
    have W9 := ((hw1.setCell (p := ⟨w.heap.size + 1, 0, none⟩) (Nat.le_succ _) (.int .i64 0)).setCell (p := ⟨w.heap.size + 1, 1, none⟩) (Nat.le_succ _) (.int .i64 0)).setCell (p := ⟨w.heap.size + 1, 2, none⟩) (Nat.le_succ _) (.slice none 0 0)
    first | exact ⟨none, 0, rfl, OwnS.nil_ _ _ _, W9⟩ | exact ⟨none, ⟨0, rfl⟩, OwnS.nil_ _ _ _, W9⟩
  obtain h3 | h3 := (Bool.eq_false_or_eq_true (inB d 1 1000)).symm
  · have hv : scV c f l n d = false := by unfold scV scIn; rw [h1, h2, h3]; rfl
    have HE : Hid (scE c f l n d = 2) := Lib.hid (by rw [HE0.out, hv]; rfl)
    have HN := Lib.hid (sc_no hv)
    have H := Lib.hid h1
    have HNN := Lib.hid h2
    have HDD := Lib.hid h3
    clear h1 h2 h3 hv
    go_enter Try.func30, Try.ntmps30
    go_wp2_with fail
    generalize (w.alloc (.cells #[.int .i64 c, .int .i64 f, .slice p l.length cap] 24)).alloc (.cells #[.int .i64 0, .int .i64 0, .slice none 0 0] 24) = w0 at BF0 R0 W0 f0 f1 f2 ⊢
    refine (spec_l02Ok c f p l cap _ _ (hI.below W0) hl BF0).mono ?_
    rintro e w1 ⟨rfl, hb1⟩
    rw [H.out]
    have R1 := R0.keep hb1
    have BF1 := BF0.keep hb1
    have hw1 := below_st W0 hb1 (Nat.le_refl _)
    go_wp2_with fail
    refine (l00In_any _ _ _ _).mono ?_
    rintro e w9 ⟨rfl, rfl⟩
    rw [HNN.out]
    go_wp2_with fail
    refine (l00In_any _ _ _ _).mono ?_
    rintro e w9 ⟨rfl, rfl⟩
    rw [HDD.out]
    obtain ⟨r0, r1', r2⟩ := R1.cell3
    have rf := R1.frozen
    have rlt := R1.lt
    obtain ⟨e0, e1, e2⟩ := (R1.set3 (.int .i64 0) (.int .i64 0) (.slice none 0 0)).cell3
    go_wp2_with fail
    refine bodyPost_ret (v := .tuple #[.agg #[.int .i64 0, .int .i64 0, .slice none 0 0], .int .i64 2]) (by simp [results, Try.results30, go_sem, e0, e1, e2]) rfl ?_
    rw [HN.out.1, HN.out.2.1, HN.out.2.2, HE.out]
    have W9 := ((hw1.setCell (p := ⟨w.heap.size + 1, 0, none⟩) (Nat.le_succ _) (.int .i64 0)).setCell (p := ⟨w.heap.size + 1, 1, none⟩) (Nat.le_succ _) (.int .i64 0)).setCell (p := ⟨w.heap.size + 1, 2, none⟩) (Nat.le_succ _) (.slice none 0 0)
    first | exact ⟨none, 0, rfl, OwnS.nil_ _ _ _, W9⟩ | exact ⟨none, ⟨0, rfl⟩, OwnS.nil_ _ _ _, W9⟩
  obtain ⟨-, hlen, hgm, hpre, hf0, hsum⟩ := fluxOk_bd h1
  have hsums := fluxOk_sums h1
  have hcb := chg_bd h1
  have hnb := inB_iff.1 h2
  have hdb := inB_iff.1 h3
  have HV : Hid (scV c f l n d = fluxOk c ((scT f l n d).headD 0) (gapsT (scT f l n d) (scR l n d))) := Lib.hid (by unfold scV scIn; rw [h1, h2, h3]; rfl)
  have H := Lib.hid h1
  have HNN := Lib.hid h2
  have HDD := Lib.hid h3
  have HS := Lib.hid hsums
  have HCB := Lib.hid hcb
  have hml : (scT f l n d).length = (chgL f l).length := by simp [scT]
  have hma : ∀ k (h : k < (chgL f l).length), (scT f l n d)[k]'(by rw [hml]; exact h) = ((chgL f l)[k] * n).tdiv d := fun k h => by simp [scT]
  have hcl := chgL_len f l
  have hsb : 0 ≤ l.sum ∧ l.sum ≤ 2000000 := hsum
  clear h1 h2 h3 hsums hcb hgm hpre
  go_enter Try.func30, Try.ntmps30
  go_wp2_with fail
  generalize (w.alloc (.cells #[.int .i64 c, .int .i64 f, .slice p l.length cap] 24)).alloc (.cells #[.int .i64 0, .int .i64 0, .slice none 0 0] 24) = w0 at BF0 R0 W0 f0 f1 f2 ⊢
  refine (spec_l02Ok c f p l cap _ _ (hI.below W0) hl BF0).mono ?_
  rintro e w1 ⟨rfl, hb1⟩
  rw [H.out]
  have R1 := R0.keep hb1
  have BF1 := BF0.keep hb1
  have hw1 := below_st W0 hb1 (Nat.le_refl _)
  clear f0 f1 f2
  obtain ⟨f0, f1, f2⟩ := BF1.cell3
  go_wp2_with fail
  refine (l00In_any _ _ _ _).mono ?_
  rintro e w9 ⟨rfl, rfl⟩
  rw [HNN.out]
  go_wp2_with fail
  refine (l00In_any _ _ _ _).mono ?_
  rintro e w9 ⟨rfl, rfl⟩
  rw [HDD.out]
  go_wp2_with fail
  refine (spec_l02Changes c f p l cap _ _ (hI.below hw1) hl HS.out.2 BF1).mono ?_
  rintro e w3 ⟨q, dq, rfl, S3, hb3⟩
  have R3 := R1.keep hb3
  have BF3 := BF1.keep hb3
  have hw3 := below_st hw1 hb3 (Nat.le_refl _)
  obtain ⟨g, rfl, hg, hrow0⟩ := S3 (by intro e; rw [e] at hcl; simp at hcl; omega)
  have hz3 := hb3.size
  have hzR := R1.lt
  have hzF := BF1.lt
  clear hb3 S3 f0 f1 f2
  generalize hX : scT f l n d = T at *
  generalize hY : chgL f l = X at *
  generalize hrv : scR l n d = rv at *
  have hrv2 : (l.sum * n).tdiv d = rv := hrv
  have hrv0 := hrv
  clear hrv
  obtain ⟨B, eB⟩ : ∃ B, w1.heap.size = B := ⟨_, rfl⟩
  rw [eB] at hg hz3 hzR hzF
  have hd0 : ¬ d = 0 := by omega
  rw [hcl]
  go_wp2_with fail
  go_loopw [9] (fun i wr => ∃ k : Nat, k ≤ l.length ∧ i = .int .i64 k ∧ RowI wr g (T.take k ++ X.drop k) ∧ Below B w3 wr) (fun i _ => l.length - (intOf i).toNat)
  case atStart => exact ⟨0, Nat.zero_le _, rfl, by simpa using hrow0, Below.refl _ _⟩
  case round =>
    obtain ⟨k, hk, rfl, hrow, hbel⟩ := hrel
    by_cases hlt : k < l.length
    · have hkX : k < X.length := by omega
      have hnow : (T.take k ++ X.drop k).length = X.length := by simp; omega
      obtain ⟨hc, hf⟩ := hrow.cell (k := k) (by omega)
      rw [mix_at hml hkX] at hc
      have hxb := HCB.out k hkX
      have hset := hrow.set_ k (T[k]'(by omega))
      rw [mix_set hml hkX, hma k hkX] at hset
      obtain ⟨x, ex⟩ : ∃ x, X[k] = x := ⟨_, rfl⟩
      rw [ex] at hc hxb hset
      have m0 := mul_le hxb hnb (by omega)
      obtain ⟨y, ey⟩ : ∃ y, x * n = y := ⟨_, rfl⟩
      rw [ey] at hset m0
      have m1 := tdiv_le m0 hdb.1
      have q1 : IntKind.i64.wrap y = y := IntWalk.i64_in _ (by omega)
      have q2 : IntKind.i64.wrap (y.tdiv d) = y.tdiv d := IntWalk.i64_in _ (by omega)
      have hya := Lib.hid hset
      clear hset
      go_wp2_with fail
      exact ⟨⟨k + 1, by omega, by go_num, hya.out, hbel.setCell (p := ⟨g, k, none⟩) hg _⟩, by simp [intOf]; omega⟩
    · have hT : T.take k ++ X.drop k = T := by rw [List.take_of_length_le (by omega), List.drop_of_length_le (by omega), List.append_nil]
      rw [hT] at hrow
      have ST : OwnS wr B (some ⟨g, 0, none⟩) T := OwnS.of_row hrow hg
      have Rr := R3.below hbel hzR
      have BFr := BF3.below hbel hzF
      have hwr : Below w.heap.size w wr := hw3.trans (hbel.mono (by have := hw1.size; omega))
      have hTl : T.length ≤ 1048576 := by omega
      have hT1 : 1 ≤ T.length := by omega
      have m0 := mul_le hsb hnb (by omega)
      obtain ⟨y, ey⟩ : ∃ y, l.sum * n = y := ⟨_, rfl⟩
      rw [ey] at hrv2 m0
      have m1 := tdiv_le m0 hdb.1
      rw [hrv2] at m1
      have q1 : IntKind.i64.wrap y = y := IntWalk.i64_in _ (by omega)
      have q2 : IntKind.i64.wrap (y.tdiv d) = rv := by rw [hrv2]; exact IntWalk.i64_in _ (by omega)
      have q3 : IntKind.i64.wrap rv = rv := IntWalk.i64_in _ (by omega)
      have Rd := Rr.drew
      have Bd := BFr.drew
      have hwd := hwr.drew
      have hzw := hwr.size
      have hzr' := Rr.lt
      have hTL : T.length = l.length := by omega
      have CD := fun (q : Option Addr) (d5 : Nat) (w5 : World) (h : IntsAt w5 q T) => spec_l02Times q T d5 rv c w5 h hT1 hTl
      simp only [hTL] at CD
      have hGl : (gapsT T rv).length ≤ 1048576 := by rw [gapsT_len _ _ hT1]; exact hTl
      generalize hy0 : T.headD 0 = y0 at *
      generalize hG : gapsT T rv = G at *
      have keepS : ∀ y1 y2 : World, ((w.heap.size < y1.heap.size ∧ y1.cell? ⟨w.heap.size, 0, none⟩ = some (.int .i64 c) ∧ y1.cell? ⟨w.heap.size, 1, none⟩ = some (.int .i64 f) ∧ y1.cell? ⟨w.heap.size, 2, none⟩ = some (.slice p l.length cap)) ∧ Blk y1 (w.heap.size + 1) 24 #[.int .i64 0, .int .i64 0, .slice none 0 0] ∧ OwnS y1 B (some ⟨g, 0, none⟩) T ∧ Below w.heap.size w y1) → Below y1.heap.size y1 y2 → ((w.heap.size < y2.heap.size ∧ y2.cell? ⟨w.heap.size, 0, none⟩ = some (.int .i64 c) ∧ y2.cell? ⟨w.heap.size, 1, none⟩ = some (.int .i64 f) ∧ y2.cell? ⟨w.heap.size, 2, none⟩ = some (.slice p l.length cap)) ∧ Blk y2 (w.heap.size + 1) 24 #[.int .i64 0, .int .i64 0, .slice none 0 0] ∧ OwnS y2 B (some ⟨g, 0, none⟩) T ∧ Below w.heap.size w y2) := by
        rintro y1 y2 ⟨⟨s0, s1, s2, s3⟩, s6, s4, s5⟩ hb
        obtain ⟨hc, -⟩ := bcell hb
        have := hb.size
        exact ⟨⟨by omega, (hc _ _ s0).trans s1, (hc _ _ s0).trans s2, (hc _ _ s0).trans s3⟩, s6.keep hb, s4.below hb, below_st s5 hb (Nat.le_refl _)⟩
      have hglt := hrow.lt
      have keepW : ∀ (y : World) (i b : Nat) (v : Value), wr.heap.size ≤ b → ((w.heap.size < y.heap.size ∧ y.cell? ⟨w.heap.size, 0, none⟩ = some (.int .i64 c) ∧ y.cell? ⟨w.heap.size, 1, none⟩ = some (.int .i64 f) ∧ y.cell? ⟨w.heap.size, 2, none⟩ = some (.slice p l.length cap)) ∧ Blk y (w.heap.size + 1) 24 #[.int .i64 0, .int .i64 0, .slice none 0 0] ∧ OwnS y B (some ⟨g, 0, none⟩) T ∧ Below w.heap.size w y) → ((w.heap.size < (y.setCell ⟨b, i, none⟩ v).heap.size ∧ (y.setCell ⟨b, i, none⟩ v).cell? ⟨w.heap.size, 0, none⟩ = some (.int .i64 c) ∧ (y.setCell ⟨b, i, none⟩ v).cell? ⟨w.heap.size, 1, none⟩ = some (.int .i64 f) ∧ (y.setCell ⟨b, i, none⟩ v).cell? ⟨w.heap.size, 2, none⟩ = some (.slice p l.length cap)) ∧ Blk (y.setCell ⟨b, i, none⟩ v) (w.heap.size + 1) 24 #[.int .i64 0, .int .i64 0, .slice none 0 0] ∧ OwnS (y.setCell ⟨b, i, none⟩ v) B (some ⟨g, 0, none⟩) T ∧ Below w.heap.size w (y.setCell ⟨b, i, none⟩ v)) := by
        rintro y i b v hwb ⟨⟨s0, s1, s2, s3⟩, s6, s4, s5⟩
        have ho : ∀ j, (y.setCell ⟨b, i, none⟩ v).cell? ⟨w.heap.size, j, none⟩ = y.cell? ⟨w.heap.size, j, none⟩ := fun j => World.cell?_setCell_other _ _ _ _ (by intro h'; injection h' with h2; omega)
        exact ⟨⟨by simpa [World.setCell] using s0, (ho 0).trans s1, (ho 1).trans s2, (ho 2).trans s3⟩, s6.off (by omega) i v, s4.asides (Aside.setCell b i v) (fun _ g' e e2 => by injection e with e; injection e with e; injection e2 with e2; omega), s5.setCell (p := ⟨b, i, none⟩) (show w.heap.size ≤ b by omega) _⟩
      have S0 : (w.heap.size < wr.drew.heap.size ∧ wr.drew.cell? ⟨w.heap.size, 0, none⟩ = some (.int .i64 c) ∧ wr.drew.cell? ⟨w.heap.size, 1, none⟩ = some (.int .i64 f) ∧ wr.drew.cell? ⟨w.heap.size, 2, none⟩ = some (.slice p l.length cap)) ∧ Blk wr.drew (w.heap.size + 1) 24 #[.int .i64 0, .int .i64 0, .slice none 0 0] ∧ OwnS wr.drew B (some ⟨g, 0, none⟩) T ∧ Below w.heap.size w wr.drew := ⟨⟨Bd.lt, Bd.cell3.1, Bd.cell3.2.1, Bd.cell3.2.2⟩, Rd, ST.below (Below.refl _ _).drew, hwd⟩
      go_wp2_with fail
      go_cut [10] (fun ov wx => ∃ (b : Nat) (q5 : Option Addr) (d5 : Nat), ov = .pointer (some ⟨b, 0, none⟩) ∧ w.heap.size + 2 ≤ b ∧ Blk wx b 24 #[.int .i64 c, .int .i64 y0, .slice q5 G.length d5] ∧ OwnS wx (w.heap.size + 2) q5 G ∧ Blk wx (w.heap.size + 1) 24 #[.int .i64 0, .int .i64 0, .slice none 0 0] ∧ Below w.heap.size w wx)
      case first =>
        have SA : (w.heap.size < (wr.alloc (.cells #[.int .i64 0, .int .i64 0, .slice none 0 0] 24)).drew.heap.size ∧ (wr.alloc (.cells #[.int .i64 0, .int .i64 0, .slice none 0 0] 24)).drew.cell? ⟨w.heap.size, 0, none⟩ = some (.int .i64 c) ∧ (wr.alloc (.cells #[.int .i64 0, .int .i64 0, .slice none 0 0] 24)).drew.cell? ⟨w.heap.size, 1, none⟩ = some (.int .i64 f) ∧ (wr.alloc (.cells #[.int .i64 0, .int .i64 0, .slice none 0 0] 24)).drew.cell? ⟨w.heap.size, 2, none⟩ = some (.slice p l.length cap)) ∧ Blk (wr.alloc (.cells #[.int .i64 0, .int .i64 0, .slice none 0 0] 24)).drew (w.heap.size + 1) 24 #[.int .i64 0, .int .i64 0, .slice none 0 0] ∧ OwnS (wr.alloc (.cells #[.int .i64 0, .int .i64 0, .slice none 0 0] 24)).drew B (some ⟨g, 0, none⟩) T ∧ Below w.heap.size w (wr.alloc (.cells #[.int .i64 0, .int .i64 0, .slice none 0 0] 24)).drew := keepS _ _ S0 ((Below.refl _ wr.drew).alloc (Nat.le_refl _) _)
        go_region_held3 (fun w' => (w.heap.size < w'.heap.size ∧ w'.cell? ⟨w.heap.size, 0, none⟩ = some (.int .i64 c) ∧ w'.cell? ⟨w.heap.size, 1, none⟩ = some (.int .i64 f) ∧ w'.cell? ⟨w.heap.size, 2, none⟩ = some (.slice p l.length cap)) ∧ Blk w' (w.heap.size + 1) 24 #[.int .i64 0, .int .i64 0, .slice none 0 0] ∧ OwnS w' B (some ⟨g, 0, none⟩) T ∧ Below w.heap.size w w')
          (first | with_reducible exact S0 | with_reducible exact SA | (with_reducible refine keepS _ _ S0 ?_; assumption) | (with_reducible refine keepS _ _ SA ?_; assumption) | exact keepS _ _ (keepS _ _ S0 hb5) ((Below.refl _ _).alloc (Nat.le_refl _) _) | exact keepW _ _ _ _ (Nat.le_refl _) (keepW _ _ _ _ (Nat.le_refl _) (keepW _ _ _ _ (Nat.le_refl _) (keepS _ _ SA hb5))) | exact keepW _ _ _ _ hb5.size (keepW _ _ _ _ hb5.size (keepW _ _ _ _ hb5.size (keepS _ _ (keepS _ _ S0 hb5) ((Below.refl _ _).alloc (Nat.le_refl _) _)))) | go_keep)
          (first | (go_at_call 71; refine (CD _ _ _ (by first | exact S0.2.2.1.ints | exact SA.2.2.1.ints)).mono ?_; rintro e w5 ⟨q5, d5, rfl, S5, hb5⟩; (try (have y5 := (Blk.drew (Blk.new wr 24 #[.int .i64 0, .int .i64 0, .slice none 0 0])).keep hb5; obtain ⟨u0, u1, u2⟩ := y5.cell3; have u3 := y5.frozen; have u4 := y5.lt))) | (go_at_call 72; refine (spec_l02Revolution c f p l cap _ _ (by first | exact hI.below S0.2.2.2 | exact hI.below SA.2.2.2) hl HS.out.1 (by first | exact Bd | exact Bd.alloc' _)).mono ?_; rintro e w' ⟨rfl, rfl⟩))
        all_goals
          go_wp2_with fail
          go_meet
          first
            | exact ⟨w5.heap.size, q5, d5, rfl, by have h1 : wr.heap.size ≤ w5.heap.size := hb5.size; omega, Blk.new w5 24 #[.int .i64 c, .int .i64 y0, .slice q5 G.length d5], (S5.below ((Below.refl _ w5).alloc (Nat.le_refl _) _)).mono (show w.heap.size + 2 ≤ wr.heap.size by omega), (keepS _ _ (keepS _ _ S0 hb5) ((Below.refl _ w5).alloc (Nat.le_refl _) _)).2.1, (keepS _ _ (keepS _ _ S0 hb5) ((Below.refl _ w5).alloc (Nat.le_refl _) _)).2.2.2⟩
            | exact ⟨wr.heap.size, q5, d5, rfl, by omega, y5.set3 _ _ _, (((S5.offS (g' := wr.heap.size) (show wr.heap.size < (wr.alloc (.cells #[.int .i64 0, .int .i64 0, .slice none 0 0] 24)).heap.size by simp) 0 _).offS (g' := wr.heap.size) (show wr.heap.size < (wr.alloc (.cells #[.int .i64 0, .int .i64 0, .slice none 0 0] 24)).heap.size by simp) 1 _).offS (g' := wr.heap.size) (show wr.heap.size < (wr.alloc (.cells #[.int .i64 0, .int .i64 0, .slice none 0 0] 24)).heap.size by simp) 2 _).mono (show w.heap.size + 2 ≤ (wr.alloc (.cells #[.int .i64 0, .int .i64 0, .slice none 0 0] 24)).heap.size by (first | (simp; done) | (simp; omega))), (keepW _ _ _ _ (Nat.le_refl _) (keepW _ _ _ _ (Nat.le_refl _) (keepW _ _ _ _ (Nat.le_refl _) (keepS _ _ SA hb5)))).2.1, (keepW _ _ _ _ (Nat.le_refl _) (keepW _ _ _ _ (Nat.le_refl _) (keepW _ _ _ _ (Nat.le_refl _) (keepS _ _ SA hb5)))).2.2.2⟩
      case rest =>
        obtain ⟨b, q5, d5, rfl, hbb, Bb, S5, R5, W5⟩ := hcut
        obtain ⟨wx, hwc⟩ : ∃ wx, wx = wc := ⟨_, rfl⟩
        subst hwc
        obtain ⟨b0, b1, b2⟩ := Bb.cell3
        have blt := Bb.lt
        clear S0 keepS keepW CD Rd Bd hwd Rr BFr hwr
        go_wp2_with fail
        refine (spec_l02Ok c y0 q5 G d5 _ _ S5.ints hGl Bb).mono ?_
        rintro e w6 ⟨rfl, hb6⟩
        have hb7 := hb6
        have R6 := R5.keep hb6
        have B6 := Bb.keep hb6
        have W6 := below_st W5 hb6 (Nat.le_refl _)
        have S6 := S5.below hb6
        obtain hg | hg := (Bool.eq_false_or_eq_true (fluxOk c y0 G)).symm
        · have hv : scV c f l n d = false := by rw [HV.out, hg]
          have HE : Hid (scE c f l n d = 2) := Lib.hid (by rw [HE0.out, hv]; rfl)
          have HN := Lib.hid (sc_no hv)
          rw [hg]
          clear hv hg
          obtain ⟨r0, r1', r2⟩ := R6.cell3
          have rf := R6.frozen
          have rlt := R6.lt
          obtain ⟨e0, e1, e2⟩ := (R6.set3 (.int .i64 0) (.int .i64 0) (.slice none 0 0)).cell3
          go_wp2_with fail
          refine bodyPost_ret (v := .tuple #[.agg #[.int .i64 0, .int .i64 0, .slice none 0 0], .int .i64 2]) (by simp [results, Try.results30, go_sem, e0, e1, e2]) rfl ?_
          rw [HN.out.1, HN.out.2.1, HN.out.2.2, HE.out]
          have W9 := ((W6.setCell (p := ⟨w.heap.size + 1, 0, none⟩) (Nat.le_succ _) (.int .i64 0)).setCell (p := ⟨w.heap.size + 1, 1, none⟩) (Nat.le_succ _) (.int .i64 0)).setCell (p := ⟨w.heap.size + 1, 2, none⟩) (Nat.le_succ _) (.slice none 0 0)
          first | exact ⟨none, 0, rfl, OwnS.nil_ _ _ _, W9⟩ | exact ⟨none, ⟨0, rfl⟩, OwnS.nil_ _ _ _, W9⟩
        have hv : scV c f l n d = true := by rw [HV.out, hg]
        have HE : Hid (scE c f l n d = 0) := Lib.hid (by rw [HE0.out, hv]; rfl)
        have HN := Lib.hid (sc_yes hv)
        rw [hg]
        clear hv hg b0 b1 b2
        obtain ⟨b0, b1, b2⟩ := B6.cell3
        obtain ⟨r0, r1', r2⟩ := R6.cell3
        have rf := R6.frozen
        have rlt := R6.lt
        have hne : w.heap.size + 1 ≠ b := by omega
        obtain ⟨e0, e1, e2⟩ := (R6.set3 (.int .i64 c) (.int .i64 y0) (.slice q5 G.length d5)).cell3
        have W9 := ((W6.setCell (p := ⟨w.heap.size + 1, 0, none⟩) (Nat.le_succ _) (.int .i64 c)).setCell (p := ⟨w.heap.size + 1, 1, none⟩) (Nat.le_succ _) (.int .i64 y0)).setCell (p := ⟨w.heap.size + 1, 2, none⟩) (Nat.le_succ _) (.slice q5 G.length d5)
        have S9 := ((S6.offS (g' := w.heap.size + 1) (Nat.lt_succ_self _) 0 (.int .i64 c)).offS (g' := w.heap.size + 1) (Nat.lt_succ_self _) 1 (.int .i64 y0)).offS (g' := w.heap.size + 1) (Nat.lt_succ_self _) 2 (.slice q5 G.length d5)
        go_wp2_with fail
        refine bodyPost_ret (v := .tuple #[.agg #[.int .i64 c, .int .i64 y0, .slice q5 G.length d5], .int .i64 0]) (by simp [results, Try.results30, go_sem, e0, e1, e2]) rfl ?_
        rw [HN.out.1, HN.out.2.1, HN.out.2.2, HE.out, hX, hrv0, hy0, hG]
        exact ⟨q5, d5, rfl, S9.mono (by omega), W9⟩
end Go.Proofs.Ytmjmhdjfaamgkaa
