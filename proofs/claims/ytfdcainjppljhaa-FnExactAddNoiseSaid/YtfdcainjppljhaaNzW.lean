/- Noise: its size, its copy, its comparison. -/
import Derived.Test.YtfdcainjppljhaaSpsW
namespace Go.Proofs.Ytfdcainjppljhaa
open Go.RowKit
set_option linter.unusedVariables false
def szNz (left : Int) (j e : List Int) (L : List Flx) : Int := if left < j.length + e.length + L.length + lensL L then -1 else left - j.length - e.length - L.length - lensL L
set_option maxHeartbeats 2000000 in
set_option maxRecDepth 20000 in
theorem laws_szNoise (d : Int) (pj pd ps : Option Addr) (j e : List Int) (L : List Flx) (cj cd cs : Nat) (left : Int) (w : World) (hs : SpansAt w ps L) (hj : j.length ≤ maxLen) (he : e.length ≤ maxLen) (hl : L.length ≤ maxLen) (hg : ∀ s ∈ L, s.g.l.length ≤ maxLen) (h : 0 ≤ left ∧ left ≤ 1048576) :
    Calls Try.prog 34 #[.agg #[.int .i64 d, .slice pj j.length cj, .slice pd e.length cd, .slice ps L.length cs], .int .i64 left] w fun e' w' => e' = .returned (.int .i64 (szNz left j e L)) ∧ Below w.heap.size w w' := by
  have B0 := Blk.new w 61 #[.int .i64 d, .slice pj j.length cj, .slice pd e.length cd, .slice ps L.length cs]
  have W0 := (Below.refl w.heap.size w).alloc (Nat.le_refl _) (.cells #[.int .i64 d, .slice pj j.length cj, .slice pd e.length cd, .slice ps L.length cs] 61)
  have hm1 : (j.length : Int) ≤ 9223372036854775807 := by unfold maxLen at hj; omega
  have hm2 : (e.length : Int) ≤ 9223372036854775807 := by unfold maxLen at he; omega
  by_cases h1 : left < j.length
  · have HZ : Hid (szL left j.length = -1) := Lib.hid (by unfold szL; rw [if_pos h1])
    have HV : Hid (szNz left j e L = -1) := Lib.hid (by unfold szNz; rw [if_pos (by omega)])
    go_enter Try.func34, Try.ntmps34
    go_wp2_with fail
    refine (laws_szInt64S _ _ _ _ _ hj h).mono ?_
    rintro e' w1 ⟨rfl, hb1⟩
    rw [HZ.out]
    have W1 := below_st W0 hb1 (Nat.le_refl _)
    go_wp2_with fail
    go_ret
    exact ⟨ret_int (by rw [HV.out]), W1⟩
  have HZ1 : Hid (szL left j.length = left - j.length) := Lib.hid (by unfold szL; rw [if_neg h1])
  have d1 : decide (left - (j.length : Int) < 0) = false := decide_eq_false (by omega)
  by_cases h2 : left - j.length < e.length
  · have HZ : Hid (szL (left - j.length) e.length = -1) := Lib.hid (by unfold szL; rw [if_pos h2])
    have HV : Hid (szNz left j e L = -1) := Lib.hid (by unfold szNz; rw [if_pos (by omega)])
    go_enter Try.func34, Try.ntmps34
    go_wp2_with fail
    generalize w.alloc (.cells #[.int .i64 d, .slice pj j.length cj, .slice pd e.length cd, .slice ps L.length cs] 61) = w0 at B0 W0 ⊢
    refine (laws_szInt64S _ _ _ _ _ hj h).mono ?_
    rintro e' w1 ⟨rfl, hb1⟩
    rw [HZ1.out]
    have B1 := B0.keep hb1
    have W1 := below_st W0 hb1 (Nat.le_refl _)
    obtain ⟨c0, c1, c2, c3⟩ := B1.cell4
    go_wp2_with fail
    refine (laws_szInt64S _ _ _ _ _ he (by omega)).mono ?_
    rintro e' w2 ⟨rfl, hb2⟩
    rw [HZ.out]
    have W2 := below_st W1 hb2 (Nat.le_refl _)
    go_wp2_with fail
    go_ret
    exact ⟨ret_int (by rw [HV.out]), W2⟩
  have HZ2 : Hid (szL (left - j.length) e.length = left - j.length - e.length) := Lib.hid (by unfold szL; rw [if_neg h2])
  have d2 : decide (left - (j.length : Int) - (e.length : Int) < 0) = false := decide_eq_false (by omega)
  have hz3 : szLs (left - j.length - e.length) L = szNz left j e L ∧ (szNz left j e L = -1 ∨ 0 ≤ szNz left j e L) := by unfold szLs szNz; split <;> split <;> omega
  obtain ⟨z, ez⟩ : ∃ z, szNz left j e L = z := ⟨_, rfl⟩
  rw [ez] at hz3 ⊢
  obtain ⟨hz3, hzz⟩ := hz3
  have HZ3 := Lib.hid hz3
  clear hz3 ez
  go_enter Try.func34, Try.ntmps34
  go_wp2_with fail
  generalize w.alloc (.cells #[.int .i64 d, .slice pj j.length cj, .slice pd e.length cd, .slice ps L.length cs] 61) = w0 at B0 W0 ⊢
  refine (laws_szInt64S _ _ _ _ _ hj h).mono ?_
  rintro e' w1 ⟨rfl, hb1⟩
  rw [HZ1.out]
  have B1 := B0.keep hb1
  have W1 := below_st W0 hb1 (Nat.le_refl _)
  obtain ⟨c0, c1, c2, c3⟩ := B1.cell4
  go_wp2_with fail
  refine (laws_szInt64S _ _ _ _ _ he (by omega)).mono ?_
  rintro e' w2 ⟨rfl, hb2⟩
  rw [HZ2.out]
  have B2 := B1.keep hb2
  have W2 := below_st W1 hb2 (Nat.le_refl _)
  clear c0 c1 c2 c3
  obtain ⟨c0, c1, c2, c3⟩ := B2.cell4
  go_wp2_with fail
  refine (laws_szSpanS _ _ _ _ _ (hs.below W2) hl hg (by omega)).mono ?_
  rintro e' w3 ⟨rfl, hb3⟩
  rw [HZ3.out]
  have W3 := below_st W2 hb3 (Nat.le_refl _)
  rcases hzz with rfl | hpos
  · go_wp2_with fail
    go_ret
    exact ⟨rfl, W3⟩
  · have d3 : decide (z < 0) = false := decide_eq_false (by omega)
    go_wp2_with fail
    go_ret
    exact ⟨rfl, W3⟩
set_option maxHeartbeats 2000000 in
set_option maxRecDepth 20000 in
theorem laws_eqNoise_same (d : Int) (pj pd ps qj qd qs : Option Addr) (j e : List Int) (L M : List Flx) (cj cd cs dj dd ds : Nat) (w : World) (h1 : IntsAt w pj j) (h2 : IntsAt w pd e) (h3 : SpansAt w ps L) (k1 : IntsAt w qj j) (k2 : IntsAt w qd e) (k3 : SpansAt w qs M) (hs : SameS L M) (hj : j.length ≤ 9000000) (he : e.length ≤ 9000000) (hl : L.length ≤ 1048576) (hg : ∀ s ∈ L, s.g.l.length ≤ 1048576) :
    Calls Try.prog 37 #[.agg #[.int .i64 d, .slice pj j.length cj, .slice pd e.length cd, .slice ps L.length cs], .agg #[.int .i64 d, .slice qj j.length dj, .slice qd e.length dd, .slice qs M.length ds]] w fun e' w' => e' = .returned (.bool true) ∧ Below w.heap.size w w' := by
  have B0 := (Blk.new w 53 #[.int .i64 d, .slice pj j.length cj, .slice pd e.length cd, .slice ps L.length cs]).alloc' (.cells #[.int .i64 d, .slice qj j.length dj, .slice qd e.length dd, .slice qs M.length ds] 53)
  have C0 := Blk.new (w.alloc (.cells #[.int .i64 d, .slice pj j.length cj, .slice pd e.length cd, .slice ps L.length cs] 53)) 53 #[.int .i64 d, .slice qj j.length dj, .slice qd e.length dd, .slice qs M.length ds]
  have esz : (w.alloc (.cells #[.int .i64 d, .slice pj j.length cj, .slice pd e.length cd, .slice ps L.length cs] 53)).heap.size = w.heap.size + 1 := by simp
  rw [esz] at C0
  have W0 : Below w.heap.size w ((w.alloc (.cells #[.int .i64 d, .slice pj j.length cj, .slice pd e.length cd, .slice ps L.length cs] 53)).alloc (.cells #[.int .i64 d, .slice qj j.length dj, .slice qd e.length dd, .slice qs M.length ds] 53)) := ((Below.refl _ _).alloc (Nat.le_refl _) _).alloc (by simp) _
  clear esz
  go_enter Try.func37, Try.ntmps37
  go_wp2_with fail
  generalize (w.alloc (.cells #[.int .i64 d, .slice pj j.length cj, .slice pd e.length cd, .slice ps L.length cs] 53)).alloc (.cells #[.int .i64 d, .slice qj j.length dj, .slice qd e.length dd, .slice qs M.length ds] 53) = w0 at B0 C0 W0 ⊢
  refine (laws_eqInt64S _ _ _ _ _ _ _ (h1.below W0) (k1.below W0) hj).mono ?_
  rintro e' w1 ⟨rfl, hb1⟩
  rw [decide_eq_true rfl]
  have B1 := B0.keep hb1
  have C1 := C0.keep hb1
  have W1 := below_st W0 hb1 (Nat.le_refl _)
  obtain ⟨b0, b1, b2, b3⟩ := B1.cell4
  obtain ⟨c0, c1, c2, c3⟩ := C1.cell4
  go_wp2_with fail
  refine (laws_eqInt64S _ _ _ _ _ _ _ (h2.below W1) (k2.below W1) he).mono ?_
  rintro e' w2 ⟨rfl, hb2⟩
  rw [decide_eq_true rfl]
  have B2 := B1.keep hb2
  have C2 := C1.keep hb2
  have W2 := below_st W1 hb2 (Nat.le_refl _)
  clear b0 b1 b2 b3 c0 c1 c2 c3
  obtain ⟨b0, b1, b2, b3⟩ := B2.cell4
  obtain ⟨c0, c1, c2, c3⟩ := C2.cell4
  go_wp2_with fail
  refine (laws_eqSpanS_same _ _ _ _ _ _ _ (h3.below W2) (k3.below W2) hs hl hg).mono ?_
  rintro e' w3 ⟨rfl, hb3⟩
  have W3 := below_st W2 hb3 (Nat.le_refl _)
  go_wp2_with fail
  go_ret
  exact ⟨rfl, W3⟩
theorem Blk.set41 {w : World} {g : Nat} {t : TypeId} {a b c d : Value} (h : Blk w g t #[a, b, c, d]) (x : Value) : Blk (w.setCell ⟨g, 1, none⟩ x) g t #[a, x, c, d] := by simpa using h.setI 1 x
theorem Blk.set42 {w : World} {g : Nat} {t : TypeId} {a b c d : Value} (h : Blk w g t #[a, b, c, d]) (x : Value) : Blk (w.setCell ⟨g, 2, none⟩ x) g t #[a, b, x, d] := by simpa using h.setI 2 x
theorem Blk.set43 {w : World} {g : Nat} {t : TypeId} {a b c d : Value} (h : Blk w g t #[a, b, c, d]) (x : Value) : Blk (w.setCell ⟨g, 3, none⟩ x) g t #[a, b, c, x] := by simpa using h.setI 3 x
theorem Blk.set4 {w : World} {g : Nat} {t : TypeId} {a b c d : Value} (h : Blk w g t #[a, b, c, d]) (x y z u : Value) : Blk ((((w.setCell ⟨g, 0, none⟩ x).setCell ⟨g, 1, none⟩ y).setCell ⟨g, 2, none⟩ z).setCell ⟨g, 3, none⟩ u) g t #[x, y, z, u] := by
  have h0 : Blk (w.setCell ⟨g, 0, none⟩ x) g t #[x, b, c, d] := by simpa using h.setI 0 x
  exact ((h0.set41 y).set42 z).set43 u
theorem SpRow.off {w : World} {g n : Nat} {L L' : List Flx} (h : SpRow w g n L L') {b : Nat} (hb : b < g) (i : Nat) (v : Value) : SpRow (w.setCell ⟨b, i, none⟩ v) g n L L' := by
  obtain ⟨⟨cs, hB, hs, hc⟩, h2, h3, h4, h5⟩ := h
  exact ⟨⟨cs, hB.off (by omega) _ _, hs, hc⟩, h2, fun j hj hl => by obtain ⟨g', e, hg, hr⟩ := h3 j hj hl; exact ⟨g', e, hg, hr.off (by omega) _ _⟩, h4, h5⟩
set_option maxHeartbeats 4000000 in
set_option maxRecDepth 20000 in
theorem laws_toNoise (d : Int) (pj pd ps : Option Addr) (j e : List Int) (L : List Flx) (cj cd cs : Nat) (w : World) (h1 : IntsAt w pj j) (h2 : IntsAt w pd e) (h3 : SpansAt w ps L) (hj : j.length ≤ 1048576) (he : e.length ≤ 1048576) (hl : L.length ≤ 1048576) (hg : ∀ s ∈ L, s.g.l.length ≤ 1048576) :
    Calls Try.prog 36 #[.agg #[.int .i64 d, .slice pj j.length cj, .slice pd e.length cd, .slice ps L.length cs]] w fun e' w' => ∃ (g1 g2 g3 : Nat) (L' : List Flx), e' = .returned (.agg #[.int .i64 d, .slice (some ⟨g1, 0, none⟩) j.length j.length, .slice (some ⟨g2, 0, none⟩) e.length e.length, .slice (some ⟨g3, 0, none⟩) L.length L.length]) ∧ L'.length = L.length ∧ w.heap.size ≤ g1 ∧ g1 < g2 ∧ g2 < g3 ∧ RowI w' g1 j ∧ RowI w' g2 e ∧ SpRow w' g3 L.length L L' ∧ Below w.heap.size w w' := by
  have B0 := ((Blk.new w 61 #[.int .i64 d, .slice pj j.length cj, .slice pd e.length cd, .slice ps L.length cs]).alloc' (.cells #[.int .i64 0, .slice none 0 0, .slice none 0 0, .slice none 0 0] 53)).alloc' (.cells #[.int .i64 d, .slice none 0 0, .slice none 0 0, .slice none 0 0] 53)
  have R0 := (Blk.new (w.alloc (.cells #[.int .i64 d, .slice pj j.length cj, .slice pd e.length cd, .slice ps L.length cs] 61)) 53 #[.int .i64 0, .slice none 0 0, .slice none 0 0, .slice none 0 0]).alloc' (.cells #[.int .i64 d, .slice none 0 0, .slice none 0 0, .slice none 0 0] 53)
  have O0 := Blk.new ((w.alloc (.cells #[.int .i64 d, .slice pj j.length cj, .slice pd e.length cd, .slice ps L.length cs] 61)).alloc (.cells #[.int .i64 0, .slice none 0 0, .slice none 0 0, .slice none 0 0] 53)) 53 #[.int .i64 d, .slice none 0 0, .slice none 0 0, .slice none 0 0]
  have e2 : ((w.alloc (.cells #[.int .i64 d, .slice pj j.length cj, .slice pd e.length cd, .slice ps L.length cs] 61)).alloc (.cells #[.int .i64 0, .slice none 0 0, .slice none 0 0, .slice none 0 0] 53)).heap.size = w.heap.size + 1 + 1 := by simp
  have e1 : (w.alloc (.cells #[.int .i64 d, .slice pj j.length cj, .slice pd e.length cd, .slice ps L.length cs] 61)).heap.size = w.heap.size + 1 := by simp
  rw [e1] at R0
  rw [e2] at O0
  have W0 : Below w.heap.size w (((w.alloc (.cells #[.int .i64 d, .slice pj j.length cj, .slice pd e.length cd, .slice ps L.length cs] 61)).alloc (.cells #[.int .i64 0, .slice none 0 0, .slice none 0 0, .slice none 0 0] 53)).alloc (.cells #[.int .i64 d, .slice none 0 0, .slice none 0 0, .slice none 0 0] 53)) := (((Below.refl _ _).alloc (Nat.le_refl _) _).alloc (by simp) _).alloc (by simp; omega) _
  clear e1 e2
  go_enter Try.func36, Try.ntmps36
  go_wp2_with fail
  generalize ((w.alloc (.cells #[.int .i64 d, .slice pj j.length cj, .slice pd e.length cd, .slice ps L.length cs] 61)).alloc (.cells #[.int .i64 0, .slice none 0 0, .slice none 0 0, .slice none 0 0] 53)).alloc (.cells #[.int .i64 d, .slice none 0 0, .slice none 0 0, .slice none 0 0] 53) = w0 at B0 R0 O0 W0 ⊢
  have zo := O0.lt
  refine (laws_toInt64S _ _ _ _ (h1.below W0) hj).mono ?_
  rintro e' w1 ⟨rfl, r1, hb1⟩
  obtain ⟨g1, eg1⟩ : ∃ g1, w0.heap.size = g1 := ⟨_, rfl⟩
  rw [eg1] at r1 zo ⊢
  have B1 := B0.keep hb1
  have R1 := R0.keep hb1
  have O1 := O0.keep hb1
  have W1 := below_st W0 hb1 (Nat.le_refl _)
  obtain ⟨b0, b1, b2, b3⟩ := B1.cell4
  obtain ⟨o0, o1, o2, o3⟩ := O1.cell4
  have of := O1.frozen
  have ol := O1.lt
  have r1l := r1.lt
  replace O1 := O1.set41 (.slice (some ⟨g1, 0, none⟩) j.length j.length)
  replace B1 := B1.off (g' := w.heap.size + 1 + 1) (by omega) 1 (.slice (some ⟨g1, 0, none⟩) j.length j.length)
  replace R1 := R1.off (g' := w.heap.size + 1 + 1) (by omega) 1 (.slice (some ⟨g1, 0, none⟩) j.length j.length)
  replace r1 := r1.off (g' := w.heap.size + 1 + 1) (by omega) 1 (.slice (some ⟨g1, 0, none⟩) j.length j.length)
  replace W1 := W1.setCell (p := ⟨w.heap.size + 1 + 1, 1, none⟩) (by show w.heap.size ≤ w.heap.size + 1 + 1; omega) (.slice (some ⟨g1, 0, none⟩) j.length j.length)
  go_wp2_with fail
  generalize w1.setCell ⟨w.heap.size + 1 + 1, 1, none⟩ (.slice (some ⟨g1, 0, none⟩) j.length j.length) = w2 at O1 B1 R1 r1 W1 ⊢
  clear b0 b1 b2 b3 o0 o1 o2 o3 of ol hb1 B0 R0 O0 W0
  refine (laws_toInt64S _ _ _ _ (h2.below W1) he).mono ?_
  rintro e' w3 ⟨rfl, r2, hb2⟩
  obtain ⟨g2, eg2⟩ : ∃ g2, w2.heap.size = g2 := ⟨_, rfl⟩
  have hg12 : g1 < g2 := by have := r1.lt; omega
  rw [eg2] at r2 ⊢
  have B2 := B1.keep hb2
  have R2 := R1.keep hb2
  have O2 := O1.keep hb2
  have W2 := below_st W1 hb2 (Nat.le_refl _)
  replace r1 := r1.below hb2
  obtain ⟨b0, b1, b2, b3⟩ := B2.cell4
  obtain ⟨o0, o1, o2, o3⟩ := O2.cell4
  have of := O2.frozen
  have ol := O2.lt
  replace O2 := O2.set42 (.slice (some ⟨g2, 0, none⟩) e.length e.length)
  replace B2 := B2.off (g' := w.heap.size + 1 + 1) (by omega) 2 (.slice (some ⟨g2, 0, none⟩) e.length e.length)
  replace R2 := R2.off (g' := w.heap.size + 1 + 1) (by omega) 2 (.slice (some ⟨g2, 0, none⟩) e.length e.length)
  replace r1 := r1.off (g' := w.heap.size + 1 + 1) (by omega) 2 (.slice (some ⟨g2, 0, none⟩) e.length e.length)
  replace r2 := r2.off (g' := w.heap.size + 1 + 1) (by omega) 2 (.slice (some ⟨g2, 0, none⟩) e.length e.length)
  replace W2 := W2.setCell (p := ⟨w.heap.size + 1 + 1, 2, none⟩) (by show w.heap.size ≤ w.heap.size + 1 + 1; omega) (.slice (some ⟨g2, 0, none⟩) e.length e.length)
  go_wp2_with fail
  generalize w3.setCell ⟨w.heap.size + 1 + 1, 2, none⟩ (.slice (some ⟨g2, 0, none⟩) e.length e.length) = w4 at O2 B2 R2 r1 r2 W2 ⊢
  clear b0 b1 b2 b3 o0 o1 o2 o3 of ol hb2 B1 R1 O1 W1
  refine (laws_toSpanS _ _ _ _ (h3.below W2) hl hg).mono ?_
  rintro e' w5 ⟨rfl, ⟨L', hL', r3⟩, hb3⟩
  obtain ⟨g3, eg3⟩ : ∃ g3, w4.heap.size = g3 := ⟨_, rfl⟩
  have hg23 : g2 < g3 := by have := r2.lt; omega
  rw [eg3] at r3 ⊢
  have B3 := B2.keep hb3
  have R3 := R2.keep hb3
  have O3 := O2.keep hb3
  have W3 := below_st W2 hb3 (Nat.le_refl _)
  replace r1 := r1.below hb3
  replace r2 := r2.below hb3
  obtain ⟨o0, o1, o2, o3⟩ := O3.cell4
  have of := O3.frozen
  have ol := O3.lt
  replace O3 := O3.set43 (.slice (some ⟨g3, 0, none⟩) L.length L.length)
  replace R3 := R3.off (g' := w.heap.size + 1 + 1) (by omega) 3 (.slice (some ⟨g3, 0, none⟩) L.length L.length)
  replace r1 := r1.off (g' := w.heap.size + 1 + 1) (by omega) 3 (.slice (some ⟨g3, 0, none⟩) L.length L.length)
  replace r2 := r2.off (g' := w.heap.size + 1 + 1) (by omega) 3 (.slice (some ⟨g3, 0, none⟩) L.length L.length)
  replace r3 := r3.off (b := w.heap.size + 1 + 1) (by omega) 3 (.slice (some ⟨g3, 0, none⟩) L.length L.length)
  replace W3 := W3.setCell (p := ⟨w.heap.size + 1 + 1, 3, none⟩) (by show w.heap.size ≤ w.heap.size + 1 + 1; omega) (.slice (some ⟨g3, 0, none⟩) L.length L.length)
  obtain ⟨p0, p1, p2, p3⟩ := O3.cell4
  obtain ⟨q0, q1, q2, q3⟩ := R3.cell4
  have qf := R3.frozen
  have ql := R3.lt
  obtain ⟨e0, e1, e2, e3⟩ := (R3.set4 (.int .i64 d) (.slice (some ⟨g1, 0, none⟩) j.length j.length) (.slice (some ⟨g2, 0, none⟩) e.length e.length) (.slice (some ⟨g3, 0, none⟩) L.length L.length)).cell4
  go_wp2_with fail
  refine bodyPost_ret (v := .agg #[.int .i64 d, (.slice (some ⟨g1, 0, none⟩) j.length j.length), (.slice (some ⟨g2, 0, none⟩) e.length e.length), (.slice (some ⟨g3, 0, none⟩) L.length L.length)]) (by simp [results, Try.results36, go_sem, e0, e1, e2, e3]) rfl ?_
  exact ⟨g1, g2, g3, L', rfl, hL', by omega, hg12, hg23, ((((r1.off (g' := w.heap.size + 1) (by omega) 0 _).off (g' := w.heap.size + 1) (by omega) 1 _).off (g' := w.heap.size + 1) (by omega) 2 _).off (g' := w.heap.size + 1) (by omega) 3 _), ((((r2.off (g' := w.heap.size + 1) (by omega) 0 _).off (g' := w.heap.size + 1) (by omega) 1 _).off (g' := w.heap.size + 1) (by omega) 2 _).off (g' := w.heap.size + 1) (by omega) 3 _), ((((r3.off (b := w.heap.size + 1) (by omega) 0 _).off (b := w.heap.size + 1) (by omega) 1 _).off (b := w.heap.size + 1) (by omega) 2 _).off (b := w.heap.size + 1) (by omega) 3 _), (((W3.setCell (p := ⟨w.heap.size + 1, 0, none⟩) (Nat.le_succ _) _).setCell (p := ⟨w.heap.size + 1, 1, none⟩) (Nat.le_succ _) _).setCell (p := ⟨w.heap.size + 1, 2, none⟩) (Nat.le_succ _) _).setCell (p := ⟨w.heap.size + 1, 3, none⟩) (Nat.le_succ _) _⟩
end Go.Proofs.Ytfdcainjppljhaa
