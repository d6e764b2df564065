/- Noise: its size, its copy, its comparison. Whether noise is valid: what it says (plain), and the model's own test (spec). ValidNoise: contracts. The copies of noise: what a copy is, and the functions at a copy. AddNoise: what it computes; the steps' contracts over a state. ValidClock, toClock. PlainClock, StartClock, StepClock. The clock's step. -/
import Derived.Test.YtfdcainjppljhaaMgFnNoise1
import Derived.Test.YtfdcainjppljhaaMgFnNoise3
import Derived.Test.YtfdcainjppljhaaMgFnNoise4
import Derived.Test.YtfdcainjppljhaaMgFnNoise6
import Derived.Shelf.SlSortCmp.QuietGrown
import Derived.Handy
import Derived.StillTailTactics
namespace Go.Proofs.Ytfdcainjppljhaa
open Go.RowKit
set_option linter.unusedVariables false
def szNz (left : Int) (j e : List Int) (L : List Flx) : Int := if left < j.length + e.length + L.length + lensL L then -1 else left - j.length - e.length - L.length - lensL L
set_option maxHeartbeats 2000000 in
set_option maxRecDepth 20000 in
theorem laws_szNoise (d : Int) (pj pd ps : Option Addr) (j e : List Int) (L : List Flx) (cj cd cs : Nat) (left : Int) (w : World) (hs : SpansAt w ps L) (hj : j.length ≤ maxLen) (he : e.length ≤ maxLen) (hl : L.length ≤ maxLen) (hg : ∀ s ∈ L, s.g.l.length ≤ maxLen) (h : 0 ≤ left ∧ left ≤ 1048576) :
    Calls Try.prog 34 #[.agg #[.int .i64 d, .slice pj j.length cj, .slice pd e.length cd, .slice ps L.length cs], .int .i64 left] w fun e' w' => e' = .returned (.int .i64 (szNz left j e L)) ∧ Below w.heap.size w w' := by
  have B0 := Blk.new w 61 #[.int .i64 d, .slice pj j.length cj, .slice pd e.length cd, .slice ps L.length cs]
  have W0 := (Below.refl w.heap.size w).alloc (Nat.le_refl _) (.cells #[.int .i64 d, .slice pj j.length cj, .slice pd e.length cd, .slice ps L.length cs] 61)
  have hm1 : (j.length : Int) ≤ 9223372036854775807 := by unfold maxLen at hj; omega
  have hm2 : (e.length : Int) ≤ 9223372036854775807 := by unfold maxLen at he; omega
  by_cases h1 : left < j.length
  · have HZ : Hid (szL left j.length = -1) := Lib.hid (by unfold szL; rw [if_pos h1])
    have HV : Hid (szNz left j e L = -1) := Lib.hid (by unfold szNz; rw [if_pos (by omega)])
    go_enter Try.func34, Try.ntmps34
    go_wp2_with fail
    refine (laws_szInt64S _ _ _ _ _ hj h).mono ?_
    rintro e' w1 ⟨rfl, hb1⟩
    rw [HZ.out]
    have W1 := below_st W0 hb1 (Nat.le_refl _)
    go_wp2_with fail
    go_ret
    exact ⟨ret_int (by rw [HV.out]), W1⟩
  have HZ1 : Hid (szL left j.length = left - j.length) := Lib.hid (by unfold szL; rw [if_neg h1])
  have d1 : decide (left - (j.length : Int) < 0) = false := decide_eq_false (by omega)
  by_cases h2 : left - j.length < e.length
  · have HZ : Hid (szL (left - j.length) e.length = -1) := Lib.hid (by unfold szL; rw [if_pos h2])
    have HV : Hid (szNz left j e L = -1) := Lib.hid (by unfold szNz; rw [if_pos (by omega)])
    go_enter Try.func34, Try.ntmps34
    go_wp2_with fail
    generalize w.alloc (.cells #[.int .i64 d, .slice pj j.length cj, .slice pd e.length cd, .slice ps L.length cs] 61) = w0 at B0 W0 ⊢
    refine (laws_szInt64S _ _ _ _ _ hj h).mono ?_
    rintro e' w1 ⟨rfl, hb1⟩
    rw [HZ1.out]
    have B1 := B0.keep hb1
    have W1 := below_st W0 hb1 (Nat.le_refl _)
    obtain ⟨c0, c1, c2, c3⟩ := B1.cell4
    go_wp2_with fail
    refine (laws_szInt64S _ _ _ _ _ he (by omega)).mono ?_
    rintro e' w2 ⟨rfl, hb2⟩
    rw [HZ.out]
    have W2 := below_st W1 hb2 (Nat.le_refl _)
    go_wp2_with fail
    go_ret
    exact ⟨ret_int (by rw [HV.out]), W2⟩
  have HZ2 : Hid (szL (left - j.length) e.length = left - j.length - e.length) := Lib.hid (by unfold szL; rw [if_neg h2])
  have d2 : decide (left - (j.length : Int) - (e.length : Int) < 0) = false := decide_eq_false (by omega)
  have hz3 : szLs (left - j.length - e.length) L = szNz left j e L ∧ (szNz left j e L = -1 ∨ 0 ≤ szNz left j e L) := by unfold szLs szNz; split <;> split <;> omega
  obtain ⟨z, ez⟩ : ∃ z, szNz left j e L = z := ⟨_, rfl⟩
  rw [ez] at hz3 ⊢
  obtain ⟨hz3, hzz⟩ := hz3
  have HZ3 := Lib.hid hz3
  clear hz3 ez
  go_enter Try.func34, Try.ntmps34
  go_wp2_with fail
  generalize w.alloc (.cells #[.int .i64 d, .slice pj j.length cj, .slice pd e.length cd, .slice ps L.length cs] 61) = w0 at B0 W0 ⊢
  refine (laws_szInt64S _ _ _ _ _ hj h).mono ?_
  rintro e' w1 ⟨rfl, hb1⟩
  rw [HZ1.out]
  have B1 := B0.keep hb1
  have W1 := below_st W0 hb1 (Nat.le_refl _)
  obtain ⟨c0, c1, c2, c3⟩ := B1.cell4
  go_wp2_with fail
  refine (laws_szInt64S _ _ _ _ _ he (by omega)).mono ?_
  rintro e' w2 ⟨rfl, hb2⟩
  rw [HZ2.out]
  have B2 := B1.keep hb2
  have W2 := below_st W1 hb2 (Nat.le_refl _)
  clear c0 c1 c2 c3
  obtain ⟨c0, c1, c2, c3⟩ := B2.cell4
  go_wp2_with fail
  refine (laws_szSpanS _ _ _ _ _ (hs.below W2) hl hg (by omega)).mono ?_
  rintro e' w3 ⟨rfl, hb3⟩
  rw [HZ3.out]
  have W3 := below_st W2 hb3 (Nat.le_refl _)
  rcases hzz with rfl | hpos
  · go_wp2_with fail
    go_ret
    exact ⟨rfl, W3⟩
  · have d3 : decide (z < 0) = false := decide_eq_false (by omega)
    go_wp2_with fail
    go_ret
    exact ⟨rfl, W3⟩
set_option maxHeartbeats 2000000 in
set_option maxRecDepth 20000 in
theorem laws_eqNoise_same (d : Int) (pj pd ps qj qd qs : Option Addr) (j e : List Int) (L M : List Flx) (cj cd cs dj dd ds : Nat) (w : World) (h1 : IntsAt w pj j) (h2 : IntsAt w pd e) (h3 : SpansAt w ps L) (k1 : IntsAt w qj j) (k2 : IntsAt w qd e) (k3 : SpansAt w qs M) (hs : SameS L M) (hj : j.length ≤ 9000000) (he : e.length ≤ 9000000) (hl : L.length ≤ 1048576) (hg : ∀ s ∈ L, s.g.l.length ≤ 1048576) :
    Calls Try.prog 37 #[.agg #[.int .i64 d, .slice pj j.length cj, .slice pd e.length cd, .slice ps L.length cs], .agg #[.int .i64 d, .slice qj j.length dj, .slice qd e.length dd, .slice qs M.length ds]] w fun e' w' => e' = .returned (.bool true) ∧ Below w.heap.size w w' := by
  have B0 := (Blk.new w 53 #[.int .i64 d, .slice pj j.length cj, .slice pd e.length cd, .slice ps L.length cs]).alloc' (.cells #[.int .i64 d, .slice qj j.length dj, .slice qd e.length dd, .slice qs M.length ds] 53)
  have C0 := Blk.new (w.alloc (.cells #[.int .i64 d, .slice pj j.length cj, .slice pd e.length cd, .slice ps L.length cs] 53)) 53 #[.int .i64 d, .slice qj j.length dj, .slice qd e.length dd, .slice qs M.length ds]
  have esz : (w.alloc (.cells #[.int .i64 d, .slice pj j.length cj, .slice pd e.length cd, .slice ps L.length cs] 53)).heap.size = w.heap.size + 1 := by simp
  rw [esz] at C0
  have W0 : Below w.heap.size w ((w.alloc (.cells #[.int .i64 d, .slice pj j.length cj, .slice pd e.length cd, .slice ps L.length cs] 53)).alloc (.cells #[.int .i64 d, .slice qj j.length dj, .slice qd e.length dd, .slice qs M.length ds] 53)) := ((Below.refl _ _).alloc (Nat.le_refl _) _).alloc (by simp) _
  clear esz
  go_enter Try.func37, Try.ntmps37
  go_wp2_with fail
  generalize (w.alloc (.cells #[.int .i64 d, .slice pj j.length cj, .slice pd e.length cd, .slice ps L.length cs] 53)).alloc (.cells #[.int .i64 d, .slice qj j.length dj, .slice qd e.length dd, .slice qs M.length ds] 53) = w0 at B0 C0 W0 ⊢
  refine (laws_eqInt64S _ _ _ _ _ _ _ (h1.below W0) (k1.below W0) hj).mono ?_
  rintro e' w1 ⟨rfl, hb1⟩
  rw [decide_eq_true rfl]
  have B1 := B0.keep hb1
  have C1 := C0.keep hb1
  have W1 := below_st W0 hb1 (Nat.le_refl _)
  obtain ⟨b0, b1, b2, b3⟩ := B1.cell4
  obtain ⟨c0, c1, c2, c3⟩ := C1.cell4
  go_wp2_with fail
  refine (laws_eqInt64S _ _ _ _ _ _ _ (h2.below W1) (k2.below W1) he).mono ?_
  rintro e' w2 ⟨rfl, hb2⟩
  rw [decide_eq_true rfl]
  have B2 := B1.keep hb2
  have C2 := C1.keep hb2
  have W2 := below_st W1 hb2 (Nat.le_refl _)
  clear b0 b1 b2 b3 c0 c1 c2 c3
  obtain ⟨b0, b1, b2, b3⟩ := B2.cell4
  obtain ⟨c0, c1, c2, c3⟩ := C2.cell4
  go_wp2_with fail
  refine (laws_eqSpanS_same _ _ _ _ _ _ _ (h3.below W2) (k3.below W2) hs hl hg).mono ?_
  rintro e' w3 ⟨rfl, hb3⟩
  have W3 := below_st W2 hb3 (Nat.le_refl _)
  go_wp2_with fail
  go_ret
  exact ⟨rfl, W3⟩
theorem Blk.set41 {w : World} {g : Nat} {t : TypeId} {a b c d : Value} (h : Blk w g t #[a, b, c, d]) (x : Value) : Blk (w.setCell ⟨g, 1, none⟩ x) g t #[a, x, c, d] := by simpa using h.setI 1 x
theorem Blk.set42 {w : World} {g : Nat} {t : TypeId} {a b c d : Value} (h : Blk w g t #[a, b, c, d]) (x : Value) : Blk (w.setCell ⟨g, 2, none⟩ x) g t #[a, b, x, d] := by simpa using h.setI 2 x
theorem Blk.set43 {w : World} {g : Nat} {t : TypeId} {a b c d : Value} (h : Blk w g t #[a, b, c, d]) (x : Value) : Blk (w.setCell ⟨g, 3, none⟩ x) g t #[a, b, c, x] := by simpa using h.setI 3 x
theorem Blk.set4 {w : World} {g : Nat} {t : TypeId} {a b c d : Value} (h : Blk w g t #[a, b, c, d]) (x y z u : Value) : Blk ((((w.setCell ⟨g, 0, none⟩ x).setCell ⟨g, 1, none⟩ y).setCell ⟨g, 2, none⟩ z).setCell ⟨g, 3, none⟩ u) g t #[x, y, z, u] := by
  have h0 : Blk (w.setCell ⟨g, 0, none⟩ x) g t #[x, b, c, d] := by simpa using h.setI 0 x
  exact ((h0.set41 y).set42 z).set43 u
theorem SpRow.off {w : World} {g n : Nat} {L L' : List Flx} (h : SpRow w g n L L') {b : Nat} (hb : b < g) (i : Nat) (v : Value) : SpRow (w.setCell ⟨b, i, none⟩ v) g n L L' := by
  obtain ⟨⟨cs, hB, hs, hc⟩, h2, h3, h4, h5⟩ := h
  exact ⟨⟨cs, hB.off (by omega) _ _, hs, hc⟩, h2, fun j hj hl => by obtain ⟨g', e, hg, hr⟩ := h3 j hj hl; exact ⟨g', e, hg, hr.off (by omega) _ _⟩, h4, h5⟩
set_option maxHeartbeats 4000000 in
set_option maxRecDepth 20000 in
theorem laws_toNoise (d : Int) (pj pd ps : Option Addr) (j e : List Int) (L : List Flx) (cj cd cs : Nat) (w : World) (h1 : IntsAt w pj j) (h2 : IntsAt w pd e) (h3 : SpansAt w ps L) (hj : j.length ≤ 1048576) (he : e.length ≤ 1048576) (hl : L.length ≤ 1048576) (hg : ∀ s ∈ L, s.g.l.length ≤ 1048576) :
    Calls Try.prog 36 #[.agg #[.int .i64 d, .slice pj j.length cj, .slice pd e.length cd, .slice ps L.length cs]] w fun e' w' => ∃ (g1 g2 g3 : Nat) (L' : List Flx), e' = .returned (.agg #[.int .i64 d, .slice (some ⟨g1, 0, none⟩) j.length j.length, .slice (some ⟨g2, 0, none⟩) e.length e.length, .slice (some ⟨g3, 0, none⟩) L.length L.length]) ∧ L'.length = L.length ∧ w.heap.size ≤ g1 ∧ g1 < g2 ∧ g2 < g3 ∧ RowI w' g1 j ∧ RowI w' g2 e ∧ SpRow w' g3 L.length L L' ∧ Below w.heap.size w w' := by
  have B0 := ((Blk.new w 61 #[.int .i64 d, .slice pj j.length cj, .slice pd e.length cd, .slice ps L.length cs]).alloc' (.cells #[.int .i64 0, .slice none 0 0, .slice none 0 0, .slice none 0 0] 53)).alloc' (.cells #[.int .i64 d, .slice none 0 0, .slice none 0 0, .slice none 0 0] 53)
  have R0 := (Blk.new (w.alloc (.cells #[.int .i64 d, .slice pj j.length cj, .slice pd e.length cd, .slice ps L.length cs] 61)) 53 #[.int .i64 0, .slice none 0 0, .slice none 0 0, .slice none 0 0]).alloc' (.cells #[.int .i64 d, .slice none 0 0, .slice none 0 0, .slice none 0 0] 53)
  have O0 := Blk.new ((w.alloc (.cells #[.int .i64 d, .slice pj j.length cj, .slice pd e.length cd, .slice ps L.length cs] 61)).alloc (.cells #[.int .i64 0, .slice none 0 0, .slice none 0 0, .slice none 0 0] 53)) 53 #[.int .i64 d, .slice none 0 0, .slice none 0 0, .slice none 0 0]
  have e2 : ((w.alloc (.cells #[.int .i64 d, .slice pj j.length cj, .slice pd e.length cd, .slice ps L.length cs] 61)).alloc (.cells #[.int .i64 0, .slice none 0 0, .slice none 0 0, .slice none 0 0] 53)).heap.size = w.heap.size + 1 + 1 := by simp
  have e1 : (w.alloc (.cells #[.int .i64 d, .slice pj j.length cj, .slice pd e.length cd, .slice ps L.length cs] 61)).heap.size = w.heap.size + 1 := by simp
  rw [e1] at R0
  rw [e2] at O0
  have W0 : Below w.heap.size w (((w.alloc (.cells #[.int .i64 d, .slice pj j.length cj, .slice pd e.length cd, .slice ps L.length cs] 61)).alloc (.cells #[.int .i64 0, .slice none 0 0, .slice none 0 0, .slice none 0 0] 53)).alloc (.cells #[.int .i64 d, .slice none 0 0, .slice none 0 0, .slice none 0 0] 53)) := (((Below.refl _ _).alloc (Nat.le_refl _) _).alloc (by simp) _).alloc (by simp; omega) _
  clear e1 e2
  go_enter Try.func36, Try.ntmps36
  go_wp2_with fail
  generalize ((w.alloc (.cells #[.int .i64 d, .slice pj j.length cj, .slice pd e.length cd, .slice ps L.length cs] 61)).alloc (.cells #[.int .i64 0, .slice none 0 0, .slice none 0 0, .slice none 0 0] 53)).alloc (.cells #[.int .i64 d, .slice none 0 0, .slice none 0 0, .slice none 0 0] 53) = w0 at B0 R0 O0 W0 ⊢
  have zo := O0.lt
  refine (laws_toInt64S _ _ _ _ (h1.below W0) hj).mono ?_
  rintro e' w1 ⟨rfl, r1, hb1⟩
  obtain ⟨g1, eg1⟩ : ∃ g1, w0.heap.size = g1 := ⟨_, rfl⟩
  rw [eg1] at r1 zo ⊢
  have B1 := B0.keep hb1
  have R1 := R0.keep hb1
  have O1 := O0.keep hb1
  have W1 := below_st W0 hb1 (Nat.le_refl _)
  obtain ⟨b0, b1, b2, b3⟩ := B1.cell4
  obtain ⟨o0, o1, o2, o3⟩ := O1.cell4
  have of := O1.frozen
  have ol := O1.lt
  have r1l := r1.lt
  replace O1 := O1.set41 (.slice (some ⟨g1, 0, none⟩) j.length j.length)
  replace B1 := B1.off (g' := w.heap.size + 1 + 1) (by omega) 1 (.slice (some ⟨g1, 0, none⟩) j.length j.length)
  replace R1 := R1.off (g' := w.heap.size + 1 + 1) (by omega) 1 (.slice (some ⟨g1, 0, none⟩) j.length j.length)
  replace r1 := r1.off (g' := w.heap.size + 1 + 1) (by omega) 1 (.slice (some ⟨g1, 0, none⟩) j.length j.length)
  replace W1 := W1.setCell (p := ⟨w.heap.size + 1 + 1, 1, none⟩) (by show w.heap.size ≤ w.heap.size + 1 + 1; omega) (.slice (some ⟨g1, 0, none⟩) j.length j.length)
  go_wp2_with fail
  generalize w1.setCell ⟨w.heap.size + 1 + 1, 1, none⟩ (.slice (some ⟨g1, 0, none⟩) j.length j.length) = w2 at O1 B1 R1 r1 W1 ⊢
  clear b0 b1 b2 b3 o0 o1 o2 o3 of ol hb1 B0 R0 O0 W0
  refine (laws_toInt64S _ _ _ _ (h2.below W1) he).mono ?_
  rintro e' w3 ⟨rfl, r2, hb2⟩
  obtain ⟨g2, eg2⟩ : ∃ g2, w2.heap.size = g2 := ⟨_, rfl⟩
  have hg12 : g1 < g2 := by have := r1.lt; omega
  rw [eg2] at r2 ⊢
  have B2 := B1.keep hb2
  have R2 := R1.keep hb2
  have O2 := O1.keep hb2
  have W2 := below_st W1 hb2 (Nat.le_refl _)
  replace r1 := r1.below hb2
  obtain ⟨b0, b1, b2, b3⟩ := B2.cell4
  obtain ⟨o0, o1, o2, o3⟩ := O2.cell4
  have of := O2.frozen
  have ol := O2.lt
  replace O2 := O2.set42 (.slice (some ⟨g2, 0, none⟩) e.length e.length)
  replace B2 := B2.off (g' := w.heap.size + 1 + 1) (by omega) 2 (.slice (some ⟨g2, 0, none⟩) e.length e.length)
  replace R2 := R2.off (g' := w.heap.size + 1 + 1) (by omega) 2 (.slice (some ⟨g2, 0, none⟩) e.length e.length)
  replace r1 := r1.off (g' := w.heap.size + 1 + 1) (by omega) 2 (.slice (some ⟨g2, 0, none⟩) e.length e.length)
  replace r2 := r2.off (g' := w.heap.size + 1 + 1) (by omega) 2 (.slice (some ⟨g2, 0, none⟩) e.length e.length)
  replace W2 := W2.setCell (p := ⟨w.heap.size + 1 + 1, 2, none⟩) (by show w.heap.size ≤ w.heap.size + 1 + 1; omega) (.slice (some ⟨g2, 0, none⟩) e.length e.length)
  go_wp2_with fail
  generalize w3.setCell ⟨w.heap.size + 1 + 1, 2, none⟩ (.slice (some ⟨g2, 0, none⟩) e.length e.length) = w4 at O2 B2 R2 r1 r2 W2 ⊢
  clear b0 b1 b2 b3 o0 o1 o2 o3 of ol hb2 B1 R1 O1 W1
  refine (laws_toSpanS _ _ _ _ (h3.below W2) hl hg).mono ?_
  rintro e' w5 ⟨rfl, ⟨L', hL', r3⟩, hb3⟩
  obtain ⟨g3, eg3⟩ : ∃ g3, w4.heap.size = g3 := ⟨_, rfl⟩
  have hg23 : g2 < g3 := by have := r2.lt; omega
  rw [eg3] at r3 ⊢
  have B3 := B2.keep hb3
  have R3 := R2.keep hb3
  have O3 := O2.keep hb3
  have W3 := below_st W2 hb3 (Nat.le_refl _)
  replace r1 := r1.below hb3
  replace r2 := r2.below hb3
  obtain ⟨o0, o1, o2, o3⟩ := O3.cell4
  have of := O3.frozen
  have ol := O3.lt
  replace O3 := O3.set43 (.slice (some ⟨g3, 0, none⟩) L.length L.length)
  replace R3 := R3.off (g' := w.heap.size + 1 + 1) (by omega) 3 (.slice (some ⟨g3, 0, none⟩) L.length L.length)
  replace r1 := r1.off (g' := w.heap.size + 1 + 1) (by omega) 3 (.slice (some ⟨g3, 0, none⟩) L.length L.length)
  replace r2 := r2.off (g' := w.heap.size + 1 + 1) (by omega) 3 (.slice (some ⟨g3, 0, none⟩) L.length L.length)
  replace r3 := r3.off (b := w.heap.size + 1 + 1) (by omega) 3 (.slice (some ⟨g3, 0, none⟩) L.length L.length)
  replace W3 := W3.setCell (p := ⟨w.heap.size + 1 + 1, 3, none⟩) (by show w.heap.size ≤ w.heap.size + 1 + 1; omega) (.slice (some ⟨g3, 0, none⟩) L.length L.length)
  obtain ⟨p0, p1, p2, p3⟩ := O3.cell4
  obtain ⟨q0, q1, q2, q3⟩ := R3.cell4
  have qf := R3.frozen
  have ql := R3.lt
  obtain ⟨e0, e1, e2, e3⟩ := (R3.set4 (.int .i64 d) (.slice (some ⟨g1, 0, none⟩) j.length j.length) (.slice (some ⟨g2, 0, none⟩) e.length e.length) (.slice (some ⟨g3, 0, none⟩) L.length L.length)).cell4
  go_wp2_with fail
  refine bodyPost_ret (v := .agg #[.int .i64 d, (.slice (some ⟨g1, 0, none⟩) j.length j.length), (.slice (some ⟨g2, 0, none⟩) e.length e.length), (.slice (some ⟨g3, 0, none⟩) L.length L.length)]) (by simp [results, Try.results36, go_sem, e0, e1, e2, e3]) rfl ?_
  exact ⟨g1, g2, g3, L', rfl, hL', by omega, hg12, hg23, ((((r1.off (g' := w.heap.size + 1) (by omega) 0 _).off (g' := w.heap.size + 1) (by omega) 1 _).off (g' := w.heap.size + 1) (by omega) 2 _).off (g' := w.heap.size + 1) (by omega) 3 _), ((((r2.off (g' := w.heap.size + 1) (by omega) 0 _).off (g' := w.heap.size + 1) (by omega) 1 _).off (g' := w.heap.size + 1) (by omega) 2 _).off (g' := w.heap.size + 1) (by omega) 3 _), ((((r3.off (b := w.heap.size + 1) (by omega) 0 _).off (b := w.heap.size + 1) (by omega) 1 _).off (b := w.heap.size + 1) (by omega) 2 _).off (b := w.heap.size + 1) (by omega) 3 _), (((W3.setCell (p := ⟨w.heap.size + 1, 0, none⟩) (Nat.le_succ _) _).setCell (p := ⟨w.heap.size + 1, 1, none⟩) (Nat.le_succ _) _).setCell (p := ⟨w.heap.size + 1, 2, none⟩) (Nat.le_succ _) _).setCell (p := ⟨w.heap.size + 1, 3, none⟩) (Nat.le_succ _) _⟩
end Go.Proofs.Ytfdcainjppljhaa
namespace Go.Proofs.Ytfdcainjppljhaa
open Go.RowKit
set_option linter.unusedVariables false
def flx0 : Flx := ⟨0, 0, ⟨none, [], 0⟩⟩
def spanB (s : Flx) : Bool := spanOk s.cell s.first s.g.l
def spsG (L : List Flx) (i : Nat) : Bool := spanB (L.getD i flx0) && (i == 0 || decide ((L.getD (i - 1) flx0).first ≤ (L.getD i flx0).cell))
def spsB (L : List Flx) : Bool := (List.range L.length).all (spsG L)
theorem spsB_no {L : List Flx} {k : Nat} (hk : k < L.length) (h : spsG L k = false) : spsB L = false := by
  unfold spsB
  exact List.all_eq_false.2 ⟨k, List.mem_range.2 hk, by rw [h]; decide⟩
theorem spsB_yes {L : List Flx} (h : ∀ k, k < L.length → spsG L k = true) : spsB L = true := by
  unfold spsB
  exact List.all_eq_true.2 fun k hk => h k (List.mem_range.1 hk)
theorem getD_flx {L : List Flx} {k : Nat} (hk : k < L.length) : L.getD k flx0 = L[k] := by rw [List.getD_eq_getElem?_getD, List.getElem?_eq_getElem hk]; rfl
def nzB (d : Int) (j e : List Int) (L : List Flx) : Bool := inB d (-100) 100 && (jitOk j && (risesB e 0 3999 && (decide (L.length ≤ 8) && spsB L)))
set_option maxHeartbeats 8000000 in
set_option maxRecDepth 20000 in
theorem spec_l04SpanQ (a b : Int) (p : Option Addr) (t : List Int) (cap g o : Nat) (w : World) (hI : IntsAt w p t) (hl : t.length ≤ 1048576) (h0 : w.cell? ⟨g, o, none⟩ = some (.int .i64 a)) (h1 : w.cell? ⟨g, o + 1, none⟩ = some (.int .i64 b)) (h2 : w.cell? ⟨g, o + 2, none⟩ = some (.slice p t.length cap)) :
    Calls Try.prog 62 #[.pointer (some ⟨g, o, none⟩)] w fun e w' => e = .returned (.bool (spanOk a b t)) ∧ ∃ n, w' = w.drewN n := by
  obtain hB | hB := (Bool.eq_false_or_eq_true (inB b 0 2000000)).symm
  · have hqb := fun w n => l00In_q b 0 2000000 w n
    simp only [hB] at hqb
    have HV : Hid (spanOk a b t = false) := Lib.hid (by
      cases h : spanOk a b t
      · rfl
      · have := spanOk_bd h
        rw [inB_yes (by omega)] at hB; cases hB)
    clear hB
    go_enter Try.func62, Try.ntmps62
    go_wp2_with fail
    go_quiet (exact hqb _ _)
    go_wp2_with fail
    go_ret
    exact ⟨ret_bool (by rw [HV.out]), ⟨_, rfl⟩⟩
  have hbb := inB_iff.1 hB
  have hqb := fun w n => l00In_q b 0 2000000 w n
  simp only [hB] at hqb
  have q1 : IntKind.i64.wrap (b - 1) = b - 1 := IntWalk.i64_in _ (by omega)
  obtain hA | hA := (Bool.eq_false_or_eq_true (inB a 0 b)).symm
  · have hqa := fun w n => l00In_q a 0 b w n
    simp only [hA] at hqa
    have HV : Hid (spanOk a b t = false) := Lib.hid (by unfold spanOk; rw [hA]; rfl)
    clear hA hB
    go_enter Try.func62, Try.ntmps62
    go_wp2_with fail
    go_quiet (first | with_reducible exact hqb _ _ | with_reducible exact hqa _ _)
    go_wp2_with fail
    go_ret
    exact ⟨ret_bool (by rw [HV.out]), ⟨_, rfl⟩⟩
  have hqa := fun w n => l00In_q a 0 b w n
  simp only [hA] at hqa
  have HV : Hid (spanOk a b t = risesB t a (b - 1)) := Lib.hid (by unfold spanOk; rw [hA, decide_eq_true hbb.2]; rfl)
  have hr : ∀ n, Calls Try.prog 90 #[.slice p t.length cap, .int .i64 a, .int .i64 (b - 1)] (w.drewN n) fun e w'' => e = .returned (.bool (risesB t a (b - 1))) ∧ ∃ m, w'' = w.drewN m := fun n =>
    (spec_l00RisesQ p t cap a (b - 1) (w.drewN n) hI hl).mono fun e w'' ⟨h, m, hm⟩ => ⟨h, n + m, by rw [hm]; simp [World.drewN, Nat.add_assoc]⟩
  generalize risesB t a (b - 1) = r at HV hr
  clear hA hB
  go_enter Try.func62, Try.ntmps62
  go_wp2_with fail
  go_quiet (first | with_reducible exact hqb _ _ | with_reducible exact hqa _ _ | with_reducible exact hr _)
  go_wp2_with fail
  go_ret
  exact ⟨ret_bool (by rw [HV.out]), ⟨_, rfl⟩⟩
theorem addr_cell {w : World} {p : Addr} {v : Value} (h : w.cell? p = some v) : p = ⟨p.block, p.off, none⟩ := by
  obtain ⟨b, o, s⟩ := p
  cases s with
  | none => rfl
  | some s => unfold World.cell? at h; split at h <;> simp at h
set_option maxHeartbeats 4000000 in
set_option maxRecDepth 20000 in
theorem spec_l04Ok (d : Int) (pj pd ps : Option Addr) (j e : List Int) (L : List Flx) (cj cd cs : Nat) (g : Nat) (w : World) (B0 : Blk w g 53 #[.int .i64 d, .slice pj j.length cj, .slice pd e.length cd, .slice ps L.length cs]) (h1 : IntsAt w pj j) (h2 : IntsAt w pd e) (h3 : SpansAt w ps L) (hj : j.length ≤ 1048576) (he : e.length ≤ 1048576) (hl : L.length ≤ 1048576) (hg : ∀ s ∈ L, s.g.l.length ≤ 1048576) :
    Calls Try.prog 73 #[.pointer (some ⟨g, 0, none⟩)] w fun e' w' => e' = .returned (.bool (nzB d j e L)) ∧ Below w.heap.size w w' := by
  have W0 := Below.refl w.heap.size w
  obtain ⟨c0, c1, c2, c3⟩ := B0.cell4
  obtain k1 | k1 := (Bool.eq_false_or_eq_true (inB d (-100) 100)).symm
  · have H1 := Lib.hid k1
    have HV : Hid (nzB d j e L = false) := Lib.hid (by unfold nzB; rw [k1]; rfl)
    clear k1
    go_enter Try.func73, Try.ntmps73
    go_wp2_with fail
    refine (spec_l04Drift d _).mono ?_
    rintro e' w1 ⟨rfl, hb1⟩
    rw [H1.out]
    have W1 := below_st W0 hb1 (Nat.le_refl _)
    go_wp2_with fail
    go_ret
    exact ⟨ret_bool (by rw [HV.out]), W1⟩
  obtain k2 | k2 := (Bool.eq_false_or_eq_true (jitOk j)).symm
  · have H1 := Lib.hid k1
    have H2 := Lib.hid k2
    have HV : Hid (nzB d j e L = false) := Lib.hid (by unfold nzB; rw [k1, k2]; rfl)
    clear k1 k2
    go_enter Try.func73, Try.ntmps73
    go_wp2_with fail
    refine (spec_l04Drift d _).mono ?_
    rintro e' w1 ⟨rfl, hb1⟩
    rw [H1.out]
    have B1 := B0.keep hb1
    have W1 := below_st W0 hb1 (Nat.le_refl _)
    clear c0 c1 c2 c3
    obtain ⟨c0, c1, c2, c3⟩ := B1.cell4
    go_wp2_with fail
    refine (spec_l04Jitter _ _ _ _ (h1.below W1) hj).mono ?_
    rintro e' w2 ⟨rfl, hb2⟩
    rw [H2.out]
    have W2 := below_st W1 hb2 (Nat.le_refl _)
    go_wp2_with fail
    go_ret
    exact ⟨ret_bool (by rw [HV.out]), W2⟩
  have H1 := Lib.hid k1
  have H2 := Lib.hid k2
  obtain k3 | k3 := (Bool.eq_false_or_eq_true (risesB e 0 3999)).symm
  · have H3 := Lib.hid k3
    have HV : Hid (nzB d j e L = false) := Lib.hid (by unfold nzB; rw [k1, k2, k3]; rfl)
    clear k1 k2 k3
    go_enter Try.func73, Try.ntmps73
    go_wp2_with fail
    refine (spec_l04Drift d _).mono ?_
    rintro e' w1 ⟨rfl, hb1⟩
    rw [H1.out]
    have B1 := B0.keep hb1
    have W1 := below_st W0 hb1 (Nat.le_refl _)
    clear c0 c1 c2 c3
    obtain ⟨c0, c1, c2, c3⟩ := B1.cell4
    go_wp2_with fail
    refine (spec_l04Jitter _ _ _ _ (h1.below W1) hj).mono ?_
    rintro e' w2 ⟨rfl, hb2⟩
    rw [H2.out]
    have B2 := B1.keep hb2
    have W2 := below_st W1 hb2 (Nat.le_refl _)
    clear c0 c1 c2 c3
    obtain ⟨c0, c1, c2, c3⟩ := B2.cell4
    go_wp2_with fail
    refine (spec_l04Drops _ _ _ _ (h2.below W2) he).mono ?_
    rintro e' w3 ⟨rfl, hb3⟩
    rw [H3.out]
    have W3 := below_st W2 hb3 (Nat.le_refl _)
    go_wp2_with fail
    go_ret
    exact ⟨ret_bool (by rw [HV.out]), W3⟩
  have H3 := Lib.hid k3
  have HN : Hid (nzB d j e L = (decide (L.length ≤ 8) && spsB L)) := Lib.hid (by unfold nzB; rw [k1, k2, k3]; rfl)
  clear k1 k2 k3
  go_enter Try.func73, Try.ntmps73
  go_wp2_with fail
  refine (spec_l04Drift d _).mono ?_
  rintro e' w1 ⟨rfl, hb1⟩
  rw [H1.out]
  have B1 := B0.keep hb1
  have W1 := below_st W0 hb1 (Nat.le_refl _)
  clear c0 c1 c2 c3
  obtain ⟨c0, c1, c2, c3⟩ := B1.cell4
  go_wp2_with fail
  refine (spec_l04Jitter _ _ _ _ (h1.below W1) hj).mono ?_
  rintro e' w2 ⟨rfl, hb2⟩
  rw [H2.out]
  have B2 := B1.keep hb2
  have W2 := below_st W1 hb2 (Nat.le_refl _)
  clear c0 c1 c2 c3
  obtain ⟨c0, c1, c2, c3⟩ := B2.cell4
  go_wp2_with fail
  refine (spec_l04Drops _ _ _ _ (h2.below W2) he).mono ?_
  rintro e' w3 ⟨rfl, hb3⟩
  rw [H3.out]
  have B3 := B2.keep hb3
  have W3 := below_st W2 hb3 (Nat.le_refl _)
  clear c0 c1 c2 c3 hb1 hb2 hb3 B1 B2 W0 W1 W2
  obtain ⟨c0, c1, c2, c3⟩ := B3.cell4
  by_cases h8 : L.length ≤ 8
  rotate_left
  · have hd : decide ((8 : Int) < (L.length : Int)) = true := decide_eq_true (by omega)
    go_wp2_with fail
    go_ret
    exact ⟨ret_bool (by rw [HN.out, decide_eq_false h8]; rfl), W3⟩
  have hd : decide ((8 : Int) < (L.length : Int)) = false := decide_eq_false (by omega)
  have HN2 : Hid (nzB d j e L = spsB L) := Lib.hid (by rw [HN.out, decide_eq_true h8]; rfl)
  go_wp2_with fail
  go_loopw [3] (fun i wr => ∃ k : Nat, k ≤ L.length ∧ i = .int .i64 k ∧ Hid (∀ m, m < k → spsG L m = true) ∧ Below w.heap.size w wr ∧ Blk wr g 53 #[.int .i64 d, .slice pj j.length cj, .slice pd e.length cd, .slice ps L.length cs]) (fun i _ => L.length - (intOf i).toNat)
  case atStart => exact ⟨0, Nat.zero_le _, rfl, fun m h => absurd h (Nat.not_lt_zero _), W3, B3⟩
  case round =>
    clear c0 c1 c2 c3
    obtain ⟨k, hk, rfl, HA, hbel, hB⟩ := hrel
    by_cases hlt : k < L.length
    · obtain ⟨a, hpa, hab, c0, c1, c2, hIk⟩ := (h3.below hbel).at_ hlt
      have hgl := hg _ (List.getElem_mem hlt)
      have hG : spsG L k = (spanB L[k] && (k == 0 || decide ((L.getD (k - 1) flx0).first ≤ L[k].cell))) := by unfold spsG; rw [getD_flx hlt]
      have hprev : k = 0 ∨ ∃ z, (0 < k ∧ (L.getD (k - 1) flx0).first = z ∧ wr.cell? ⟨(a.add ((k - 1) * 3)).block, (a.add ((k - 1) * 3)).off + 1, none⟩ = some (.int .i64 z)) := by
        rcases Nat.eq_zero_or_pos k with h | h
        · exact .inl h
        · obtain ⟨a', ha', -, -, e1, -⟩ := (h3.below hbel).at_ (k := k - 1) (by omega)
          rw [hpa] at ha'
          injection ha' with ha'
          subst ha'
          exact .inr ⟨_, h, by rw [getD_flx (show k - 1 < L.length by omega)], e1⟩
      subst hpa
      obtain ⟨⟨x, y, ⟨pg, lg, cg⟩⟩, es⟩ : ∃ s, L[k] = s := ⟨_, rfl⟩
      rw [es] at c0 c1 c2 hIk hgl hG
      simp only [Num.val] at c0 c1 c2 hIk hgl
      have HG0 : Hid (spsG L k = (spanOk x y lg && (k == 0 || decide ((L.getD (k - 1) flx0).first ≤ x)))) := Lib.hid hG
      clear hG es
      obtain ⟨b0, b1, b2, b3⟩ := hB.cell4
      have hpk : a.add (k * 3) = ⟨(a.add (k * 3)).block, (a.add (k * 3)).off, none⟩ := addr_cell c0
      have hq : ∀ n, Calls Try.prog 62 #[.pointer (some (a.add (k * 3)))] (wr.drewN n) fun e w'' => e = .returned (.bool (spanOk x y lg)) ∧ ∃ m, w'' = wr.drewN m := fun n => by
        have h := spec_l04SpanQ x y pg lg cg (a.add (k * 3)).block (a.add (k * 3)).off (wr.drewN n) hIk hgl (hpk ▸ c0) c1 c2
        rw [← hpk] at h
        exact h.mono fun e w'' ⟨h1, m, h2⟩ => ⟨h1, n + m, by rw [h2]; simp [World.drewN, Nat.add_assoc]⟩
      clear hpk
      obtain hs | hs := (Bool.eq_false_or_eq_true (spanOk x y lg)).symm
      · have HV : Hid (spsB L = false) := Lib.hid (spsB_no hlt (by rw [HG0.out, hs]; rfl))
        simp only [hs] at hq
        clear hs hprev
        go_wp2_with fail
        go_quiet (with_reducible exact hq _)
        go_wp2_with fail
        go_ret
        exact ⟨ret_bool (by rw [HN2.out, HV.out]), below_drewN hbel _⟩
      · simp only [hs] at hq
        rcases hprev with hk0 | ⟨z, hkp, hzf, hzc⟩
        · have HN1 : Hid (spsG L k = true) := Lib.hid (by rw [HG0.out, hs, hk0]; rfl)
          subst hk0
          clear hs
          simp only [Nat.zero_mul, Addr.add_zero'] at hq c0 c1 c2
          go_wp2_with fail
          go_quiet (with_reducible exact hq _)
          go_wp2_with fail
          exact ⟨⟨1, by omega, by go_num, fun m hm => by rw [show m = 0 by omega]; exact HN1.out, below_drewN hbel _, hB⟩, by simp [intOf]; omega⟩
        · have d0 : decide ((0 : Int) < (k : Int)) = true := decide_eq_true (by omega)
          have i0 : 0 ≤ (k : Int) - 1 := by omega
          have i1 : (k : Int) - 1 < (L.length : Int) := by omega
          have qk : IntKind.i64.wrap ((k : Int) - 1) = (k : Int) - 1 := IntWalk.i64_in _ (by omega)
          have hk1 : (k == 0) = false := by simp; omega
          by_cases hxz : x < z
          · have HV : Hid (spsB L = false) := Lib.hid (spsB_no hlt (by rw [HG0.out, hs, hk1, hzf, decide_eq_false (by omega : ¬ z ≤ x)]; rfl))
            have d1 : decide (x < z) = true := decide_eq_true hxz
            clear hs hzf hk1
            go_wp2_with fail
            go_quiet (with_reducible exact hq _)
            go_wp2_with fail
            go_ret
            exact ⟨ret_bool (by rw [HN2.out, HV.out]), below_drewN hbel _⟩
          · have HN1 : Hid (spsG L k = true) := Lib.hid (by rw [HG0.out, hs, hk1, hzf, decide_eq_true (by omega : z ≤ x)]; rfl)
            have d1 : decide (x < z) = false := decide_eq_false hxz
            clear hs hzf hk1
            go_wp2_with fail
            go_quiet (with_reducible exact hq _)
            go_wp2_with fail
            exact ⟨⟨k + 1, by omega, by go_num, fun m hm => by rcases Nat.lt_or_ge m k with h | h; exact HA.out m h; rw [show m = k by omega]; exact HN1.out, below_drewN hbel _, hB⟩, by simp [intOf]; omega⟩
    · have HV : Hid (spsB L = true) := Lib.hid (spsB_yes fun m hm => HA.out m (by omega))
      obtain ⟨b0, b1, b2, b3⟩ := hB.cell4
      go_wp2_with fail
      go_ret
      exact ⟨ret_bool (by rw [HN2.out, HV.out]), hbel⟩

end Go.Proofs.Ytfdcainjppljhaa
namespace Go.Proofs.Ytfdcainjppljhaa
open Go.RowKit Go.Sort
set_option linter.unusedVariables false
set_option maxHeartbeats 1000000 in
set_option maxRecDepth 20000 in
theorem impl_risesX (p : Option Addr) (l : List Int) (cap : Nat) (lo hi : Int) (w : World) (hI : IntsAt w p l) (hl : l.length ≤ 1048576) :
    Calls Try.prog 88 #[.slice p l.length cap, .int .i64 lo, .int .i64 hi] w fun e w' => e = .returned (.bool (risesB l lo hi)) ∧ w' = w := by
  go_enter Try.func88, Try.ntmps88
  go_wp2_with fail
  go_loopw [11] (fun i wr => ∃ k : Nat, k ≤ l.length ∧ i = .int .i64 k ∧ risesK l lo hi k ∧ wr = w) (fun i _ => l.length - (intOf i).toNat)
  case atStart => exact ⟨0, Nat.zero_le _, rfl, fun i _ h => absurd h (Nat.not_lt_zero _), rfl⟩
  case round =>
    obtain ⟨k, hk, rfl, hr, rfl⟩ := hrel
    by_cases hlt : k < l.length
    · obtain ⟨a, rfl, hx⟩ := hI.at_ hlt
      have hno := @risesB_no l lo hi k hlt
      have HR := Lib.hid hr
      clear hr
      obtain ⟨x, ex⟩ : ∃ x, l[k] = x := ⟨_, rfl⟩
      rw [ex] at hx hno
      have EX := Lib.hid ex
      have HN := Lib.hid hno
      clear ex hno
      cases hin : inB x lo hi
      · have HI := Lib.hid hin
        clear hin
        go_wp2_with (go_at_call 48; refine (within_any _ _ _ _).mono ?_; rintro e w' ⟨rfl, rfl⟩; try rw [HI.out])
        go_ret
        exact ⟨ret_bool (HN.out (.inl HI.out)).symm, rfl⟩
      · have HI := Lib.hid hin
        clear hin
        by_cases h0 : k = 0
        · subst h0
          have hx0 : wr.cell? a = some (.int .i64 x) := by rw [Addr.add_zero'] at hx; exact hx
          go_wp2_with (go_at_call 48; refine (within_any _ _ _ _).mono ?_; rintro e w' ⟨rfl, rfl⟩; try rw [HI.out])
          refine ⟨⟨1, by omega, rfl, ?_, trivial⟩, by simp [intOf]; omega⟩
          intro i h hi1
          have : i = 0 := by omega
          subst this
          exact ⟨by rw [EX.out]; exact HI.out, fun h => absurd h (by omega)⟩
        · obtain ⟨a', ha', hy⟩ := hI.at_ (k := k - 1) (by omega)
          cases ha'
          obtain ⟨y, ey⟩ : ∃ y, l[k - 1]'(by omega) = y := ⟨_, rfl⟩
          rw [ey] at hy
          have EY := Lib.hid ey
          clear ey
          have g0 : decide (0 < (k : Int)) = true := by simp; omega
          have g1 : decide (0 < k) = true := by simp; omega
          have i0 : 1 ≤ (k : Int) := by omega
          have i1 : 0 ≤ (k : Int) - 1 := by omega
          have i2 : (k : Int) - 1 < (l.length : Int) := by omega
          have q1 : IntKind.i64.wrap ((k : Int) - 1) = (k : Int) - 1 := IntWalk.i64_in _ (by omega)
          by_cases hyx : x ≤ y
          · have hd : decide (x ≤ y) = true := by simp [hyx]
            go_wp2_with (go_at_call 48; refine (within_any _ _ _ _).mono ?_; rintro e w' ⟨rfl, rfl⟩; try rw [HI.out])
            go_ret
            exact ⟨ret_bool (HN.out (.inr ⟨by omega, by rw [EY.out]; omega⟩)).symm, rfl⟩
          · have hd : decide (x ≤ y) = false := by simp; omega
            go_wp2_with (go_at_call 48; refine (within_any _ _ _ _).mono ?_; rintro e w' ⟨rfl, rfl⟩; try rw [HI.out])
            refine ⟨⟨k + 1, by omega, by go_num, ?_, trivial⟩, by simp [intOf]; omega⟩
            intro i h hi1
            by_cases e : i = k
            · subst e
              exact ⟨by rw [EX.out]; exact HI.out, fun _ => by rw [EX.out, EY.out]; omega⟩
            · exact HR.out i h (by omega)
    · have e : k = l.length := by omega
      subst e
      have HR := Lib.hid hr
      clear hr
      go_wp2_with fail
      go_ret
      exact ⟨ret_bool (risesK_all.2 HR.out).symm, rfl⟩
set_option maxHeartbeats 1000000 in
theorem impl_validSpanX (a b : Int) (p : Option Addr) (t : List Int) (cap : Nat) (w : World) (hI : IntsAt w p t) (hl : t.length ≤ 1048576) :
    Calls Try.prog 59 #[.agg #[.int .i64 a, .int .i64 b, .slice p t.length cap]] w fun e w' => e = .returned (.bool (spanOk a b t)) ∧ w' = w.alloc (.cells #[.int .i64 a, .int .i64 b, .slice p t.length cap] 36) := by
  have hA := (Below.refl w.heap.size w).alloc (Nat.le_refl _) (.cells #[.int .i64 a, .int .i64 b, .slice p t.length cap] 36)
  obtain h1 | h1 := (Bool.eq_false_or_eq_true (inB a 0 b)).symm
  · have H1 := Lib.hid h1
    have HV : Hid (spanOk a b t = false) := Lib.hid (by unfold spanOk; rw [h1]; rfl)
    clear h1
    go_enter Try.func59, Try.ntmps59
    go_wp2_with (go_at_call 48; refine (within_any _ _ _ _).mono ?_; rintro e w' ⟨rfl, rfl⟩; rw [H1.out])
    go_ret
    exact ⟨ret_bool (by rw [HV.out]), rfl⟩
  have hb := inB_iff.1 h1
  by_cases h2 : b ≤ 2000000
  · have q1 : IntKind.i64.wrap (b - 1) = b - 1 := IntWalk.i64_in _ (by omega)
    have H1 := Lib.hid h1
    have HV : Hid (spanOk a b t = risesB t a (b - 1)) := Lib.hid (by unfold spanOk; rw [h1, decide_eq_true h2]; rfl)
    clear h1
    go_enter Try.func59, Try.ntmps59
    go_wp2_with (first | (go_at_call 48; refine (within_any _ _ _ _).mono ?_; rintro e w' ⟨rfl, rfl⟩; rw [H1.out]) | (go_at_call 88; refine (impl_risesX p t cap a (b - 1) _ (hI.below hA) hl).mono ?_; rintro e w1 ⟨rfl, rfl⟩))
    go_ret
    exact ⟨ret_bool (by rw [HV.out]), rfl⟩
  · have H1 := Lib.hid h1
    have HV : Hid (spanOk a b t = false) := Lib.hid (by unfold spanOk; rw [h1, decide_eq_false h2]; rfl)
    clear h1
    go_enter Try.func59, Try.ntmps59
    go_wp2_with (go_at_call 48; refine (within_any _ _ _ _).mono ?_; rintro e w' ⟨rfl, rfl⟩; rw [H1.out])
    go_ret
    exact ⟨ret_bool (by rw [HV.out]), rfl⟩
theorem below_grow (w : World) (n : Nat) (os : Array Obj) : Below w.heap.size w (grow (w.drewN n) os) :=
  ⟨rfl, rfl, rfl, by simp, fun k hk => heap_grow_old (w.drewN n) os hk⟩
set_option maxHeartbeats 4000000 in
set_option maxRecDepth 20000 in
theorem impl_ValidNoise (d : Int) (pj pd ps : Option Addr) (j e : List Int) (L : List Flx) (cj cd cs : Nat) (w : World) (h1 : IntsAt w pj j) (h2 : IntsAt w pd e) (h3 : SpansAt w ps L) (hj : j.length ≤ 1048576) (he : e.length ≤ 1048576) (hl : L.length ≤ 1048576) (hg : ∀ s ∈ L, s.g.l.length ≤ 1048576) :
    Calls Try.prog 64 #[.agg #[.int .i64 d, .slice pj j.length cj, .slice pd e.length cd, .slice ps L.length cs]] w fun e' w' => e' = .returned (.bool (nzB d j e L)) ∧ Below w.heap.size w w' := by
  have B0 := Blk.new w 53 #[.int .i64 d, .slice pj j.length cj, .slice pd e.length cd, .slice ps L.length cs]
  have W0 := (Below.refl w.heap.size w).alloc (Nat.le_refl _) (.cells #[.int .i64 d, .slice pj j.length cj, .slice pd e.length cd, .slice ps L.length cs] 53)
  obtain k1 | k1 := (Bool.eq_false_or_eq_true (inB d (-100) 100)).symm
  · have H1 := Lib.hid k1
    have HV : Hid (nzB d j e L = false) := Lib.hid (by unfold nzB; rw [k1]; rfl)
    clear k1
    go_enter Try.func64, Try.ntmps64
    go_wp2_with fail
    refine (impl_validDrift d _).mono ?_
    rintro e' w1 ⟨rfl, hb1⟩
    rw [H1.out]
    have W1 := below_st W0 hb1 (Nat.le_refl _)
    go_wp2_with fail
    go_ret
    exact ⟨ret_bool (by rw [HV.out]), W1⟩
  obtain k2 | k2 := (Bool.eq_false_or_eq_true (jitOk j)).symm
  · have H1 := Lib.hid k1
    have H2 := Lib.hid k2
    have HV : Hid (nzB d j e L = false) := Lib.hid (by unfold nzB; rw [k1, k2]; rfl)
    clear k1 k2
    go_enter Try.func64, Try.ntmps64
    go_wp2_with fail
    generalize w.alloc (.cells #[.int .i64 d, .slice pj j.length cj, .slice pd e.length cd, .slice ps L.length cs] 53) = w0 at B0 W0 ⊢
    refine (impl_validDrift d _).mono ?_
    rintro e' w1 ⟨rfl, hb1⟩
    rw [H1.out]
    have B1 := B0.keep hb1
    have W1 := below_st W0 hb1 (Nat.le_refl _)
    obtain ⟨c0, c1, c2, c3⟩ := B1.cell4
    go_wp2_with fail
    refine (impl_validJitter _ _ _ _ (h1.below W1) hj).mono ?_
    rintro e' w2 ⟨rfl, hb2⟩
    rw [H2.out]
    have W2 := below_st W1 hb2 (Nat.le_refl _)
    go_wp2_with fail
    go_ret
    exact ⟨ret_bool (by rw [HV.out]), W2⟩
  have H1 := Lib.hid k1
  have H2 := Lib.hid k2
  obtain k3 | k3 := (Bool.eq_false_or_eq_true (risesB e 0 3999)).symm
  · have H3 := Lib.hid k3
    have HV : Hid (nzB d j e L = false) := Lib.hid (by unfold nzB; rw [k1, k2, k3]; rfl)
    clear k1 k2 k3
    go_enter Try.func64, Try.ntmps64
    go_wp2_with fail
    generalize w.alloc (.cells #[.int .i64 d, .slice pj j.length cj, .slice pd e.length cd, .slice ps L.length cs] 53) = w0 at B0 W0 ⊢
    refine (impl_validDrift d _).mono ?_
    rintro e' w1 ⟨rfl, hb1⟩
    rw [H1.out]
    have B1 := B0.keep hb1
    have W1 := below_st W0 hb1 (Nat.le_refl _)
    obtain ⟨c0, c1, c2, c3⟩ := B1.cell4
    go_wp2_with fail
    refine (impl_validJitter _ _ _ _ (h1.below W1) hj).mono ?_
    rintro e' w2 ⟨rfl, hb2⟩
    rw [H2.out]
    have B2 := B1.keep hb2
    have W2 := below_st W1 hb2 (Nat.le_refl _)
    clear c0 c1 c2 c3
    obtain ⟨c0, c1, c2, c3⟩ := B2.cell4
    go_wp2_with fail
    refine (impl_validDrops _ _ _ _ (h2.below W2) he).mono ?_
    rintro e' w3 ⟨rfl, hb3⟩
    rw [H3.out]
    have W3 := below_st W2 hb3 (Nat.le_refl _)
    go_wp2_with fail
    go_ret
    exact ⟨ret_bool (by rw [HV.out]), W3⟩
  have H3 := Lib.hid k3
  have HN : Hid (nzB d j e L = (decide (L.length ≤ 8) && spsB L)) := Lib.hid (by unfold nzB; rw [k1, k2, k3]; rfl)
  clear k1 k2 k3
  go_enter Try.func64, Try.ntmps64
  go_wp2_with fail
  generalize w.alloc (.cells #[.int .i64 d, .slice pj j.length cj, .slice pd e.length cd, .slice ps L.length cs] 53) = w0 at B0 W0 ⊢
  refine (impl_validDrift d _).mono ?_
  rintro e' w1 ⟨rfl, hb1⟩
  rw [H1.out]
  have B1 := B0.keep hb1
  have W1 := below_st W0 hb1 (Nat.le_refl _)
  obtain ⟨c0, c1, c2, c3⟩ := B1.cell4
  go_wp2_with fail
  refine (impl_validJitter _ _ _ _ (h1.below W1) hj).mono ?_
  rintro e' w2 ⟨rfl, hb2⟩
  rw [H2.out]
  have B2 := B1.keep hb2
  have W2 := below_st W1 hb2 (Nat.le_refl _)
  clear c0 c1 c2 c3
  obtain ⟨c0, c1, c2, c3⟩ := B2.cell4
  go_wp2_with fail
  refine (impl_validDrops _ _ _ _ (h2.below W2) he).mono ?_
  rintro e' w3 ⟨rfl, hb3⟩
  rw [H3.out]
  have B3 := B2.keep hb3
  have W3 := below_st W2 hb3 (Nat.le_refl _)
  clear c0 c1 c2 c3 hb1 hb2 hb3 B0 B1 B2 W0 W1 W2
  obtain ⟨c0, c1, c2, c3⟩ := B3.cell4
  by_cases h8 : L.length ≤ 8
  rotate_left
  · have hd : decide ((8 : Int) < (L.length : Int)) = true := decide_eq_true (by omega)
    go_wp2_with fail
    go_ret
    exact ⟨ret_bool (by rw [HN.out, decide_eq_false h8]; rfl), W3⟩
  have hd : decide ((8 : Int) < (L.length : Int)) = false := decide_eq_false (by omega)
  have HN2 : Hid (nzB d j e L = spsB L) := Lib.hid (by rw [HN.out, decide_eq_true h8]; rfl)
  go_wp2_with fail
  go_loopw [30] (fun i wr => ∃ k : Nat, k ≤ L.length ∧ i = .int .i64 k ∧ Hid (∀ m, m < k → spsG L m = true) ∧ Below w.heap.size w wr ∧ Blk wr w.heap.size 53 #[.int .i64 d, .slice pj j.length cj, .slice pd e.length cd, .slice ps L.length cs]) (fun i _ => L.length - (intOf i).toNat)
  case atStart => exact ⟨0, Nat.zero_le _, rfl, fun m h => absurd h (Nat.not_lt_zero _), W3, B3⟩
  case round =>
    clear c0 c1 c2 c3
    obtain ⟨k, hk, rfl, HA, hbel, hB⟩ := hrel
    by_cases hlt : k < L.length
    · obtain ⟨a, hpa, hab, c0, c1, c2, hIk⟩ := (h3.below hbel).at_ hlt
      have hgl := hg _ (List.getElem_mem hlt)
      have hG : spsG L k = (spanB L[k] && (k == 0 || decide ((L.getD (k - 1) flx0).first ≤ L[k].cell))) := by unfold spsG; rw [getD_flx hlt]
      have hprev : k = 0 ∨ ∃ z, (0 < k ∧ (L.getD (k - 1) flx0).first = z ∧ wr.cell? ⟨(a.add ((k - 1) * 3)).block, (a.add ((k - 1) * 3)).off + 1, none⟩ = some (.int .i64 z)) := by
        rcases Nat.eq_zero_or_pos k with h | h
        · exact .inl h
        · obtain ⟨a', ha', -, -, e1, -⟩ := (h3.below hbel).at_ (k := k - 1) (by omega)
          rw [hpa] at ha'
          injection ha' with ha'
          subst ha'
          exact .inr ⟨_, h, by rw [getD_flx (show k - 1 < L.length by omega)], e1⟩
      subst hpa
      obtain ⟨⟨x, y, ⟨pg, lg, cg⟩⟩, es⟩ : ∃ s, L[k] = s := ⟨_, rfl⟩
      rw [es] at c0 c1 c2 hIk hgl hG
      simp only [Num.val] at c0 c1 c2 hIk hgl
      have HG0 : Hid (spsG L k = (spanOk x y lg && (k == 0 || decide ((L.getD (k - 1) flx0).first ≤ x)))) := Lib.hid hG
      clear hG es
      obtain ⟨b0, b1, b2, b3⟩ := hB.cell4
      have W5 := hbel.alloc hbel.size (.cells #[.int .i64 x, .int .i64 y, .slice pg lg.length cg] 36)
      have B5 := hB.alloc' (.cells #[.int .i64 x, .int .i64 y, .slice pg lg.length cg] 36)
      have V5 := Blk.new wr 36 #[.int .i64 x, .int .i64 y, .slice pg lg.length cg]
      have I5 := hIk.alloc (.cells #[.int .i64 x, .int .i64 y, .slice pg lg.length cg] 36)
      have habw : a.block < wr.heap.size := hab
      have P5 := hprev.imp id fun ⟨z, hz0, hz1, hz2⟩ => (⟨z, hz0, hz1, ((Below.refl wr.heap.size wr).alloc (Nat.le_refl _) (.cells #[.int .i64 x, .int .i64 y, .slice pg lg.length cg] 36)).cell (p := ⟨(a.add ((k - 1) * 3)).block, (a.add ((k - 1) * 3)).off + 1, none⟩) (by show (a.add ((k - 1) * 3)).block < wr.heap.size; rw [Go.ChangeShapes.block_add]; exact hab) |>.trans hz2⟩ : ∃ z, 0 < k ∧ (L.getD (k - 1) flx0).first = z ∧ (wr.alloc (.cells #[.int .i64 x, .int .i64 y, .slice pg lg.length cg] 36)).cell? ⟨(a.add ((k - 1) * 3)).block, (a.add ((k - 1) * 3)).off + 1, none⟩ = some (Value.int .i64 z))
      have ha5 : a.block < (wr.alloc (.cells #[.int .i64 x, .int .i64 y, .slice pg lg.length cg] 36)).heap.size := by simp; omega
      clear hprev
      go_wp2_with fail
      obtain ⟨bw, ebw⟩ : ∃ bw, wr.heap.size = bw := ⟨_, rfl⟩
      generalize wr.alloc (.cells #[.int .i64 x, .int .i64 y, .slice pg lg.length cg] 36) = w5 at W5 B5 V5 I5 P5 ha5 ⊢
      rw [ebw] at V5 ⊢
      clear b0 b1 b2 b3 c0 c1 c2 hIk habw hab ebw
      have hq : ∀ n os, Calls Try.prog 59 #[.agg #[.int .i64 x, .int .i64 y, .slice pg lg.length cg]] (grow (w5.drewN n) os) fun e w'' => e = .returned (.bool (spanOk x y lg)) ∧ ∃ p : GrownBy, w'' = grow (w5.drewN p.n) p.os := fun n os =>
        Calls.grown_of ((impl_validSpanX x y pg lg cg _ (I5.below (below_grow w5 n os)) hgl).mono fun e w' ⟨h, hw⟩ => ⟨h, 0, #[.cells #[.int .i64 x, .int .i64 y, .slice pg lg.length cg] 36], by rw [hw, alloc_eq_grow]; rfl⟩)
      obtain ⟨v0, v1, v2⟩ := V5.cell3
      obtain ⟨n0, n1, n2, n3⟩ := B5.cell4
      have f0 := fun n os => cell_grown (a := ⟨bw, 0, none⟩) V5.lt v0 n os
      have f1 := fun n os => cell_grown (a := ⟨bw, 1, none⟩) V5.lt v1 n os
      have f2 := fun n os => cell_grown (a := ⟨bw, 2, none⟩) V5.lt v2 n os
      have f3 := fun n os => cell_grown (a := ⟨w.heap.size, 3, none⟩) B5.lt n3 n os
      clear v0 v1 v2 n0 n1 n2 n3
      obtain hs | hs := (Bool.eq_false_or_eq_true (spanOk x y lg)).symm
      · have HV : Hid (spsB L = false) := Lib.hid (spsB_no hlt (by rw [HG0.out, hs]; rfl))
        simp only [hs] at hq
        clear hs
        have hmx : Try.prog.follows .mixedOrders = true := by kernel_rfl
        refine wp_region_quiet_grown hmx (by kernel_rfl) ?_
        with_reducible refine wpQuiet_step (fun K hK => ?_)
        go_simp
        with_reducible refine hK _ ?_
        clear hK K
        with_reducible refine wpQuiet_step (fun K hK => ?_)
        go_simp
        apply Exists.intro
        with_reducible refine ⟨fun _ => ?_, hK _ ?_⟩
        with_reducible exact hq _ _
        clear hK K
        repeat ((with_reducible refine wpQuiet_step (fun K hK => ?_)); go_simp; (first | with_reducible refine hK _ ?_ | (rw [if_neg]; rotate_left; exact fun h => nomatch h; with_reducible refine hK _ ?_)); clear hK K)
        with_reducible refine wpQuiet_nil ?_
        intro _ hw'
        obtain ⟨⟨nq, osq⟩, hw''⟩ := hw'
        subst hw''
        have W6 := W5.trans ((below_grow w5 nq osq).mono W5.size)
        go_wp2_with fail
        go_ret
        exact ⟨ret_bool (by rw [HN2.out, HV.out]), W6⟩
      · simp only [hs] at hq
        rcases P5 with hk0 | ⟨z, hkp, hzf, hzc⟩
        · have HN1 : Hid (spsG L k = true) := Lib.hid (by rw [HG0.out, hs, hk0]; rfl)
          subst hk0
          clear hs
          have hmx : Try.prog.follows .mixedOrders = true := by kernel_rfl
          refine wp_region_quiet_grown hmx (by kernel_rfl) ?_
          with_reducible refine wpQuiet_step (fun K hK => ?_)
          go_simp
          with_reducible refine hK _ ?_
          clear hK K
          with_reducible refine wpQuiet_step (fun K hK => ?_)
          go_simp
          apply Exists.intro
          with_reducible refine ⟨fun _ => ?_, hK _ ?_⟩
          with_reducible exact hq _ _
          clear hK K
          repeat ((with_reducible refine wpQuiet_step (fun K hK => ?_)); go_simp; (first | with_reducible refine hK _ ?_ | (rw [if_neg]; rotate_left; exact fun h => nomatch h; with_reducible refine hK _ ?_)); clear hK K)
          with_reducible refine wpQuiet_nil ?_
          intro _ hw'
          obtain ⟨⟨nq, osq⟩, hw''⟩ := hw'
          subst hw''
          have W6 := W5.trans ((below_grow w5 nq osq).mono W5.size)
          have B6 := B5.keep (below_grow w5 nq osq)
          go_wp2_with fail
          exact ⟨⟨1, by omega, by go_num, fun m hm => by rw [show m = 0 by omega]; exact HN1.out, W6, B6⟩, by simp [intOf]; omega⟩
        · have f4 := fun n os => cell_grown (w := w5) (a := ⟨(a.add ((k - 1) * 3)).block, (a.add ((k - 1) * 3)).off + 1, none⟩) (by show (a.add ((k - 1) * 3)).block < w5.heap.size; rw [Go.ChangeShapes.block_add]; exact ha5) hzc n os
          have d0 : decide ((0 : Int) < (k : Int)) = true := decide_eq_true (by omega)
          have i0 : 0 ≤ (k : Int) - 1 := by omega
          have i2 : 1 ≤ (k : Int) := by omega
          have i1 : (k : Int) - 1 < (L.length : Int) := by omega
          have qk : IntKind.i64.wrap ((k : Int) - 1) = (k : Int) - 1 := IntWalk.i64_in _ (by omega)
          have hk1 : (k == 0) = false := by simp; omega
          clear hzc
          by_cases hxz : x < z
          · have HV : Hid (spsB L = false) := Lib.hid (spsB_no hlt (by rw [HG0.out, hs, hk1, hzf, decide_eq_false (by omega : ¬ z ≤ x)]; rfl))
            have d1 : decide (x < z) = true := decide_eq_true hxz
            clear hs hzf hk1
            have hmx : Try.prog.follows .mixedOrders = true := by kernel_rfl
            refine wp_region_quiet_grown hmx (by kernel_rfl) ?_
            with_reducible refine wpQuiet_step (fun K hK => ?_)
            go_simp
            with_reducible refine hK _ ?_
            clear hK K
            with_reducible refine wpQuiet_step (fun K hK => ?_)
            go_simp
            apply Exists.intro
            with_reducible refine ⟨fun _ => ?_, hK _ ?_⟩
            with_reducible exact hq _ _
            clear hK K
            repeat ((with_reducible refine wpQuiet_step (fun K hK => ?_)); go_simp; (first | with_reducible refine hK _ ?_ | (rw [if_neg]; rotate_left; exact fun h => nomatch h; with_reducible refine hK _ ?_)); clear hK K)
            with_reducible refine wpQuiet_nil ?_
            intro _ hw'
            obtain ⟨⟨nq, osq⟩, hw''⟩ := hw'
            subst hw''
            have W6 := W5.trans ((below_grow w5 nq osq).mono W5.size)
            go_wp2_with fail
            go_ret
            exact ⟨ret_bool (by rw [HN2.out, HV.out]), W6⟩
          · have HN1 : Hid (spsG L k = true) := Lib.hid (by rw [HG0.out, hs, hk1, hzf, decide_eq_true (by omega : z ≤ x)]; rfl)
            have d1 : decide (x < z) = false := decide_eq_false hxz
            clear hs hzf hk1
            have hmx : Try.prog.follows .mixedOrders = true := by kernel_rfl
            refine wp_region_quiet_grown hmx (by kernel_rfl) ?_
            with_reducible refine wpQuiet_step (fun K hK => ?_)
            go_simp
            with_reducible refine hK _ ?_
            clear hK K
            with_reducible refine wpQuiet_step (fun K hK => ?_)
            go_simp
            apply Exists.intro
            with_reducible refine ⟨fun _ => ?_, hK _ ?_⟩
            with_reducible exact hq _ _
            clear hK K
            repeat ((with_reducible refine wpQuiet_step (fun K hK => ?_)); go_simp; (first | with_reducible refine hK _ ?_ | (rw [if_neg]; rotate_left; exact fun h => nomatch h; with_reducible refine hK _ ?_)); clear hK K)
            with_reducible refine wpQuiet_nil ?_
            intro _ hw'
            obtain ⟨⟨nq, osq⟩, hw''⟩ := hw'
            subst hw''
            have W6 := W5.trans ((below_grow w5 nq osq).mono W5.size)
            have B6 := B5.keep (below_grow w5 nq osq)
            go_wp2_with fail
            exact ⟨⟨k + 1, by omega, by go_num, fun m hm => by rcases Nat.lt_or_ge m k with h | h; exact HA.out m h; rw [show m = k by omega]; exact HN1.out, W6, B6⟩, by simp [intOf]; omega⟩
    · have HV : Hid (spsB L = true) := Lib.hid (spsB_yes fun m hm => HA.out m (by omega))
      go_wp2_with fail
      go_ret
      exact ⟨ret_bool (by rw [HN2.out, HV.out]), hbel⟩
end Go.Proofs.Ytfdcainjppljhaa
namespace Go.Proofs.Ytfdcainjppljhaa
open Go.RowKit
set_option linter.unusedVariables false
theorem lensL_mem {L : List Flx} {s : Flx} (h : s ∈ L) : s.g.l.length ≤ lensL L := by
  unfold lensL
  induction L with
  | nil => simp at h
  | cons x L ih =>
    simp only [List.map_cons, List.sum_cons]
    rcases List.mem_cons.1 h with rfl | h
    · omega
    · have := ih h; omega
/-- A copy of noise: rows of the call's own. -/
structure NzC (w : World) (base g1 g2 g3 : Nat) (j e : List Int) (L L' : List Flx) : Prop where
  len : L'.length = L.length
  b1 : base ≤ g1
  b2 : g1 < g2
  b3 : g2 < g3
  r1 : RowI w g1 j
  r2 : RowI w g2 e
  r3 : SpRow w g3 L.length L L'
theorem NzC.below {w w' : World} {base g1 g2 g3 : Nat} {j e : List Int} {L L' : List Flx} (h : NzC w base g1 g2 g3 j e L L') (hb : Below w.heap.size w w') : NzC w' base g1 g2 g3 j e L L' :=
  ⟨h.len, h.b1, h.b2, h.b3, h.r1.below hb, h.r2.below hb, h.r3.keep hb⟩
theorem NzC.same {w : World} {base g1 g2 g3 : Nat} {j e : List Int} {L L' : List Flx} (h : NzC w base g1 g2 g3 j e L L') : SameS L L' := ⟨h.len, h.r3.same⟩
theorem SameS.mid {L A B : List Flx} (h : SameS L A) (k : SameS L B) : SameS A B := by
  refine ⟨by rw [k.1, h.1], fun i hi hi2 => ?_⟩
  have h1 := h.2 i hi2 (by rw [← h.1]; exact hi2)
  have h2 := k.2 i hi (by rw [← h.1]; exact hi2)
  exact ⟨h2.1.trans h1.1.symm, h2.2.1.trans h1.2.1.symm, h2.2.2.trans h1.2.2.symm⟩
theorem SameS.lens {L A : List Flx} (h : SameS L A) {n : Nat} (hg : ∀ s ∈ L, s.g.l.length ≤ n) : ∀ s ∈ A, s.g.l.length ≤ n := by
  intro s hs
  obtain ⟨i, hi, rfl⟩ := List.getElem_of_mem hs
  have hi2 : i < L.length := by rw [← h.1]; exact hi
  rw [(h.2 i hi hi2).2.2]
  exact hg _ (List.getElem_mem hi2)
theorem spsG_same {L A : List Flx} (h : SameS L A) {i : Nat} (hi : i < A.length) : spsG A i = spsG L i := by
  have hi2 : i < L.length := by rw [← h.1]; exact hi
  unfold spsG
  have e1 := h.2 i hi hi2
  rcases Nat.eq_zero_or_pos i with e | e
  · subst e
    rw [getD_flx hi, getD_flx hi2]
    unfold spanB
    rw [e1.1, e1.2.1, e1.2.2]
  · have e2 := h.2 (i - 1) (by omega) (by omega)
    rw [getD_flx hi, getD_flx hi2, getD_flx (show i - 1 < A.length by omega), getD_flx (show i - 1 < L.length by omega)]
    unfold spanB
    rw [e1.1, e1.2.1, e1.2.2, e2.2.1]
theorem spsB_same {L A : List Flx} (h : SameS L A) : spsB A = spsB L := by
  unfold spsB
  rw [h.1]
  have : ∀ m, m ∈ List.range L.length → spsG A m = spsG L m := fun m hm => spsG_same h (by rw [h.1]; exact List.mem_range.1 hm)
  have key : ∀ (R : List Nat), (∀ m ∈ R, spsG A m = spsG L m) → R.all (spsG A) = R.all (spsG L) := by
    intro R hR
    induction R with
    | nil => rfl
    | cons x R ih => simp only [List.all_cons]; rw [hR x (by simp), ih (fun m hm => hR m (by simp [hm]))]
  exact key _ this
theorem nzB_same {L A : List Flx} (h : SameS L A) (d : Int) (j e : List Int) : nzB d j e A = nzB d j e L := by
  unfold nzB
  rw [spsB_same h, h.1]
section
variable (d : Int) (base g1 g2 g3 : Nat) (j e : List Int) (L L' : List Flx) (w : World)
theorem impl_ValidNoiseC (h : NzC w base g1 g2 g3 j e L L') (hj : j.length ≤ 1048576) (he : e.length ≤ 1048576) (hl : L.length ≤ 1048576) (hg : ∀ s ∈ L, s.g.l.length ≤ 1048576) :
    Calls Try.prog 64 #[.agg #[.int .i64 d, .slice (some ⟨g1, 0, none⟩) j.length j.length, .slice (some ⟨g2, 0, none⟩) e.length e.length, .slice (some ⟨g3, 0, none⟩) L.length L.length]] w fun e' w' => e' = .returned (.bool (nzB d j e L)) ∧ Below w.heap.size w w' := by
  have c := impl_ValidNoise d (some ⟨g1, 0, none⟩) (some ⟨g2, 0, none⟩) (some ⟨g3, 0, none⟩) j e L' j.length e.length L.length w h.r1.ints h.r2.ints h.r3.spans hj he (by rw [h.len]; exact hl) (h.same.lens hg)
  rw [h.len, nzB_same h.same] at c
  exact c
theorem laws_eqNoiseC (k1 k2 k3 : Nat) (base' : Nat) (M : List Flx) (h : NzC w base g1 g2 g3 j e L L') (k : NzC w base' k1 k2 k3 j e L M) (hj : j.length ≤ 1048576) (he : e.length ≤ 1048576) (hl : L.length ≤ 1048576) (hg : ∀ s ∈ L, s.g.l.length ≤ 1048576) :
    Calls Try.prog 37 #[.agg #[.int .i64 d, .slice (some ⟨g1, 0, none⟩) j.length j.length, .slice (some ⟨g2, 0, none⟩) e.length e.length, .slice (some ⟨g3, 0, none⟩) L.length L.length], .agg #[.int .i64 d, .slice (some ⟨k1, 0, none⟩) j.length j.length, .slice (some ⟨k2, 0, none⟩) e.length e.length, .slice (some ⟨k3, 0, none⟩) L.length L.length]] w fun e' w' => e' = .returned (.bool true) ∧ Below w.heap.size w w' := by
  have c := laws_eqNoise_same d (some ⟨g1, 0, none⟩) (some ⟨g2, 0, none⟩) (some ⟨g3, 0, none⟩) (some ⟨k1, 0, none⟩) (some ⟨k2, 0, none⟩) (some ⟨k3, 0, none⟩) j e L' M j.length e.length L.length j.length e.length L.length w h.r1.ints h.r2.ints h.r3.spans k.r1.ints k.r2.ints k.r3.spans (h.same.mid k.same) (by omega) (by omega) (by rw [h.len]; exact hl) (h.same.lens hg)
  rw [h.len, k.len] at c
  exact c
end
theorem laws_toNoiseC (d : Int) (pj pd ps : Option Addr) (j e : List Int) (L : List Flx) (cj cd cs : Nat) (w : World) (h1 : IntsAt w pj j) (h2 : IntsAt w pd e) (h3 : SpansAt w ps L) (hj : j.length ≤ 1048576) (he : e.length ≤ 1048576) (hl : L.length ≤ 1048576) (hg : ∀ s ∈ L, s.g.l.length ≤ 1048576) :
    Calls Try.prog 36 #[.agg #[.int .i64 d, .slice pj j.length cj, .slice pd e.length cd, .slice ps L.length cs]] w fun e' w' => ∃ (g1 g2 g3 : Nat) (L' : List Flx), e' = .returned (.agg #[.int .i64 d, .slice (some ⟨g1, 0, none⟩) j.length j.length, .slice (some ⟨g2, 0, none⟩) e.length e.length, .slice (some ⟨g3, 0, none⟩) L.length L.length]) ∧ NzC w' w.heap.size g1 g2 g3 j e L L' ∧ Below w.heap.size w w' :=
  (laws_toNoise d pj pd ps j e L cj cd cs w h1 h2 h3 hj he hl hg).mono fun e' w' ⟨g1, g2, g3, L', he', hL, b1, b2, b3, r1, r2, r3, hb⟩ => ⟨g1, g2, g3, L', he', ⟨hL, b1, b2, b3, r1, r2, r3⟩, hb⟩
end Go.Proofs.Ytfdcainjppljhaa
namespace Go.Proofs.Ytfdcainjppljhaa
open Go.RowKit
set_option linter.unusedVariables false
/-- Flux and a code. -/
structure FxS where
  c : Int
  f : Int
  l : List Int
  e : Int
def drS (c f : Int) (l : List Int) (d : Int) : FxS :=
  ⟨fxC (fluxOk c f l && inB d (-100) 100) (driftL f l d) (l.sum * (1000 + d) / 1000) c, fxF (fluxOk c f l && inB d (-100) 100) (driftL f l d) (l.sum * (1000 + d) / 1000) c, fxL (fluxOk c f l && inB d (-100) 100) (driftL f l d) (l.sum * (1000 + d) / 1000) c, fxE (fluxOk c f l && inB d (-100) 100) (driftL f l d) (l.sum * (1000 + d) / 1000) c⟩
def jiT (s : FxS) (js : List Int) : FxS :=
  ⟨fxC (fluxOk s.c s.f s.l && jitOk js) (jitL s.f s.l js) s.l.sum s.c, fxF (fluxOk s.c s.f s.l && jitOk js) (jitL s.f s.l js) s.l.sum s.c, fxL (fluxOk s.c s.f s.l && jitOk js) (jitL s.f s.l js) s.l.sum s.c, fxE (fluxOk s.c s.f s.l && jitOk js) (jitL s.f s.l js) s.l.sum s.c⟩
def jiS (s : FxS) (js : List Int) : FxS := if s.e = 0 then jiT s js else s
def dpT (s : FxS) (js : List Int) : FxS :=
  ⟨fxC (drV s.c s.f s.l js) (drT s.f s.l js) s.l.sum s.c, fxF (drV s.c s.f s.l js) (drT s.f s.l js) s.l.sum s.c, fxL (drV s.c s.f s.l js) (drT s.f s.l js) s.l.sum s.c, drE s.c s.f s.l js⟩
def dpS (s : FxS) (js : List Int) : FxS := if s.e = 0 then dpT s js else s
def weF (s : FxS) (x : Flx) : FxS :=
  ⟨fxC (weV s.c s.f s.l x.cell x.first x.g.l) (weT s.f s.l x.cell x.first x.g.l) s.l.sum s.c, fxF (weV s.c s.f s.l x.cell x.first x.g.l) (weT s.f s.l x.cell x.first x.g.l) s.l.sum s.c, fxL (weV s.c s.f s.l x.cell x.first x.g.l) (weT s.f s.l x.cell x.first x.g.l) s.l.sum s.c, weE s.c s.f s.l x.cell x.first x.g.l⟩
def weS (s : FxS) (x : Flx) : FxS := if s.e = 0 then weF s x else s
def anB (c f : Int) (l : List Int) (d : Int) (j e : List Int) : FxS := dpS (jiS (drS c f l d) j) e
def anK (s : FxS) (L : List Flx) (k : Nat) : FxS := (L.take k).foldl weS s
def anOk (c f : Int) (l : List Int) (d : Int) (j e : List Int) (L : List Flx) : Bool := fluxOk c f l && nzB d j e L
def anS (c f : Int) (l : List Int) (d : Int) (j e : List Int) (L : List Flx) : FxS := if anOk c f l d j e L then anK (anB c f l d j e) L L.length else ⟨0, 0, [], 1⟩
theorem anK_zero (s : FxS) (L : List Flx) : anK s L 0 = s := rfl
theorem anK_succ (s : FxS) (L : List Flx) {k : Nat} (hk : k < L.length) : anK s L (k + 1) = weS (anK s L k) L[k] := by
  unfold anK
  rw [List.take_succ_eq_append_getElem hk, List.foldl_append]
  rfl
theorem anK_stop (s : FxS) (L : List Flx) (k : Nat) (h : (anK s L k).e ≠ 0) : ∀ m, k ≤ m → m ≤ L.length → anK s L m = anK s L k := by
  intro m
  induction m with
  | zero => intro h1 _; rw [show k = 0 by omega]
  | succ m ih =>
    intro h1 h2
    rcases Nat.lt_or_ge m k with h3 | h3
    · rw [show k = m + 1 by omega]
    · have e := ih h3 (by omega)
      rw [anK_succ s L (by omega), e]
      unfold weS
      rw [if_neg h]
theorem weS_same {x y : Flx} (h : x.cell = y.cell ∧ x.first = y.first ∧ x.g.l = y.g.l) (s : FxS) : weS s x = weS s y := by
  unfold weS weF
  rw [h.1, h.2.1, h.2.2]
theorem anK_same {L A : List Flx} (h : SameS L A) (s : FxS) : ∀ k, k ≤ L.length → anK s A k = anK s L k := by
  intro k
  induction k with
  | zero => intro _; rfl
  | succ k ih =>
    intro hk
    rw [anK_succ s A (by rw [h.1]; omega), anK_succ s L (by omega), ih (by omega)]
    exact weS_same (h.2 k (by rw [h.1]; omega) (by omega)) _
theorem anS_same {L A : List Flx} (h : SameS L A) (c f : Int) (l : List Int) (d : Int) (j e : List Int) : anS c f l d j e A = anS c f l d j e L := by
  unfold anS anOk
  rw [nzB_same h, h.1, anK_same h _ _ (Nat.le_refl _)]
theorem drS_len (c f : Int) (l : List Int) (d : Int) : (drS c f l d).l.length ≤ l.length := Nat.le_trans (fxL_len _ _ _ _) (by rw [drift_len]; exact Nat.le_refl _)
theorem jiS_len (s : FxS) (js : List Int) : (jiS s js).l.length ≤ s.l.length := by
  unfold jiS
  split
  · exact Nat.le_trans (fxL_len _ _ _ _) (by rw [jit_len]; exact Nat.le_refl _)
  · exact Nat.le_refl _
theorem dpS_len (s : FxS) (js : List Int) : (dpS s js).l.length ≤ s.l.length := by
  unfold dpS
  split
  · exact Nat.le_trans (fxL_len _ _ _ _) (drT_len _ _ _)
  · exact Nat.le_refl _
theorem weS_len (s : FxS) (x : Flx) : (weS s x).l.length ≤ x.g.l.length + s.l.length := by
  unfold weS
  split
  · have h := weL_len s.c s.f s.l x.cell x.first x.g.l (rev := s.l.sum) (cell := s.c)
    have e : (weF s x).l = fxL (weV s.c s.f s.l x.cell x.first x.g.l) (weT s.f s.l x.cell x.first x.g.l) s.l.sum s.c := rfl
    rw [e]
    omega
  · omega
theorem anB_len (c f : Int) (l : List Int) (d : Int) (j e : List Int) : (anB c f l d j e).l.length ≤ l.length := Nat.le_trans (dpS_len _ _) (Nat.le_trans (jiS_len _ _) (drS_len _ _ _ _))
theorem anK_len (s : FxS) (L : List Flx) : ∀ k, k ≤ L.length → (anK s L k).l.length ≤ s.l.length + lensL (L.take k) := by
  intro k
  induction k with
  | zero => intro _; simp [anK, lensL]
  | succ k ih =>
    intro hk
    rw [anK_succ s L (by omega), lensL_take L (by omega)]
    have h1 := weS_len (anK s L k) L[k]
    have h2 := ih (by omega)
    omega
theorem anS_len (c f : Int) (l : List Int) (d : Int) (j e : List Int) (L : List Flx) : (anS c f l d j e L).l.length ≤ l.length + lensL L := by
  unfold anS
  split
  · have h1 := anK_len (anB c f l d j e) L L.length (Nat.le_refl _)
    have h2 := anB_len c f l d j e
    rw [List.take_length] at h1
    omega
  · simp
theorem impl_AddDriftS (c f : Int) (p : Option Addr) (l : List Int) (cap : Nat) (d : Int) (w : World) (hI : IntsAt w p l) (hl : l.length ≤ 1048576) :
    Calls Try.prog 65 #[.agg #[.int .i64 c, .int .i64 f, .slice p l.length cap], .int .i64 d] w fun e w' => ∃ (q : Option Addr) (dq : Nat), e = .returned (.tuple #[.agg #[.int .i64 (drS c f l d).c, .int .i64 (drS c f l d).f, .slice q (drS c f l d).l.length dq], .int .i64 (drS c f l d).e]) ∧ OwnS w' w.heap.size q (drS c f l d).l ∧ Below w.heap.size w w' :=
  impl_AddDrift c f p l cap d w hI hl
theorem impl_AddJitterS (c f : Int) (p : Option Addr) (l : List Int) (cap : Nat) (z : Int) (pj : Option Addr) (js : List Int) (capj : Nat) (w : World) (hI : IntsAt w p l) (hl : l.length ≤ 1048576) (hJ : IntsAt w pj js) (hjl : js.length ≤ 1048576) :
    Calls Try.prog 30 #[.agg #[.int .i64 c, .int .i64 f, .slice p l.length cap], .slice pj js.length capj] w fun e w' => ∃ (q : Option Addr) (dq : Nat), e = .returned (.tuple #[.agg #[.int .i64 (jiT ⟨c, f, l, z⟩ js).c, .int .i64 (jiT ⟨c, f, l, z⟩ js).f, .slice q (jiT ⟨c, f, l, z⟩ js).l.length dq], .int .i64 (jiT ⟨c, f, l, z⟩ js).e]) ∧ OwnS w' w.heap.size q (jiT ⟨c, f, l, z⟩ js).l ∧ Below w.heap.size w w' :=
  impl_AddJitter c f p l cap pj js capj w hI hl hJ hjl
theorem impl_DropChangesS (c f : Int) (p : Option Addr) (l : List Int) (cap : Nat) (z : Int) (pj : Option Addr) (js : List Int) (capj : Nat) (w : World) (hI : IntsAt w p l) (hl : l.length ≤ 1048576) (hJ : IntsAt w pj js) (hjl : js.length ≤ 1048576) :
    Calls Try.prog 33 #[.agg #[.int .i64 c, .int .i64 f, .slice p l.length cap], .slice pj js.length capj] w fun e w' => ∃ (q : Option Addr) (dq : Nat), e = .returned (.tuple #[.agg #[.int .i64 (dpT ⟨c, f, l, z⟩ js).c, .int .i64 (dpT ⟨c, f, l, z⟩ js).f, .slice q (dpT ⟨c, f, l, z⟩ js).l.length dq], .int .i64 (dpT ⟨c, f, l, z⟩ js).e]) ∧ OwnS w' w.heap.size q (dpT ⟨c, f, l, z⟩ js).l ∧ Below w.heap.size w w' :=
  impl_DropChanges c f p l cap pj js capj w hI hl hJ hjl
theorem impl_WeakenFluxS (c f : Int) (p : Option Addr) (l : List Int) (cap : Nat) (z : Int) (a b : Int) (pt : Option Addr) (t : List Int) (capt : Nat) (w : World) (hI : IntsAt w p l) (hT : IntsAt w pt t) (hlt : l.length + t.length ≤ 1048576) (hcap : pt = none → capt = 0) :
    Calls Try.prog 17 #[.agg #[.int .i64 c, .int .i64 f, .slice p l.length cap], .agg #[.int .i64 a, .int .i64 b, .slice pt t.length capt]] w fun e w' => ∃ (q : Option Addr) (dq : Nat), e = .returned (.tuple #[.agg #[.int .i64 (weF ⟨c, f, l, z⟩ ⟨a, b, ⟨pt, t, capt⟩⟩).c, .int .i64 (weF ⟨c, f, l, z⟩ ⟨a, b, ⟨pt, t, capt⟩⟩).f, .slice q (weF ⟨c, f, l, z⟩ ⟨a, b, ⟨pt, t, capt⟩⟩).l.length dq], .int .i64 (weF ⟨c, f, l, z⟩ ⟨a, b, ⟨pt, t, capt⟩⟩).e]) ∧ OwnS w' w.heap.size q (weF ⟨c, f, l, z⟩ ⟨a, b, ⟨pt, t, capt⟩⟩).l ∧ Below w.heap.size w w' :=
  impl_WeakenFlux c f p l cap a b pt t capt w hI hT hlt hcap
theorem spec_AddDriftS (c f : Int) (p : Option Addr) (l : List Int) (cap : Nat) (d : Int) (w : World) (hI : IntsAt w p l) (hl : l.length ≤ 1048576) :
    Calls Try.prog 74 #[.agg #[.int .i64 c, .int .i64 f, .slice p l.length cap], .int .i64 d] w fun e w' => ∃ (q : Option Addr) (dq : Nat), e = .returned (.tuple #[.agg #[.int .i64 (drS c f l d).c, .int .i64 (drS c f l d).f, .slice q (drS c f l d).l.length dq], .int .i64 (drS c f l d).e]) ∧ OwnS w' w.heap.size q (drS c f l d).l ∧ Below w.heap.size w w' :=
  spec_AddDrift c f p l cap d w hI hl
theorem spec_AddJitterS (c f : Int) (p : Option Addr) (l : List Int) (cap : Nat) (z : Int) (pj : Option Addr) (js : List Int) (capj : Nat) (w : World) (hI : IntsAt w p l) (hl : l.length ≤ 1048576) (hJ : IntsAt w pj js) (hjl : js.length ≤ 1048576) :
    Calls Try.prog 75 #[.agg #[.int .i64 c, .int .i64 f, .slice p l.length cap], .slice pj js.length capj] w fun e w' => ∃ (q : Option Addr) (dq : Nat), e = .returned (.tuple #[.agg #[.int .i64 (jiT ⟨c, f, l, z⟩ js).c, .int .i64 (jiT ⟨c, f, l, z⟩ js).f, .slice q (jiT ⟨c, f, l, z⟩ js).l.length dq], .int .i64 (jiT ⟨c, f, l, z⟩ js).e]) ∧ OwnS w' w.heap.size q (jiT ⟨c, f, l, z⟩ js).l ∧ Below w.heap.size w w' :=
  spec_AddJitter c f p l cap pj js capj w hI hl hJ hjl
theorem spec_DropChangesS (c f : Int) (p : Option Addr) (l : List Int) (cap : Nat) (z : Int) (pj : Option Addr) (js : List Int) (capj : Nat) (w : World) (hI : IntsAt w p l) (hl : l.length ≤ 1048576) (hJ : IntsAt w pj js) (hjl : js.length ≤ 1048576) :
    Calls Try.prog 76 #[.agg #[.int .i64 c, .int .i64 f, .slice p l.length cap], .slice pj js.length capj] w fun e w' => ∃ (q : Option Addr) (dq : Nat), e = .returned (.tuple #[.agg #[.int .i64 (dpT ⟨c, f, l, z⟩ js).c, .int .i64 (dpT ⟨c, f, l, z⟩ js).f, .slice q (dpT ⟨c, f, l, z⟩ js).l.length dq], .int .i64 (dpT ⟨c, f, l, z⟩ js).e]) ∧ OwnS w' w.heap.size q (dpT ⟨c, f, l, z⟩ js).l ∧ Below w.heap.size w w' :=
  spec_DropChanges c f p l cap pj js capj w hI hl hJ hjl
theorem spec_WeakenFluxS (c f : Int) (p : Option Addr) (l : List Int) (cap : Nat) (z : Int) (a b : Int) (pt : Option Addr) (t : List Int) (capt : Nat) (w : World) (hI : IntsAt w p l) (hT : IntsAt w pt t) (hlt : l.length + t.length ≤ 1048576) (hcap : pt = none → capt = 0) :
    Calls Try.prog 22 #[.agg #[.int .i64 c, .int .i64 f, .slice p l.length cap], .agg #[.int .i64 a, .int .i64 b, .slice pt t.length capt]] w fun e w' => ∃ (q : Option Addr) (dq : Nat), e = .returned (.tuple #[.agg #[.int .i64 (weF ⟨c, f, l, z⟩ ⟨a, b, ⟨pt, t, capt⟩⟩).c, .int .i64 (weF ⟨c, f, l, z⟩ ⟨a, b, ⟨pt, t, capt⟩⟩).f, .slice q (weF ⟨c, f, l, z⟩ ⟨a, b, ⟨pt, t, capt⟩⟩).l.length dq], .int .i64 (weF ⟨c, f, l, z⟩ ⟨a, b, ⟨pt, t, capt⟩⟩).e]) ∧ OwnS w' w.heap.size q (weF ⟨c, f, l, z⟩ ⟨a, b, ⟨pt, t, capt⟩⟩).l ∧ Below w.heap.size w w' :=
  spec_WeakenFlux c f p l cap a b pt t capt w hI hT hlt hcap
end Go.Proofs.Ytfdcainjppljhaa
namespace Go.Proofs.Ytfdcainjppljhaa
open Go.RowKit
end Go.Proofs.Ytfdcainjppljhaa
namespace Go.Proofs.Ytfdcainjppljhaa
open Go.RowKit
def c0 (a b c d f : Int) : Value := .agg #[.int .i64 a, .int .i64 b, .int .i64 c, .int .i64 d, .int .i64 f]
theorem ret_clk {a b c d f x a' b' c' d' f' x' : Int} (h : (a, b, c, d, f, x) = (a', b', c', d', f', x')) : Ending.returned (.tuple #[.agg #[.int .i64 a, .int .i64 b, .int .i64 c, .int .i64 d, .int .i64 f], .int .i64 x]) = .returned (.tuple #[.agg #[.int .i64 a', .int .i64 b', .int .i64 c', .int .i64 d', .int .i64 f'], .int .i64 x']) := by
  cases h; rfl
/-- What PlainClock answers. -/
def plainV (c : Int) : Value := if inB c 4 200 then .tuple #[.agg #[.int .i64 c, .int .i64 c, .int .i64 c, .int .i64 0, .int .i64 0], .int .i64 0] else .tuple #[.agg #[.int .i64 0, .int .i64 0, .int .i64 0, .int .i64 0, .int .i64 0], .int .i64 2]
/-- What StartClock answers. -/
def startV (v : Bool) (a : Int) : Value := if v then .tuple #[.agg #[.int .i64 (a * 64), .int .i64 0], .int .i64 0] else .tuple #[.agg #[.int .i64 0, .int .i64 0], .int .i64 1]
end Go.Proofs.Ytfdcainjppljhaa
namespace Go.Proofs.Ytfdcainjppljhaa
open Go.RowKit
/-- The number of cells of a gap, its error, the next period and offset. -/
def clampI (x lo hi : Int) : Int := max lo (min x hi)
def stN (P O gap : Int) : Int := if P ≤ gap * 64 + O + P / 2 then (gap * 64 + O + P / 2) / P else 1
def stE (P O gap : Int) : Int := gap * 64 + O - stN P O gap * P
def stP (c : Clk) (P O gap : Int) : Int := if 0 < c.speed then clampI (P + (stE P O gap).tdiv (stN P O gap * c.speed)) (c.low * 64) (c.high * 64) else P
def stO (c : Clk) (P O gap : Int) : Int := clampI (if 0 < c.phase then stE P O gap - (stE P O gap).tdiv c.phase else stE P O gap) (-stP c P O gap) (stP c P O gap)
theorem tdiv_bd (x y : Int) (B : Int) (h : -B ≤ x ∧ x ≤ B) (_hy : 0 < y) : -B ≤ x.tdiv y ∧ x.tdiv y ≤ B := by
  have hl : (x.tdiv y).natAbs ≤ x.natAbs := by
    rw [Int.natAbs_tdiv]
    exact Nat.div_le_self _ _
  omega
theorem stN_bd {P O gap : Int} (hP : 128 ≤ P ∧ P ≤ 25600) (hO : -P ≤ O ∧ O ≤ P) (hg : 1 ≤ gap ∧ gap ≤ 2000000) :
    (1 ≤ stN P O gap ∧ stN P O gap ≤ 200000000) ∧ (0 < stN P O gap * P ∧ stN P O gap * P ≤ 200000000) := by
  unfold stN
  split
  · rename_i h
    have h1 : 1 ≤ (gap * 64 + O + P / 2) / P := by
      rw [Int.le_ediv_iff_mul_le (by omega)]; omega
    have h2 := Int.ediv_mul_le (gap * 64 + O + P / 2) (b := P) (by omega)
    have h3 : (gap * 64 + O + P / 2) / P ≤ (gap * 64 + O + P / 2) := Int.ediv_le_self _ (by omega)
    refine ⟨⟨h1, by omega⟩, ?_, by omega⟩
    exact Int.mul_pos (by omega) (by omega)
  · omega
theorem floor_tdiv {x y : Int} (hy : 0 < y) : (0 ≤ x.tmod y → x.tdiv y = x / y) ∧ (x.tmod y < 0 → x.tdiv y - 1 = x / y) := by
  have h1 := Int.mul_tdiv_add_tmod x y
  have h2 := Int.mul_ediv_add_emod x y
  have h3 := Int.emod_nonneg x (by omega : y ≠ 0)
  have h4 := Int.emod_lt_of_pos x hy
  have h5 : x.tmod y < y := Int.tmod_lt_of_pos x hy
  have h6 : -y < x.tmod y := Int.lt_tmod_of_pos x hy
  constructor
  · intro h
    rcases Int.lt_trichotomy (x.tdiv y) (x / y) with h7 | h7 | h7
    · have := Int.mul_le_mul_of_nonneg_left (show x.tdiv y + 1 ≤ x / y by omega) (Int.le_of_lt hy)
      rw [Int.mul_add] at this
      omega
    · exact h7
    · have := Int.mul_le_mul_of_nonneg_left (show x / y + 1 ≤ x.tdiv y by omega) (Int.le_of_lt hy)
      rw [Int.mul_add] at this
      omega
  · intro h
    rcases Int.lt_trichotomy (x.tdiv y - 1) (x / y) with h7 | h7 | h7
    · have := Int.mul_le_mul_of_nonneg_left (show x.tdiv y ≤ x / y by omega) (Int.le_of_lt hy)
      omega
    · exact h7
    · have := Int.mul_le_mul_of_nonneg_left (show x / y + 2 ≤ x.tdiv y by omega) (Int.le_of_lt hy)
      rw [Int.mul_add] at this
      omega
/-- The step, its inner numbers named: q cells of length P (m in all), the error e. -/
theorem step_names {c : Clk} {P O gap q : Int} (hq : stN P O gap = q) : stE P O gap = gap * 64 + O - q * P ∧
    (0 < c.speed → stP c P O gap = clampI (P + (gap * 64 + O - q * P).tdiv (q * c.speed)) (c.low * 64) (c.high * 64)) ∧ (¬ 0 < c.speed → stP c P O gap = P) ∧
    (0 < c.phase → stO c P O gap = clampI (gap * 64 + O - q * P - (gap * 64 + O - q * P).tdiv c.phase) (-stP c P O gap) (stP c P O gap)) ∧ (¬ 0 < c.phase → stO c P O gap = clampI (gap * 64 + O - q * P) (-stP c P O gap) (stP c P O gap)) := by
  have hE : stE P O gap = gap * 64 + O - q * P := by unfold stE; rw [hq]
  refine ⟨hE, ?_, ?_, ?_, ?_⟩
  · intro h; unfold stP; rw [if_pos h, hE, hq]
  · intro h; unfold stP; rw [if_neg h]
  · intro h; unfold stO; rw [if_pos h, hE]
  · intro h; unfold stO; rw [if_neg h, hE]
theorem clampI_bd {x lo hi : Int} (h : lo ≤ hi) : lo ≤ clampI x lo hi ∧ clampI x lo hi ≤ hi := by unfold clampI; omega
theorem stP_bd {c : Clk} {P O gap : Int} (hc : c.valid = true) (hP : c.low * 64 ≤ P ∧ P ≤ c.high * 64) : c.low * 64 ≤ stP c P O gap ∧ stP c P O gap ≤ c.high * 64 := by
  simp only [Clk.valid, Bool.and_eq_true, inB_iff] at hc
  obtain ⟨⟨⟨⟨ha, hb⟩, hh⟩, _⟩, _⟩ := hc
  unfold stP
  split
  · exact clampI_bd (by omega)
  · exact hP
end Go.Proofs.Ytfdcainjppljhaa
