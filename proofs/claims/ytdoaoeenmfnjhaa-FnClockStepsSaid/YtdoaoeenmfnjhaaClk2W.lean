/- PlainClock, StartClock, StepClock. -/
import Derived.Test.YtdoaoeenmfnjhaaClockW
namespace Go.Proofs.Ytdoaoeenmfnjhaa
open Go.RowKit
def c0 (a b c d f : Int) : Value := .agg #[.int .i64 a, .int .i64 b, .int .i64 c, .int .i64 d, .int .i64 f]
theorem ret_clk {a b c d f x a' b' c' d' f' x' : Int} (h : (a, b, c, d, f, x) = (a', b', c', d', f', x')) : Ending.returned (.tuple #[.agg #[.int .i64 a, .int .i64 b, .int .i64 c, .int .i64 d, .int .i64 f], .int .i64 x]) = .returned (.tuple #[.agg #[.int .i64 a', .int .i64 b', .int .i64 c', .int .i64 d', .int .i64 f'], .int .i64 x']) := by
  cases h; rfl
set_option maxHeartbeats 400000 in
theorem eqClock_same (a b c d f : Int) (w : World) :
    Calls Try.prog 17 #[.agg #[.int .i64 a, .int .i64 b, .int .i64 c, .int .i64 d, .int .i64 f], .agg #[.int .i64 a, .int .i64 b, .int .i64 c, .int .i64 d, .int .i64 f]] w fun e w' => e = .returned (.bool true) ∧ Below w.heap.size w w' := by
  go_enter Try.func17, Try.ntmps17
  go_wp2
  go_ret
  refine ⟨rfl, ?_⟩
  go_grown
set_option maxHeartbeats 400000 in
theorem eqLocked_same (a b : Int) (w : World) :
    Calls Try.prog 21 #[.agg #[.int .i64 a, .int .i64 b], .agg #[.int .i64 a, .int .i64 b]] w fun e w' => e = .returned (.bool true) ∧ Below w.heap.size w w' := by
  go_enter Try.func21, Try.ntmps21
  go_wp2
  go_ret
  refine ⟨rfl, ?_⟩
  go_grown
set_option maxHeartbeats 400000 in
theorem toLocked_any (a b : Int) (w : World) :
    Calls Try.prog 23 #[.agg #[.int .i64 a, .int .i64 b]] w fun e w' => e = .returned (.agg #[.int .i64 a, .int .i64 b]) ∧ Below w.heap.size w w' := by
  go_enter Try.func23, Try.ntmps23
  go_wp2
  refine bodyPost_ret (v := .agg #[.int .i64 a, .int .i64 b]) (by simp [results, Try.results23, go_sem]) rfl ⟨rfl, ?_⟩
  go_grown
/-- What PlainClock answers. -/
def plainV (c : Int) : Value := if inB c 4 200 then .tuple #[.agg #[.int .i64 c, .int .i64 c, .int .i64 c, .int .i64 0, .int .i64 0], .int .i64 0] else .tuple #[.agg #[.int .i64 0, .int .i64 0, .int .i64 0, .int .i64 0, .int .i64 0], .int .i64 2]
set_option maxHeartbeats 400000 in
theorem impl_PlainClock (c : Int) (w : World) :
    Calls Try.prog 16 #[.int .i64 c] w fun e w' => e = .returned (plainV c) ∧ Below w.heap.size w w' := by
  cases hb : inB c 4 200
  all_goals
    have HB := Lib.hid hb
    clear hb
    go_enter Try.func16, Try.ntmps16
    go_wp2_with (go_at_call 52; refine (within_any _ _ _ _).mono ?_; rintro e w' ⟨rfl, rfl⟩; rw [HB.out])
    go_returns
    refine ⟨by simp [plainV, HB.out], ?_⟩
    go_grown
set_option maxHeartbeats 400000 in
theorem spec_PlainClock (c : Int) (w : World) :
    Calls Try.prog 15 #[.int .i64 c] w fun e w' => e = .returned (plainV c) ∧ Below w.heap.size w w' := by
  cases hb : inB c 4 200
  all_goals
    have HB := Lib.hid hb
    clear hb
    go_enter Try.func15, Try.ntmps15
    go_wp2_with (first | (go_at_call 50; refine (l00In_any _ _ _ _).mono ?_; rintro e w' ⟨rfl, rfl⟩; rw [HB.out]) | go_in)
    go_returns
    refine ⟨by simp [plainV, HB.out], ?_⟩
    go_grown
set_option maxHeartbeats 400000 in
theorem walk_FnExactPlainClock (c : Int) (w : World) (_ : (Lit.int .i64 c).wf = true) :
    Calls Try.prog 3 #[.int .i64 c] w fun e w' => e = .returned (.bool true) ∧ Below w.heap.size w w' := by
  obtain ⟨a1, a2, a3, a4, a5, x, hv⟩ : ∃ a1 a2 a3 a4 a5 x, plainV c = .tuple #[.agg #[.int .i64 a1, .int .i64 a2, .int .i64 a3, .int .i64 a4, .int .i64 a5], .int .i64 x] := by
    unfold plainV; split <;> exact ⟨_, _, _, _, _, _, rfl⟩
  have hs := fun w => spec_PlainClock c w
  have hi := fun w => impl_PlainClock c w
  rw [hv] at hs hi
  clear hv
  go_enter Try.func3, Try.ntmps3
  go_wp2_with (first | (go_at_call 15; refine (hs _).mono ?_; rintro e w1 ⟨rfl, hb1⟩) | (go_at_call 16; refine (hi _).mono ?_; rintro e w2 ⟨rfl, hb2⟩; have z2 := ((Blk.new w1 _ _).keep hb2).lt; obtain ⟨g0, g1, g2, g3, g4⟩ := ((Blk.new w1 _ _).keep hb2).cell5) | (go_at_call 17; refine (eqClock_same _ _ _ _ _ _).mono ?_; rintro e w3 ⟨rfl, hb3⟩))
  go_ret
  exact ⟨rfl, below_al (below_al hb1 hb2 (Nat.le_refl _)) hb3 (Nat.le_refl _)⟩
/-- What StartClock answers. -/
def startV (v : Bool) (a : Int) : Value := if v then .tuple #[.agg #[.int .i64 (a * 64), .int .i64 0], .int .i64 0] else .tuple #[.agg #[.int .i64 0, .int .i64 0], .int .i64 1]
set_option maxHeartbeats 400000 in
theorem impl_StartClock (a b c d f : Int) (w : World) :
    Calls Try.prog 20 #[.agg #[.int .i64 a, .int .i64 b, .int .i64 c, .int .i64 d, .int .i64 f]] w fun e w' => e = .returned (startV (Clk.valid ⟨a, b, c, d, f⟩) a) ∧ Below w.heap.size w w' := by
  cases hb : Clk.valid ⟨a, b, c, d, f⟩
  case false =>
    have HB := Lib.hid hb
    clear hb
    go_enter Try.func20, Try.ntmps20
    go_wp2_with (go_at_call 55; refine (impl_ValidClock _ _ _ _ _ _).mono ?_; rintro e w1 ⟨rfl, hb1⟩; rw [HB.out]; obtain ⟨c1, f1⟩ := bcell hb1; have z1 : w.heap.size + 2 ≤ w1.heap.size := (by have := hb1.size; simp at this; omega); have hw1 := below_al ((Below.refl w.heap.size w).alloc (Nat.le_refl _) _) hb1 (Nat.le_refl _); have B1 := (Blk.new _ 30 #[.int .i64 0, .int .i64 0]).keep hb1; simp at B1; obtain ⟨g0, g1⟩ := B1.cell2; have k1 := B1.frozen; obtain ⟨e0, e1⟩ := cells2_set g0 g1)
    refine bodyPost_ret (v := .tuple #[.agg #[.int .i64 0, .int .i64 0], .int .i64 1]) (by simp [results, Try.results20, go_sem, e0, e1]) rfl ⟨by simp [startV], ?_⟩
    go_grown
  case true =>
    have HB := Lib.hid hb
    have ha : 4 ≤ a ∧ a ≤ 200 := by simp [Clk.valid, inB] at hb; omega
    clear hb
    go_enter Try.func20, Try.ntmps20
    go_wp2_with (go_at_call 55; refine (impl_ValidClock _ _ _ _ _ _).mono ?_; rintro e w1 ⟨rfl, hb1⟩; rw [HB.out]; obtain ⟨c1, f1⟩ := bcell hb1; have z1 : w.heap.size + 2 ≤ w1.heap.size := (by have := hb1.size; simp at this; omega); have hw1 := below_al ((Below.refl w.heap.size w).alloc (Nat.le_refl _) _) hb1 (Nat.le_refl _); have B1 := (Blk.new _ 30 #[.int .i64 0, .int .i64 0]).keep hb1; simp at B1; obtain ⟨g0, g1⟩ := B1.cell2; have k1 := B1.frozen; obtain ⟨e0, e1⟩ := cells2_set g0 g1)
    refine bodyPost_ret (v := .tuple #[.agg #[.int .i64 (a * 64), .int .i64 0], .int .i64 0]) (by simp [results, Try.results20, go_sem, e0, e1]) rfl ⟨by simp [startV], ?_⟩
    go_grown
set_option maxHeartbeats 400000 in
theorem spec_l03Start (a b c d f : Int) (w : World) (ha : 4 ≤ a ∧ a ≤ 200) :
    Calls Try.prog 54 #[.agg #[.int .i64 a, .int .i64 b, .int .i64 c, .int .i64 d, .int .i64 f]] w fun e w' => e = .returned (.agg #[.int .i64 (a * 64), .int .i64 0]) ∧ Below w.heap.size w w' := by
  go_enter Try.func54, Try.ntmps54
  go_wp2
  go_returns
  refine ⟨rfl, ?_⟩
  go_grown
set_option maxHeartbeats 400000 in
theorem spec_StartClock (a b c d f : Int) (w : World) :
    Calls Try.prog 18 #[.agg #[.int .i64 a, .int .i64 b, .int .i64 c, .int .i64 d, .int .i64 f]] w fun e w' => e = .returned (startV (Clk.valid ⟨a, b, c, d, f⟩) a) ∧ Below w.heap.size w w' := by
  cases hb : Clk.valid ⟨a, b, c, d, f⟩
  case false =>
    have HB := Lib.hid hb
    clear hb
    go_enter Try.func18, Try.ntmps18
    go_wp2_with (go_at_call 53; refine (spec_l03Ok _ _ _ _ _ _).mono ?_; rintro e w1 ⟨rfl, hb1⟩; rw [HB.out]; obtain ⟨c1, f1⟩ := bcell hb1; have z1 : w.heap.size + 2 ≤ w1.heap.size := (by have := hb1.size; simp at this; omega); have hw1 := below_al ((Below.refl w.heap.size w).alloc (Nat.le_refl _) _) hb1 (Nat.le_refl _); have B1 := (Blk.new _ 30 #[.int .i64 0, .int .i64 0]).keep hb1; simp at B1; obtain ⟨g0, g1⟩ := B1.cell2; have k1 := B1.frozen; obtain ⟨e0, e1⟩ := cells2_set g0 g1)
    refine bodyPost_ret (v := .tuple #[.agg #[.int .i64 0, .int .i64 0], .int .i64 1]) (by simp [results, Try.results18, go_sem, e0, e1]) rfl ⟨by simp [startV], ?_⟩
    go_grown
  case true =>
    have HB := Lib.hid hb
    have ha : 4 ≤ a ∧ a ≤ 200 := by simp [Clk.valid, inB] at hb; omega
    clear hb
    go_enter Try.func18, Try.ntmps18
    go_wp2_with (first | (go_at_call 53; refine (spec_l03Ok _ _ _ _ _ _).mono ?_; rintro e w1 ⟨rfl, hb1⟩; rw [HB.out]; obtain ⟨c1, f1⟩ := bcell hb1; have z1 : w.heap.size + 2 ≤ w1.heap.size := (by have := hb1.size; simp at this; omega); have hw1 := below_al ((Below.refl w.heap.size w).alloc (Nat.le_refl _) _) hb1 (Nat.le_refl _); have B1 := (Blk.new _ 30 #[.int .i64 0, .int .i64 0]).keep hb1; simp at B1; obtain ⟨g0, g1⟩ := B1.cell2; have k1 := B1.frozen; obtain ⟨e0, e1⟩ := cells2_set g0 g1) | (go_at_call 54; refine (spec_l03Start _ _ _ _ _ _ ha).mono ?_; rintro e w2 ⟨rfl, hb2⟩; obtain ⟨c2, f2⟩ := bcell hb2; have z2 := hb2.size; have hw2 := below_st hw1 hb2 (Nat.le_refl _); have B2 := B1.keep hb2; obtain ⟨g0, g1⟩ := B2.cell2; have k2 := B2.frozen; obtain ⟨e0, e1⟩ := cells2_set g0 g1))
    refine bodyPost_ret (v := .tuple #[.agg #[.int .i64 (a * 64), .int .i64 0], .int .i64 0]) (by simp [results, Try.results18, go_sem, e0, e1]) rfl ⟨by simp [startV], ?_⟩
    go_grown
set_option maxHeartbeats 400000 in
theorem walk_FnExactStartClock (c : Clk) (w : World) (_ : c.wf) :
    Calls Try.prog 4 #[c.val] w fun e w' => e = .returned (.bool true) ∧ Below w.heap.size w w' := by
  obtain ⟨a, b, c, d, f⟩ := c
  obtain ⟨p, q, x, hv⟩ : ∃ p q x, startV (Clk.valid ⟨a, b, c, d, f⟩) a = .tuple #[.agg #[.int .i64 p, .int .i64 q], .int .i64 x] := by
    unfold startV; split <;> exact ⟨_, _, _, rfl⟩
  have hs := fun w => spec_StartClock a b c d f w
  have hi := fun w => impl_StartClock a b c d f w
  rw [hv] at hs hi
  clear hv
  unfold Clk.val
  go_enter Try.func4, Try.ntmps4
  go_wp2_with fail
  have B0 := Blk.new w 28 #[.int .i64 a, .int .i64 b, .int .i64 c, .int .i64 d, .int .i64 f]
  refine (toClock_any _ _ _ _ _ _).mono ?_
  rintro e w1 ⟨rfl, hb1⟩
  have B1 := B0.keep hb1
  have hw1 := below_al (Below.refl w.heap.size w) hb1 (Nat.le_refl _)
  go_wp2_with fail
  refine (hs _).mono ?_
  rintro e w2 ⟨rfl, hb2⟩
  have B2 := B1.keep hb2
  have hw2 := below_st hw1 hb2 (Nat.le_refl _)
  have z2 := B2.lt
  obtain ⟨g0, g1, g2, g3, g4⟩ := B2.cell5
  go_wp2_with fail
  have C2 := Blk.new w2 30 #[.int .i64 p, .int .i64 q]
  refine (toClock_any _ _ _ _ _ _).mono ?_
  rintro e w3 ⟨rfl, hb3⟩
  have C3 := C2.keep hb3
  have hw3 := below_al hw2 hb3 (Nat.le_refl _)
  go_wp2_with fail
  refine (hi _).mono ?_
  rintro e w4 ⟨rfl, hb4⟩
  have C4 := C3.keep hb4
  have hw4 := below_st hw3 hb4 (Nat.le_refl _)
  have z4 := C4.lt
  obtain ⟨u0, u1⟩ := C4.cell2
  go_wp2_with fail
  refine (eqLocked_same _ _ _).mono ?_
  rintro e w5 ⟨rfl, hb5⟩
  have hw5 := below_al hw4 hb5 (Nat.le_refl _)
  go_wp2_with fail
  go_ret
  exact ⟨rfl, hw5⟩
end Go.Proofs.Ytdoaoeenmfnjhaa
