/- A2Flux; a2Long. -/
import Derived.Test.YtfdcainjppljhaaDrawFW
import Derived.Test.YtfdcainjppljhaaOpenB
namespace Go.Proofs.Ytfdcainjppljhaa
open Go.RowKit
set_option linter.unusedVariables false
theorem laws_a2Long (p p' : Option Addr) (l l' : List UInt8) (cap cap' : Nat) (w : World) :
    Calls Try.prog 15 #[.slice p l.length cap, .slice p' l'.length cap'] w fun e w' => e = .returned (.bool (decide (3000 < (l.length : Int)) || decide (3000 < (l'.length : Int)))) ∧ w' = w := by
  by_cases h : 3000 < (l.length : Int)
  · have hd : decide (3000 < (l.length : Int)) = true := decide_eq_true h
    go_enter Try.func15, Try.ntmps15
    go_wp2
    go_ret
    exact ⟨ret_bool (by first | rfl | (rw [hd]; rfl)), rfl⟩
  · have hd : decide (3000 < (l.length : Int)) = false := decide_eq_false h
    go_enter Try.func15, Try.ntmps15
    go_wp2
    go_ret
    exact ⟨ret_bool (by first | rfl | (rw [hd]; rfl)), rfl⟩
set_option maxHeartbeats 2000000 in
set_option maxRecDepth 20000 in
theorem spec_A2Flux (p : Option Addr) (l : List UInt8) (cap : Nat) (w : World) (hI : BytesAt w p l) (hl : l.length ≤ 1048576) :
    Calls Try.prog 26 #[.slice p l.length cap] w fun e w' => ∃ (cf f : Int) (q : Option Addr) (m : List Int) (d : Nat), e = .returned (.agg #[.int .i64 cf, .int .i64 f, .slice q m.length d]) ∧ fluxOk cf f m = true ∧ m.length ≤ 84 ∧ OwnS w' w.heap.size q m ∧ Below w.heap.size w w' := by
  have R0 := Blk.new w 26 #[.int .i64 0, .int .i64 0, .slice none 0 0]
  have W0 : Below w.heap.size w (w.alloc (.cells #[.int .i64 0, .int .i64 0, .slice none 0 0] 26)) := (Below.refl _ _).alloc (Nat.le_refl _) _
  have z0 : w.heap.size + 1 ≤ (w.alloc (.cells #[.int .i64 0, .int .i64 0, .slice none 0 0] 26)).heap.size := by simp
  go_enter Try.func26, Try.ntmps26
  go_wp2_with fail
  generalize w.alloc (.cells #[.int .i64 0, .int .i64 0, .slice none 0 0] 26) = w0 at R0 W0 z0 ⊢
  refine (spec_l00From p l cap _ (hI.below W0) hl).mono ?_
  rintro e w1 ⟨rfl, hS1, hb1⟩
  have z1 := hb1.size
  replace R0 := R0.keep hb1
  replace W0 := below_st W0 hb1 (Nat.le_refl _)
  go_wp2_with fail
  refine (src_l02DrawFlux w0.heap.size 0 _ hS1 (by omega)).mono ?_
  rintro e w2 ⟨cf, f, q, m, d, rfl, hq, hm, hS2, ha2⟩
  have z2 := ha2.size
  replace R0 := R0.asides ha2 (fun e => by injection e with e; omega)
  replace W0 : Below w.heap.size w w2 := W0.trans (ha2.below (by omega) (fun g e => by injection e with e; omega))
  have BF := Blk.new w2 26 #[.int .i64 cf, .int .i64 f, .slice q m.length d]
  replace R0 := R0.alloc' (.cells #[.int .i64 cf, .int .i64 f, .slice q m.length d] 26)
  replace hq := hq.below ((Below.refl _ w2).alloc (Nat.le_refl _) (.cells #[.int .i64 cf, .int .i64 f, .slice q m.length d] 26))
  replace W0 := W0.alloc W0.size (.cells #[.int .i64 cf, .int .i64 f, .slice q m.length d] 26)
  clear hS2 hS1 hb1 ha2
  go_wp2_with fail
  generalize w2.alloc (.cells #[.int .i64 cf, .int .i64 f, .slice q m.length d] 26) = w3 at *
  refine (spec_l02Ok cf f q m d _ _ hq.ints (by omega) BF).mono ?_
  rintro e w4 ⟨rfl, hb4⟩
  replace R0 := R0.keep hb4
  replace BF := BF.keep hb4
  replace hq := hq.below hb4
  replace W0 := below_st W0 hb4 (Nat.le_refl _)
  obtain ⟨f0, f1, f2⟩ := BF.cell3
  obtain ⟨r0, r1', r2⟩ := R0.cell3
  have rf := R0.frozen
  have rlt := R0.lt
  have flt := BF.lt
  obtain hok | hok := (Bool.eq_false_or_eq_true (fluxOk cf f m)).symm
  · rw [hok]
    clear f0 f1 f2
    have hkey : ∀ ws : World, ws.heap.size = w4.heap.size → OwnS (ws.alloc (.cells #[.int .i64 20, .int .i64 30] 2)) w4.heap.size (some ⟨w4.heap.size, 0, none⟩) [20, 30] := fun ws es => by
      have B := Blk.new ws 2 #[.int .i64 20, .int .i64 30]
      rw [es] at B
      refine OwnS.of_row (g := w4.heap.size) ⟨B.lt, fun i hi => ?_⟩ (Nat.le_refl _)
      have : i = 0 ∨ i = 1 := by simp at hi; omega
      rcases this with rfl | rfl
      · exact ⟨by rw [B.cell 0]; rfl, B.frozen 0⟩
      · exact ⟨by rw [B.cell 1]; rfl, B.frozen 1⟩
    have W5 := ((W0.setCell (p := ⟨w.heap.size, 0, none⟩) (Nat.le_refl _) (.int .i64 10)).setCell (p := ⟨w.heap.size, 1, none⟩) (Nat.le_refl _) (.int .i64 5)).setCell (p := ⟨w.heap.size, 2, none⟩) (Nat.le_refl _) (.slice (some ⟨w4.heap.size, 0, none⟩) 2 2)
    obtain ⟨e0, e1, e2⟩ := ((R0.set3 (.int .i64 10) (.int .i64 5) (.slice (some ⟨w4.heap.size, 0, none⟩) 2 2)).alloc' (.cells #[.int .i64 20, .int .i64 30] 2)).cell3
    go_wp2_with fail
    refine bodyPost_ret (v := .agg #[.int .i64 10, .int .i64 5, .slice (some ⟨w4.heap.size, 0, none⟩) 2 2]) (by simp [results, Try.results26, go_sem, e0, e1, e2]) rfl ?_
    exact ⟨10, 5, some ⟨w4.heap.size, 0, none⟩, [20, 30], 2, rfl, by decide, by decide, (hkey _ (by simp [World.setCell])).mono W0.size, W5.alloc W5.size _⟩
  · rw [hok]
    have hne : w.heap.size ≠ w2.heap.size := by omega
    obtain ⟨e0, e1, e2⟩ := (R0.set3 (.int .i64 cf) (.int .i64 f) (.slice q m.length d)).cell3
    go_wp2_with fail
    refine bodyPost_ret (v := .agg #[.int .i64 cf, .int .i64 f, .slice q m.length d]) (by simp [results, Try.results26, go_sem, e0, e1, e2]) rfl ?_
    exact ⟨cf, f, q, m, d, rfl, hok, hm, (((hq.offS (g' := w.heap.size) (by omega) 0 _).offS (g' := w.heap.size) (by omega) 1 _).offS (g' := w.heap.size) (by omega) 2 _).mono (show w.heap.size ≤ w1.heap.size by omega), ((W0.setCell (p := ⟨w.heap.size, 0, none⟩) (Nat.le_refl _) _).setCell (p := ⟨w.heap.size, 1, none⟩) (Nat.le_refl _) _).setCell (p := ⟨w.heap.size, 2, none⟩) (Nat.le_refl _) _⟩
end Go.Proofs.Ytfdcainjppljhaa
