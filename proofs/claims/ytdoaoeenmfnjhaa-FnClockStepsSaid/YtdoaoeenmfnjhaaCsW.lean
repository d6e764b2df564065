/- The law's walk: FnClockSteps. Printed by csteps.py. -/
import Derived.Test.YtdoaoeenmfnjhaaBothW
import Derived.Test.YtdoaoeenmfnjhaaStepsP
import Derived.Test.YtdoaoeenmfnjhaaOpenB
import Derived.Deep.RegionHeld3
import Derived.Deep.DeepCutAuto
namespace Go.Proofs.Ytdoaoeenmfnjhaa
open Go.RowKit
set_option linter.unusedVariables false
theorem gapV_el {c : Clk} {cf f : Int} {l : List Int} (h : runCode c cf f l = 0) : ∀ x ∈ gapV c cf f l, 0 ≤ x ∧ x ≤ l.length := by
  obtain ⟨h1, h2, h3⟩ := runCode_ok h
  have e : gapV c cf f l = binL (runN c (c.cell * 64) (off0 c f) l) := by unfold gapV runNs; rw [h1, h2, h3]; rfl
  intro x hx
  rw [e] at hx
  obtain ⟨i, hi, rfl⟩ := List.getElem_of_mem hx
  have := binL_bd (runN c (c.cell * 64) (off0 c f) l) i
  rw [List.getD_eq_getElem?_getD, List.getElem?_eq_getElem hi, Option.getD_some, runN_len] at this
  exact this
theorem Blk.set2_0 {w : World} {g : Nat} {t : TypeId} {a b : Value} (h : Blk w g t #[a, b]) (x : Value) : Blk (w.setCell ⟨g, 0, none⟩ x) g t #[x, b] := by
  have hB' : w.heap[g]? = some (.cells #[a, b] t (0, 0)) := h
  unfold Blk
  simp [World.setCell, Array.getElem?_modify, hB']
theorem Blk.set2_1 {w : World} {g : Nat} {t : TypeId} {a b : Value} (h : Blk w g t #[a, b]) (x : Value) : Blk (w.setCell ⟨g, 1, none⟩ x) g t #[a, x] := by
  have hB' : w.heap[g]? = some (.cells #[a, b] t (0, 0)) := h
  unfold Blk
  simp [World.setCell, Array.getElem?_modify, hB']
theorem Blk.drewN' {w : World} {g : Nat} {t : TypeId} {cs : Array Value} (h : Blk w g t cs) (n : Nat) : Blk (w.drewN n) g t cs := h
set_option maxHeartbeats 8000000 in
set_option maxRecDepth 20000 in
theorem walk_FnClockSteps (x : Byt) (w : World) (hx : x.ok w) :
    Calls Try.prog 14 #[x.val] w fun e w' => e = .returned (.bool true) ∧ Below w.heap.size w w' := by
  obtain ⟨p, cs, cap0⟩ := x
  obtain ⟨hI, -⟩ := hx
  simp only [Byt.val] at hI ⊢
  by_cases hl0 : cs.length ≤ 1048576
  rotate_left
  · have hd : decide (1048576 < (cs.length : Int)) = true := by simp; omega
    go_enter Try.func14, Try.ntmps14
    go_wp2_with fail
    refine (laws_b10Long p cs cap0 _).mono ?_
    rintro e w0 ⟨rfl, rfl⟩
    rw [hd]
    go_wp2_with fail
    go_ret
    exact ⟨rfl, Below.refl _ _⟩
  have hd : decide (1048576 < (cs.length : Int)) = false := by simp; omega
  go_enter Try.func14, Try.ntmps14
  go_wp2_with fail
  refine (laws_b10Long p cs cap0 _).mono ?_
  rintro e w0 ⟨rfl, rfl⟩
  rw [hd]
  go_wp2_with fail
  refine (spec_DrawRecoverCells p cs cap0 _ hI hl0).mono ?_
  rintro e w1 ⟨cf, f, q, l, cap, k, rfl, SQ, hl, W1⟩
  have hCE := fun w' hI' hl' => impl_ClockErrors k cf f q l cap w' hI' hl'
  have hGC := fun w' hI' hl' => impl_GapCounts k cf f q l cap w' hI' hl'
  have hST := fun P O gap w' => impl_StepClock k P O gap w'
  have hSC := fun w' => impl_StartClock k.cell k.low k.high k.phase k.speed w'
  have HAT := Lib.hid (fun h j hj P O hP hO => @steps_at k cf f l h j hj P O hP hO)
  have HE := Lib.hid (fun h => @cEs_is k cf f l h)
  have HG := Lib.hid (fun h => @gapV_is k cf f l h)
  have HGE := Lib.hid (fun h => @gapV_el k cf f l h)
  have HOK := Lib.hid (fun h => @runCode_ok k cf f l h)
  have hB1 := W1.size
  have BF := (Blk.new w1 46 #[.int .i64 cf, .int .i64 f, .slice q l.length cap]).keep ((Below.refl _ (w1.alloc (.cells #[.int .i64 cf, .int .i64 f, .slice q l.length cap] 46))).alloc (Nat.le_refl _) (.cells #[.int .i64 k.cell, .int .i64 k.low, .int .i64 k.high, .int .i64 k.phase, .int .i64 k.speed] 23))
  have BC := Blk.new (w1.alloc (.cells #[.int .i64 cf, .int .i64 f, .slice q l.length cap] 46)) 23 #[.int .i64 k.cell, .int .i64 k.low, .int .i64 k.high, .int .i64 k.phase, .int .i64 k.speed]
  have e1 : (w1.alloc (.cells #[.int .i64 cf, .int .i64 f, .slice q l.length cap] 46)).heap.size = w1.heap.size + 1 := by simp
  rw [e1] at BC
  have HX : ∃ c : Clk, c = k := ⟨k, rfl⟩
  unfold Clk.val at hCE hGC hST ⊢
  go_wp2_with fail
  have BA := ((Below.refl w1.heap.size w1).alloc (Nat.le_refl _) (.cells #[.int .i64 cf, .int .i64 f, .slice q l.length cap] 46)).alloc (by simp) (.cells #[.int .i64 k.cell, .int .i64 k.low, .int .i64 k.high, .int .i64 k.phase, .int .i64 k.speed] 23)
  replace SQ := SQ.below BA
  replace W1 := below_st W1 BA (Nat.le_refl _)
  have z2 : w1.heap.size + 2 ≤ ((w1.alloc (.cells #[.int .i64 cf, .int .i64 f, .slice q l.length cap] 46)).alloc (.cells #[.int .i64 k.cell, .int .i64 k.low, .int .i64 k.high, .int .i64 k.phase, .int .i64 k.speed] 23)).heap.size := by simp
  clear BA e1 HX
  generalize (w1.alloc (.cells #[.int .i64 cf, .int .i64 f, .slice q l.length cap] 46)).alloc (.cells #[.int .i64 k.cell, .int .i64 k.low, .int .i64 k.high, .int .i64 k.phase, .int .i64 k.speed] 23) = w2 at *
  obtain ⟨bf, ebf⟩ : ∃ bf, w1.heap.size = bf := ⟨_, rfl⟩
  rw [ebf] at BF BC hB1 z2 ⊢
  refine (hCE _ SQ.ints (by omega)).mono ?_
  rintro e w3 ⟨qe, de, rfl, SE, hb3⟩
  have z3 := hb3.size
  replace BF := BF.keep hb3
  replace BC := BC.keep hb3
  replace SQ := SQ.below hb3
  replace W1 := below_st W1 hb3 (Nat.le_refl _)
  clear hb3
  obtain ⟨f0, f1, f2⟩ := BF.cell3
  obtain ⟨c0, c1, c2, c3, c4⟩ := BC.cell5
  have flt := BF.lt
  have clt := BC.lt
  go_wp2_with fail
  refine (hGC _ SQ.ints (by omega)).mono ?_
  rintro e w4 ⟨qg, dg, rfl, SG, hb4⟩
  have z4 := hb4.size
  replace BF := BF.keep hb4
  replace BC := BC.keep hb4
  replace SQ := SQ.below hb4
  replace SE := SE.below hb4
  replace W1 := below_st W1 hb4 (Nat.le_refl _)
  clear hb4 f0 f1 f2 c0 c1 c2 c3 c4 flt clt hCE hGC
  obtain ⟨f0, f1, f2⟩ := BF.cell3
  obtain ⟨c0, c1, c2, c3, c4⟩ := BC.cell5
  have flt := BF.lt
  have clt := BC.lt
  by_cases hr : runCode k cf f l = 0
  rotate_left
  · obtain ⟨r, er⟩ : ∃ r, runCode k cf f l = r := ⟨_, rfl⟩
    rw [er] at hr ⊢
    have hq1 : (r == r) = true := by simp
    have hq2 : (r == 0) = false := by simp [hr]
    go_wp2_with fail
    go_ret
    exact ⟨rfl, W1⟩
  have eE := HE.out hr
  have eG := HG.out hr
  have hG := HGE.out hr
  have hok := HOK.out hr
  have HR := Lib.hid hr
  obtain ⟨E, eE2⟩ : ∃ E, E = runE k (k.cell * 64) (off0 k f) l := ⟨_, rfl⟩
  have hEl : E.length = l.length := by rw [eE2]; exact runE_len _ _ _ _
  rw [eE, ← eE2] at SE
  rw [hr, eE, ← eE2, hEl]
  generalize gapV k cf f l = G at SG eG hG ⊢
  obtain ⟨hsum, h9⟩ := eG
  rw [h9]
  have HEE := Lib.hid eE2
  have HEL := Lib.hid hEl
  have H9 := Lib.hid h9
  have HSU := Lib.hid hsum
  clear eE2 hEl h9 hsum eE hr HE HG HGE
  go_wp2_with fail
  go_loopw [9, 10] (fun s i wr => ∃ j : Nat, j ≤ 9 ∧ s = .int .i64 (G.take j).sum ∧ i = .int .i64 j ∧ Below w4.heap.size w4 wr) (fun _ i _ => 9 - (intOf i).toNat)
  case atStart => exact ⟨0, by omega, by simp, rfl, Below.refl _ _⟩
  case round =>
    obtain ⟨j, hj, rfl, rfl, hbel⟩ := hrel
    by_cases hlt : j < 9
    · have hjG : j < G.length := by rw [H9.out]; exact hlt
      have hs1 := sumI_take hjG
      obtain ⟨gq, rfl, -, hrow⟩ := (SG.below hbel) (by intro e; rw [e] at hjG; simp at hjG)
      obtain ⟨hx, -⟩ := hrow.cell hjG
      have hm : ∀ m, 0 ≤ (G.take m).sum ∧ (G.take m).sum ≤ 84 * 9 := fun m => by
        have h1 := sumI_bd (l := G.take m) (lo := 0) (hi := 84) (fun x hx => by have := hG x (List.mem_of_mem_take hx); omega)
        have h2 : (G.take m).length ≤ 9 := by rw [List.length_take, H9.out]; omega
        omega
      have hs2 := hm j
      have hs3 := hm (j + 1)
      obtain ⟨y, ey⟩ : ∃ y, G[j] = y := ⟨_, rfl⟩
      obtain ⟨s, es⟩ : ∃ s, (G.take j).sum = s := ⟨_, rfl⟩
      rw [ey, es] at hs1
      rw [hs1] at hs3
      rw [ey] at hx
      rw [es] at hs2 ⊢
      have q1 : IntKind.i64.wrap (s + y) = s + y := IntWalk.i64_in _ (by omega)
      have HS1 := Lib.hid hs1
      clear hs1 es
      go_wp2_with fail
      go_roundw
      case rel => exact ⟨j + 1, by omega, by rw [HS1.out], by go_num, hbel⟩
      case measure => simp [intOf]; omega
    · have hj9 : j = 9 := by omega
      subst hj9
      have hS : (G.take 9).sum = l.length := by rw [List.take_of_length_le (by rw [H9.out]; omega)]; exact HSU.out
      rw [hS]
      clear hS
      replace BF := BF.keep hbel
      replace BC := BC.keep hbel
      replace SQ := SQ.below hbel
      replace SE := SE.below hbel
      replace W1 := below_st W1 hbel (Nat.le_refl _)
      have z5 := hbel.size
      clear SG hbel f0 f1 f2 c0 c1 c2 c3 c4 flt clt
      obtain ⟨f0, f1, f2⟩ := BF.cell3
      obtain ⟨c0, c1, c2, c3, c4⟩ := BC.cell5
      have flt := BF.lt
      have clt := BC.lt
      by_cases hph : k.phase = 0
      · rw [hph] at c3
        go_wp2_with fail
        go_ret
        exact ⟨rfl, W1⟩
      have hp2 : (k.phase == 0) = false := by simp [hph]
      go_wp2_with fail
      have hv : Clk.valid ⟨k.cell, k.low, k.high, k.phase, k.speed⟩ = true := hok.2.1
      have hSC2 := hSC wr
      rw [hv] at hSC2
      refine hSC2.mono ?_
      rintro e w6 ⟨rfl, hb6⟩
      unfold startV
      rw [if_pos rfl]
      replace BF := BF.keep hb6
      replace BC := BC.keep hb6
      replace SQ := SQ.below hb6
      replace SE := SE.below hb6
      replace W1 := below_st W1 hb6 (Nat.le_refl _)
      have z6 := hb6.size
      clear hb6 f0 f1 f2 c0 c1 c2 c3 c4 flt clt hSC hSC2 hv
      have BX := Blk.new w6 30 #[.int .i64 (k.cell * 64), .int .i64 0]
      have BA := (Below.refl _ w6).alloc (Nat.le_refl _) (.cells #[.int .i64 (k.cell * 64), .int .i64 0] 30)
      replace BF := BF.keep BA
      replace BC := BC.keep BA
      have hgq : l ≠ [] → ∀ g, q = some (⟨g, 0, none⟩ : Addr) → g < w6.heap.size := fun hl g hq => (SQ.lt hl hq).2
      have hge : E ≠ [] → ∀ g, qe = some (⟨g, 0, none⟩ : Addr) → g < w6.heap.size := fun hl g hq => (SE.lt hl hq).2
      replace SQ := SQ.below BA
      replace SE := SE.below BA
      replace W1 := below_st W1 BA (Nat.le_refl _)
      go_wp2_with fail
      generalize w6.alloc (.cells #[.int .i64 (k.cell * 64), .int .i64 0] 30) = w7 at *
      obtain ⟨bx, ebx⟩ : ∃ bx, w6.heap.size = bx := ⟨_, rfl⟩
      rw [ebx] at BX z6 hgq hge ⊢
      have BX0 := BX
      have z7 := BX.lt
      have hpo : k.cell * 64 = (stS k (k.cell * 64) (off0 k f) (l.take 0)).1 ∧ (0 : Int) = (stS k (k.cell * 64) (off0 k f) (l.take 0)).2 := by
        constructor
        · simp [stS]
        · simp [stS, off0, hph]
      go_loopw [13] (fun i wr => ∃ (j : Nat) (P O : Int), j ≤ l.length ∧ i = .int .i64 j ∧ Blk wr bx 30 #[.int .i64 P, .int .i64 O] ∧ (P = (stS k (k.cell * 64) (off0 k f) (l.take j)).1 ∧ O = (stS k (k.cell * 64) (off0 k f) (l.take j)).2) ∧ Below bx w7 wr) (fun i _ => l.length - (intOf i).toNat)
      case atStart => exact ⟨0, _, _, Nat.zero_le _, rfl, BX0, hpo, Below.refl _ _⟩
      case round =>
        clear BX BX0 hpo
        obtain ⟨j, P, O, hj2, rfl, BX, hPO, hbel⟩ := hrel
        obtain ⟨wt, hwt⟩ : ∃ wt : World, wt = wr := ⟨_, rfl⟩
        subst hwt
        have W2 := W1.trans (hbel.mono (by omega))
        by_cases hlt2 : j < l.length
        · obtain ⟨a1, a2, a3, a4, a5, a6, a7, a8⟩ := HAT.out HR.out j hlt2 P O hPO.1.symm hPO.2.symm
          have hjE : j < E.length := by rw [HEL.out]; exact hlt2
          have hl1 : l ≠ [] := by intro e; rw [e] at hlt2; simp at hlt2
          have hE1 : E ≠ [] := by intro e; rw [e] at hjE; simp at hjE
          obtain ⟨g, rfl, -, hrow⟩ := SQ hl1
          obtain ⟨ge, rfl, -, hrowE⟩ := SE hE1
          have hgq' := hgq hl1 g rfl
          have hge' := hge hE1 ge rfl
          have hbc : ∀ b o, b < bx → wt.cell? ⟨b, o, none⟩ = w7.cell? ⟨b, o, none⟩ := fun b o h => hbel.cell (p := ⟨b, o, none⟩) h
          obtain ⟨hx, -⟩ := hrow.cell hlt2
          obtain ⟨hy, -⟩ := hrowE.cell hjE
          have hEj : E[j] = l[j] * 64 + O - stN P O l[j] * P := by
            have h0 : ∀ (E' : List Int) (h : E' = E) (hj' : j < E'.length), E'[j] = E[j] := fun E' h hj' => by subst h; rfl
            rw [← h0 _ HEE.out.symm (by rw [← HEE.out]; exact hjE)]
            exact a2
          rw [hEj] at hy
          have hst' := hST P O l[j]
          rw [a1] at hst'
          generalize hgp : l[j] = gp at *
          generalize hN : stN P O gp = N at *
          generalize hP2 : stP k P O gp = P2 at *
          generalize hO2 : stO k P O gp = O2 at *
          have hNP := Int.mul_le_mul a8.2 a5.2 (by omega) (by omega)
          have hNP0 := Int.mul_nonneg (a := N) (b := P) (by omega) (by omega)
          obtain ⟨y, ey⟩ : ∃ y, N * P = y := ⟨_, rfl⟩
          rw [ey] at hNP hNP0 hy
          have q1 : IntKind.i64.wrap (gp * 64) = gp * 64 := IntWalk.i64_in _ (by omega)
          have q2 : IntKind.i64.wrap (gp * 64 + O) = gp * 64 + O := IntWalk.i64_in _ (by omega)
          have q3 : IntKind.i64.wrap (N * P) = y := by rw [ey]; exact IntWalk.i64_in _ (by omega)
          obtain ⟨r, er⟩ : ∃ r, gp * 64 + O - y = r := ⟨_, rfl⟩
          rw [er] at hy
          have q4 : IntKind.i64.wrap (gp * 64 + O - y) = r := by rw [er]; exact IntWalk.i64_in _ (by omega)
          clear ey
          have HA3 := Lib.hid a3; have HA4 := Lib.hid a4
          clear a1 a2 a3 a4 hEj hgp hN hP2 hO2 hPO
          have S0 : (bx < wt.heap.size ∧ wt.cell? ⟨bx, 0, none⟩ = some (.int .i64 P) ∧ wt.cell? ⟨bx, 1, none⟩ = some (.int .i64 O)) ∧ (bf + 1 < wt.heap.size ∧ wt.cell? ⟨bf, 0, none⟩ = some (.int .i64 cf) ∧ wt.cell? ⟨bf, 1, none⟩ = some (.int .i64 f) ∧ wt.cell? ⟨bf, 2, none⟩ = some (.slice (some ⟨g, 0, none⟩) l.length cap)) ∧ (wt.cell? ⟨bf + 1, 0, none⟩ = some (.int .i64 k.cell) ∧ wt.cell? ⟨bf + 1, 1, none⟩ = some (.int .i64 k.low) ∧ wt.cell? ⟨bf + 1, 2, none⟩ = some (.int .i64 k.high) ∧ wt.cell? ⟨bf + 1, 3, none⟩ = some (.int .i64 k.phase) ∧ wt.cell? ⟨bf + 1, 4, none⟩ = some (.int .i64 k.speed)) ∧ (g < wt.heap.size ∧ wt.cell? ⟨g, j, none⟩ = some (.int .i64 gp)) ∧ (ge < wt.heap.size ∧ wt.cell? ⟨ge, j, none⟩ = some (.int .i64 r)) := ⟨⟨BX.lt, BX.cell2.1, BX.cell2.2⟩, ⟨Nat.lt_of_lt_of_le (by omega) hbel.size, (hbc _ _ (by omega)).trans BF.cell3.1, (hbc _ _ (by omega)).trans BF.cell3.2.1, (hbc _ _ (by omega)).trans BF.cell3.2.2⟩, ⟨(hbc _ _ (by omega)).trans BC.cell5.1, (hbc _ _ (by omega)).trans BC.cell5.2.1, (hbc _ _ (by omega)).trans BC.cell5.2.2.1, (hbc _ _ (by omega)).trans BC.cell5.2.2.2.1, (hbc _ _ (by omega)).trans BC.cell5.2.2.2.2⟩, ⟨Nat.lt_of_lt_of_le hrow.lt hbel.size, (hbc _ _ hgq').trans hx⟩, ⟨Nat.lt_of_lt_of_le hrowE.lt hbel.size, (hbc _ _ hge').trans hy⟩⟩
          have keepB : ∀ y1 y2 : World, ((bx < y1.heap.size ∧ y1.cell? ⟨bx, 0, none⟩ = some (.int .i64 P) ∧ y1.cell? ⟨bx, 1, none⟩ = some (.int .i64 O)) ∧ (bf + 1 < y1.heap.size ∧ y1.cell? ⟨bf, 0, none⟩ = some (.int .i64 cf) ∧ y1.cell? ⟨bf, 1, none⟩ = some (.int .i64 f) ∧ y1.cell? ⟨bf, 2, none⟩ = some (.slice (some ⟨g, 0, none⟩) l.length cap)) ∧ (y1.cell? ⟨bf + 1, 0, none⟩ = some (.int .i64 k.cell) ∧ y1.cell? ⟨bf + 1, 1, none⟩ = some (.int .i64 k.low) ∧ y1.cell? ⟨bf + 1, 2, none⟩ = some (.int .i64 k.high) ∧ y1.cell? ⟨bf + 1, 3, none⟩ = some (.int .i64 k.phase) ∧ y1.cell? ⟨bf + 1, 4, none⟩ = some (.int .i64 k.speed)) ∧ (g < y1.heap.size ∧ y1.cell? ⟨g, j, none⟩ = some (.int .i64 gp)) ∧ (ge < y1.heap.size ∧ y1.cell? ⟨ge, j, none⟩ = some (.int .i64 r))) → Below wt.heap.size y1 y2 → ((bx < y2.heap.size ∧ y2.cell? ⟨bx, 0, none⟩ = some (.int .i64 P) ∧ y2.cell? ⟨bx, 1, none⟩ = some (.int .i64 O)) ∧ (bf + 1 < y2.heap.size ∧ y2.cell? ⟨bf, 0, none⟩ = some (.int .i64 cf) ∧ y2.cell? ⟨bf, 1, none⟩ = some (.int .i64 f) ∧ y2.cell? ⟨bf, 2, none⟩ = some (.slice (some ⟨g, 0, none⟩) l.length cap)) ∧ (y2.cell? ⟨bf + 1, 0, none⟩ = some (.int .i64 k.cell) ∧ y2.cell? ⟨bf + 1, 1, none⟩ = some (.int .i64 k.low) ∧ y2.cell? ⟨bf + 1, 2, none⟩ = some (.int .i64 k.high) ∧ y2.cell? ⟨bf + 1, 3, none⟩ = some (.int .i64 k.phase) ∧ y2.cell? ⟨bf + 1, 4, none⟩ = some (.int .i64 k.speed)) ∧ (g < y2.heap.size ∧ y2.cell? ⟨g, j, none⟩ = some (.int .i64 gp)) ∧ (ge < y2.heap.size ∧ y2.cell? ⟨ge, j, none⟩ = some (.int .i64 r))) := by
            rintro y1 y2 ⟨⟨s0, s1, s2⟩, ⟨t0, t1, t2, t3⟩, ⟨v0, v1, v2, v3, v4⟩, ⟨x0, x1⟩, ⟨x2, x3⟩⟩ hb
            have hbx := S0.1.1; have hb1 := S0.2.1.1; have hb2 := S0.2.2.2.1.1; have hb3 := S0.2.2.2.2.1
            have hc : ∀ b o, b < wt.heap.size → y2.cell? ⟨b, o, none⟩ = y1.cell? ⟨b, o, none⟩ := fun b o h => hb.cell (p := ⟨b, o, none⟩) h
            have hz := hb.size
            exact ⟨⟨by omega, (hc _ _ hbx).trans s1, (hc _ _ hbx).trans s2⟩, ⟨by omega, (hc _ _ (by omega)).trans t1, (hc _ _ (by omega)).trans t2, (hc _ _ (by omega)).trans t3⟩, ⟨(hc _ _ hb1).trans v0, (hc _ _ hb1).trans v1, (hc _ _ hb1).trans v2, (hc _ _ hb1).trans v3, (hc _ _ hb1).trans v4⟩, ⟨by omega, (hc _ _ hb2).trans x1⟩, ⟨by omega, (hc _ _ hb3).trans x3⟩⟩
          have hbxw := BX.lt
          have hgw := S0.2.2.2.1.1
          have hgew := S0.2.2.2.2.1
          have hbfw := S0.2.1.1
          have SD : (bx < wt.drew.heap.size ∧ wt.drew.cell? ⟨bx, 0, none⟩ = some (.int .i64 P) ∧ wt.drew.cell? ⟨bx, 1, none⟩ = some (.int .i64 O)) ∧ (bf + 1 < wt.drew.heap.size ∧ wt.drew.cell? ⟨bf, 0, none⟩ = some (.int .i64 cf) ∧ wt.drew.cell? ⟨bf, 1, none⟩ = some (.int .i64 f) ∧ wt.drew.cell? ⟨bf, 2, none⟩ = some (.slice (some ⟨g, 0, none⟩) l.length cap)) ∧ (wt.drew.cell? ⟨bf + 1, 0, none⟩ = some (.int .i64 k.cell) ∧ wt.drew.cell? ⟨bf + 1, 1, none⟩ = some (.int .i64 k.low) ∧ wt.drew.cell? ⟨bf + 1, 2, none⟩ = some (.int .i64 k.high) ∧ wt.drew.cell? ⟨bf + 1, 3, none⟩ = some (.int .i64 k.phase) ∧ wt.drew.cell? ⟨bf + 1, 4, none⟩ = some (.int .i64 k.speed)) ∧ (g < wt.drew.heap.size ∧ wt.drew.cell? ⟨g, j, none⟩ = some (.int .i64 gp)) ∧ (ge < wt.drew.heap.size ∧ wt.drew.cell? ⟨ge, j, none⟩ = some (.int .i64 r)) := S0
          have SA : (bx < (wt.alloc (.cells #[.int .i64 0, .int .i64 0] 30)).drew.heap.size ∧ (wt.alloc (.cells #[.int .i64 0, .int .i64 0] 30)).drew.cell? ⟨bx, 0, none⟩ = some (.int .i64 P) ∧ (wt.alloc (.cells #[.int .i64 0, .int .i64 0] 30)).drew.cell? ⟨bx, 1, none⟩ = some (.int .i64 O)) ∧ (bf + 1 < (wt.alloc (.cells #[.int .i64 0, .int .i64 0] 30)).drew.heap.size ∧ (wt.alloc (.cells #[.int .i64 0, .int .i64 0] 30)).drew.cell? ⟨bf, 0, none⟩ = some (.int .i64 cf) ∧ (wt.alloc (.cells #[.int .i64 0, .int .i64 0] 30)).drew.cell? ⟨bf, 1, none⟩ = some (.int .i64 f) ∧ (wt.alloc (.cells #[.int .i64 0, .int .i64 0] 30)).drew.cell? ⟨bf, 2, none⟩ = some (.slice (some ⟨g, 0, none⟩) l.length cap)) ∧ ((wt.alloc (.cells #[.int .i64 0, .int .i64 0] 30)).drew.cell? ⟨bf + 1, 0, none⟩ = some (.int .i64 k.cell) ∧ (wt.alloc (.cells #[.int .i64 0, .int .i64 0] 30)).drew.cell? ⟨bf + 1, 1, none⟩ = some (.int .i64 k.low) ∧ (wt.alloc (.cells #[.int .i64 0, .int .i64 0] 30)).drew.cell? ⟨bf + 1, 2, none⟩ = some (.int .i64 k.high) ∧ (wt.alloc (.cells #[.int .i64 0, .int .i64 0] 30)).drew.cell? ⟨bf + 1, 3, none⟩ = some (.int .i64 k.phase) ∧ (wt.alloc (.cells #[.int .i64 0, .int .i64 0] 30)).drew.cell? ⟨bf + 1, 4, none⟩ = some (.int .i64 k.speed)) ∧ (g < (wt.alloc (.cells #[.int .i64 0, .int .i64 0] 30)).drew.heap.size ∧ (wt.alloc (.cells #[.int .i64 0, .int .i64 0] 30)).drew.cell? ⟨g, j, none⟩ = some (.int .i64 gp)) ∧ (ge < (wt.alloc (.cells #[.int .i64 0, .int .i64 0] 30)).drew.heap.size ∧ (wt.alloc (.cells #[.int .i64 0, .int .i64 0] 30)).drew.cell? ⟨ge, j, none⟩ = some (.int .i64 r)) := keepB _ _ SD ((Below.refl _ wt.drew).alloc (Nat.le_refl _) _)
          have keepW : ∀ (y : World) (b : Nat) (v0 v1 : Value), wt.heap.size ≤ b → ((bx < y.heap.size ∧ y.cell? ⟨bx, 0, none⟩ = some (.int .i64 P) ∧ y.cell? ⟨bx, 1, none⟩ = some (.int .i64 O)) ∧ (bf + 1 < y.heap.size ∧ y.cell? ⟨bf, 0, none⟩ = some (.int .i64 cf) ∧ y.cell? ⟨bf, 1, none⟩ = some (.int .i64 f) ∧ y.cell? ⟨bf, 2, none⟩ = some (.slice (some ⟨g, 0, none⟩) l.length cap)) ∧ (y.cell? ⟨bf + 1, 0, none⟩ = some (.int .i64 k.cell) ∧ y.cell? ⟨bf + 1, 1, none⟩ = some (.int .i64 k.low) ∧ y.cell? ⟨bf + 1, 2, none⟩ = some (.int .i64 k.high) ∧ y.cell? ⟨bf + 1, 3, none⟩ = some (.int .i64 k.phase) ∧ y.cell? ⟨bf + 1, 4, none⟩ = some (.int .i64 k.speed)) ∧ (g < y.heap.size ∧ y.cell? ⟨g, j, none⟩ = some (.int .i64 gp)) ∧ (ge < y.heap.size ∧ y.cell? ⟨ge, j, none⟩ = some (.int .i64 r))) → ((bx < ((y.setCell ⟨b, 0, none⟩ v0).setCell ⟨b, 1, none⟩ v1).heap.size ∧ ((y.setCell ⟨b, 0, none⟩ v0).setCell ⟨b, 1, none⟩ v1).cell? ⟨bx, 0, none⟩ = some (.int .i64 P) ∧ ((y.setCell ⟨b, 0, none⟩ v0).setCell ⟨b, 1, none⟩ v1).cell? ⟨bx, 1, none⟩ = some (.int .i64 O)) ∧ (bf + 1 < ((y.setCell ⟨b, 0, none⟩ v0).setCell ⟨b, 1, none⟩ v1).heap.size ∧ ((y.setCell ⟨b, 0, none⟩ v0).setCell ⟨b, 1, none⟩ v1).cell? ⟨bf, 0, none⟩ = some (.int .i64 cf) ∧ ((y.setCell ⟨b, 0, none⟩ v0).setCell ⟨b, 1, none⟩ v1).cell? ⟨bf, 1, none⟩ = some (.int .i64 f) ∧ ((y.setCell ⟨b, 0, none⟩ v0).setCell ⟨b, 1, none⟩ v1).cell? ⟨bf, 2, none⟩ = some (.slice (some ⟨g, 0, none⟩) l.length cap)) ∧ (((y.setCell ⟨b, 0, none⟩ v0).setCell ⟨b, 1, none⟩ v1).cell? ⟨bf + 1, 0, none⟩ = some (.int .i64 k.cell) ∧ ((y.setCell ⟨b, 0, none⟩ v0).setCell ⟨b, 1, none⟩ v1).cell? ⟨bf + 1, 1, none⟩ = some (.int .i64 k.low) ∧ ((y.setCell ⟨b, 0, none⟩ v0).setCell ⟨b, 1, none⟩ v1).cell? ⟨bf + 1, 2, none⟩ = some (.int .i64 k.high) ∧ ((y.setCell ⟨b, 0, none⟩ v0).setCell ⟨b, 1, none⟩ v1).cell? ⟨bf + 1, 3, none⟩ = some (.int .i64 k.phase) ∧ ((y.setCell ⟨b, 0, none⟩ v0).setCell ⟨b, 1, none⟩ v1).cell? ⟨bf + 1, 4, none⟩ = some (.int .i64 k.speed)) ∧ (g < ((y.setCell ⟨b, 0, none⟩ v0).setCell ⟨b, 1, none⟩ v1).heap.size ∧ ((y.setCell ⟨b, 0, none⟩ v0).setCell ⟨b, 1, none⟩ v1).cell? ⟨g, j, none⟩ = some (.int .i64 gp)) ∧ (ge < ((y.setCell ⟨b, 0, none⟩ v0).setCell ⟨b, 1, none⟩ v1).heap.size ∧ ((y.setCell ⟨b, 0, none⟩ v0).setCell ⟨b, 1, none⟩ v1).cell? ⟨ge, j, none⟩ = some (.int .i64 r))) := fun y b v0 v1 hb h =>
            keepB _ _ h (((Below.refl wt.heap.size y).setCell (p := ⟨b, 0, none⟩) hb v0).setCell (p := ⟨b, 1, none⟩) hb v1)
          go_wp2_with fail
          go_cut [14, 15, 16] (fun v14 v15 v16 wx => ∃ b : Nat, v14 = .int .i64 N ∧ v15 = .pointer (some ⟨b, 0, none⟩) ∧ v16 = .int .i64 0 ∧ wt.heap.size ≤ b ∧ Blk wx b 30 #[.int .i64 P2, .int .i64 O2] ∧ ((bx < wx.heap.size ∧ wx.cell? ⟨bx, 0, none⟩ = some (.int .i64 P) ∧ wx.cell? ⟨bx, 1, none⟩ = some (.int .i64 O)) ∧ (bf + 1 < wx.heap.size ∧ wx.cell? ⟨bf, 0, none⟩ = some (.int .i64 cf) ∧ wx.cell? ⟨bf, 1, none⟩ = some (.int .i64 f) ∧ wx.cell? ⟨bf, 2, none⟩ = some (.slice (some ⟨g, 0, none⟩) l.length cap)) ∧ (wx.cell? ⟨bf + 1, 0, none⟩ = some (.int .i64 k.cell) ∧ wx.cell? ⟨bf + 1, 1, none⟩ = some (.int .i64 k.low) ∧ wx.cell? ⟨bf + 1, 2, none⟩ = some (.int .i64 k.high) ∧ wx.cell? ⟨bf + 1, 3, none⟩ = some (.int .i64 k.phase) ∧ wx.cell? ⟨bf + 1, 4, none⟩ = some (.int .i64 k.speed)) ∧ (g < wx.heap.size ∧ wx.cell? ⟨g, j, none⟩ = some (.int .i64 gp)) ∧ (ge < wx.heap.size ∧ wx.cell? ⟨ge, j, none⟩ = some (.int .i64 r))) ∧ Below wt.heap.size wt wx)
          case first =>
            go_region_held3 (fun w' => (bx < w'.heap.size ∧ w'.cell? ⟨bx, 0, none⟩ = some (.int .i64 P) ∧ w'.cell? ⟨bx, 1, none⟩ = some (.int .i64 O)) ∧ (bf + 1 < w'.heap.size ∧ w'.cell? ⟨bf, 0, none⟩ = some (.int .i64 cf) ∧ w'.cell? ⟨bf, 1, none⟩ = some (.int .i64 f) ∧ w'.cell? ⟨bf, 2, none⟩ = some (.slice (some ⟨g, 0, none⟩) l.length cap)) ∧ (w'.cell? ⟨bf + 1, 0, none⟩ = some (.int .i64 k.cell) ∧ w'.cell? ⟨bf + 1, 1, none⟩ = some (.int .i64 k.low) ∧ w'.cell? ⟨bf + 1, 2, none⟩ = some (.int .i64 k.high) ∧ w'.cell? ⟨bf + 1, 3, none⟩ = some (.int .i64 k.phase) ∧ w'.cell? ⟨bf + 1, 4, none⟩ = some (.int .i64 k.speed)) ∧ (g < w'.heap.size ∧ w'.cell? ⟨g, j, none⟩ = some (.int .i64 gp)) ∧ (ge < w'.heap.size ∧ w'.cell? ⟨ge, j, none⟩ = some (.int .i64 r)))
              (first | with_reducible exact S0 | with_reducible exact SD | with_reducible exact SA | with_reducible exact S5 | exact keepB _ _ S5 ((Below.refl _ _).alloc hz5 _) | exact keepW _ _ _ _ (Nat.le_refl _) S5 | exact keepW _ _ _ _ hz5 S5 | go_keep)
              (first | (go_at_call 24; refine (hst' _).mono ?_; rintro e w5 ⟨rfl, hb5⟩; have B5 : Below wt.heap.size wt w5 := (by first | exact (Below.refl _ wt).drew.trans hb5 | exact ((Below.refl _ wt).alloc (Nat.le_refl _) (.cells #[.int .i64 0, .int .i64 0] 30)).drew.trans (hb5.mono (by show wt.heap.size ≤ (wt.alloc (.cells #[.int .i64 0, .int .i64 0] 30)).heap.size; simp))); have hz5 : wt.heap.size ≤ w5.heap.size := (by have := hb5.size; first | exact this | (simp [World.drew] at this; omega)); have S5 : (bx < w5.heap.size ∧ w5.cell? ⟨bx, 0, none⟩ = some (.int .i64 P) ∧ w5.cell? ⟨bx, 1, none⟩ = some (.int .i64 O)) ∧ (bf + 1 < w5.heap.size ∧ w5.cell? ⟨bf, 0, none⟩ = some (.int .i64 cf) ∧ w5.cell? ⟨bf, 1, none⟩ = some (.int .i64 f) ∧ w5.cell? ⟨bf, 2, none⟩ = some (.slice (some ⟨g, 0, none⟩) l.length cap)) ∧ (w5.cell? ⟨bf + 1, 0, none⟩ = some (.int .i64 k.cell) ∧ w5.cell? ⟨bf + 1, 1, none⟩ = some (.int .i64 k.low) ∧ w5.cell? ⟨bf + 1, 2, none⟩ = some (.int .i64 k.high) ∧ w5.cell? ⟨bf + 1, 3, none⟩ = some (.int .i64 k.phase) ∧ w5.cell? ⟨bf + 1, 4, none⟩ = some (.int .i64 k.speed)) ∧ (g < w5.heap.size ∧ w5.cell? ⟨g, j, none⟩ = some (.int .i64 gp)) ∧ (ge < w5.heap.size ∧ w5.cell? ⟨ge, j, none⟩ = some (.int .i64 r)) := (by first | exact keepB _ _ SD hb5 | exact keepB _ _ SA (hb5.mono (by show wt.heap.size ≤ (wt.alloc (.cells #[.int .i64 0, .int .i64 0] 30)).heap.size; simp))); (try (have y5 := (Blk.drew (Blk.new wt 30 #[.int .i64 0, .int .i64 0])).keep hb5; obtain ⟨u0, u1⟩ := y5.cell2; have u3 := y5.frozen; have u4 := y5.lt))))
            all_goals
              go_wp2_with fail
              go_meet
              first
                | exact ⟨w5.heap.size, rfl, rfl, rfl, hz5, Blk.new w5 30 #[.int .i64 P2, .int .i64 O2], keepB _ _ S5 ((Below.refl _ w5).alloc hz5 _), B5.alloc hz5 _⟩
                | exact ⟨wt.heap.size, rfl, rfl, rfl, Nat.le_refl _, (y5.set2_0 _).set2_1 _, keepW _ _ _ _ (Nat.le_refl _) S5, (B5.setCell (p := ⟨wt.heap.size, 0, none⟩) (Nat.le_refl _) _).setCell (p := ⟨wt.heap.size, 1, none⟩) (Nat.le_refl _) _⟩
          case rest =>
            obtain ⟨b, rfl, rfl, rfl, hbb, BB, ⟨⟨s0, s1, s2⟩, ⟨t0, t1, t2, t3⟩, ⟨v0, v1, v2, v3, v4⟩, ⟨x0, x1⟩, ⟨x2, x3⟩⟩, WB⟩ := hcut
            obtain ⟨wx, hwc⟩ : ∃ wx, wx = wc := ⟨_, rfl⟩
            subst hwc
            clear S0 SD SA keepB keepW
            obtain ⟨b0, b1⟩ := BB.cell2
            have blt := BB.lt
            have BXx := BX.below WB hbxw
            have xfr := BXx.frozen
            go_wp2_with fail
            go_quiet (fail)
            have bxl := BXx.lt
            go_wp2_with fail
            go_roundw
            case rel => exact ⟨j + 1, P2, O2, hlt2, by go_num, ((BXx.drewN' nq).set2_0 _).set2_1 _, ⟨HA3.out.symm, HA4.out.symm⟩, ((hbel.trans ((below_drewN WB nq).mono (Nat.le_of_lt hbxw))).setCell (p := ⟨bx, 0, none⟩) (Nat.le_refl _) _).setCell (p := ⟨bx, 1, none⟩) (Nat.le_refl _) _⟩
            case measure => simp [intOf]; omega
        · have e : j = l.length := by omega
          subst e
          have ff0 := (BF.below hbel (by omega)).cell3
          obtain ⟨f0, f1, f2⟩ := ff0
          have flt : bf < wt.heap.size := Nat.lt_of_lt_of_le (by omega) hbel.size
          go_wp2_with fail
          go_ret
          exact ⟨rfl, W2⟩
end Go.Proofs.Ytdoaoeenmfnjhaa
