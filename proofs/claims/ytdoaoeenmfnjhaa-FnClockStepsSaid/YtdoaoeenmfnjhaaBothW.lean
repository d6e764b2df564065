/- Flux and a clock, drawn. Printed by bothw.py. -/
import Derived.Test.YtdoaoeenmfnjhaaDrawKW
namespace Go.Proofs.Ytdoaoeenmfnjhaa
open Go.RowKit
set_option linter.unusedVariables false
structure DrB (b n : Nat) (w : World) (bf : Nat) (wx : World) (cf f : Int) (q : Option Addr) (l : List Int) (cap : Nat) : Prop where
  src : Src wx b n
  r1 : Blk wx w.heap.size 46 #[.int .i64 0, .int .i64 0, .slice none 0 0]
  r2 : Blk wx (w.heap.size + 1) 23 #[.int .i64 0, .int .i64 0, .int .i64 0, .int .i64 0, .int .i64 0]
  blk : Blk wx bf 46 #[.int .i64 cf, .int .i64 f, .slice q l.length cap]
  own : OwnS wx (w.heap.size + 2) q l
  aside : Aside (some b) w wx
  hb : b < w.heap.size
  hbf : w.heap.size + 1 < bf
theorem DrB.step {b n m : Nat} {w : World} {bf : Nat} {wx wy : World} {cf f : Int} {q : Option Addr} {l : List Int} {cap : Nat} (h : DrB b n w bf wx cf f q l cap) (ha : Aside (some b) wx wy) (hs : Src wy b m) : DrB b m w bf wy cf f q l cap :=
  ⟨hs, h.r1.asides ha (fun e => by injection e with e; have := h.hb; omega), h.r2.asides ha (fun e => by injection e with e; have := h.hb; omega), h.blk.asides ha (fun e => by injection e with e; have := h.hb; have := h.hbf; omega), h.own.asides ha (fun hl g hp e => by injection e with e; have h1 := (h.own.lt hl hp).1; have := h.hb; omega), h.aside.trans ha, h.hb, h.hbf⟩
theorem DrB.drew {b n : Nat} {w : World} {bf : Nat} {wx : World} {cf f : Int} {q : Option Addr} {l : List Int} {cap : Nat} (h : DrB b n w bf wx cf f q l cap) : DrB b n w bf wx.drew cf f q l cap := h.step (Aside.of_below (Below.refl _ _).drew) h.src.drew
theorem DrB.done {b n : Nat} {w : World} {bf : Nat} {wx : World} {cf f : Int} {q : Option Addr} {l : List Int} {cap : Nat} (h : DrB b n w bf wx cf f q l cap) (k : Clk) :
    Blk ((((((((wx.setCell ⟨w.heap.size, 0, none⟩ (.int .i64 cf)).setCell ⟨w.heap.size, 1, none⟩ (.int .i64 f)).setCell ⟨w.heap.size, 2, none⟩ (.slice q l.length cap)).setCell ⟨w.heap.size + 1, 0, none⟩ (.int .i64 k.cell)).setCell ⟨w.heap.size + 1, 1, none⟩ (.int .i64 k.low)).setCell ⟨w.heap.size + 1, 2, none⟩ (.int .i64 k.high)).setCell ⟨w.heap.size + 1, 3, none⟩ (.int .i64 k.phase)).setCell ⟨w.heap.size + 1, 4, none⟩ (.int .i64 k.speed)) w.heap.size 46 #[.int .i64 cf, .int .i64 f, .slice q l.length cap] ∧ Blk ((((((((wx.setCell ⟨w.heap.size, 0, none⟩ (.int .i64 cf)).setCell ⟨w.heap.size, 1, none⟩ (.int .i64 f)).setCell ⟨w.heap.size, 2, none⟩ (.slice q l.length cap)).setCell ⟨w.heap.size + 1, 0, none⟩ (.int .i64 k.cell)).setCell ⟨w.heap.size + 1, 1, none⟩ (.int .i64 k.low)).setCell ⟨w.heap.size + 1, 2, none⟩ (.int .i64 k.high)).setCell ⟨w.heap.size + 1, 3, none⟩ (.int .i64 k.phase)).setCell ⟨w.heap.size + 1, 4, none⟩ (.int .i64 k.speed)) (w.heap.size + 1) 23 #[.int .i64 k.cell, .int .i64 k.low, .int .i64 k.high, .int .i64 k.phase, .int .i64 k.speed] ∧ OwnS ((((((((wx.setCell ⟨w.heap.size, 0, none⟩ (.int .i64 cf)).setCell ⟨w.heap.size, 1, none⟩ (.int .i64 f)).setCell ⟨w.heap.size, 2, none⟩ (.slice q l.length cap)).setCell ⟨w.heap.size + 1, 0, none⟩ (.int .i64 k.cell)).setCell ⟨w.heap.size + 1, 1, none⟩ (.int .i64 k.low)).setCell ⟨w.heap.size + 1, 2, none⟩ (.int .i64 k.high)).setCell ⟨w.heap.size + 1, 3, none⟩ (.int .i64 k.phase)).setCell ⟨w.heap.size + 1, 4, none⟩ (.int .i64 k.speed)) w.heap.size q l ∧ Aside (some b) w ((((((((wx.setCell ⟨w.heap.size, 0, none⟩ (.int .i64 cf)).setCell ⟨w.heap.size, 1, none⟩ (.int .i64 f)).setCell ⟨w.heap.size, 2, none⟩ (.slice q l.length cap)).setCell ⟨w.heap.size + 1, 0, none⟩ (.int .i64 k.cell)).setCell ⟨w.heap.size + 1, 1, none⟩ (.int .i64 k.low)).setCell ⟨w.heap.size + 1, 2, none⟩ (.int .i64 k.high)).setCell ⟨w.heap.size + 1, 3, none⟩ (.int .i64 k.phase)).setCell ⟨w.heap.size + 1, 4, none⟩ (.int .i64 k.speed)) := by
  refine ⟨((((((h.r1.set3 (.int .i64 cf) (.int .i64 f) (.slice q l.length cap)).off (g' := w.heap.size + 1) (by omega) 0 (.int .i64 k.cell)).off (g' := w.heap.size + 1) (by omega) 1 (.int .i64 k.low)).off (g' := w.heap.size + 1) (by omega) 2 (.int .i64 k.high)).off (g' := w.heap.size + 1) (by omega) 3 (.int .i64 k.phase)).off (g' := w.heap.size + 1) (by omega) 4 (.int .i64 k.speed)), ((((h.r2.off (g' := w.heap.size) (by omega) 0 (.int .i64 cf)).off (g' := w.heap.size) (by omega) 1 (.int .i64 f)).off (g' := w.heap.size) (by omega) 2 (.slice q l.length cap))).set5 (.int .i64 k.cell) (.int .i64 k.low) (.int .i64 k.high) (.int .i64 k.phase) (.int .i64 k.speed), OwnS.mono ((((((((h.own.offS (g' := w.heap.size) (by omega) 0 (.int .i64 cf)).offS (g' := w.heap.size) (by omega) 1 (.int .i64 f)).offS (g' := w.heap.size) (by omega) 2 (.slice q l.length cap)).offS (g' := w.heap.size + 1) (by omega) 0 (.int .i64 k.cell)).offS (g' := w.heap.size + 1) (by omega) 1 (.int .i64 k.low)).offS (g' := w.heap.size + 1) (by omega) 2 (.int .i64 k.high)).offS (g' := w.heap.size + 1) (by omega) 3 (.int .i64 k.phase)).offS (g' := w.heap.size + 1) (by omega) 4 (.int .i64 k.speed)) (by omega), h.aside.trans_below (((((((((Below.refl w.heap.size wx).setCell (p := ⟨w.heap.size, 0, none⟩) (Nat.le_refl _) (.int .i64 cf)).setCell (p := ⟨w.heap.size, 1, none⟩) (Nat.le_refl _) (.int .i64 f)).setCell (p := ⟨w.heap.size, 2, none⟩) (Nat.le_refl _) (.slice q l.length cap)).setCell (p := ⟨w.heap.size + 1, 0, none⟩) (Nat.le_succ _) (.int .i64 k.cell)).setCell (p := ⟨w.heap.size + 1, 1, none⟩) (Nat.le_succ _) (.int .i64 k.low)).setCell (p := ⟨w.heap.size + 1, 2, none⟩) (Nat.le_succ _) (.int .i64 k.high)).setCell (p := ⟨w.heap.size + 1, 3, none⟩) (Nat.le_succ _) (.int .i64 k.phase)).setCell (p := ⟨w.heap.size + 1, 4, none⟩) (Nat.le_succ _) (.int .i64 k.speed)) (Nat.le_refl _)⟩
set_option maxHeartbeats 4000000 in
set_option maxRecDepth 20000 in
theorem src_l03DrawBoth (b n : Nat) (w : World) (hS : Src w b n) (hn : n ≤ 1000000) :
    Calls Try.prog 72 #[.pointer (some ⟨b, 0, none⟩)] w fun e w' => ∃ (cf f : Int) (q : Option Addr) (l : List Int) (cap : Nat) (k : Clk), e = .returned (.tuple #[.agg #[.int .i64 cf, .int .i64 f, .slice q l.length cap], k.val]) ∧ OwnS w' w.heap.size q l ∧ l.length ≤ 84 ∧ Aside (some b) w w' := by
  have hbl := hS.lt
  have R1 := Blk.new w 46 #[.int .i64 0, .int .i64 0, .slice none 0 0]
  have R2 := Blk.new (w.alloc (.cells #[.int .i64 0, .int .i64 0, .slice none 0 0] 46)) 23 #[.int .i64 0, .int .i64 0, .int .i64 0, .int .i64 0, .int .i64 0]
  replace R1 := R1.keep ((Below.refl _ _).alloc (Nat.le_refl _) (.cells #[.int .i64 0, .int .i64 0, .int .i64 0, .int .i64 0, .int .i64 0] 23))
  have e1 : (w.alloc (.cells #[.int .i64 0, .int .i64 0, .slice none 0 0] 46)).heap.size = w.heap.size + 1 := by simp
  rw [e1] at R2
  have W0 : Below w.heap.size w ((w.alloc (.cells #[.int .i64 0, .int .i64 0, .slice none 0 0] 46)).alloc (.cells #[.int .i64 0, .int .i64 0, .int .i64 0, .int .i64 0, .int .i64 0] 23)) := ((Below.refl _ _).alloc (Nat.le_refl _) _).alloc (by simp) _
  have z0 : w.heap.size + 2 ≤ ((w.alloc (.cells #[.int .i64 0, .int .i64 0, .slice none 0 0] 46)).alloc (.cells #[.int .i64 0, .int .i64 0, .int .i64 0, .int .i64 0, .int .i64 0] 23)).heap.size := by simp
  go_enter Try.func72, Try.ntmps72
  go_wp2_with fail
  generalize (w.alloc (.cells #[.int .i64 0, .int .i64 0, .slice none 0 0] 46)).alloc (.cells #[.int .i64 0, .int .i64 0, .int .i64 0, .int .i64 0, .int .i64 0] 23) = w0 at R1 R2 W0 z0 ⊢
  refine (src_l02DrawFlux b n _ (hS.below W0) (by omega)).mono ?_
  rintro e w1 ⟨cf, f, q, l, cap, rfl, hq, hl, hS1, ha1⟩
  have z1 := ha1.size
  replace R1 := R1.asides ha1 (fun e => by injection e with e; omega)
  replace R2 := R2.asides ha1 (fun e => by injection e with e; omega)
  have BF := Blk.new w1 46 #[.int .i64 cf, .int .i64 f, .slice q l.length cap]
  have BA := (Below.refl _ w1).alloc (Nat.le_refl _) (.cells #[.int .i64 cf, .int .i64 f, .slice q l.length cap] 46)
  have D : DrB b (n + 3000) w w1.heap.size (w1.alloc (.cells #[.int .i64 cf, .int .i64 f, .slice q l.length cap] 46)) cf f q l cap := ⟨hS1.below BA, R1.keep BA, R2.keep BA, BF, (hq.below BA).mono (by omega), (Aside.of_below W0).trans (ha1.trans (Aside.of_below BA)), hbl, by omega⟩
  clear R1 R2 BF BA hq hS1
  go_wp2_with fail
  generalize w1.alloc (.cells #[.int .i64 cf, .int .i64 f, .slice q l.length cap] 46) = w2 at *
  generalize w1.heap.size = bf at *
  have hcell : inB cf 4 200 = true ∨ inB cf 4 200 = false := by cases inB cf 4 200 <;> simp
  rcases hcell with hc | hc
  ·
    go_wp2_with (go_at_call 50; refine (l00In_any _ _ _ _).mono ?_; rintro e w' ⟨rfl, rfl⟩; rw [hc])
    refine (src_one b _ 8 _ D.src (by omega) (by omega)).mono ?_
    rintro e w3 ⟨x, rfl, hS3, ha3⟩
    replace D := D.step ha3 hS3
    clear ha3 hS3
    obtain ⟨hc1, hc2⟩ := inB_iff.1 hc
    cases x
    ·
      go_wp2_with fail
      obtain ⟨f0, f1, f2⟩ := D.blk.cell3
      have flt := D.blk.lt
      have ffr := D.blk.frozen
      go_region_with (go_at_call 80; refine (src_l03Draw b _ cf _ (by first | exact D.src.drew | exact D.src) (by omega) (by omega)).mono ?_; rintro e w5 ⟨k, rfl, hS5, ha5⟩; have D5 := D.drew.step ha5 hS5; obtain ⟨f0', f1', f2'⟩ := D5.blk.cell3; have flt' := D5.blk.lt; have ffr' := D5.blk.frozen; have r1l := D5.r1.lt; have r1f := D5.r1.frozen; have r2l := D5.r2.lt; have r2f := D5.r2.frozen; obtain ⟨y0, y1, y2⟩ := D5.r1.cell3; obtain ⟨y3, y4, y5, y6, y7⟩ := D5.r2.cell5; try unfold Clk.val)
      all_goals
        obtain ⟨A1, A2, O2, A5⟩ := D5.done k
        obtain ⟨e0, e1, e2⟩ := A1.cell3
        obtain ⟨e3, e4, e5, e6, e7⟩ := A2.cell5
        go_wp2_with fail
        refine bodyPost_ret (v := .tuple #[.agg #[.int .i64 cf, .int .i64 f, .slice q l.length cap], k.val]) (by simp [results, Try.results72, go_sem, Clk.val, e0, e1, e2, e3, e4, e5, e6, e7]) rfl ?_
        exact ⟨cf, f, q, l, cap, k, rfl, O2, hl, A5⟩
    ·
      go_wp2_with fail
      refine (src_l02DrawCell b _ _ D.src (by omega)).mono ?_
      rintro e w4 ⟨cell, rfl, hcl, hS4, ha4⟩
      replace D := D.step ha4 hS4
      clear ha4 hS4
      go_wp2_with fail
      obtain ⟨f0, f1, f2⟩ := D.blk.cell3
      have flt := D.blk.lt
      have ffr := D.blk.frozen
      go_region_with (go_at_call 80; refine (src_l03Draw b _ cell _ (by first | exact D.src.drew | exact D.src) (by omega) (by omega)).mono ?_; rintro e w5 ⟨k, rfl, hS5, ha5⟩; have D5 := D.drew.step ha5 hS5; obtain ⟨f0', f1', f2'⟩ := D5.blk.cell3; have flt' := D5.blk.lt; have ffr' := D5.blk.frozen; have r1l := D5.r1.lt; have r1f := D5.r1.frozen; have r2l := D5.r2.lt; have r2f := D5.r2.frozen; obtain ⟨y0, y1, y2⟩ := D5.r1.cell3; obtain ⟨y3, y4, y5, y6, y7⟩ := D5.r2.cell5; try unfold Clk.val)
      all_goals
        obtain ⟨A1, A2, O2, A5⟩ := D5.done k
        obtain ⟨e0, e1, e2⟩ := A1.cell3
        obtain ⟨e3, e4, e5, e6, e7⟩ := A2.cell5
        go_wp2_with fail
        refine bodyPost_ret (v := .tuple #[.agg #[.int .i64 cf, .int .i64 f, .slice q l.length cap], k.val]) (by simp [results, Try.results72, go_sem, Clk.val, e0, e1, e2, e3, e4, e5, e6, e7]) rfl ?_
        exact ⟨cf, f, q, l, cap, k, rfl, O2, hl, A5⟩
  ·
    go_wp2_with (go_at_call 50; refine (l00In_any _ _ _ _).mono ?_; rintro e w' ⟨rfl, rfl⟩; rw [hc])
    go_wp2_with fail
    refine (src_l02DrawCell b _ _ D.src (by omega)).mono ?_
    rintro e w4 ⟨cell, rfl, hcl, hS4, ha4⟩
    replace D := D.step ha4 hS4
    clear ha4 hS4
    go_wp2_with fail
    obtain ⟨f0, f1, f2⟩ := D.blk.cell3
    have flt := D.blk.lt
    have ffr := D.blk.frozen
    go_region_with (go_at_call 80; refine (src_l03Draw b _ cell _ (by first | exact D.src.drew | exact D.src) (by omega) (by omega)).mono ?_; rintro e w5 ⟨k, rfl, hS5, ha5⟩; have D5 := D.drew.step ha5 hS5; obtain ⟨f0', f1', f2'⟩ := D5.blk.cell3; have flt' := D5.blk.lt; have ffr' := D5.blk.frozen; have r1l := D5.r1.lt; have r1f := D5.r1.frozen; have r2l := D5.r2.lt; have r2f := D5.r2.frozen; obtain ⟨y0, y1, y2⟩ := D5.r1.cell3; obtain ⟨y3, y4, y5, y6, y7⟩ := D5.r2.cell5; try unfold Clk.val)
    all_goals
      obtain ⟨A1, A2, O2, A5⟩ := D5.done k
      obtain ⟨e0, e1, e2⟩ := A1.cell3
      obtain ⟨e3, e4, e5, e6, e7⟩ := A2.cell5
      go_wp2_with fail
      refine bodyPost_ret (v := .tuple #[.agg #[.int .i64 cf, .int .i64 f, .slice q l.length cap], k.val]) (by simp [results, Try.results72, go_sem, Clk.val, e0, e1, e2, e3, e4, e5, e6, e7]) rfl ?_
      exact ⟨cf, f, q, l, cap, k, rfl, O2, hl, A5⟩
theorem both_done {w : World} {wx : World} {cf f : Int} {q : Option Addr} {l : List Int} {cap : Nat} (h1 : Blk wx w.heap.size 46 #[.int .i64 0, .int .i64 0, .slice none 0 0]) (h2 : Blk wx (w.heap.size + 1) 23 #[.int .i64 0, .int .i64 0, .int .i64 0, .int .i64 0, .int .i64 0]) (h3 : OwnS wx (w.heap.size + 2) q l) (h4 : Below w.heap.size w wx) (k : Clk) :
    Blk ((((((((wx.setCell ⟨w.heap.size, 0, none⟩ (.int .i64 cf)).setCell ⟨w.heap.size, 1, none⟩ (.int .i64 f)).setCell ⟨w.heap.size, 2, none⟩ (.slice q l.length cap)).setCell ⟨w.heap.size + 1, 0, none⟩ (.int .i64 k.cell)).setCell ⟨w.heap.size + 1, 1, none⟩ (.int .i64 k.low)).setCell ⟨w.heap.size + 1, 2, none⟩ (.int .i64 k.high)).setCell ⟨w.heap.size + 1, 3, none⟩ (.int .i64 k.phase)).setCell ⟨w.heap.size + 1, 4, none⟩ (.int .i64 k.speed)) w.heap.size 46 #[.int .i64 cf, .int .i64 f, .slice q l.length cap] ∧ Blk ((((((((wx.setCell ⟨w.heap.size, 0, none⟩ (.int .i64 cf)).setCell ⟨w.heap.size, 1, none⟩ (.int .i64 f)).setCell ⟨w.heap.size, 2, none⟩ (.slice q l.length cap)).setCell ⟨w.heap.size + 1, 0, none⟩ (.int .i64 k.cell)).setCell ⟨w.heap.size + 1, 1, none⟩ (.int .i64 k.low)).setCell ⟨w.heap.size + 1, 2, none⟩ (.int .i64 k.high)).setCell ⟨w.heap.size + 1, 3, none⟩ (.int .i64 k.phase)).setCell ⟨w.heap.size + 1, 4, none⟩ (.int .i64 k.speed)) (w.heap.size + 1) 23 #[.int .i64 k.cell, .int .i64 k.low, .int .i64 k.high, .int .i64 k.phase, .int .i64 k.speed] ∧ OwnS ((((((((wx.setCell ⟨w.heap.size, 0, none⟩ (.int .i64 cf)).setCell ⟨w.heap.size, 1, none⟩ (.int .i64 f)).setCell ⟨w.heap.size, 2, none⟩ (.slice q l.length cap)).setCell ⟨w.heap.size + 1, 0, none⟩ (.int .i64 k.cell)).setCell ⟨w.heap.size + 1, 1, none⟩ (.int .i64 k.low)).setCell ⟨w.heap.size + 1, 2, none⟩ (.int .i64 k.high)).setCell ⟨w.heap.size + 1, 3, none⟩ (.int .i64 k.phase)).setCell ⟨w.heap.size + 1, 4, none⟩ (.int .i64 k.speed)) w.heap.size q l ∧ Below w.heap.size w ((((((((wx.setCell ⟨w.heap.size, 0, none⟩ (.int .i64 cf)).setCell ⟨w.heap.size, 1, none⟩ (.int .i64 f)).setCell ⟨w.heap.size, 2, none⟩ (.slice q l.length cap)).setCell ⟨w.heap.size + 1, 0, none⟩ (.int .i64 k.cell)).setCell ⟨w.heap.size + 1, 1, none⟩ (.int .i64 k.low)).setCell ⟨w.heap.size + 1, 2, none⟩ (.int .i64 k.high)).setCell ⟨w.heap.size + 1, 3, none⟩ (.int .i64 k.phase)).setCell ⟨w.heap.size + 1, 4, none⟩ (.int .i64 k.speed)) := by
  refine ⟨((((((h1.set3 (.int .i64 cf) (.int .i64 f) (.slice q l.length cap)).off (g' := w.heap.size + 1) (by omega) 0 (.int .i64 k.cell)).off (g' := w.heap.size + 1) (by omega) 1 (.int .i64 k.low)).off (g' := w.heap.size + 1) (by omega) 2 (.int .i64 k.high)).off (g' := w.heap.size + 1) (by omega) 3 (.int .i64 k.phase)).off (g' := w.heap.size + 1) (by omega) 4 (.int .i64 k.speed)), ((((h2.off (g' := w.heap.size) (by omega) 0 (.int .i64 cf)).off (g' := w.heap.size) (by omega) 1 (.int .i64 f)).off (g' := w.heap.size) (by omega) 2 (.slice q l.length cap))).set5 (.int .i64 k.cell) (.int .i64 k.low) (.int .i64 k.high) (.int .i64 k.phase) (.int .i64 k.speed), OwnS.mono ((((((((h3.offS (g' := w.heap.size) (by omega) 0 (.int .i64 cf)).offS (g' := w.heap.size) (by omega) 1 (.int .i64 f)).offS (g' := w.heap.size) (by omega) 2 (.slice q l.length cap)).offS (g' := w.heap.size + 1) (by omega) 0 (.int .i64 k.cell)).offS (g' := w.heap.size + 1) (by omega) 1 (.int .i64 k.low)).offS (g' := w.heap.size + 1) (by omega) 2 (.int .i64 k.high)).offS (g' := w.heap.size + 1) (by omega) 3 (.int .i64 k.phase)).offS (g' := w.heap.size + 1) (by omega) 4 (.int .i64 k.speed)) (by omega), h4.trans (((((((((Below.refl w.heap.size wx).setCell (p := ⟨w.heap.size, 0, none⟩) (Nat.le_refl _) (.int .i64 cf)).setCell (p := ⟨w.heap.size, 1, none⟩) (Nat.le_refl _) (.int .i64 f)).setCell (p := ⟨w.heap.size, 2, none⟩) (Nat.le_refl _) (.slice q l.length cap)).setCell (p := ⟨w.heap.size + 1, 0, none⟩) (Nat.le_succ _) (.int .i64 k.cell)).setCell (p := ⟨w.heap.size + 1, 1, none⟩) (Nat.le_succ _) (.int .i64 k.low)).setCell (p := ⟨w.heap.size + 1, 2, none⟩) (Nat.le_succ _) (.int .i64 k.high)).setCell (p := ⟨w.heap.size + 1, 3, none⟩) (Nat.le_succ _) (.int .i64 k.phase)).setCell (p := ⟨w.heap.size + 1, 4, none⟩) (Nat.le_succ _) (.int .i64 k.speed))⟩

set_option maxHeartbeats 4000000 in
set_option maxRecDepth 20000 in
theorem spec_DrawRecoverCells (p0 : Option Addr) (l0 : List UInt8) (cap0 : Nat) (w : World) (hI : BytesAt w p0 l0) (hl0 : l0.length ≤ 1048576) :
    Calls Try.prog 49 #[.slice p0 l0.length cap0] w fun e w' => ∃ (cf f : Int) (q : Option Addr) (l : List Int) (cap : Nat) (k : Clk), e = .returned (.tuple #[.agg #[.int .i64 cf, .int .i64 f, .slice q l.length cap], k.val]) ∧ OwnS w' w.heap.size q l ∧ l.length ≤ 84 ∧ Below w.heap.size w w' := by
  have R1 := Blk.new w 46 #[.int .i64 0, .int .i64 0, .slice none 0 0]
  have R2 := Blk.new (w.alloc (.cells #[.int .i64 0, .int .i64 0, .slice none 0 0] 46)) 23 #[.int .i64 0, .int .i64 0, .int .i64 0, .int .i64 0, .int .i64 0]
  replace R1 := R1.keep ((Below.refl _ _).alloc (Nat.le_refl _) (.cells #[.int .i64 0, .int .i64 0, .int .i64 0, .int .i64 0, .int .i64 0] 23))
  have e1 : (w.alloc (.cells #[.int .i64 0, .int .i64 0, .slice none 0 0] 46)).heap.size = w.heap.size + 1 := by simp
  rw [e1] at R2
  have W0 : Below w.heap.size w ((w.alloc (.cells #[.int .i64 0, .int .i64 0, .slice none 0 0] 46)).alloc (.cells #[.int .i64 0, .int .i64 0, .int .i64 0, .int .i64 0, .int .i64 0] 23)) := ((Below.refl _ _).alloc (Nat.le_refl _) _).alloc (by simp) _
  have z0 : w.heap.size + 2 ≤ ((w.alloc (.cells #[.int .i64 0, .int .i64 0, .slice none 0 0] 46)).alloc (.cells #[.int .i64 0, .int .i64 0, .int .i64 0, .int .i64 0, .int .i64 0] 23)).heap.size := by simp
  go_enter Try.func49, Try.ntmps49
  go_wp2_with fail
  generalize (w.alloc (.cells #[.int .i64 0, .int .i64 0, .slice none 0 0] 46)).alloc (.cells #[.int .i64 0, .int .i64 0, .int .i64 0, .int .i64 0, .int .i64 0] 23) = w0 at R1 R2 W0 z0 ⊢
  refine (spec_l00From p0 l0 cap0 _ (hI.below W0) hl0).mono ?_
  rintro e w1 ⟨rfl, hS1, hb1⟩
  have z1 := hb1.size
  replace R1 := R1.keep hb1
  replace R2 := R2.keep hb1
  replace W0 := below_st W0 hb1 (Nat.le_refl _)
  go_wp2_with fail
  refine (src_l03DrawBoth w0.heap.size 0 _ hS1 (by omega)).mono ?_
  rintro e w2 ⟨cf, f, q, l, cap, k, rfl, hq, hl, ha2⟩
  have z2 := ha2.size
  replace R1 := R1.asides ha2 (fun e => by injection e with e; omega)
  replace R2 := R2.asides ha2 (fun e => by injection e with e; omega)
  replace W0 : Below w.heap.size w w2 := W0.trans (ha2.below (by omega) (fun g e => by injection e with e; omega))
  obtain ⟨A1, A2, O2, A5⟩ := both_done (cf := cf) (f := f) (cap := cap) R1 R2 (hq.mono (by omega)) W0 k
  obtain ⟨e0, e1, e2⟩ := A1.cell3
  obtain ⟨e3, e4, e5, e6, e7⟩ := A2.cell5
  obtain ⟨y0, y1, y2⟩ := R1.cell3
  obtain ⟨y3, y4, y5, y6, y7⟩ := R2.cell5
  have r1l := R1.lt
  have r1f := R1.frozen
  have r2l := R2.lt
  have r2f := R2.frozen
  unfold Clk.val
  go_wp2_with fail
  refine bodyPost_ret (v := .tuple #[.agg #[.int .i64 cf, .int .i64 f, .slice q l.length cap], k.val]) (by simp [results, Try.results49, go_sem, Clk.val, e0, e1, e2, e3, e4, e5, e6, e7]) rfl ?_
  exact ⟨cf, f, q, l, cap, k, rfl, O2, hl, A5⟩
end Go.Proofs.Ytdoaoeenmfnjhaa
