/- Draws of clocks. Printed by clkdraw.py. -/
import Derived.Test.YtdoaoeenmfnjhaaDrawFW
import Derived.Test.YtdoaoeenmfnjhaaStepW
namespace Go.Proofs.Ytdoaoeenmfnjhaa
open Go.RowKit
set_option linter.unusedVariables false
theorem spec_l03Plain (x : Int) (w : World) :
    Calls Try.prog 51 #[.int .i64 x] w fun e w' => e = .returned (.agg #[.int .i64 x, .int .i64 x, .int .i64 x, .int .i64 0, .int .i64 0]) ∧ Below w.heap.size w w' := by
  go_enter Try.func51, Try.ntmps51
  go_wp2_with fail
  go_returns
  first | exact ⟨rfl, Below.refl _ _⟩ | exact ⟨rfl, (Below.refl _ _).alloc (Nat.le_refl _) _⟩
theorem Blk.set5_0 {w : World} {g : Nat} {t : TypeId} {a b c d e : Value} (h : Blk w g t #[a, b, c, d, e]) (x : Value) : Blk (w.setCell ⟨g, 0, none⟩ x) g t #[x, b, c, d, e] := by
  have hB' : w.heap[g]? = some (.cells #[a, b, c, d, e] t (0, 0)) := h
  unfold Blk
  simp [World.setCell, Array.getElem?_modify, hB']
theorem Blk.set5_1 {w : World} {g : Nat} {t : TypeId} {a b c d e : Value} (h : Blk w g t #[a, b, c, d, e]) (x : Value) : Blk (w.setCell ⟨g, 1, none⟩ x) g t #[a, x, c, d, e] := by
  have hB' : w.heap[g]? = some (.cells #[a, b, c, d, e] t (0, 0)) := h
  unfold Blk
  simp [World.setCell, Array.getElem?_modify, hB']
theorem Blk.set5_2 {w : World} {g : Nat} {t : TypeId} {a b c d e : Value} (h : Blk w g t #[a, b, c, d, e]) (x : Value) : Blk (w.setCell ⟨g, 2, none⟩ x) g t #[a, b, x, d, e] := by
  have hB' : w.heap[g]? = some (.cells #[a, b, c, d, e] t (0, 0)) := h
  unfold Blk
  simp [World.setCell, Array.getElem?_modify, hB']
theorem Blk.set5_3 {w : World} {g : Nat} {t : TypeId} {a b c d e : Value} (h : Blk w g t #[a, b, c, d, e]) (x : Value) : Blk (w.setCell ⟨g, 3, none⟩ x) g t #[a, b, c, x, e] := by
  have hB' : w.heap[g]? = some (.cells #[a, b, c, d, e] t (0, 0)) := h
  unfold Blk
  simp [World.setCell, Array.getElem?_modify, hB']
theorem Blk.set5_4 {w : World} {g : Nat} {t : TypeId} {a b c d e : Value} (h : Blk w g t #[a, b, c, d, e]) (x : Value) : Blk (w.setCell ⟨g, 4, none⟩ x) g t #[a, b, c, d, x] := by
  have hB' : w.heap[g]? = some (.cells #[a, b, c, d, e] t (0, 0)) := h
  unfold Blk
  simp [World.setCell, Array.getElem?_modify, hB']
theorem Blk.set5 {w : World} {g : Nat} {t : TypeId} {a b c d e : Value} (h : Blk w g t #[a, b, c, d, e]) (x0 x1 x2 x3 x4 : Value) : Blk (((((w.setCell ⟨g, 0, none⟩ x0).setCell ⟨g, 1, none⟩ x1).setCell ⟨g, 2, none⟩ x2).setCell ⟨g, 3, none⟩ x3).setCell ⟨g, 4, none⟩ x4) g t #[x0, x1, x2, x3, x4] :=
  ((((h.set5_0 x0).set5_1 x1).set5_2 x2).set5_3 x3).set5_4 x4
/-- A clock under way. -/
structure DrC (b n : Nat) (w : World) (bk : Nat) (wx : World) (k0 k1 k2 k3 k4 : Int) : Prop where
  src : Src wx b n
  r : Blk wx w.heap.size 23 #[.int .i64 0, .int .i64 0, .int .i64 0, .int .i64 0, .int .i64 0]
  blk : Blk wx bk 23 #[.int .i64 k0, .int .i64 k1, .int .i64 k2, .int .i64 k3, .int .i64 k4]
  aside : Aside (some b) w wx
  hb : b < w.heap.size
  hbk : w.heap.size < bk
theorem DrC.step {b n m : Nat} {w : World} {bk : Nat} {wx wy : World} {k0 k1 k2 k3 k4 : Int} (h : DrC b n w bk wx k0 k1 k2 k3 k4) (ha : Aside (some b) wx wy) (hs : Src wy b m) : DrC b m w bk wy k0 k1 k2 k3 k4 :=
  ⟨hs, h.r.asides ha (fun e => by injection e with e; have := h.hb; omega), h.blk.asides ha (fun e => by injection e with e; have := h.hb; have := h.hbk; omega), h.aside.trans ha, h.hb, h.hbk⟩
theorem DrC.al {b n : Nat} {w : World} {bk : Nat} {wx : World} {k0 k1 k2 k3 k4 : Int} (h : DrC b n w bk wx k0 k1 k2 k3 k4) (o : Obj) : DrC b n w bk (wx.alloc o) k0 k1 k2 k3 k4 :=
  h.step (Aside.of_below ((Below.refl _ _).alloc (Nat.le_refl _) o)) (h.src.below ((Below.refl _ _).alloc (Nat.le_refl _) o))
theorem DrC.set_0 {b n : Nat} {w : World} {bk : Nat} {wx : World} {k0 k1 k2 k3 k4 : Int} (h : DrC b n w bk wx k0 k1 k2 k3 k4) (x : Int) : DrC b n w bk (wx.setCell ⟨bk, 0, none⟩ (.int .i64 x)) x k1 k2 k3 k4 := by
  have hb := h.hb; have hbk := h.hbk
  have hB := (Below.refl bk wx).setCell (p := ⟨bk, 0, none⟩) (Nat.le_refl _) (.int .i64 x)
  exact ⟨h.src.belowB hB (by omega), h.r.off (by omega) _ _, h.blk.set5_0 _, h.aside.trans_below hB (by omega), h.hb, h.hbk⟩
theorem DrC.set_1 {b n : Nat} {w : World} {bk : Nat} {wx : World} {k0 k1 k2 k3 k4 : Int} (h : DrC b n w bk wx k0 k1 k2 k3 k4) (x : Int) : DrC b n w bk (wx.setCell ⟨bk, 1, none⟩ (.int .i64 x)) k0 x k2 k3 k4 := by
  have hb := h.hb; have hbk := h.hbk
  have hB := (Below.refl bk wx).setCell (p := ⟨bk, 1, none⟩) (Nat.le_refl _) (.int .i64 x)
  exact ⟨h.src.belowB hB (by omega), h.r.off (by omega) _ _, h.blk.set5_1 _, h.aside.trans_below hB (by omega), h.hb, h.hbk⟩
theorem DrC.set_2 {b n : Nat} {w : World} {bk : Nat} {wx : World} {k0 k1 k2 k3 k4 : Int} (h : DrC b n w bk wx k0 k1 k2 k3 k4) (x : Int) : DrC b n w bk (wx.setCell ⟨bk, 2, none⟩ (.int .i64 x)) k0 k1 x k3 k4 := by
  have hb := h.hb; have hbk := h.hbk
  have hB := (Below.refl bk wx).setCell (p := ⟨bk, 2, none⟩) (Nat.le_refl _) (.int .i64 x)
  exact ⟨h.src.belowB hB (by omega), h.r.off (by omega) _ _, h.blk.set5_2 _, h.aside.trans_below hB (by omega), h.hb, h.hbk⟩
theorem DrC.set_3 {b n : Nat} {w : World} {bk : Nat} {wx : World} {k0 k1 k2 k3 k4 : Int} (h : DrC b n w bk wx k0 k1 k2 k3 k4) (x : Int) : DrC b n w bk (wx.setCell ⟨bk, 3, none⟩ (.int .i64 x)) k0 k1 k2 x k4 := by
  have hb := h.hb; have hbk := h.hbk
  have hB := (Below.refl bk wx).setCell (p := ⟨bk, 3, none⟩) (Nat.le_refl _) (.int .i64 x)
  exact ⟨h.src.belowB hB (by omega), h.r.off (by omega) _ _, h.blk.set5_3 _, h.aside.trans_below hB (by omega), h.hb, h.hbk⟩
theorem DrC.set_4 {b n : Nat} {w : World} {bk : Nat} {wx : World} {k0 k1 k2 k3 k4 : Int} (h : DrC b n w bk wx k0 k1 k2 k3 k4) (x : Int) : DrC b n w bk (wx.setCell ⟨bk, 4, none⟩ (.int .i64 x)) k0 k1 k2 k3 x := by
  have hb := h.hb; have hbk := h.hbk
  have hB := (Below.refl bk wx).setCell (p := ⟨bk, 4, none⟩) (Nat.le_refl _) (.int .i64 x)
  exact ⟨h.src.belowB hB (by omega), h.r.off (by omega) _ _, h.blk.set5_4 _, h.aside.trans_below hB (by omega), h.hb, h.hbk⟩
theorem DrC.done {b n : Nat} {w : World} {bk : Nat} {wx : World} {k0 k1 k2 k3 k4 : Int} (h : DrC b n w bk wx k0 k1 k2 k3 k4) (x0 x1 x2 x3 x4 : Value) : Src (((((wx.setCell ⟨w.heap.size, 0, none⟩ x0).setCell ⟨w.heap.size, 1, none⟩ x1).setCell ⟨w.heap.size, 2, none⟩ x2).setCell ⟨w.heap.size, 3, none⟩ x3).setCell ⟨w.heap.size, 4, none⟩ x4) b n ∧ Aside (some b) w (((((wx.setCell ⟨w.heap.size, 0, none⟩ x0).setCell ⟨w.heap.size, 1, none⟩ x1).setCell ⟨w.heap.size, 2, none⟩ x2).setCell ⟨w.heap.size, 3, none⟩ x3).setCell ⟨w.heap.size, 4, none⟩ x4) := by
  have hB := (((((Below.refl w.heap.size wx).setCell (p := ⟨w.heap.size, 0, none⟩) (Nat.le_refl _) x0).setCell (p := ⟨w.heap.size, 1, none⟩) (Nat.le_refl _) x1).setCell (p := ⟨w.heap.size, 2, none⟩) (Nat.le_refl _) x2).setCell (p := ⟨w.heap.size, 3, none⟩) (Nat.le_refl _) x3).setCell (p := ⟨w.heap.size, 4, none⟩) (Nat.le_refl _) x4
  exact ⟨h.src.belowB hB h.hb, h.aside.trans_below hB (Nat.le_refl _)⟩
theorem lit_ints' (w ws : World) (hs : ws.heap.size = w.heap.size) (l : List Int) : IntsAt (ws.alloc (.cells (l.map (Value.int .i64)).toArray 2)) (some ⟨w.heap.size, 0, none⟩) l := by
  have h := lit_ints ws l
  rw [hs] at h
  exact h
set_option maxHeartbeats 8000000 in
set_option maxRecDepth 20000 in
theorem src_l03Draw (b n : Nat) (cell : Int) (w : World) (hS : Src w b n) (hn : n ≤ 10000000) (hc : 4 ≤ cell ∧ cell ≤ 200) :
    Calls Try.prog 80 #[.pointer (some ⟨b, 0, none⟩), .int .i64 cell] w fun e w' => ∃ k : Clk, e = .returned k.val ∧ Src w' b (n + 100) ∧ Aside (some b) w w' := by
  have hbl := hS.lt
  have R0 := Blk.new w 23 #[.int .i64 0, .int .i64 0, .int .i64 0, .int .i64 0, .int .i64 0]
  have W0 : Below w.heap.size w (w.alloc (.cells #[.int .i64 0, .int .i64 0, .int .i64 0, .int .i64 0, .int .i64 0] 23)) := (Below.refl _ _).alloc (Nat.le_refl _) _
  have z0 : w.heap.size + 1 ≤ (w.alloc (.cells #[.int .i64 0, .int .i64 0, .int .i64 0, .int .i64 0, .int .i64 0] 23)).heap.size := by simp
  go_enter Try.func80, Try.ntmps80
  go_wp2_with fail
  generalize w.alloc (.cells #[.int .i64 0, .int .i64 0, .int .i64 0, .int .i64 0, .int .i64 0] 23) = w0 at R0 W0 z0 ⊢
  refine (spec_l03Plain cell _).mono ?_
  rintro e w1 ⟨rfl, hb1⟩
  have z1 := hb1.size
  replace R0 := R0.keep hb1
  replace W0 := below_st W0 hb1 (Nat.le_refl _)
  have S1 := (hS.below W0)
  have BK := Blk.new w1 23 #[.int .i64 cell, .int .i64 cell, .int .i64 cell, .int .i64 0, .int .i64 0]
  have D : DrC b n w w1.heap.size (w1.alloc (.cells #[.int .i64 cell, .int .i64 cell, .int .i64 cell, .int .i64 0, .int .i64 0] 23)) cell cell cell 0 0 := ⟨S1.below ((Below.refl _ _).alloc (Nat.le_refl _) _), R0.keep ((Below.refl _ _).alloc (Nat.le_refl _) _), BK, (Aside.of_below W0).trans (Aside.of_below ((Below.refl _ _).alloc (Nat.le_refl _) _)), hbl, by omega⟩
  clear BK R0 W0 S1 hb1
  go_wp2_with fail
  generalize w1.alloc (.cells #[.int .i64 cell, .int .i64 cell, .int .i64 cell, .int .i64 0, .int .i64 0] 23) = w2 at *
  generalize w1.heap.size = bk at *
  refine (src_one b _ 3 _ D.src (by omega) (by omega)).mono ?_
  rintro e w3 ⟨x, rfl, hS3, ha3⟩
  replace D := D.step ha3 hS3
  clear ha3 hS3
  have hbk := D.hbk
  have hbb := D.hb
  have hne : bk ≠ w.heap.size := by omega
  have hne2 : w.heap.size ≠ bk := by omega
  cases x
  ·
    try clear c0 c1 c2 c3 c4 clt cfr
    obtain ⟨c0, c1, c2, c3, c4⟩ := D.blk.cell5
    have clt := D.blk.lt
    have cfr := D.blk.frozen
    go_wp2_with fail
    refine (src_pick b _ 4 _ D.src (by omega) (by omega)).mono ?_
    rintro e w4 ⟨y1, rfl, hy1, hS4, ha4⟩
    replace D := D.step ha4 hS4
    clear ha4 hS4
    have q1 : IntKind.i64.wrap (cell - y1) = cell - y1 := IntWalk.i64_in _ (by omega)
    try clear c0 c1 c2 c3 c4 clt cfr
    obtain ⟨c0, c1, c2, c3, c4⟩ := D.blk.cell5
    have clt := D.blk.lt
    have cfr := D.blk.frozen
    go_wp2_with (go_at_call 66; refine (spec_l00Max _ _ _).mono ?_; rintro e w' ⟨rfl, rfl⟩)
    replace D := D.set_1 (max 2 (cell - y1))
    refine (src_pick b _ 4 _ D.src (by omega) (by omega)).mono ?_
    rintro e w4 ⟨y2, rfl, hy2, hS4, ha4⟩
    replace D := D.step ha4 hS4
    clear ha4 hS4
    have q2 : IntKind.i64.wrap (cell + y2) = cell + y2 := IntWalk.i64_in _ (by omega)
    have hzw4 := D.aside.size
    try clear c0 c1 c2 c3 c4 clt cfr
    obtain ⟨c0, c1, c2, c3, c4⟩ := D.blk.cell5
    have clt := D.blk.lt
    have cfr := D.blk.frozen
    go_wp2_with fail
    replace D := D.set_2 (cell + y2)
    refine (src_among b _ _ [0, 1, 2, 4] 4 _ (D.al _).src (by omega) (lit_ints' w4 _ (by simp [World.setCell]) [0, 1, 2, 4]) (fun a e => by injection e with e; subst e; have h9 := hzw4; have h8 := D.hb; show w4.heap.size ≠ b; omega) (Nat.zero_lt_succ _) (by simp)).mono ?_
    rintro e w5 ⟨z3, rfl, -, hS5, ha5⟩
    replace D := (D.al _).step ha5 hS5
    clear ha5 hS5
    have hzw5 := D.aside.size
    try clear c0 c1 c2 c3 c4 clt cfr
    obtain ⟨c0, c1, c2, c3, c4⟩ := D.blk.cell5
    have clt := D.blk.lt
    have cfr := D.blk.frozen
    go_wp2_with fail
    replace D := D.set_3 z3
    refine (src_among b _ _ [0, 2, 8, 16] 4 _ (D.al _).src (by omega) (lit_ints' w5 _ (by simp [World.setCell]) [0, 2, 8, 16]) (fun a e => by injection e with e; subst e; have h9 := hzw5; have h8 := D.hb; show w5.heap.size ≠ b; omega) (Nat.zero_lt_succ _) (by simp)).mono ?_
    rintro e w5 ⟨z4, rfl, -, hS5, ha5⟩
    replace D := (D.al _).step ha5 hS5
    clear ha5 hS5
    generalize hmx : max 2 (cell - y1) = mx at *
    generalize hcy : cell + y2 = cy at *
    try clear c0 c1 c2 c3 c4 clt cfr
    obtain ⟨c0, c1, c2, c3, c4⟩ := D.blk.cell5
    have clt := D.blk.lt
    have cfr := D.blk.frozen
    go_wp2_with fail
    replace D := D.set_4 z4
    refine (src_pick b _ 24 _ D.src (by omega) (by omega)).mono ?_
    rintro e w4 ⟨sw, rfl, hsw, hS4, ha4⟩
    replace D := D.step ha4 hS4
    clear ha4 hS4
    try clear c0 c1 c2 c3 c4 clt cfr
    obtain ⟨c0, c1, c2, c3, c4⟩ := D.blk.cell5
    have clt := D.blk.lt
    have cfr := D.blk.frozen
    have qc1 : IntKind.i64.wrap (cell + 1) = cell + 1 := IntWalk.i64_in _ (by omega)
    have qc2 : IntKind.i64.wrap (cell - 1) = cell - 1 := IntWalk.i64_in _ (by omega)
    by_cases s0 : sw = 0
    · subst s0
      try clear c0 c1 c2 c3 c4 clt cfr
      obtain ⟨c0, c1, c2, c3, c4⟩ := D.blk.cell5
      have clt := D.blk.lt
      have cfr := D.blk.frozen
      go_wp2_with fail
      refine (src_among b _ _ [3, 201] 2 _ (D.al _).src (by omega) (lit_ints _ [3, 201]) (fun a e => by injection e with e; subst e; have h9 := D.aside.size; have h8 := D.hb; simp; omega) (Nat.zero_lt_succ _) (by simp)).mono ?_
      rintro e w5 ⟨z, rfl, -, hS5, ha5⟩
      replace D := (D.al _).step ha5 hS5
      clear ha5 hS5
      try clear c0 c1 c2 c3 c4 clt cfr
      obtain ⟨c0, c1, c2, c3, c4⟩ := D.blk.cell5
      have clt := D.blk.lt
      have cfr := D.blk.frozen
      obtain ⟨r0, r1', r2, r3, r4⟩ := (D.set_0 z).r.cell5
      have rf := (D.set_0 z).r.frozen
      have rlt := (D.set_0 z).r.lt
      obtain ⟨e0, e1, e2, e3, e4⟩ := ((D.set_0 z).r.set5 (.int .i64 z) (.int .i64 mx) (.int .i64 cy) (.int .i64 z3) (.int .i64 z4)).cell5
      have hfin := (D.set_0 z).done (.int .i64 z) (.int .i64 mx) (.int .i64 cy) (.int .i64 z3) (.int .i64 z4)
      go_wp2_with fail
      refine bodyPost_ret (v := .agg #[.int .i64 z, .int .i64 mx, .int .i64 cy, .int .i64 z3, .int .i64 z4]) (by simp [results, Try.results80, go_sem, e0, e1, e2, e3, e4]) rfl ?_
      exact ⟨⟨z, mx, cy, z3, z4⟩, rfl, hfin.1.mono (by omega), hfin.2⟩
    have t0 : (sw == 0) = false := by rw [beq_eq_false_iff_ne]; exact s0
    by_cases s1 : sw = 1
    · subst s1
      try clear c0 c1 c2 c3 c4 clt cfr
      obtain ⟨c0, c1, c2, c3, c4⟩ := D.blk.cell5
      have clt := D.blk.lt
      have cfr := D.blk.frozen
      go_wp2_with fail
      refine (src_among b _ _ [1, cell + 1] 2 _ (D.al _).src (by omega) (lit_ints _ [1, cell + 1]) (fun a e => by injection e with e; subst e; have h9 := D.aside.size; have h8 := D.hb; simp; omega) (Nat.zero_lt_succ _) (by simp)).mono ?_
      rintro e w5 ⟨z, rfl, -, hS5, ha5⟩
      replace D := (D.al _).step ha5 hS5
      clear ha5 hS5
      try clear c0 c1 c2 c3 c4 clt cfr
      obtain ⟨c0, c1, c2, c3, c4⟩ := D.blk.cell5
      have clt := D.blk.lt
      have cfr := D.blk.frozen
      obtain ⟨r0, r1', r2, r3, r4⟩ := (D.set_1 z).r.cell5
      have rf := (D.set_1 z).r.frozen
      have rlt := (D.set_1 z).r.lt
      obtain ⟨e0, e1, e2, e3, e4⟩ := ((D.set_1 z).r.set5 (.int .i64 cell) (.int .i64 z) (.int .i64 cy) (.int .i64 z3) (.int .i64 z4)).cell5
      have hfin := (D.set_1 z).done (.int .i64 cell) (.int .i64 z) (.int .i64 cy) (.int .i64 z3) (.int .i64 z4)
      go_wp2_with fail
      refine bodyPost_ret (v := .agg #[.int .i64 cell, .int .i64 z, .int .i64 cy, .int .i64 z3, .int .i64 z4]) (by simp [results, Try.results80, go_sem, e0, e1, e2, e3, e4]) rfl ?_
      exact ⟨⟨cell, z, cy, z3, z4⟩, rfl, hfin.1.mono (by omega), hfin.2⟩
    have t1 : (sw == 1) = false := by rw [beq_eq_false_iff_ne]; exact s1
    by_cases s2 : sw = 2
    · subst s2
      try clear c0 c1 c2 c3 c4 clt cfr
      obtain ⟨c0, c1, c2, c3, c4⟩ := D.blk.cell5
      have clt := D.blk.lt
      have cfr := D.blk.frozen
      go_wp2_with fail
      refine (src_among b _ _ [cell - 1, 401] 2 _ (D.al _).src (by omega) (lit_ints _ [cell - 1, 401]) (fun a e => by injection e with e; subst e; have h9 := D.aside.size; have h8 := D.hb; simp; omega) (Nat.zero_lt_succ _) (by simp)).mono ?_
      rintro e w5 ⟨z, rfl, -, hS5, ha5⟩
      replace D := (D.al _).step ha5 hS5
      clear ha5 hS5
      try clear c0 c1 c2 c3 c4 clt cfr
      obtain ⟨c0, c1, c2, c3, c4⟩ := D.blk.cell5
      have clt := D.blk.lt
      have cfr := D.blk.frozen
      obtain ⟨r0, r1', r2, r3, r4⟩ := (D.set_2 z).r.cell5
      have rf := (D.set_2 z).r.frozen
      have rlt := (D.set_2 z).r.lt
      obtain ⟨e0, e1, e2, e3, e4⟩ := ((D.set_2 z).r.set5 (.int .i64 cell) (.int .i64 mx) (.int .i64 z) (.int .i64 z3) (.int .i64 z4)).cell5
      have hfin := (D.set_2 z).done (.int .i64 cell) (.int .i64 mx) (.int .i64 z) (.int .i64 z3) (.int .i64 z4)
      go_wp2_with fail
      refine bodyPost_ret (v := .agg #[.int .i64 cell, .int .i64 mx, .int .i64 z, .int .i64 z3, .int .i64 z4]) (by simp [results, Try.results80, go_sem, e0, e1, e2, e3, e4]) rfl ?_
      exact ⟨⟨cell, mx, z, z3, z4⟩, rfl, hfin.1.mono (by omega), hfin.2⟩
    have t2 : (sw == 2) = false := by rw [beq_eq_false_iff_ne]; exact s2
    by_cases s3 : sw = 3
    · subst s3
      try clear c0 c1 c2 c3 c4 clt cfr
      obtain ⟨c0, c1, c2, c3, c4⟩ := D.blk.cell5
      have clt := D.blk.lt
      have cfr := D.blk.frozen
      go_wp2_with fail
      refine (src_among b _ _ [-1, 65, 64] 3 _ (D.al _).src (by omega) (lit_ints _ [-1, 65, 64]) (fun a e => by injection e with e; subst e; have h9 := D.aside.size; have h8 := D.hb; simp; omega) (Nat.zero_lt_succ _) (by simp)).mono ?_
      rintro e w5 ⟨z, rfl, -, hS5, ha5⟩
      replace D := (D.al _).step ha5 hS5
      clear ha5 hS5
      try clear c0 c1 c2 c3 c4 clt cfr
      obtain ⟨c0, c1, c2, c3, c4⟩ := D.blk.cell5
      have clt := D.blk.lt
      have cfr := D.blk.frozen
      obtain ⟨r0, r1', r2, r3, r4⟩ := (D.set_3 z).r.cell5
      have rf := (D.set_3 z).r.frozen
      have rlt := (D.set_3 z).r.lt
      obtain ⟨e0, e1, e2, e3, e4⟩ := ((D.set_3 z).r.set5 (.int .i64 cell) (.int .i64 mx) (.int .i64 cy) (.int .i64 z) (.int .i64 z4)).cell5
      have hfin := (D.set_3 z).done (.int .i64 cell) (.int .i64 mx) (.int .i64 cy) (.int .i64 z) (.int .i64 z4)
      go_wp2_with fail
      refine bodyPost_ret (v := .agg #[.int .i64 cell, .int .i64 mx, .int .i64 cy, .int .i64 z, .int .i64 z4]) (by simp [results, Try.results80, go_sem, e0, e1, e2, e3, e4]) rfl ?_
      exact ⟨⟨cell, mx, cy, z, z4⟩, rfl, hfin.1.mono (by omega), hfin.2⟩
    have t3 : (sw == 3) = false := by rw [beq_eq_false_iff_ne]; exact s3
    by_cases s4 : sw = 4
    · subst s4
      try clear c0 c1 c2 c3 c4 clt cfr
      obtain ⟨c0, c1, c2, c3, c4⟩ := D.blk.cell5
      have clt := D.blk.lt
      have cfr := D.blk.frozen
      go_wp2_with fail
      refine (src_among b _ _ [-1, 65] 2 _ (D.al _).src (by omega) (lit_ints _ [-1, 65]) (fun a e => by injection e with e; subst e; have h9 := D.aside.size; have h8 := D.hb; simp; omega) (Nat.zero_lt_succ _) (by simp)).mono ?_
      rintro e w5 ⟨z, rfl, -, hS5, ha5⟩
      replace D := (D.al _).step ha5 hS5
      clear ha5 hS5
      try clear c0 c1 c2 c3 c4 clt cfr
      obtain ⟨c0, c1, c2, c3, c4⟩ := D.blk.cell5
      have clt := D.blk.lt
      have cfr := D.blk.frozen
      obtain ⟨r0, r1', r2, r3, r4⟩ := (D.set_4 z).r.cell5
      have rf := (D.set_4 z).r.frozen
      have rlt := (D.set_4 z).r.lt
      obtain ⟨e0, e1, e2, e3, e4⟩ := ((D.set_4 z).r.set5 (.int .i64 cell) (.int .i64 mx) (.int .i64 cy) (.int .i64 z3) (.int .i64 z)).cell5
      have hfin := (D.set_4 z).done (.int .i64 cell) (.int .i64 mx) (.int .i64 cy) (.int .i64 z3) (.int .i64 z)
      go_wp2_with fail
      refine bodyPost_ret (v := .agg #[.int .i64 cell, .int .i64 mx, .int .i64 cy, .int .i64 z3, .int .i64 z]) (by simp [results, Try.results80, go_sem, e0, e1, e2, e3, e4]) rfl ?_
      exact ⟨⟨cell, mx, cy, z3, z⟩, rfl, hfin.1.mono (by omega), hfin.2⟩
    have t4 : (sw == 4) = false := by rw [beq_eq_false_iff_ne]; exact s4
    obtain ⟨r0, r1', r2, r3, r4⟩ := D.r.cell5
    have rf := D.r.frozen
    have rlt := D.r.lt
    obtain ⟨e0, e1, e2, e3, e4⟩ := (D.r.set5 (.int .i64 cell) (.int .i64 mx) (.int .i64 cy) (.int .i64 z3) (.int .i64 z4)).cell5
    have hfin := D.done (.int .i64 cell) (.int .i64 mx) (.int .i64 cy) (.int .i64 z3) (.int .i64 z4)
    go_wp2_with fail
    refine bodyPost_ret (v := .agg #[.int .i64 cell, .int .i64 mx, .int .i64 cy, .int .i64 z3, .int .i64 z4]) (by simp [results, Try.results80, go_sem, e0, e1, e2, e3, e4]) rfl ?_
    exact ⟨⟨cell, mx, cy, z3, z4⟩, rfl, hfin.1.mono (by omega), hfin.2⟩
  ·
    try clear c0 c1 c2 c3 c4 clt cfr
    obtain ⟨c0, c1, c2, c3, c4⟩ := D.blk.cell5
    have clt := D.blk.lt
    have cfr := D.blk.frozen
    go_wp2_with fail
    refine (src_pick b _ 24 _ D.src (by omega) (by omega)).mono ?_
    rintro e w4 ⟨sw, rfl, hsw, hS4, ha4⟩
    replace D := D.step ha4 hS4
    clear ha4 hS4
    try clear c0 c1 c2 c3 c4 clt cfr
    obtain ⟨c0, c1, c2, c3, c4⟩ := D.blk.cell5
    have clt := D.blk.lt
    have cfr := D.blk.frozen
    have qc1 : IntKind.i64.wrap (cell + 1) = cell + 1 := IntWalk.i64_in _ (by omega)
    have qc2 : IntKind.i64.wrap (cell - 1) = cell - 1 := IntWalk.i64_in _ (by omega)
    by_cases s0 : sw = 0
    · subst s0
      try clear c0 c1 c2 c3 c4 clt cfr
      obtain ⟨c0, c1, c2, c3, c4⟩ := D.blk.cell5
      have clt := D.blk.lt
      have cfr := D.blk.frozen
      go_wp2_with fail
      refine (src_among b _ _ [3, 201] 2 _ (D.al _).src (by omega) (lit_ints _ [3, 201]) (fun a e => by injection e with e; subst e; have h9 := D.aside.size; have h8 := D.hb; simp; omega) (Nat.zero_lt_succ _) (by simp)).mono ?_
      rintro e w5 ⟨z, rfl, -, hS5, ha5⟩
      replace D := (D.al _).step ha5 hS5
      clear ha5 hS5
      try clear c0 c1 c2 c3 c4 clt cfr
      obtain ⟨c0, c1, c2, c3, c4⟩ := D.blk.cell5
      have clt := D.blk.lt
      have cfr := D.blk.frozen
      obtain ⟨r0, r1', r2, r3, r4⟩ := (D.set_0 z).r.cell5
      have rf := (D.set_0 z).r.frozen
      have rlt := (D.set_0 z).r.lt
      obtain ⟨e0, e1, e2, e3, e4⟩ := ((D.set_0 z).r.set5 (.int .i64 z) (.int .i64 cell) (.int .i64 cell) (.int .i64 0) (.int .i64 0)).cell5
      have hfin := (D.set_0 z).done (.int .i64 z) (.int .i64 cell) (.int .i64 cell) (.int .i64 0) (.int .i64 0)
      go_wp2_with fail
      refine bodyPost_ret (v := .agg #[.int .i64 z, .int .i64 cell, .int .i64 cell, .int .i64 0, .int .i64 0]) (by simp [results, Try.results80, go_sem, e0, e1, e2, e3, e4]) rfl ?_
      exact ⟨⟨z, cell, cell, 0, 0⟩, rfl, hfin.1.mono (by omega), hfin.2⟩
    have t0 : (sw == 0) = false := by rw [beq_eq_false_iff_ne]; exact s0
    by_cases s1 : sw = 1
    · subst s1
      try clear c0 c1 c2 c3 c4 clt cfr
      obtain ⟨c0, c1, c2, c3, c4⟩ := D.blk.cell5
      have clt := D.blk.lt
      have cfr := D.blk.frozen
      go_wp2_with fail
      refine (src_among b _ _ [1, cell + 1] 2 _ (D.al _).src (by omega) (lit_ints _ [1, cell + 1]) (fun a e => by injection e with e; subst e; have h9 := D.aside.size; have h8 := D.hb; simp; omega) (Nat.zero_lt_succ _) (by simp)).mono ?_
      rintro e w5 ⟨z, rfl, -, hS5, ha5⟩
      replace D := (D.al _).step ha5 hS5
      clear ha5 hS5
      try clear c0 c1 c2 c3 c4 clt cfr
      obtain ⟨c0, c1, c2, c3, c4⟩ := D.blk.cell5
      have clt := D.blk.lt
      have cfr := D.blk.frozen
      obtain ⟨r0, r1', r2, r3, r4⟩ := (D.set_1 z).r.cell5
      have rf := (D.set_1 z).r.frozen
      have rlt := (D.set_1 z).r.lt
      obtain ⟨e0, e1, e2, e3, e4⟩ := ((D.set_1 z).r.set5 (.int .i64 cell) (.int .i64 z) (.int .i64 cell) (.int .i64 0) (.int .i64 0)).cell5
      have hfin := (D.set_1 z).done (.int .i64 cell) (.int .i64 z) (.int .i64 cell) (.int .i64 0) (.int .i64 0)
      go_wp2_with fail
      refine bodyPost_ret (v := .agg #[.int .i64 cell, .int .i64 z, .int .i64 cell, .int .i64 0, .int .i64 0]) (by simp [results, Try.results80, go_sem, e0, e1, e2, e3, e4]) rfl ?_
      exact ⟨⟨cell, z, cell, 0, 0⟩, rfl, hfin.1.mono (by omega), hfin.2⟩
    have t1 : (sw == 1) = false := by rw [beq_eq_false_iff_ne]; exact s1
    by_cases s2 : sw = 2
    · subst s2
      try clear c0 c1 c2 c3 c4 clt cfr
      obtain ⟨c0, c1, c2, c3, c4⟩ := D.blk.cell5
      have clt := D.blk.lt
      have cfr := D.blk.frozen
      go_wp2_with fail
      refine (src_among b _ _ [cell - 1, 401] 2 _ (D.al _).src (by omega) (lit_ints _ [cell - 1, 401]) (fun a e => by injection e with e; subst e; have h9 := D.aside.size; have h8 := D.hb; simp; omega) (Nat.zero_lt_succ _) (by simp)).mono ?_
      rintro e w5 ⟨z, rfl, -, hS5, ha5⟩
      replace D := (D.al _).step ha5 hS5
      clear ha5 hS5
      try clear c0 c1 c2 c3 c4 clt cfr
      obtain ⟨c0, c1, c2, c3, c4⟩ := D.blk.cell5
      have clt := D.blk.lt
      have cfr := D.blk.frozen
      obtain ⟨r0, r1', r2, r3, r4⟩ := (D.set_2 z).r.cell5
      have rf := (D.set_2 z).r.frozen
      have rlt := (D.set_2 z).r.lt
      obtain ⟨e0, e1, e2, e3, e4⟩ := ((D.set_2 z).r.set5 (.int .i64 cell) (.int .i64 cell) (.int .i64 z) (.int .i64 0) (.int .i64 0)).cell5
      have hfin := (D.set_2 z).done (.int .i64 cell) (.int .i64 cell) (.int .i64 z) (.int .i64 0) (.int .i64 0)
      go_wp2_with fail
      refine bodyPost_ret (v := .agg #[.int .i64 cell, .int .i64 cell, .int .i64 z, .int .i64 0, .int .i64 0]) (by simp [results, Try.results80, go_sem, e0, e1, e2, e3, e4]) rfl ?_
      exact ⟨⟨cell, cell, z, 0, 0⟩, rfl, hfin.1.mono (by omega), hfin.2⟩
    have t2 : (sw == 2) = false := by rw [beq_eq_false_iff_ne]; exact s2
    by_cases s3 : sw = 3
    · subst s3
      try clear c0 c1 c2 c3 c4 clt cfr
      obtain ⟨c0, c1, c2, c3, c4⟩ := D.blk.cell5
      have clt := D.blk.lt
      have cfr := D.blk.frozen
      go_wp2_with fail
      refine (src_among b _ _ [-1, 65, 64] 3 _ (D.al _).src (by omega) (lit_ints _ [-1, 65, 64]) (fun a e => by injection e with e; subst e; have h9 := D.aside.size; have h8 := D.hb; simp; omega) (Nat.zero_lt_succ _) (by simp)).mono ?_
      rintro e w5 ⟨z, rfl, -, hS5, ha5⟩
      replace D := (D.al _).step ha5 hS5
      clear ha5 hS5
      try clear c0 c1 c2 c3 c4 clt cfr
      obtain ⟨c0, c1, c2, c3, c4⟩ := D.blk.cell5
      have clt := D.blk.lt
      have cfr := D.blk.frozen
      obtain ⟨r0, r1', r2, r3, r4⟩ := (D.set_3 z).r.cell5
      have rf := (D.set_3 z).r.frozen
      have rlt := (D.set_3 z).r.lt
      obtain ⟨e0, e1, e2, e3, e4⟩ := ((D.set_3 z).r.set5 (.int .i64 cell) (.int .i64 cell) (.int .i64 cell) (.int .i64 z) (.int .i64 0)).cell5
      have hfin := (D.set_3 z).done (.int .i64 cell) (.int .i64 cell) (.int .i64 cell) (.int .i64 z) (.int .i64 0)
      go_wp2_with fail
      refine bodyPost_ret (v := .agg #[.int .i64 cell, .int .i64 cell, .int .i64 cell, .int .i64 z, .int .i64 0]) (by simp [results, Try.results80, go_sem, e0, e1, e2, e3, e4]) rfl ?_
      exact ⟨⟨cell, cell, cell, z, 0⟩, rfl, hfin.1.mono (by omega), hfin.2⟩
    have t3 : (sw == 3) = false := by rw [beq_eq_false_iff_ne]; exact s3
    by_cases s4 : sw = 4
    · subst s4
      try clear c0 c1 c2 c3 c4 clt cfr
      obtain ⟨c0, c1, c2, c3, c4⟩ := D.blk.cell5
      have clt := D.blk.lt
      have cfr := D.blk.frozen
      go_wp2_with fail
      refine (src_among b _ _ [-1, 65] 2 _ (D.al _).src (by omega) (lit_ints _ [-1, 65]) (fun a e => by injection e with e; subst e; have h9 := D.aside.size; have h8 := D.hb; simp; omega) (Nat.zero_lt_succ _) (by simp)).mono ?_
      rintro e w5 ⟨z, rfl, -, hS5, ha5⟩
      replace D := (D.al _).step ha5 hS5
      clear ha5 hS5
      try clear c0 c1 c2 c3 c4 clt cfr
      obtain ⟨c0, c1, c2, c3, c4⟩ := D.blk.cell5
      have clt := D.blk.lt
      have cfr := D.blk.frozen
      obtain ⟨r0, r1', r2, r3, r4⟩ := (D.set_4 z).r.cell5
      have rf := (D.set_4 z).r.frozen
      have rlt := (D.set_4 z).r.lt
      obtain ⟨e0, e1, e2, e3, e4⟩ := ((D.set_4 z).r.set5 (.int .i64 cell) (.int .i64 cell) (.int .i64 cell) (.int .i64 0) (.int .i64 z)).cell5
      have hfin := (D.set_4 z).done (.int .i64 cell) (.int .i64 cell) (.int .i64 cell) (.int .i64 0) (.int .i64 z)
      go_wp2_with fail
      refine bodyPost_ret (v := .agg #[.int .i64 cell, .int .i64 cell, .int .i64 cell, .int .i64 0, .int .i64 z]) (by simp [results, Try.results80, go_sem, e0, e1, e2, e3, e4]) rfl ?_
      exact ⟨⟨cell, cell, cell, 0, z⟩, rfl, hfin.1.mono (by omega), hfin.2⟩
    have t4 : (sw == 4) = false := by rw [beq_eq_false_iff_ne]; exact s4
    obtain ⟨r0, r1', r2, r3, r4⟩ := D.r.cell5
    have rf := D.r.frozen
    have rlt := D.r.lt
    obtain ⟨e0, e1, e2, e3, e4⟩ := (D.r.set5 (.int .i64 cell) (.int .i64 cell) (.int .i64 cell) (.int .i64 0) (.int .i64 0)).cell5
    have hfin := D.done (.int .i64 cell) (.int .i64 cell) (.int .i64 cell) (.int .i64 0) (.int .i64 0)
    go_wp2_with fail
    refine bodyPost_ret (v := .agg #[.int .i64 cell, .int .i64 cell, .int .i64 cell, .int .i64 0, .int .i64 0]) (by simp [results, Try.results80, go_sem, e0, e1, e2, e3, e4]) rfl ?_
    exact ⟨⟨cell, cell, cell, 0, 0⟩, rfl, hfin.1.mono (by omega), hfin.2⟩
end Go.Proofs.Ytdoaoeenmfnjhaa
