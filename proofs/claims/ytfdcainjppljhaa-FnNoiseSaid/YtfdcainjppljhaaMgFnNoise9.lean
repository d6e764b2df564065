/- Draws of spans. Printed by drspan.py. Arguments opened: slices of bytes. A2Flux; a2Long. Weak areas: plain; a2Same; the draw. FnNoise, plain: what drift, jitter and drops do to valid flux. A2Noise; a2Byte. -/
import Derived.Test.YtfdcainjppljhaaMgFnNoise2
import Derived.Test.YtfdcainjppljhaaMgFnNoise6
import Derived.Test.YtfdcainjppljhaaMgFnNoise7
import Derived.Test.YtfdcainjppljhaaMgFnNoise8
import Derived.ChangeSlices
namespace Go.Proofs.Ytfdcainjppljhaa
open Go.RowKit
set_option linter.unusedVariables false
/-- A span under way: the variable's block bs, the result's block. -/
structure DrS (b n : Nat) (w : World) (bs : Nat) (wx : World) (x y : Int) (v : Value) (l : List Int) : Prop where
  src : Src wx b n
  r : Blk wx w.heap.size 36 #[.int .i64 0, .int .i64 0, .slice none 0 0]
  blk : Blk wx bs 36 #[.int .i64 x, .int .i64 y, v]
  own : OwnI wx (bs + 1) v l
  aside : Aside (some b) w wx
  hb : b < w.heap.size
  hbf : w.heap.size < bs
theorem DrS.step {b n m : Nat} {w : World} {bs : Nat} {wx wy : World} {x y : Int} {v : Value} {l : List Int} (h : DrS b n w bs wx x y v l) (ha : Aside (some b) wx wy) (hs : Src wy b m) : DrS b m w bs wy x y v l :=
  ⟨hs, h.r.asides ha (fun e => by injection e with e; have := h.hb; omega), h.blk.asides ha (fun e => by injection e with e; have := h.hb; have := h.hbf; omega), h.own.asides ha (fun g e e2 => by injection e2 with e2; have h1 := (World.ownsRow.lt h.own g e).1; have := h.hb; have := h.hbf; omega), h.aside.trans ha, h.hb, h.hbf⟩
theorem DrS.drew {b n : Nat} {w : World} {bs : Nat} {wx : World} {x y : Int} {v : Value} {l : List Int} (h : DrS b n w bs wx x y v l) : DrS b n w bs wx.drew x y v l := h.step (Aside.of_below (Below.refl _ _).drew) h.src.drew
theorem DrS.al {b n : Nat} {w : World} {bs : Nat} {wx : World} {x y : Int} {v : Value} {l : List Int} (h : DrS b n w bs wx x y v l) (o : Obj) : DrS b n w bs (wx.alloc o) x y v l :=
  h.step (Aside.of_below ((Below.refl _ _).alloc (Nat.le_refl _) o)) (h.src.below ((Below.refl _ _).alloc (Nat.le_refl _) o))
theorem DrS.mono {b n m : Nat} {w : World} {bs : Nat} {wx : World} {x y : Int} {v : Value} {l : List Int} (h : DrS b n w bs wx x y v l) (hm : n ≤ m) : DrS b m w bs wx x y v l := { h with src := h.src.mono hm }
theorem DrS.setX {b n : Nat} {w : World} {bs : Nat} {wx : World} {x y : Int} {v : Value} {l : List Int} (h : DrS b n w bs wx x y v l) (z : Int) : DrS b n w bs (wx.setCell ⟨bs, 0, none⟩ (.int .i64 z)) z y v l := by
  have hb := h.hb; have hbf := h.hbf
  have hB := (Below.refl bs wx).setCell (p := ⟨bs, 0, none⟩) (Nat.le_refl _) (.int .i64 z)
  exact ⟨h.src.belowB hB (by omega), h.r.off (by omega) _ _, h.blk.set30 _, h.own.off (by omega) _ _, h.aside.trans_below hB (by omega), h.hb, h.hbf⟩
theorem DrS.setY {b n : Nat} {w : World} {bs : Nat} {wx : World} {x y : Int} {v : Value} {l : List Int} (h : DrS b n w bs wx x y v l) (z : Int) : DrS b n w bs (wx.setCell ⟨bs, 1, none⟩ (.int .i64 z)) x z v l := by
  have hb := h.hb; have hbf := h.hbf
  have hB := (Below.refl bs wx).setCell (p := ⟨bs, 1, none⟩) (Nat.le_refl _) (.int .i64 z)
  exact ⟨h.src.belowB hB (by omega), h.r.off (by omega) _ _, h.blk.set31 _, h.own.off (by omega) _ _, h.aside.trans_below hB (by omega), h.hb, h.hbf⟩
/-- A number is appended, the new slice stored. -/
theorem DrS.push {b n : Nat} {w : World} {bs : Nat} {wx wy : World} {x y : Int} {v v1 : Value} {l l1 : List Int} (h : DrS b n w bs wx x y v l) (ho : OwnI wy (bs + 1) v1 l1) (hb4 : Below (bs + 1) wx wy) : DrS b n w bs (wy.setCell ⟨bs, 2, none⟩ v1) x y v1 l1 := by
  have hb := h.hb; have hbf := h.hbf
  have hB := hb4.mono (Nat.le_succ bs) |>.setCell (p := ⟨bs, 2, none⟩) (Nat.le_refl _) v1
  exact ⟨h.src.belowB hB (by omega), (h.r.below hb4 (by omega)).off (by omega) _ _, (h.blk.below hb4 (Nat.lt_succ_self _)).set32' _, ho.off (by omega) _ _, h.aside.trans_below hB (by omega), h.hb, h.hbf⟩
theorem OwnI.open0 {w : World} {base : Nat} {v : Value} {l : List Int} (h : OwnI w base v l) : ∃ q d, v = .slice q l.length d ∧ OwnS w base q l ∧ (q = none → d = 0) := by
  obtain ⟨q, d, hv, hS⟩ := h.open_
  refine ⟨q, d, hv, hS, fun e => ?_⟩
  rcases h.2 with ⟨h1, -⟩ | ⟨g, cap, cur, h1, -⟩
  · rw [h1] at hv; injection hv with e1 e2 e3; exact e3.symm
  · rw [h1] at hv; injection hv with e1 e2 e3; rw [e] at e1; cases e1
set_option maxHeartbeats 4000000 in
set_option maxRecDepth 20000 in
theorem src_l04DrawSpan (b n : Nat) (fr : Int) (w : World) (hS : Src w b n) (hn : n ≤ 10000000) (hfr : 0 ≤ fr ∧ fr ≤ 1000000) :
    Calls Try.prog 58 #[.pointer (some ⟨b, 0, none⟩), .int .i64 fr] w fun e w' => ∃ (x y : Int) (q : Option Addr) (t : List Int) (d : Nat), e = .returned (.agg #[.int .i64 x, .int .i64 y, .slice q t.length d]) ∧ OwnS w' w.heap.size q t ∧ (q = none → d = 0) ∧ t.length ≤ 10 ∧ Src w' b (n + 100) ∧ Aside (some b) w w' := by
  have hbl := hS.lt
  have R0 := Blk.new w 36 #[.int .i64 0, .int .i64 0, .slice none 0 0]
  have A0 : Aside (some b) w (w.alloc (.cells #[.int .i64 0, .int .i64 0, .slice none 0 0] 36)) := Aside.of_below ((Below.refl _ _).alloc (Nat.le_refl _) _)
  have S0 := hS.below ((Below.refl _ w).alloc (Nat.le_refl _) (.cells #[.int .i64 0, .int .i64 0, .slice none 0 0] 36))
  have z0 : w.heap.size + 1 ≤ (w.alloc (.cells #[.int .i64 0, .int .i64 0, .slice none 0 0] 36)).heap.size := by simp
  go_enter Try.func58, Try.ntmps58
  go_wp2_with fail
  generalize w.alloc (.cells #[.int .i64 0, .int .i64 0, .slice none 0 0] 36) = w0 at *
  refine (src_pick b n 60 _ S0 (by omega) (by omega)).mono ?_
  rintro e w1 ⟨p0, rfl, hp0, hS1, ha1⟩
  have R1 := R0.asides ha1 (fun e => by injection e with e; omega)
  have A1 := A0.trans ha1
  have z1 := ha1.size
  obtain ⟨x, ex⟩ : ∃ x, fr + p0 = x := ⟨_, rfl⟩
  have hx : 0 ≤ x ∧ x ≤ 1000100 := by omega
  have qx : IntKind.i64.wrap (fr + p0) = x := by rw [IntWalk.i64_in _ (by omega)]; exact ex
  have D1 : DrS b (n + 2) w w1.heap.size (w1.alloc (.cells #[.int .i64 x, .int .i64 0, .slice none 0 0] 36)) x 0 (.slice none 0 0) [] :=
    ⟨hS1.below ((Below.refl _ w1).alloc (Nat.le_refl _) _), R1.alloc' _, Blk.new _ _ _, OwnI.none_ _ _, A1.trans (Aside.of_below ((Below.refl _ _).alloc (Nat.le_refl _) _)), hbl, by omega⟩
  clear ha1 R0 A0 S0 R1 A1 ex
  go_wp2_with fail
  obtain ⟨bs, ebs⟩ : ∃ bs, w1.heap.size = bs := ⟨_, rfl⟩
  generalize w1.alloc (.cells #[.int .i64 x, .int .i64 0, .slice none 0 0] 36) = w2 at D1 ⊢
  rw [ebs] at D1 ⊢
  go_cut [5] (fun v5 wx => v5 = .pointer (some ⟨bs, 0, none⟩) ∧ ∃ y, (0 ≤ y ∧ y ≤ 1001000) ∧ DrS b (n + 4) w bs wx x y (.slice none 0 0) [])
  case first =>
    obtain ⟨c0, c1, c2⟩ := D1.blk.cell3
    have cf := D1.blk.frozen
    have cl := D1.blk.lt
    go_region_with (go_at_call 67; refine (src_pick b (n + 2) 100 _ (by exact D1.src) (by omega) (by omega)).mono ?_; rintro e w3 ⟨p1, rfl, hp1, hS3, ha3⟩; have D3 := D1.drew.step ha3 hS3; have q1 : IntKind.i64.wrap (x + p1) = x + p1 := IntWalk.i64_in _ (by omega); obtain ⟨d0, d1, d2⟩ := D3.blk.cell3; have df := D3.blk.frozen; have dl := D3.blk.lt)
    all_goals
      go_wp2_with fail
      go_meet
      exact ⟨rfl, x + p1, by omega, D3.setY _⟩
  case rest =>
    obtain ⟨rfl, y, hy, D4⟩ := hcut
    obtain ⟨w4, hwc⟩ : ∃ w4, w4 = wc := ⟨_, rfl⟩
    subst hwc
    go_wp2_with fail
    go_cut [6] (fun v6 wx => ∃ t, v6 = .int .i64 t ∧ (0 ≤ t ∧ t ≤ 1001000) ∧ DrS b (n + 6) w bs wx x y (.slice none 0 0) [])
    case first =>
      obtain ⟨c0, c1, c2⟩ := D4.blk.cell3
      have cl := D4.blk.lt
      go_region_with (go_at_call 67; refine (src_pick b (n + 4) 20 _ (by exact D4.src) (by omega) (by omega)).mono ?_; rintro e w5 ⟨p2, rfl, hp2, hS5, ha5⟩; have D5 := D4.drew.step ha5 hS5; have q2 : IntKind.i64.wrap (x + p2) = x + p2 := IntWalk.i64_in _ (by omega); obtain ⟨d0, d1, d2⟩ := D5.blk.cell3; have dl := D5.blk.lt)
      all_goals
        go_wp2_with fail
        go_meet
        exact ⟨x + p2, rfl, by omega, D5⟩
    case rest =>
      obtain ⟨t, rfl, ht, D6⟩ := hcut
      obtain ⟨w6, hwc⟩ : ∃ w6, w6 = wc := ⟨_, rfl⟩
      subst hwc
      go_wp2_with fail
      refine (src_pick b (n + 6) 5 _ D6.src (by omega) (by omega)).mono ?_
      rintro e w7 ⟨k0, rfl, hk0, hS7, ha7⟩
      have D7 := D6.step ha7 hS7
      clear D6 D4 D1 ha7 hS7
      go_wp2_with fail
      go_loopw [6, 7] (fun tv kv wr => ∃ (t k : Int) (v : Value) (l : List Int) (m : Nat), tv = .int .i64 t ∧ kv = .int .i64 k ∧ (0 ≤ t ∧ t ≤ 1001000 + 100 * (4 - k)) ∧ (0 ≤ k ∧ k ≤ 4) ∧ (l.length : Int) + k ≤ 4 ∧ (m : Int) + 2 * k ≤ n + 20 ∧ DrS b m w bs wr x y v l) (fun _ kv _ => (intOf kv).toNat)
      case atStart => exact ⟨t, k0, _, [], n + 8, rfl, rfl, by omega, by omega, by simp; omega, by omega, D7⟩
      case round =>
        obtain ⟨t, k, v, l, m, rfl, rfl, ht, hk, hlk, hm, D⟩ := hrel
        obtain ⟨c0, c1, c2⟩ := D.blk.cell3
        have hgo : (0 < k ∧ t < y) ∨ (k ≤ 0 ∨ y ≤ t) := by omega
        rcases hgo with ⟨hk0, hty⟩ | hstop
        · have d0 : decide (0 < k) = true := decide_eq_true hk0
          have d1 : decide (t < y) = true := decide_eq_true hty
          obtain ⟨qv, dv, rfl, -, -⟩ := D.own.open0
          have hz : bs + 1 ≤ wr.heap.size := D.blk.lt
          have hB4 : ∀ w4, Below (bs + 1) wr w4 → Blk w4 bs 36 #[.int .i64 x, .int .i64 y, .slice qv l.length dv] := fun w4 hb4 => D.blk.below hb4 (Nat.lt_succ_self _)
          have HB4 := Lib.hid hB4
          clear hB4
          go_wp2_with (at_builtin; refine append_int _ rfl (.tmp 37) (.tmp 39) rfl (bs + 1) (.slice qv l.length dv) l t rfl rfl D.own (by omega) hz ?_; intro v1 w8 hown1 hb8; obtain ⟨L1, eL1⟩ : ∃ L1, l ++ [t] = L1 := ⟨_, rfl⟩; rw [eL1] at hown1; have HL1 := Lib.hid eL1; clear eL1; obtain ⟨q1, e1, rfl, -⟩ := hown1.open_; have B8 := HB4.out _ hb8; obtain ⟨g0, g1, g2⟩ := B8.cell3; have gf := B8.frozen; have gl := B8.lt)
          have D8 := D.push hown1 hb8
          refine (src_pick b m 30 _ D8.src (by omega) (by omega)).mono ?_
          rintro e w9 ⟨p3, rfl, hp3, hS9, ha9⟩
          have D9 := D8.step ha9 hS9
          have q3 : IntKind.i64.wrap (1 + p3) = 1 + p3 := IntWalk.i64_in _ (by omega)
          have q4 : IntKind.i64.wrap (t + (1 + p3)) = t + (1 + p3) := IntWalk.i64_in _ (by omega)
          have q5 : IntKind.i64.wrap (k - 1) = k - 1 := IntWalk.i64_in _ (by omega)
          clear c0 c1 c2 g0 g1 g2 gf gl B8
          go_wp2_with fail
          have hL1 : L1.length = l.length + 1 := by rw [← HL1.out]; simp
          exact ⟨⟨t + (1 + p3), k - 1, _, L1, m + 2, rfl, rfl, by omega, by omega, by omega, by omega, D9⟩, by simp [intOf]; omega⟩
        · have hl4 : l.length ≤ 4 := by omega
          have hm2 : m ≤ n + 20 := by omega
          have hst : decide (0 < k) = false ∨ (decide (0 < k) = true ∧ decide (t < y) = false) := by
            by_cases h : 0 < k
            · exact .inr ⟨decide_eq_true h, decide_eq_false (by omega)⟩
            · exact .inl (decide_eq_false h)
          rcases hst with d0 | ⟨d0, d1⟩
          all_goals
            go_wp2_with fail
            refine (src_one b m 24 _ D.src (by omega) (by omega)).mono ?_
            rintro e w8 ⟨u1, rfl, hS8, ha8⟩
            have D8 := D.step ha8 hS8
            clear c0 c1 c2
            obtain ⟨c0, c1, c2⟩ := D8.blk.cell3
            cases u1
            · go_wp2_with fail
              refine (src_one b _ 24 _ D8.src (by omega) (by omega)).mono ?_
              rintro e wb ⟨u2, rfl, hSb, hab⟩
              have Db := D8.step hab hSb
              clear c0 c1 c2
              cases u2
              · obtain ⟨q, d, hv, hOS, hqd⟩ := Db.own.open0
                first | subst hv | (injection hv with hv1 hv2 hv3; replace hv1 := hv1.symm; replace hv3 := hv3.symm; subst hv1; subst hv3)
                obtain ⟨c0, c1, c2⟩ := Db.blk.cell3
                obtain ⟨r0, r1, r2⟩ := Db.r.cell3
                have rf := Db.r.frozen
                have rl := Db.r.lt
                have cl := Db.blk.lt
                obtain ⟨e0, e1, e2⟩ := (Db.r.set3 (.int .i64 x) (.int .i64 y) (.slice q l.length d)).cell3
                go_wp2_with fail
                refine bodyPost_ret (v := .agg #[.int .i64 x, .int .i64 y, .slice q l.length d]) (by simp [results, Try.results58, go_sem, e0, e1, e2]) rfl ?_
                have hB := (((Below.refl w.heap.size wb).setCell (p := ⟨w.heap.size, 0, none⟩) (Nat.le_refl _) (.int .i64 x)).setCell (p := ⟨w.heap.size, 1, none⟩) (Nat.le_refl _) (.int .i64 y)).setCell (p := ⟨w.heap.size, 2, none⟩) (Nat.le_refl _) (.slice q l.length d)
                have hlt : w.heap.size < bs + 1 := by have := Db.hbf; omega
                exact ⟨x, y, q, l, d, rfl, (((hOS.offS (g' := w.heap.size) hlt 0 _).offS (g' := w.heap.size) hlt 1 _).offS (g' := w.heap.size) hlt 2 _).mono (by omega), hqd, (by first | omega | (have := HLL.out; omega)), (Db.src.belowB hB Db.hb).mono (by omega), Db.aside.trans_below hB (Nat.le_refl _)⟩
              · obtain ⟨c0, c1, c2⟩ := Db.blk.cell3
                have cl := Db.blk.lt
                have qy : IntKind.i64.wrap (y + 1) = y + 1 := IntWalk.i64_in _ (by omega)
                have Dc := Db.al (.cells #[.int .i64 (-1), .int .i64 (y + 1), .int .i64 0] 2)
                go_wp2_with fail
                refine (src_among b _ _ [-1, y + 1, 0] 3 _ (by exact Dc.src) (by omega) (by exact lit_ints wb [-1, y + 1, 0]) (fun a e => by injection e with e; subst e; simp; have := Db.src.lt; omega) (by simp) (by simp)).mono ?_
                rintro e wd ⟨x1, rfl, hx1, hSd, had⟩
                have Dd := Dc.step had hSd
                clear c0 c1 c2 cl
                obtain ⟨g0, g1, g2⟩ := Dd.blk.cell3
                have gf := Dd.blk.frozen
                have gl := Dd.blk.lt
                have De := Dd.setX x1
                obtain ⟨q, d, hv, hOS, hqd⟩ := De.own.open0
                first | subst hv | (injection hv with hv1 hv2 hv3; replace hv1 := hv1.symm; replace hv3 := hv3.symm; subst hv1; subst hv3)
                obtain ⟨c0, c1, c2⟩ := De.blk.cell3
                obtain ⟨r0, r1, r2⟩ := De.r.cell3
                have rf := De.r.frozen
                have rl := De.r.lt
                have cl := De.blk.lt
                obtain ⟨e0, e1, e2⟩ := (De.r.set3 (.int .i64 x1) (.int .i64 y) (.slice q l.length d)).cell3
                go_wp2_with fail
                refine bodyPost_ret (v := .agg #[.int .i64 x1, .int .i64 y, .slice q l.length d]) (by simp [results, Try.results58, go_sem, e0, e1, e2]) rfl ?_
                have hB := (((Below.refl w.heap.size (wd.setCell ⟨bs, 0, none⟩ (.int .i64 x1))).setCell (p := ⟨w.heap.size, 0, none⟩) (Nat.le_refl _) (.int .i64 x1)).setCell (p := ⟨w.heap.size, 1, none⟩) (Nat.le_refl _) (.int .i64 y)).setCell (p := ⟨w.heap.size, 2, none⟩) (Nat.le_refl _) (.slice q l.length d)
                have hlt : w.heap.size < bs + 1 := by have := De.hbf; omega
                exact ⟨x1, y, q, l, d, rfl, (((hOS.offS (g' := w.heap.size) hlt 0 _).offS (g' := w.heap.size) hlt 1 _).offS (g' := w.heap.size) hlt 2 _).mono (by omega), hqd, (by first | omega | (have := HLL.out; omega)), (De.src.belowB hB De.hb).mono (by omega), De.aside.trans_below hB (Nat.le_refl _)⟩
            · have hz : bs + 1 ≤ w8.heap.size := D8.blk.lt
              obtain ⟨qv, dv, rfl, -, -⟩ := D8.own.open0
              have hB4 : ∀ w4, Below (bs + 1) w8 w4 → Blk w4 bs 36 #[.int .i64 x, .int .i64 y, .slice qv l.length dv] := fun w4 hb4 => D8.blk.below hb4 (Nat.lt_succ_self _)
              have HB4 := Lib.hid hB4
              clear hB4
              go_wp2_with (at_builtin; refine append_int _ rfl (.tmp 50) (.tmp 53) rfl (bs + 1) (.slice qv l.length dv) l y rfl rfl D8.own (by omega) hz ?_; intro v1 w9 hown1 hb9; obtain ⟨L1, eL1⟩ : ∃ L1, l ++ [y] = L1 := ⟨_, rfl⟩; rw [eL1] at hown1; have HL1 := Lib.hid eL1; clear eL1; obtain ⟨q1, e1, rfl, -⟩ := hown1.open_; have B9 := HB4.out _ hb9; obtain ⟨g0, g1, g2⟩ := B9.cell3; have gf := B9.frozen; have gl := B9.lt)
              have D9 := D8.push hown1 hb9
              have HLL : Hid (L1.length = l.length + 1) := Lib.hid (by rw [← HL1.out]; simp)
              clear g0 g1 g2 gf gl B9
              refine (src_one b _ 24 _ D9.src (by omega) (by omega)).mono ?_
              rintro e wb ⟨u2, rfl, hSb, hab⟩
              have Db := D9.step hab hSb
              clear c0 c1 c2
              cases u2
              · obtain ⟨q, d, hv, hOS, hqd⟩ := Db.own.open0
                first | subst hv | (injection hv with hv1 hv2 hv3; replace hv1 := hv1.symm; replace hv3 := hv3.symm; subst hv1; subst hv3)
                obtain ⟨c0, c1, c2⟩ := Db.blk.cell3
                obtain ⟨r0, r1, r2⟩ := Db.r.cell3
                have rf := Db.r.frozen
                have rl := Db.r.lt
                have cl := Db.blk.lt
                obtain ⟨e0, e1, e2⟩ := (Db.r.set3 (.int .i64 x) (.int .i64 y) (.slice q L1.length d)).cell3
                go_wp2_with fail
                refine bodyPost_ret (v := .agg #[.int .i64 x, .int .i64 y, .slice q L1.length d]) (by simp [results, Try.results58, go_sem, e0, e1, e2]) rfl ?_
                have hB := (((Below.refl w.heap.size wb).setCell (p := ⟨w.heap.size, 0, none⟩) (Nat.le_refl _) (.int .i64 x)).setCell (p := ⟨w.heap.size, 1, none⟩) (Nat.le_refl _) (.int .i64 y)).setCell (p := ⟨w.heap.size, 2, none⟩) (Nat.le_refl _) (.slice q L1.length d)
                have hlt : w.heap.size < bs + 1 := by have := Db.hbf; omega
                exact ⟨x, y, q, L1, d, rfl, (((hOS.offS (g' := w.heap.size) hlt 0 _).offS (g' := w.heap.size) hlt 1 _).offS (g' := w.heap.size) hlt 2 _).mono (by omega), hqd, (by first | omega | (have := HLL.out; omega)), (Db.src.belowB hB Db.hb).mono (by omega), Db.aside.trans_below hB (Nat.le_refl _)⟩
              · obtain ⟨c0, c1, c2⟩ := Db.blk.cell3
                have cl := Db.blk.lt
                have qy : IntKind.i64.wrap (y + 1) = y + 1 := IntWalk.i64_in _ (by omega)
                have Dc := Db.al (.cells #[.int .i64 (-1), .int .i64 (y + 1), .int .i64 0] 2)
                go_wp2_with fail
                refine (src_among b _ _ [-1, y + 1, 0] 3 _ (by exact Dc.src) (by omega) (by exact lit_ints wb [-1, y + 1, 0]) (fun a e => by injection e with e; subst e; simp; have := Db.src.lt; omega) (by simp) (by simp)).mono ?_
                rintro e wd ⟨x1, rfl, hx1, hSd, had⟩
                have Dd := Dc.step had hSd
                clear c0 c1 c2 cl
                obtain ⟨g0, g1, g2⟩ := Dd.blk.cell3
                have gf := Dd.blk.frozen
                have gl := Dd.blk.lt
                have De := Dd.setX x1
                obtain ⟨q, d, hv, hOS, hqd⟩ := De.own.open0
                first | subst hv | (injection hv with hv1 hv2 hv3; replace hv1 := hv1.symm; replace hv3 := hv3.symm; subst hv1; subst hv3)
                obtain ⟨c0, c1, c2⟩ := De.blk.cell3
                obtain ⟨r0, r1, r2⟩ := De.r.cell3
                have rf := De.r.frozen
                have rl := De.r.lt
                have cl := De.blk.lt
                obtain ⟨e0, e1, e2⟩ := (De.r.set3 (.int .i64 x1) (.int .i64 y) (.slice q L1.length d)).cell3
                go_wp2_with fail
                refine bodyPost_ret (v := .agg #[.int .i64 x1, .int .i64 y, .slice q L1.length d]) (by simp [results, Try.results58, go_sem, e0, e1, e2]) rfl ?_
                have hB := (((Below.refl w.heap.size (wd.setCell ⟨bs, 0, none⟩ (.int .i64 x1))).setCell (p := ⟨w.heap.size, 0, none⟩) (Nat.le_refl _) (.int .i64 x1)).setCell (p := ⟨w.heap.size, 1, none⟩) (Nat.le_refl _) (.int .i64 y)).setCell (p := ⟨w.heap.size, 2, none⟩) (Nat.le_refl _) (.slice q L1.length d)
                have hlt : w.heap.size < bs + 1 := by have := De.hbf; omega
                exact ⟨x1, y, q, L1, d, rfl, (((hOS.offS (g' := w.heap.size) hlt 0 _).offS (g' := w.heap.size) hlt 1 _).offS (g' := w.heap.size) hlt 2 _).mono (by omega), hqd, (by first | omega | (have := HLL.out; omega)), (De.src.belowB hB De.hb).mono (by omega), De.aside.trans_below hB (Nat.le_refl _)⟩
end Go.Proofs.Ytfdcainjppljhaa
namespace Go.Proofs.Ytfdcainjppljhaa
open Go.Deep Go.RowKit Go.Joins Go.ChangeShapes Go.WideShapes
/-- A slice of bytes: its data pointer, bytes, capacity. -/
structure Byt where
  p : Option Addr
  l : List UInt8
  cap : Nat
def Byt.val (x : Byt) : Value := .slice x.p x.l.length x.cap
def Byt.ok (x : Byt) (w : World) : Prop := BytesAt w x.p x.l ∧ x.l.length ≤ maxLen
section
variable {H : Type} {enc : TypeId × Value → H} {P : Program} {w : World} {base : Nat} {spare : Nat → Bool} {held : Bool}
theorem wf_u8 {n : Int} (h : (Lit.int .u8 n).wf = true) : 0 ≤ n ∧ n < 256 := by
  have h1 : IntKind.u8.min = 0 := rfl
  have h2 : IntKind.u8.max = 255 := rfl
  simp [Lit.wf] at h
  omega
theorem open_bytes {t e : TypeId} {r : Reach} {b0 : Nat} {v : Value} {d : DataW H} {p : List MemPlace} (ht : P.underlying t = some (.slice e)) (he : P.underlying e = some (.int .u8)) (hc : P.cellsOf e = 1)
    (hv : Value.okWide P w r b0 t v) (h : DataW.Trod enc P w base spare held t v d p) : ∃ x : Byt, v = x.val ∧ x.ok w := by
  obtain ⟨a0, len0, cap0, rfl⟩ := okWide_slice ht hv
  obtain ⟨fuel, hf⟩ := h
  rcases open_ints (cs := [.slice a0 len0 cap0]) ht he hc (by simpa [Value.cells] using hf) with ⟨hv, -⟩ | ⟨a, len, cap, zs, hv, -, hl, hm, hz, -, hcell, hwf⟩
  · simp at hv
    exact ⟨⟨none, [], 0⟩, by obtain ⟨rfl, rfl, rfl⟩ := hv; rfl, fun h => absurd rfl h, Nat.zero_le _⟩
  · simp at hv
    obtain ⟨rfl, rfl, rfl⟩ := hv
    have hlen : len0 ≤ zs.length := by rw [hz]; split <;> omega
    refine ⟨⟨some a, (zs.take len0).map b8, cap0⟩, ?_, ?_, ?_⟩
    · simp [Byt.val]; omega
    · intro hne
      have h0 : 0 < len0 := by
        rcases Nat.eq_zero_or_pos len0 with e | e
        · subst e; simp at hne
        · exact e
      refine ⟨a, rfl, ?_, fun i hi => ?_⟩
      · have := World.block_lt_of_cell? w _ (hcell 0 (by omega))
        rw [block_add] at this
        exact this
      · have hi' : i < len0 := by simp at hi; omega
        have hiz : i < zs.length := by omega
        have hw := wf_u8 (hwf _ (List.getElem_mem hiz))
        rw [hcell i hiz]
        simp [List.getD, hiz, b8_val hw.1 hw.2]
    · simp; omega
end
end Go.Proofs.Ytfdcainjppljhaa
namespace Go.Proofs.Ytfdcainjppljhaa
open Go.RowKit
set_option linter.unusedVariables false
theorem laws_a2Long (p p' : Option Addr) (l l' : List UInt8) (cap cap' : Nat) (w : World) :
    Calls Try.prog 15 #[.slice p l.length cap, .slice p' l'.length cap'] w fun e w' => e = .returned (.bool (decide (3000 < (l.length : Int)) || decide (3000 < (l'.length : Int)))) ∧ w' = w := by
  by_cases h : 3000 < (l.length : Int)
  · have hd : decide (3000 < (l.length : Int)) = true := decide_eq_true h
    go_enter Try.func15, Try.ntmps15
    go_wp2
    go_ret
    exact ⟨ret_bool (by first | rfl | (rw [hd]; rfl)), rfl⟩
  · have hd : decide (3000 < (l.length : Int)) = false := decide_eq_false h
    go_enter Try.func15, Try.ntmps15
    go_wp2
    go_ret
    exact ⟨ret_bool (by first | rfl | (rw [hd]; rfl)), rfl⟩
set_option maxHeartbeats 2000000 in
set_option maxRecDepth 20000 in
theorem spec_A2Flux (p : Option Addr) (l : List UInt8) (cap : Nat) (w : World) (hI : BytesAt w p l) (hl : l.length ≤ 1048576) :
    Calls Try.prog 26 #[.slice p l.length cap] w fun e w' => ∃ (cf f : Int) (q : Option Addr) (m : List Int) (d : Nat), e = .returned (.agg #[.int .i64 cf, .int .i64 f, .slice q m.length d]) ∧ fluxOk cf f m = true ∧ m.length ≤ 84 ∧ OwnS w' w.heap.size q m ∧ Below w.heap.size w w' := by
  have R0 := Blk.new w 26 #[.int .i64 0, .int .i64 0, .slice none 0 0]
  have W0 : Below w.heap.size w (w.alloc (.cells #[.int .i64 0, .int .i64 0, .slice none 0 0] 26)) := (Below.refl _ _).alloc (Nat.le_refl _) _
  have z0 : w.heap.size + 1 ≤ (w.alloc (.cells #[.int .i64 0, .int .i64 0, .slice none 0 0] 26)).heap.size := by simp
  go_enter Try.func26, Try.ntmps26
  go_wp2_with fail
  generalize w.alloc (.cells #[.int .i64 0, .int .i64 0, .slice none 0 0] 26) = w0 at R0 W0 z0 ⊢
  refine (spec_l00From p l cap _ (hI.below W0) hl).mono ?_
  rintro e w1 ⟨rfl, hS1, hb1⟩
  have z1 := hb1.size
  replace R0 := R0.keep hb1
  replace W0 := below_st W0 hb1 (Nat.le_refl _)
  go_wp2_with fail
  refine (src_l02DrawFlux w0.heap.size 0 _ hS1 (by omega)).mono ?_
  rintro e w2 ⟨cf, f, q, m, d, rfl, hq, hm, hS2, ha2⟩
  have z2 := ha2.size
  replace R0 := R0.asides ha2 (fun e => by injection e with e; omega)
  replace W0 : Below w.heap.size w w2 := W0.trans (ha2.below (by omega) (fun g e => by injection e with e; omega))
  have BF := Blk.new w2 26 #[.int .i64 cf, .int .i64 f, .slice q m.length d]
  replace R0 := R0.alloc' (.cells #[.int .i64 cf, .int .i64 f, .slice q m.length d] 26)
  replace hq := hq.below ((Below.refl _ w2).alloc (Nat.le_refl _) (.cells #[.int .i64 cf, .int .i64 f, .slice q m.length d] 26))
  replace W0 := W0.alloc W0.size (.cells #[.int .i64 cf, .int .i64 f, .slice q m.length d] 26)
  clear hS2 hS1 hb1 ha2
  go_wp2_with fail
  generalize w2.alloc (.cells #[.int .i64 cf, .int .i64 f, .slice q m.length d] 26) = w3 at *
  refine (spec_l02Ok cf f q m d _ _ hq.ints (by omega) BF).mono ?_
  rintro e w4 ⟨rfl, hb4⟩
  replace R0 := R0.keep hb4
  replace BF := BF.keep hb4
  replace hq := hq.below hb4
  replace W0 := below_st W0 hb4 (Nat.le_refl _)
  obtain ⟨f0, f1, f2⟩ := BF.cell3
  obtain ⟨r0, r1', r2⟩ := R0.cell3
  have rf := R0.frozen
  have rlt := R0.lt
  have flt := BF.lt
  obtain hok | hok := (Bool.eq_false_or_eq_true (fluxOk cf f m)).symm
  · rw [hok]
    clear f0 f1 f2
    have hkey : ∀ ws : World, ws.heap.size = w4.heap.size → OwnS (ws.alloc (.cells #[.int .i64 20, .int .i64 30] 2)) w4.heap.size (some ⟨w4.heap.size, 0, none⟩) [20, 30] := fun ws es => by
      have B := Blk.new ws 2 #[.int .i64 20, .int .i64 30]
      rw [es] at B
      refine OwnS.of_row (g := w4.heap.size) ⟨B.lt, fun i hi => ?_⟩ (Nat.le_refl _)
      have : i = 0 ∨ i = 1 := by simp at hi; omega
      rcases this with rfl | rfl
      · exact ⟨by rw [B.cell 0]; rfl, B.frozen 0⟩
      · exact ⟨by rw [B.cell 1]; rfl, B.frozen 1⟩
    have W5 := ((W0.setCell (p := ⟨w.heap.size, 0, none⟩) (Nat.le_refl _) (.int .i64 10)).setCell (p := ⟨w.heap.size, 1, none⟩) (Nat.le_refl _) (.int .i64 5)).setCell (p := ⟨w.heap.size, 2, none⟩) (Nat.le_refl _) (.slice (some ⟨w4.heap.size, 0, none⟩) 2 2)
    obtain ⟨e0, e1, e2⟩ := ((R0.set3 (.int .i64 10) (.int .i64 5) (.slice (some ⟨w4.heap.size, 0, none⟩) 2 2)).alloc' (.cells #[.int .i64 20, .int .i64 30] 2)).cell3
    go_wp2_with fail
    refine bodyPost_ret (v := .agg #[.int .i64 10, .int .i64 5, .slice (some ⟨w4.heap.size, 0, none⟩) 2 2]) (by simp [results, Try.results26, go_sem, e0, e1, e2]) rfl ?_
    exact ⟨10, 5, some ⟨w4.heap.size, 0, none⟩, [20, 30], 2, rfl, by decide, by decide, (hkey _ (by simp [World.setCell])).mono W0.size, W5.alloc W5.size _⟩
  · rw [hok]
    have hne : w.heap.size ≠ w2.heap.size := by omega
    obtain ⟨e0, e1, e2⟩ := (R0.set3 (.int .i64 cf) (.int .i64 f) (.slice q m.length d)).cell3
    go_wp2_with fail
    refine bodyPost_ret (v := .agg #[.int .i64 cf, .int .i64 f, .slice q m.length d]) (by simp [results, Try.results26, go_sem, e0, e1, e2]) rfl ?_
    exact ⟨cf, f, q, m, d, rfl, hok, hm, (((hq.offS (g' := w.heap.size) (by omega) 0 _).offS (g' := w.heap.size) (by omega) 1 _).offS (g' := w.heap.size) (by omega) 2 _).mono (show w.heap.size ≤ w1.heap.size by omega), ((W0.setCell (p := ⟨w.heap.size, 0, none⟩) (Nat.le_refl _) _).setCell (p := ⟨w.heap.size, 1, none⟩) (Nat.le_refl _) _).setCell (p := ⟨w.heap.size, 2, none⟩) (Nat.le_refl _) _⟩
end Go.Proofs.Ytfdcainjppljhaa
namespace Go.Proofs.Ytfdcainjppljhaa
open Go.RowKit
set_option linter.unusedVariables false
theorem we_zero {c f : Int} {l : List Int} {a b : Int} {t : List Int} (h : weE c f l a b t = 0) : fluxOk c f l = true ∧ spanOk a b t = true ∧ weV c f l a b t = true ∧ weT f l a b t ≠ [] ∧ timesOk (weT f l a b t) l.sum c = true := by
  unfold weE at h
  cases h1 : weOk c f l a b t
  · rw [h1] at h; simp at h
  · rw [h1] at h
    cases h2 : weIn l b
    · rw [h2] at h; simp at h
    · rw [h2] at h
      simp only [if_true] at h
      unfold tmE at h
      cases h3 : (weT f l a b t).isEmpty
      · rw [h3] at h
        cases h4 : timesOk (weT f l a b t) l.sum c
        · rw [h4] at h; simp at h
        · have hw := h1
          unfold weOk at hw
          rw [Bool.and_eq_true] at hw
          refine ⟨hw.1, hw.2, by unfold weV; rw [h1, h2]; rfl, fun e => by rw [e] at h3; simp at h3, rfl⟩
      · rw [h3] at h; simp at h
theorem we_flux {c f : Int} {l : List Int} {a b : Int} {t : List Int} (h : weE c f l a b t = 0) : fxC (weV c f l a b t) (weT f l a b t) l.sum c = c ∧ fxF (weV c f l a b t) (weT f l a b t) l.sum c = (weT f l a b t).headD 0 ∧ fxL (weV c f l a b t) (weT f l a b t) l.sum c = gapsT (weT f l a b t) l.sum := by
  obtain ⟨-, -, hv, hne, ht⟩ := we_zero h
  have hb : tmB (weT f l a b t) l.sum c = true := by
    unfold tmB
    rw [ht]
    cases e : (weT f l a b t).isEmpty
    · rfl
    · rw [List.isEmpty_iff] at e; exact absurd e hne
  unfold fxC fxF fxL tmC tmF tmL
  rw [hv, hb]
  exact ⟨rfl, rfl, rfl⟩
theorem chg_diff6 (g : Int) : ∀ (l : List Int) (a : Int), (∀ x ∈ a :: l, 0 ≤ x ∧ x ≤ 100000000) → chgL a (diffW (a :: l) ++ [g]) = a :: l
  | [], a, _ => rfl
  | b :: l, a, h => by
    have h1 := h a (by simp)
    have h2 := h b (by simp)
    show a :: chgL (a + IntKind.i64.wrap (b - a)) (diffW (b :: l) ++ [g]) = _
    rw [show IntKind.i64.wrap (b - a) = b - a from IntWalk.i64_in _ (by omega), show a + (b - a) = b by omega, chg_diff6 g l b fun x hx => h x (List.mem_cons_of_mem _ hx)]
theorem times_flux {T : List Int} {rev c : Int} (hne : T ≠ []) (h : timesOk T rev c = true) : fluxOk c (T.headD 0) (gapsT T rev) = true ∧ (gapsT T rev).sum = rev ∧ chgL (T.headD 0) (gapsT T rev) = T := by
  unfold timesOk at h
  simp only [Bool.and_eq_true] at h
  obtain ⟨h1, h2, h3⟩ := h
  have hr := inB_iff.1 h1
  have hm := risesB_mem h2
  have hh := hm _ (headD_mem hne)
  have hl := hm _ (getLastD_mem' hne)
  refine ⟨h3, ?_, ?_⟩
  · unfold gapsT
    rw [List.sum_append, diffW_sum T hne (fun x hx => by have := hm x hx; omega)]
    rw [show IntKind.i64.wrap (rev - T.getLastD 0) = rev - T.getLastD 0 from IntWalk.i64_in _ (by omega), show IntKind.i64.wrap (rev - T.getLastD 0 + T.headD 0) = rev - T.getLastD 0 + T.headD 0 from IntWalk.i64_in _ (by omega)]
    simp only [List.sum_cons, List.sum_nil]
    omega
  · cases T with
    | nil => exact absurd rfl hne
    | cons a l => exact chg_diff6 _ l a (fun x hx => by have := hm x hx; omega)
set_option maxHeartbeats 400000 in
theorem laws_a2Same (p q : Option Addr) (l m : List Int) (cap dap : Nat) (w : World) (hI : IntsAt w p l) (hJ : IntsAt w q m) (hl : l.length ≤ 9000000) :
    Calls Try.prog 19 #[.slice p l.length cap, .slice q m.length dap] w fun e w' => e = .returned (.bool (decide (l = m))) ∧ Below w.heap.size w w' := by
  by_cases hlen : l.length = m.length
  · go_enter Try.func19, Try.ntmps19
    go_wp2
    go_loopw [5] (fun i wr => ∃ k : Nat, k ≤ l.length ∧ i = .int .i64 k ∧ l.take k = m.take k ∧ Below w.heap.size w wr) (fun i _ => l.length - (intOf i).toNat)
    case atStart => exact ⟨0, Nat.zero_le _, rfl, rfl, Below.refl _ _⟩
    case round =>
      obtain ⟨k, hk, rfl, heq, hbel⟩ := hrel
      by_cases hlt : k < l.length
      · have hlm : k < m.length := by omega
        obtain ⟨a, rfl, hc⟩ := (hI.below hbel).at_ hlt
        obtain ⟨b, rfl, hd⟩ := (hJ.below hbel).at_ hlm
        have H := Lib.hid hlen
        clear hlen
        by_cases hxy : l[k] = m[k]
        · have hb : (l[k] != m[k]) = false := by simp [hxy]
          have H2 := Lib.hid hxy
          clear hxy
          go_wp2
          go_region
          go_wp2
          have hstep : l.take (k + 1) = m.take (k + 1) := by rw [takeI_snoc hlt, takeI_snoc hlm, heq, H2.out]
          exact ⟨⟨k + 1, by omega, by go_num, hstep, hbel.drew⟩, by simp [intOf]; omega⟩
        · have hb : (l[k] != m[k]) = true := by simp [hxy]
          have H2 := Lib.hid hxy
          clear hxy
          go_wp2
          go_region
          go_wp2
          go_ret
          refine ⟨ret_bool (Eq.symm (decide_eq_false fun e => H2.out (by simp only [e]))), hbel.drew⟩
      · rw [List.take_of_length_le (by omega), List.take_of_length_le (by omega)] at heq
        have H := Lib.hid heq
        clear heq
        go_wp2
        go_ret
        exact ⟨ret_bool (by simp [H.out]), hbel⟩
  · have hd : (l.length : Int) ≠ (m.length : Int) := by omega
    have hd2 : ((l.length : Int) != (m.length : Int)) = true := by simp [hd]
    have H := Lib.hid hlen
    clear hlen hd
    go_enter Try.func19, Try.ntmps19
    go_wp2
    go_ret
    exact ⟨ret_bool (Eq.symm (decide_eq_false fun e => H.out (by rw [e]))), Below.refl _ _⟩
set_option maxHeartbeats 4000000 in
set_option maxRecDepth 20000 in
theorem spec_DrawWeakenFlux (p : Option Addr) (l : List UInt8) (cap : Nat) (w : World) (hI : BytesAt w p l) (hl : l.length ≤ 1048576) :
    Calls Try.prog 16 #[.slice p l.length cap] w fun e w' => ∃ (cf f : Int) (q : Option Addr) (m : List Int) (d : Nat) (x y : Int) (qt : Option Addr) (t : List Int) (dt : Nat), e = .returned (.tuple #[.agg #[.int .i64 cf, .int .i64 f, .slice q m.length d], .agg #[.int .i64 x, .int .i64 y, .slice qt t.length dt]]) ∧ m.length ≤ 84 ∧ t.length ≤ 10 ∧ (qt = none → dt = 0) ∧ OwnS w' w.heap.size q m ∧ OwnS w' w.heap.size qt t ∧ Below w.heap.size w w' := by
  have R0 := (Blk.new w 26 #[.int .i64 0, .int .i64 0, .slice none 0 0]).alloc' (.cells #[.int .i64 0, .int .i64 0, .slice none 0 0] 36)
  have P0 := Blk.new (w.alloc (.cells #[.int .i64 0, .int .i64 0, .slice none 0 0] 26)) 36 #[.int .i64 0, .int .i64 0, .slice none 0 0]
  have esz : (w.alloc (.cells #[.int .i64 0, .int .i64 0, .slice none 0 0] 26)).heap.size = w.heap.size + 1 := by simp
  rw [esz] at P0
  have W0 : Below w.heap.size w ((w.alloc (.cells #[.int .i64 0, .int .i64 0, .slice none 0 0] 26)).alloc (.cells #[.int .i64 0, .int .i64 0, .slice none 0 0] 36)) := ((Below.refl _ _).alloc (Nat.le_refl _) _).alloc (by simp) _
  have z0 : w.heap.size + 2 ≤ ((w.alloc (.cells #[.int .i64 0, .int .i64 0, .slice none 0 0] 26)).alloc (.cells #[.int .i64 0, .int .i64 0, .slice none 0 0] 36)).heap.size := by simp
  clear esz
  go_enter Try.func16, Try.ntmps16
  go_wp2_with fail
  generalize (w.alloc (.cells #[.int .i64 0, .int .i64 0, .slice none 0 0] 26)).alloc (.cells #[.int .i64 0, .int .i64 0, .slice none 0 0] 36) = w0 at R0 P0 W0 z0 ⊢
  refine (spec_l00From p l cap _ (hI.below W0) hl).mono ?_
  rintro e w1 ⟨rfl, hS1, hb1⟩
  have z1 := hb1.size
  replace R0 := R0.keep hb1
  replace P0 := P0.keep hb1
  replace W0 := below_st W0 hb1 (Nat.le_refl _)
  go_wp2_with fail
  obtain ⟨bb, ebb⟩ : ∃ bb, w0.heap.size = bb := ⟨_, rfl⟩
  rw [ebb] at hS1 z0 z1 ⊢
  have hbl := hS1.lt
  refine (src_l02DrawFlux bb 0 _ hS1 (by omega)).mono ?_
  rintro e w2 ⟨cf, f, q, m, d, rfl, hq, hm, hS2, ha2⟩
  have z2 := ha2.size
  replace R0 := R0.asides ha2 (fun e => by injection e with e; omega)
  replace P0 := P0.asides ha2 (fun e => by injection e with e; omega)
  replace W0 : Below w.heap.size w w2 := W0.trans (ha2.below (by omega) (fun g e => by injection e with e; omega))
  have BF := Blk.new w2 26 #[.int .i64 cf, .int .i64 f, .slice q m.length d]
  replace R0 := R0.alloc' (.cells #[.int .i64 cf, .int .i64 f, .slice q m.length d] 26)
  replace P0 := P0.alloc' (.cells #[.int .i64 cf, .int .i64 f, .slice q m.length d] 26)
  replace hq := hq.below ((Below.refl _ w2).alloc (Nat.le_refl _) (.cells #[.int .i64 cf, .int .i64 f, .slice q m.length d] 26))
  replace hS2 := hS2.below ((Below.refl _ w2).alloc (Nat.le_refl _) (.cells #[.int .i64 cf, .int .i64 f, .slice q m.length d] 26))
  replace W0 := W0.alloc W0.size (.cells #[.int .i64 cf, .int .i64 f, .slice q m.length d] 26)
  go_wp2_with fail
  obtain ⟨bf, ebf⟩ : ∃ bf, w2.heap.size = bf := ⟨_, rfl⟩
  generalize w2.alloc (.cells #[.int .i64 cf, .int .i64 f, .slice q m.length d] 26) = w3 at R0 P0 BF hq hS2 W0 ⊢
  rw [ebf] at BF z2 ⊢
  obtain ⟨f0, f1, f2⟩ := BF.cell3
  have fl := BF.lt
  have zw3 := W0.size
  go_region_with (go_at_call 58; refine (src_l04DrawSpan bb (0 + 3000) 0 _ (by exact hS2) (by omega) (by omega)).mono ?_; rintro e w4 ⟨x, y, qt, t, dt, rfl, hqt, hqd, htl, hS4, ha4⟩; have BF4 : Blk w4 bf 26 #[.int .i64 cf, .int .i64 f, .slice q m.length d] := Blk.asides (w := w3.drew) (by exact BF) ha4 (fun e => by injection e with e; omega); have R4 : Blk w4 w.heap.size 26 #[.int .i64 0, .int .i64 0, .slice none 0 0] := Blk.asides (w := w3.drew) (by exact R0) ha4 (fun e => by injection e with e; omega); have P4 : Blk w4 (w.heap.size + 1) 36 #[.int .i64 0, .int .i64 0, .slice none 0 0] := Blk.asides (w := w3.drew) (by exact P0) ha4 (fun e => by injection e with e; omega); obtain ⟨g0, g1, g2⟩ := BF4.cell3; obtain ⟨r0, r1, r2⟩ := R4.cell3; obtain ⟨p0, p1, p2⟩ := P4.cell3; have rf := R4.frozen; have pf := P4.frozen; have rl := R4.lt; have pl := P4.lt)
  all_goals
    have W4 : Below w.heap.size w w4 := W0.drew.trans (ha4.below (by exact zw3) (fun g e => by injection e with e; omega))
    have hq4 : OwnS w4 w1.heap.size q m := OwnS.asides (w := w3.drew) (by exact hq) ha4 (fun hl g hp e => by injection e with e; have := (hq.lt hl hp).1; omega)
    have R5 := R4.set3 (.int .i64 cf) (.int .i64 f) (.slice q m.length d)
    have P5 := ((P4.off (g' := w.heap.size) (by omega) 0 (.int .i64 cf)).off (g' := w.heap.size) (by omega) 1 (.int .i64 f)).off (g' := w.heap.size) (by omega) 2 (.slice q m.length d)
    have P6 := P5.set3 (.int .i64 x) (.int .i64 y) (.slice qt t.length dt)
    have R6 := ((R5.off (g' := w.heap.size + 1) (by omega) 0 (.int .i64 x)).off (g' := w.heap.size + 1) (by omega) 1 (.int .i64 y)).off (g' := w.heap.size + 1) (by omega) 2 (.slice qt t.length dt)
    obtain ⟨e0, e1, e2⟩ := R6.cell3
    obtain ⟨h0, h1, h2⟩ := P6.cell3
    obtain ⟨i0, i1, i2⟩ := P5.cell3
    have pf5 := P5.frozen
    have hz4 := ha4.size
    go_wp2_with fail
    refine bodyPost_ret (v := .tuple #[.agg #[.int .i64 cf, .int .i64 f, .slice q m.length d], .agg #[.int .i64 x, .int .i64 y, .slice qt t.length dt]]) (by simp [results, Try.results16, go_sem, e0, e1, e2, h0, h1, h2]) rfl ?_
    have b1 : w.heap.size < w1.heap.size := by omega
    have b2 : w.heap.size + 1 < w1.heap.size := by omega
    have b3 : w.heap.size < w3.drew.heap.size := by show w.heap.size < w3.heap.size; omega
    have b4 : w.heap.size + 1 < w3.drew.heap.size := by show w.heap.size + 1 < w3.heap.size; omega
    exact ⟨cf, f, q, m, d, x, y, qt, t, dt, rfl, hm, htl, hqd, ((((((hq4.offS (g' := w.heap.size) b1 0 _).offS (g' := w.heap.size) b1 1 _).offS (g' := w.heap.size) b1 2 _).offS (g' := w.heap.size + 1) b2 0 _).offS (g' := w.heap.size + 1) b2 1 _).offS (g' := w.heap.size + 1) b2 2 _).mono (by omega), ((((((hqt.offS (g' := w.heap.size) b3 0 _).offS (g' := w.heap.size) b3 1 _).offS (g' := w.heap.size) b3 2 _).offS (g' := w.heap.size + 1) b4 0 _).offS (g' := w.heap.size + 1) b4 1 _).offS (g' := w.heap.size + 1) b4 2 _).mono (by omega),
      ((((((W4.setCell (p := ⟨w.heap.size, 0, none⟩) (Nat.le_refl _) _).setCell (p := ⟨w.heap.size, 1, none⟩) (Nat.le_refl _) _).setCell (p := ⟨w.heap.size, 2, none⟩) (Nat.le_refl _) _).setCell (p := ⟨w.heap.size + 1, 0, none⟩) (Nat.le_succ _) _).setCell (p := ⟨w.heap.size + 1, 1, none⟩) (Nat.le_succ _) _).setCell (p := ⟨w.heap.size + 1, 2, none⟩) (Nat.le_succ _) _)⟩
end Go.Proofs.Ytfdcainjppljhaa
namespace Go.Proofs.Ytfdcainjppljhaa
open Go.RowKit
set_option linter.unusedVariables false
theorem flux_ne {c f : Int} {l : List Int} (h : fluxOk c f l = true) : l ≠ [] := by
  obtain ⟨-, hl, -⟩ := fluxOk_bd h
  intro e; rw [e] at hl; simp at hl
theorem chg_ne {c f : Int} {l : List Int} (h : fluxOk c f l = true) : (chgL f l).isEmpty = false := by
  have := flux_ne h
  cases l with
  | nil => exact absurd rfl this
  | cons a l => rfl
theorem fx_chg {c f : Int} {l : List Int} (h : fluxOk c f l = true) : fxC true (chgL f l) l.sum c = c ∧ fxF true (chgL f l) l.sum c = f ∧ fxL true (chgL f l) l.sum c = l ∧ fxE true (chgL f l) l.sum c = 0 := by
  obtain ⟨h1, h2, h3, -⟩ := tm_chg h
  refine ⟨h1, h2, h3, ?_⟩
  show tmE 2 (chgL f l) l.sum c = 0
  unfold tmE
  rw [chg_ne h, times_chg h]
  rfl
theorem drift_zero (f : Int) (l : List Int) : driftL f l 0 = chgL f l := by
  unfold driftL
  refine (List.map_congr_left (g := id) fun x _ => ?_).trans (List.map_id _)
  show (x * (1000 + 0)).tdiv 1000 = x
  exact Int.mul_tdiv_cancel x (by omega)
theorem drS_zero {c f : Int} {l : List Int} (h : fluxOk c f l = true) : drS c f l 0 = ⟨c, f, l, 0⟩ := by
  have e : l.sum * (1000 + 0) / 1000 = l.sum := Int.mul_ediv_cancel _ (by omega)
  have hb : (fluxOk c f l && inB 0 (-100) 100) = true := by rw [h]; rfl
  obtain ⟨h1, h2, h3, h4⟩ := fx_chg h
  unfold drS
  rw [hb, drift_zero, e, h1, h2, h3, h4]
theorem jiS_nil {c f : Int} {l : List Int} (h : fluxOk c f l = true) : jiS ⟨c, f, l, 0⟩ [] = ⟨c, f, l, 0⟩ := by
  have hb : (fluxOk c f l && jitOk []) = true := by rw [h]; rfl
  obtain ⟨h1, h2, h3, h4⟩ := fx_chg h
  unfold jiS jiT
  simp only [if_true]
  rw [hb, jitL_nil rfl, h1, h2, h3, h4]
theorem keep_nil (x : List Int) : keepL x [] x.length = x := by
  unfold keepL
  rw [List.filter_eq_self.2 (fun a _ => by simp)]
  apply List.ext_getElem
  · simp
  · intro i h1 h2
    simp [h2]
theorem dpS_nil {s : FxS} (h : s.e = 0 → fluxOk s.c s.f s.l = true) : dpS s [] = s := by
  unfold dpS
  split
  · rename_i he
    have hk := h he
    have h1 : drOk s.c s.f s.l [] = true := by unfold drOk; rw [hk]; rfl
    have h2 : drIn s.l [] = true := rfl
    have hv : drV s.c s.f s.l [] = true := by unfold drV; rw [h1, h2]; rfl
    have ht : drT s.f s.l [] = chgL s.f s.l := by
      unfold drT
      rw [← chgL_len s.f s.l]
      exact keep_nil _
    obtain ⟨a1, a2, a3, a4⟩ := fx_chg hk
    unfold dpT drE
    rw [hv, h1, h2, ht, a1, a2, a3]
    cases s
    simp only at he ⊢
    rw [he]
    congr 1
  · rfl
theorem anS_zero {c f : Int} {l : List Int} (h : fluxOk c f l = true) : anS c f l 0 [] [] [] = ⟨c, f, l, 0⟩ := by
  have hb : anOk c f l 0 [] [] [] = true := by unfold anOk; rw [h]; rfl
  unfold anS
  rw [hb]
  show anB c f l 0 [] [] = _
  unfold anB
  rw [drS_zero h, jiS_nil h]
  exact dpS_nil fun _ => h
/-- Flux of times that make flux. -/
theorem fx_ok {v : Bool} {t : List Int} {rev c : Int} (h : fxE v t rev c = 0) : v = true ∧ t ≠ [] ∧ fxC v t rev c = c ∧ fluxOk c (fxF v t rev c) (fxL v t rev c) = true ∧ (fxL v t rev c).sum = rev ∧ chgL (fxF v t rev c) (fxL v t rev c) = t := by
  cases v
  · exact absurd (show (1 : Int) = 0 from h) (by decide)
  have h' : tmE 2 t rev c = 0 := h
  unfold tmE at h'
  cases he : t.isEmpty
  · rw [he] at h'
    cases ht : timesOk t rev c
    · rw [ht] at h'; exact absurd (show (2 : Int) = 0 from h') (by decide)
    have hne : t ≠ [] := by intro e; rw [e] at he; simp at he
    obtain ⟨a1, a2, a3⟩ := times_flux hne ht
    have hb : tmB t rev c = true := by unfold tmB; rw [he, ht]; rfl
    have e1 : fxC true t rev c = c := by show tmC t rev c = c; unfold tmC; rw [hb]; rfl
    have e2 : fxF true t rev c = t.headD 0 := by show tmF t rev c = _; unfold tmF; rw [hb]; rfl
    have e3 : fxL true t rev c = gapsT t rev := by show tmL t rev c = _; unfold tmL; rw [hb]; rfl
    rw [e1, e2, e3]
    exact ⟨rfl, hne, rfl, a1, a2, a3⟩
  · rw [he] at h'; exact absurd (show (6 : Int) = 0 from h') (by decide)
theorem anS_jit {c f : Int} {l js : List Int} (h : fluxOk c f l = true) (hj : jitOk js = true) : anS c f l 0 js [] [] = jiT ⟨c, f, l, 0⟩ js := by
  have hb : anOk c f l 0 js [] [] = true := by
    unfold anOk nzB
    rw [h, hj]; rfl
  unfold anS
  rw [hb]
  show anB c f l 0 js [] = _
  unfold anB
  rw [drS_zero h]
  show dpS (jiT ⟨c, f, l, 0⟩ js) [] = _
  refine dpS_nil fun he => ?_
  obtain ⟨-, -, e1, h2, -⟩ := fx_ok (v := fluxOk c f l && jitOk js) (t := jitL f l js) (rev := l.sum) (c := c) he
  show fluxOk (fxC (fluxOk c f l && jitOk js) (jitL f l js) l.sum c) (fxF (fluxOk c f l && jitOk js) (jitL f l js) l.sum c) (fxL (fluxOk c f l && jitOk js) (jitL f l js) l.sum c) = true
  rw [e1]
  exact h2
theorem jitP_le (f : Int) (l js : List Int) (h : ∀ x ∈ js, -1 ≤ x ∧ x ≤ 1) : ∀ k, k ≤ l.length → 0 ≤ jitP (chgL f l) (jitL f l js) k ∧ jitP (chgL f l) (jitL f l js) k ≤ 1
  | 0, _ => by simp [jitP]
  | k + 1, hk => by
    have h1 : k < (chgL f l).length := by rw [chgL_len]; omega
    have h2 : k < (jitL f l js).length := by rw [jit_len]; omega
    rw [jitP_succ h1 h2]
    obtain ⟨a1, a2⟩ := jitP_le f l js h k (by omega)
    have e : (jitL f l js)[k] = (chgL f l)[k] + js.getD (k % js.length) 0 := by simp [jitL]
    have hb : -1 ≤ js.getD (k % js.length) 0 ∧ js.getD (k % js.length) 0 ≤ 1 := by
      rw [List.getD_eq_getElem?_getD]
      cases hx : js[k % js.length]? with
      | none => simp
      | some x => exact h x (List.mem_of_getElem? hx)
    rw [e]
    generalize js.getD (k % js.length) 0 = d at *
    generalize (chgL f l)[k] = x at *
    omega
theorem jit_law {c f : Int} {l js : List Int} (h : fluxOk c f l = true) (hj : ∀ x ∈ js, -1 ≤ x ∧ x ≤ 1) (he : (jiT ⟨c, f, l, 0⟩ js).e = 0) :
    jitB c f l (jiT ⟨c, f, l, 0⟩ js).c (jiT ⟨c, f, l, 0⟩ js).f (jiT ⟨c, f, l, 0⟩ js).l = true ∧ jitV c f l (jiT ⟨c, f, l, 0⟩ js).c (jiT ⟨c, f, l, 0⟩ js).f (jiT ⟨c, f, l, 0⟩ js).l ≤ 1 ∧ revV (jiT ⟨c, f, l, 0⟩ js).c (jiT ⟨c, f, l, 0⟩ js).f (jiT ⟨c, f, l, 0⟩ js).l = l.sum ∧ revV c f l = l.sum := by
  obtain ⟨-, hne, e1, h2, h3, h4⟩ := fx_ok (v := fluxOk c f l && jitOk js) (t := jitL f l js) (rev := l.sum) (c := c) he
  have ec : (jiT ⟨c, f, l, 0⟩ js).c = c := e1
  have h2' : fluxOk c (jiT ⟨c, f, l, 0⟩ js).f (jiT ⟨c, f, l, 0⟩ js).l = true := h2
  have h3' : (jiT ⟨c, f, l, 0⟩ js).l.sum = l.sum := h3
  have h4' : chgL (jiT ⟨c, f, l, 0⟩ js).f (jiT ⟨c, f, l, 0⟩ js).l = jitL f l js := h4
  have hlen : (jiT ⟨c, f, l, 0⟩ js).l.length = l.length := by rw [← chgL_len (jiT ⟨c, f, l, 0⟩ js).f, h4', jit_len]
  rw [ec]
  generalize (jiT ⟨c, f, l, 0⟩ js).f = F at *
  generalize (jiT ⟨c, f, l, 0⟩ js).l = L at *
  have hB : jitB c f l c F L = true := by unfold jitB; rw [h, h2']; simp [hlen]
  refine ⟨hB, ?_, ?_, ?_⟩
  · unfold jitV
    rw [hB, h4']
    exact (jitP_le f l js hj _ (Nat.le_refl _)).2
  · rw [(rev_ok h2').1, h3']
  · exact (rev_ok h).1
/-- One change is dropped. -/
theorem keep_one (x : List Int) (k : Nat) (hk : k < x.length) : keepL x [(k : Int)] x.length = x.eraseIdx k := by
  have key : ∀ n, n ≤ x.length → keepL x [(k : Int)] n = if n ≤ k then x.take n else (x.take n).eraseIdx k := by
    intro n
    induction n with
    | zero => intro _; simp [keepL]
    | succ n ih =>
      intro hn
      have ih := ih (by omega)
      by_cases e : n = k
      · rw [keepL_no (by subst e; simp), ih, if_pos (by omega), if_neg (by omega), takeI_snoc (by omega), List.eraseIdx_append_of_length_le (by rw [List.length_take]; omega)]
        rw [show k - (x.take n).length = 0 by rw [List.length_take]; omega]
        simp
      · rw [keepL_yes (by omega) (by simp; omega), ih]
        by_cases hle : n < k
        · rw [if_pos (by omega), if_pos (by omega), takeI_snoc]
        · rw [if_neg (by omega), if_neg (by omega), takeI_snoc (by omega), List.eraseIdx_append_of_lt_length (by rw [List.length_take]; omega)]
  rw [key _ (Nat.le_refl _), if_neg (by omega), List.take_length]
theorem drop_law {c f : Int} {l : List Int} {k : Nat} (h : fluxOk c f l = true) (hk : k < l.length) :
    (l.length < 2 → (dpT ⟨c, f, l, 0⟩ [(k : Int)]).e = 6) ∧ (2 ≤ l.length → (dpT ⟨c, f, l, 0⟩ [(k : Int)]).e = 0 ∨ (dpT ⟨c, f, l, 0⟩ [(k : Int)]).e = 2) ∧
    ((dpT ⟨c, f, l, 0⟩ [(k : Int)]).e = 0 → chV (dpT ⟨c, f, l, 0⟩ [(k : Int)]).c (dpT ⟨c, f, l, 0⟩ [(k : Int)]).f (dpT ⟨c, f, l, 0⟩ [(k : Int)]).l = (chgL f l).eraseIdx k) := by
  obtain ⟨-, hl, -⟩ := fluxOk_bd h
  have r1 : ∀ hi : Int, (k : Int) ≤ hi → risesB [(k : Int)] 0 hi = true := by
    intro hi h1
    unfold risesB
    simp [inB, h1]
  have o1 : drOk c f l [(k : Int)] = true := by unfold drOk; rw [h, r1 _ (by omega)]; rfl
  have o2 : drIn l [(k : Int)] = true := by unfold drIn; rw [r1 _ (by omega)]
  have ov : drV c f l [(k : Int)] = true := by unfold drV; rw [o1, o2]; rfl
  have hT : drT f l [(k : Int)] = (chgL f l).eraseIdx k := by
    unfold drT
    have := keep_one (chgL f l) k (by rw [chgL_len]; exact hk)
    rw [chgL_len] at this
    exact this
  have he : (dpT ⟨c, f, l, 0⟩ [(k : Int)]).e = fxE true ((chgL f l).eraseIdx k) l.sum c := by
    show drE c f l [(k : Int)] = _
    unfold drE
    rw [o1, o2, hT]; rfl
  have hlen : ((chgL f l).eraseIdx k).length = l.length - 1 := by
    rw [List.length_eraseIdx_of_lt (by rw [chgL_len]; exact hk), chgL_len]
  refine ⟨fun h1 => ?_, fun h2 => ?_, fun h0 => ?_⟩
  · rw [he]
    have : (chgL f l).eraseIdx k = [] := List.eq_nil_of_length_eq_zero (by omega)
    rw [this]; rfl
  · rw [he]
    show tmE 2 _ _ _ = 0 ∨ tmE 2 _ _ _ = 2
    unfold tmE
    have : ((chgL f l).eraseIdx k).isEmpty = false := by
      cases hx : (chgL f l).eraseIdx k with
      | nil => rw [hx] at hlen; simp at hlen; omega
      | cons a r => rfl
    rw [this]
    cases timesOk ((chgL f l).eraseIdx k) l.sum c
    · right; rfl
    · left; rfl
  · rw [he] at h0
    obtain ⟨-, hne, e1, h2, h3, h4⟩ := fx_ok h0
    have ec : (dpT ⟨c, f, l, 0⟩ [(k : Int)]).c = c := by
      show fxC (drV c f l [(k : Int)]) (drT f l [(k : Int)]) l.sum c = c
      rw [ov, hT, e1]
    have ef : (dpT ⟨c, f, l, 0⟩ [(k : Int)]).f = fxF true ((chgL f l).eraseIdx k) l.sum c := by
      show fxF (drV c f l [(k : Int)]) (drT f l [(k : Int)]) l.sum c = _
      rw [ov, hT]
    have el : (dpT ⟨c, f, l, 0⟩ [(k : Int)]).l = fxL true ((chgL f l).eraseIdx k) l.sum c := by
      show fxL (drV c f l [(k : Int)]) (drT f l [(k : Int)]) l.sum c = _
      rw [ov, hT]
    rw [ec, ef, el, (rev_ok h2).2, h4]
end Go.Proofs.Ytfdcainjppljhaa
namespace Go.Proofs.Ytfdcainjppljhaa
open Go.RowKit
set_option linter.unusedVariables false
/-- Noise under way: the source's block b, the variable's block bs, the result's block. -/
structure DrN (b n : Nat) (w : World) (bs : Nat) (wx : World) (d : Int) (v : Value) (l : List Int) : Prop where
  src : Src wx b n
  r : Blk wx w.heap.size 53 #[.int .i64 0, .slice none 0 0, .slice none 0 0, .slice none 0 0]
  blk : Blk wx bs 53 #[.int .i64 d, v, .slice none 0 0, .slice none 0 0]
  own : OwnI wx (bs + 1) v l
  bel : Below w.heap.size w wx
  hb : w.heap.size < b
  hbf : b < bs
theorem DrN.step {b n m : Nat} {w : World} {bs : Nat} {wx wy : World} {d : Int} {v : Value} {l : List Int} (h : DrN b n w bs wx d v l) (ha : Aside (some b) wx wy) (hs : Src wy b m) : DrN b m w bs wy d v l :=
  ⟨hs, h.r.asides ha (fun e => by injection e with e; have := h.hb; omega), h.blk.asides ha (fun e => by injection e with e; have := h.hb; have := h.hbf; omega), h.own.asides ha (fun g e e2 => by injection e2 with e2; have h1 := (World.ownsRow.lt h.own g e).1; have := h.hb; have := h.hbf; omega), h.bel.trans (ha.below h.bel.size (fun g e => by injection e with e; have := h.hb; omega)), h.hb, h.hbf⟩
theorem DrN.drew {b n : Nat} {w : World} {bs : Nat} {wx : World} {d : Int} {v : Value} {l : List Int} (h : DrN b n w bs wx d v l) : DrN b n w bs wx.drew d v l := h.step (Aside.of_below (Below.refl _ _).drew) h.src.drew
/-- A number is appended, the new slice stored. -/
theorem DrN.push {b n : Nat} {w : World} {bs : Nat} {wx wy : World} {d : Int} {v v1 : Value} {l l1 : List Int} (h : DrN b n w bs wx d v l) (ho : OwnI wy (bs + 1) v1 l1) (hb4 : Below (bs + 1) wx wy) : DrN b n w bs (wy.setCell ⟨bs, 1, none⟩ v1) d v1 l1 := by
  have hb := h.hb; have hbf := h.hbf
  have hB := hb4.mono (Nat.le_succ bs) |>.setCell (p := ⟨bs, 1, none⟩) (Nat.le_refl _) v1
  exact ⟨h.src.belowB hB (by omega), (h.r.below hb4 (by omega)).off (by omega) _ _, (h.blk.below hb4 (Nat.lt_succ_self _)).set41 _, ho.off (by omega) _ _, h.bel.trans (hB.mono (by omega)), h.hb, h.hbf⟩
set_option maxHeartbeats 4000000 in
set_option maxRecDepth 20000 in
theorem spec_A2Noise (p : Option Addr) (cs : List UInt8) (cap : Nat) (w : World) (hI : BytesAt w p cs) (hl : cs.length ≤ 1048576) :
    Calls Try.prog 29 #[.slice p cs.length cap] w fun e w' => ∃ (d : Int) (q : Option Addr) (l : List Int) (dq : Nat), e = .returned (.agg #[.int .i64 d, .slice q l.length dq, .slice none 0 0, .slice none 0 0]) ∧ (∀ x ∈ l, -1 ≤ x ∧ x ≤ 1) ∧ l.length ≤ 4 ∧ OwnS w' w.heap.size q l ∧ Below w.heap.size w w' := by
  have R0 := Blk.new w 53 #[.int .i64 0, .slice none 0 0, .slice none 0 0, .slice none 0 0]
  have W0 : Below w.heap.size w (w.alloc (.cells #[.int .i64 0, .slice none 0 0, .slice none 0 0, .slice none 0 0] 53)) := (Below.refl _ _).alloc (Nat.le_refl _) _
  have z0 : w.heap.size + 1 ≤ (w.alloc (.cells #[.int .i64 0, .slice none 0 0, .slice none 0 0, .slice none 0 0] 53)).heap.size := by simp
  go_enter Try.func29, Try.ntmps29
  go_wp2_with fail
  generalize w.alloc (.cells #[.int .i64 0, .slice none 0 0, .slice none 0 0, .slice none 0 0] 53) = w0 at R0 W0 z0 ⊢
  refine (spec_l00From p cs cap _ (hI.below W0) hl).mono ?_
  rintro e w1 ⟨rfl, hS1, hb1⟩
  have z1 := hb1.size
  replace R0 := R0.keep hb1
  replace W0 := below_st W0 hb1 (Nat.le_refl _)
  obtain ⟨b, eb⟩ : ∃ b, w0.heap.size = b := ⟨_, rfl⟩
  rw [eb] at hS1 z0 z1 ⊢
  clear hb1 eb
  go_wp2_with fail
  refine (src_pick b 0 11 _ hS1 (by omega) (by omega)).mono ?_
  rintro e w2 ⟨x, rfl, hx, hS2, ha2⟩
  have z2 := ha2.size
  have hbl := hS2.lt
  have qx : IntKind.i64.wrap (x - 5) = x - 5 := IntWalk.i64_in _ (by omega)
  have D2 : DrN b 2 w w2.heap.size (w2.alloc (.cells #[.int .i64 (x - 5), .slice none 0 0, .slice none 0 0, .slice none 0 0] 53)) (x - 5) (.slice none 0 0) [] :=
    ⟨hS2.below ((Below.refl _ w2).alloc (Nat.le_refl _) _), (R0.asides ha2 (fun e => by injection e with e; omega)).alloc' _, Blk.new _ _ _, OwnI.none_ _ _, (W0.trans (ha2.below (by omega) (fun g e => by injection e with e; omega))).alloc (by omega) _, by omega, hbl⟩
  clear hS1 hS2 ha2 R0 W0
  obtain ⟨y, ey⟩ : ∃ y, x - 5 = y := ⟨_, rfl⟩
  rw [ey] at qx D2
  go_wp2_with fail
  obtain ⟨bs, ebs⟩ : ∃ bs, w2.heap.size = bs := ⟨_, rfl⟩
  rw [ebs] at D2 z2 hbl ⊢
  generalize w2.alloc (.cells #[.int .i64 y, .slice none 0 0, .slice none 0 0, .slice none 0 0] 53) = w3 at D2 ⊢
  refine (src_pick b 2 5 _ D2.src (by omega) (by omega)).mono ?_
  rintro e w4 ⟨k0, rfl, hk0, hS4, ha4⟩
  have D4 := D2.step ha4 hS4
  clear D2 ha4 hS4
  go_wp2_with fail
  go_loopw [5] (fun kv wr => ∃ (k : Int) (v : Value) (l : List Int) (m : Nat), kv = .int .i64 k ∧ (0 ≤ k ∧ k ≤ 4) ∧ (l.length : Int) + k ≤ 4 ∧ (m : Int) + 2 * k ≤ 20 ∧ (∀ x ∈ l, -1 ≤ x ∧ x ≤ 1) ∧ DrN b m w bs wr y v l) (fun kv _ => (intOf kv).toNat)
  case atStart => exact ⟨k0, _, [], 4, rfl, by omega, by simp; omega, by omega, fun x hx => by simp at hx, D4⟩
  case round =>
    clear D4
    obtain ⟨k, v, l, m, rfl, hk, hlk, hm, hel, D⟩ := hrel
    obtain ⟨qv, dv, rfl, hOS, -⟩ := D.own.open0
    obtain ⟨c0, c1, c2, c3⟩ := D.blk.cell4
    have cf := D.blk.frozen
    have cl := D.blk.lt
    by_cases hk0 : 0 < k
    · have d0 : decide (0 < k) = true := decide_eq_true hk0
      have q5 : IntKind.i64.wrap (k - 1) = k - 1 := IntWalk.i64_in _ (by omega)
      go_wp2_with fail
      go_region_law (first | (refine step_append_int rfl _ _ rfl (bs + 1) (.slice qv l.length dv) l (x5 - 1) _ rfl rfl (by exact D5.own.alloc _) (by simp) (by omega) (by first | omega | (simp; omega)) ?_; intro v1 w6 hown1 hb6'; have hb6 := ((Below.refl (bs + 1) w5).alloc gl _).trans hb6'; have B6 := D5.blk.below hb6 (Nat.lt_succ_self _); obtain ⟨j0, j1, j2, j3⟩ := B6.cell4; have jf := B6.frozen; have jl := B6.lt; obtain ⟨q1, e1, hv1, -⟩ := hown1.open_; have D6 := D5.push hown1 hb6; subst hv1) | (go_simp; go_wp2_with (go_at_call 67; refine (src_pick b m 3 _ (by exact D.src) (by omega) (by omega)).mono ?_; rintro e w5 ⟨x5, rfl, hx5, hS5, ha5⟩; have D5 := D.drew.step ha5 hS5; have q6 : IntKind.i64.wrap (x5 - 1) = x5 - 1 := IntWalk.i64_in _ (by omega); obtain ⟨g0, g1, g2, g3⟩ := D5.blk.cell4; have gf := D5.blk.frozen; have gl := D5.blk.lt)))
      all_goals
        go_wp2_with fail
        rw [show (l ++ [x5 - 1]).length = l.length + 1 by simp] at D6
        refine ⟨⟨k - 1, _, l ++ [x5 - 1], m + 2, rfl, by omega, by simp; omega, by omega, fun z hz => ?_, D6⟩, by simp [intOf]; omega⟩
        rw [List.mem_append] at hz
        rcases hz with hz | hz
        · exact hel z hz
        · simp at hz; omega
    · have d0 : decide (0 < k) = false := decide_eq_false hk0
      obtain ⟨e0, e1, e2, e3⟩ := (D.r.set4 (.int .i64 y) (.slice qv l.length dv) (.slice none 0 0) (.slice none 0 0)).cell4
      have rf := D.r.frozen
      have hne : w.heap.size ≠ bs := by have := D.hb; have := D.hbf; omega
      have hWB := ((((D.bel.setCell (p := ⟨w.heap.size, 0, none⟩) (Nat.le_refl _) (.int .i64 y)).setCell (p := ⟨w.heap.size, 1, none⟩) (Nat.le_refl _) (.slice qv l.length dv)).setCell (p := ⟨w.heap.size, 2, none⟩) (Nat.le_refl _) (.slice none 0 0)).setCell (p := ⟨w.heap.size, 3, none⟩) (Nat.le_refl _) (.slice none 0 0))
      have hOS' := (((hOS.offS (g' := w.heap.size) (by omega) 0 (.int .i64 y)).offS (g' := w.heap.size) (by omega) 1 (.slice qv l.length dv)).offS (g' := w.heap.size) (by omega) 2 (.slice none 0 0)).offS (g' := w.heap.size) (by omega) 3 (.slice none 0 0)
      have hll : l.length ≤ 4 := by omega
      obtain ⟨r0, r1, r2, r3⟩ := D.r.cell4
      have rl := D.r.lt
      go_wp2_with fail
      refine bodyPost_ret (v := .agg #[.int .i64 y, .slice qv l.length dv, .slice none 0 0, .slice none 0 0]) (by simp [results, Try.results29, go_sem, e0, e1, e2, e3]) rfl ?_
      exact ⟨y, qv, l, ⟨dv, rfl⟩, hel, hll, hOS'.mono (by have := D.hb; have := D.hbf; omega), hWB⟩
set_option maxHeartbeats 2000000 in
theorem laws_a2Byte (p : Option Addr) (cs : List UInt8) (cap : Nat) (m : Int) (w : World) (hI : BytesAt w p cs) (hl : cs.length ≤ 1048576) (hm : 1 ≤ m ∧ m ≤ 1000000) :
    Calls Try.prog 32 #[.slice p cs.length cap, .int .i64 0, .int .i64 m] w fun e w' => ∃ k : Nat, e = .returned (.int .i64 (k : Int)) ∧ (k : Int) < m ∧ w' = w := by
  have d2 : decide (m < 1) = false := decide_eq_false (by omega)
  have hm0 : (m == 0) = false := by simp; omega
  by_cases h0 : cs.length = 0
  · have d1 : decide ((cs.length : Int) ≤ 0) = true := decide_eq_true (by omega)
    go_enter Try.func32, Try.ntmps32
    go_wp2_with fail
    go_ret
    exact ⟨0, rfl, by omega, rfl⟩
  · have d1 : decide ((cs.length : Int) ≤ 0) = false := decide_eq_false (by omega)
    obtain ⟨a, ea, hc0⟩ := hI.at_ (k := 0) (by omega)
    rw [Addr.add_zero'] at hc0
    have hb0 := UInt8.toNat_lt (cs[0]'(by omega))
    obtain ⟨x0, ex0⟩ : ∃ x0 : Nat, (cs[0]'(by omega)).toNat = x0 := ⟨_, rfl⟩
    rw [ex0] at hc0 hb0
    have hmn : m ≠ 0 := by omega
    by_cases h1 : 1 < cs.length
    · have d3 : decide (1 < (cs.length : Int)) = true := decide_eq_true (by omega)
      obtain ⟨a', ea', hc1⟩ := hI.at_ (k := 1) (by omega)
      obtain rfl : a = a' := by rw [ea] at ea'; injection ea'
      have hb1 := UInt8.toNat_lt (cs[1]'(by omega))
      obtain ⟨x1, ex1⟩ : ∃ x1 : Nat, (cs[1]'(by omega)).toNat = x1 := ⟨_, rfl⟩
      rw [ex1] at hc1 hb1
      replace hc1 : w.cell? ⟨a.block, a.off + 1, none⟩ = some (.int .u8 (x1 : Int)) := hc1
      have q0 : IntKind.i64.wrap (x0 : Int) = (x0 : Int) := IntWalk.i64_in _ (by omega)
      have q1 : IntKind.i64.wrap (x1 : Int) = (x1 : Int) := IntWalk.i64_in _ (by omega)
      have q2 : IntKind.i64.wrap (256 * (x0 : Int)) = 256 * (x0 : Int) := IntWalk.i64_in _ (by omega)
      have q3 : IntKind.i64.wrap (256 * (x0 : Int) + (x1 : Int)) = 256 * (x0 : Int) + (x1 : Int) := IntWalk.i64_in _ (by omega)
      have ht : (256 * (x0 : Int) + (x1 : Int)).tmod m = (256 * (x0 : Int) + (x1 : Int)) % m := Int.tmod_eq_emod_of_nonneg (by omega)
      have hr0 := Int.emod_nonneg (256 * (x0 : Int) + (x1 : Int)) hmn
      have hr1 := Int.emod_lt_of_pos (256 * (x0 : Int) + (x1 : Int)) (show 0 < m by omega)
      have q4 : IntKind.i64.wrap ((256 * (x0 : Int) + (x1 : Int)).tmod m) = (256 * (x0 : Int) + (x1 : Int)) % m := by rw [ht]; exact IntWalk.i64_in _ (by omega)
      subst ea
      obtain ⟨kk, ek⟩ : ∃ kk : Nat, (256 * (x0 : Int) + (x1 : Int)) % m = (kk : Int) := ⟨_, (Int.toNat_of_nonneg hr0).symm⟩
      rw [ek] at q4 hr1
      clear ht hr0
      go_enter Try.func32, Try.ntmps32
      go_wp2_with fail
      go_ret
      exact ⟨kk, by rw [← ek]; rfl, hr1, rfl⟩
    · have d3 : decide (1 < (cs.length : Int)) = false := decide_eq_false (by omega)
      have q0 : IntKind.i64.wrap (x0 : Int) = (x0 : Int) := IntWalk.i64_in _ (by omega)
      have ht : ((x0 : Int)).tmod m = (x0 : Int) % m := Int.tmod_eq_emod_of_nonneg (by omega)
      have hr0 := Int.emod_nonneg (x0 : Int) hmn
      have hr1 := Int.emod_lt_of_pos (x0 : Int) (show 0 < m by omega)
      have q4 : IntKind.i64.wrap (((x0 : Int)).tmod m) = (x0 : Int) % m := by rw [ht]; exact IntWalk.i64_in _ (by omega)
      subst ea
      obtain ⟨kk, ek⟩ : ∃ kk : Nat, (x0 : Int) % m = (kk : Int) := ⟨_, (Int.toNat_of_nonneg hr0).symm⟩
      rw [ek] at q4 hr1
      clear ht hr0
      go_enter Try.func32, Try.ntmps32
      go_wp2_with fail
      go_ret
      exact ⟨kk, by rw [← ek]; rfl, hr1, rfl⟩
end Go.Proofs.Ytfdcainjppljhaa
