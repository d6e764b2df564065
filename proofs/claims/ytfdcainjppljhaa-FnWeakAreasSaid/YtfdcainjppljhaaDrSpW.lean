/- Draws of spans. Printed by drspan.py. -/
import Derived.Test.YtfdcainjppljhaaDrawFW
import Derived.Test.YtfdcainjppljhaaSpanW
namespace Go.Proofs.Ytfdcainjppljhaa
open Go.RowKit
set_option linter.unusedVariables false
/-- A span under way: the variable's block bs, the result's block. -/
structure DrS (b n : Nat) (w : World) (bs : Nat) (wx : World) (x y : Int) (v : Value) (l : List Int) : Prop where
  src : Src wx b n
  r : Blk wx w.heap.size 36 #[.int .i64 0, .int .i64 0, .slice none 0 0]
  blk : Blk wx bs 36 #[.int .i64 x, .int .i64 y, v]
  own : OwnI wx (bs + 1) v l
  aside : Aside (some b) w wx
  hb : b < w.heap.size
  hbf : w.heap.size < bs
theorem DrS.step {b n m : Nat} {w : World} {bs : Nat} {wx wy : World} {x y : Int} {v : Value} {l : List Int} (h : DrS b n w bs wx x y v l) (ha : Aside (some b) wx wy) (hs : Src wy b m) : DrS b m w bs wy x y v l :=
  ⟨hs, h.r.asides ha (fun e => by injection e with e; have := h.hb; omega), h.blk.asides ha (fun e => by injection e with e; have := h.hb; have := h.hbf; omega), h.own.asides ha (fun g e e2 => by injection e2 with e2; have h1 := (World.ownsRow.lt h.own g e).1; have := h.hb; have := h.hbf; omega), h.aside.trans ha, h.hb, h.hbf⟩
theorem DrS.drew {b n : Nat} {w : World} {bs : Nat} {wx : World} {x y : Int} {v : Value} {l : List Int} (h : DrS b n w bs wx x y v l) : DrS b n w bs wx.drew x y v l := h.step (Aside.of_below (Below.refl _ _).drew) h.src.drew
theorem DrS.al {b n : Nat} {w : World} {bs : Nat} {wx : World} {x y : Int} {v : Value} {l : List Int} (h : DrS b n w bs wx x y v l) (o : Obj) : DrS b n w bs (wx.alloc o) x y v l :=
  h.step (Aside.of_below ((Below.refl _ _).alloc (Nat.le_refl _) o)) (h.src.below ((Below.refl _ _).alloc (Nat.le_refl _) o))
theorem DrS.mono {b n m : Nat} {w : World} {bs : Nat} {wx : World} {x y : Int} {v : Value} {l : List Int} (h : DrS b n w bs wx x y v l) (hm : n ≤ m) : DrS b m w bs wx x y v l := { h with src := h.src.mono hm }
theorem DrS.setX {b n : Nat} {w : World} {bs : Nat} {wx : World} {x y : Int} {v : Value} {l : List Int} (h : DrS b n w bs wx x y v l) (z : Int) : DrS b n w bs (wx.setCell ⟨bs, 0, none⟩ (.int .i64 z)) z y v l := by
  have hb := h.hb; have hbf := h.hbf
  have hB := (Below.refl bs wx).setCell (p := ⟨bs, 0, none⟩) (Nat.le_refl _) (.int .i64 z)
  exact ⟨h.src.belowB hB (by omega), h.r.off (by omega) _ _, h.blk.set30 _, h.own.off (by omega) _ _, h.aside.trans_below hB (by omega), h.hb, h.hbf⟩
theorem DrS.setY {b n : Nat} {w : World} {bs : Nat} {wx : World} {x y : Int} {v : Value} {l : List Int} (h : DrS b n w bs wx x y v l) (z : Int) : DrS b n w bs (wx.setCell ⟨bs, 1, none⟩ (.int .i64 z)) x z v l := by
  have hb := h.hb; have hbf := h.hbf
  have hB := (Below.refl bs wx).setCell (p := ⟨bs, 1, none⟩) (Nat.le_refl _) (.int .i64 z)
  exact ⟨h.src.belowB hB (by omega), h.r.off (by omega) _ _, h.blk.set31 _, h.own.off (by omega) _ _, h.aside.trans_below hB (by omega), h.hb, h.hbf⟩
/-- A number is appended, the new slice stored. -/
theorem DrS.push {b n : Nat} {w : World} {bs : Nat} {wx wy : World} {x y : Int} {v v1 : Value} {l l1 : List Int} (h : DrS b n w bs wx x y v l) (ho : OwnI wy (bs + 1) v1 l1) (hb4 : Below (bs + 1) wx wy) : DrS b n w bs (wy.setCell ⟨bs, 2, none⟩ v1) x y v1 l1 := by
  have hb := h.hb; have hbf := h.hbf
  have hB := hb4.mono (Nat.le_succ bs) |>.setCell (p := ⟨bs, 2, none⟩) (Nat.le_refl _) v1
  exact ⟨h.src.belowB hB (by omega), (h.r.below hb4 (by omega)).off (by omega) _ _, (h.blk.below hb4 (Nat.lt_succ_self _)).set32' _, ho.off (by omega) _ _, h.aside.trans_below hB (by omega), h.hb, h.hbf⟩
theorem OwnI.open0 {w : World} {base : Nat} {v : Value} {l : List Int} (h : OwnI w base v l) : ∃ q d, v = .slice q l.length d ∧ OwnS w base q l ∧ (q = none → d = 0) := by
  obtain ⟨q, d, hv, hS⟩ := h.open_
  refine ⟨q, d, hv, hS, fun e => ?_⟩
  rcases h.2 with ⟨h1, -⟩ | ⟨g, cap, cur, h1, -⟩
  · rw [h1] at hv; injection hv with e1 e2 e3; exact e3.symm
  · rw [h1] at hv; injection hv with e1 e2 e3; rw [e] at e1; cases e1
set_option maxHeartbeats 4000000 in
set_option maxRecDepth 20000 in
theorem src_l04DrawSpan (b n : Nat) (fr : Int) (w : World) (hS : Src w b n) (hn : n ≤ 10000000) (hfr : 0 ≤ fr ∧ fr ≤ 1000000) :
    Calls Try.prog 58 #[.pointer (some ⟨b, 0, none⟩), .int .i64 fr] w fun e w' => ∃ (x y : Int) (q : Option Addr) (t : List Int) (d : Nat), e = .returned (.agg #[.int .i64 x, .int .i64 y, .slice q t.length d]) ∧ OwnS w' w.heap.size q t ∧ (q = none → d = 0) ∧ t.length ≤ 10 ∧ Src w' b (n + 100) ∧ Aside (some b) w w' := by
  have hbl := hS.lt
  have R0 := Blk.new w 36 #[.int .i64 0, .int .i64 0, .slice none 0 0]
  have A0 : Aside (some b) w (w.alloc (.cells #[.int .i64 0, .int .i64 0, .slice none 0 0] 36)) := Aside.of_below ((Below.refl _ _).alloc (Nat.le_refl _) _)
  have S0 := hS.below ((Below.refl _ w).alloc (Nat.le_refl _) (.cells #[.int .i64 0, .int .i64 0, .slice none 0 0] 36))
  have z0 : w.heap.size + 1 ≤ (w.alloc (.cells #[.int .i64 0, .int .i64 0, .slice none 0 0] 36)).heap.size := by simp
  go_enter Try.func58, Try.ntmps58
  go_wp2_with fail
  generalize w.alloc (.cells #[.int .i64 0, .int .i64 0, .slice none 0 0] 36) = w0 at *
  refine (src_pick b n 60 _ S0 (by omega) (by omega)).mono ?_
  rintro e w1 ⟨p0, rfl, hp0, hS1, ha1⟩
  have R1 := R0.asides ha1 (fun e => by injection e with e; omega)
  have A1 := A0.trans ha1
  have z1 := ha1.size
  obtain ⟨x, ex⟩ : ∃ x, fr + p0 = x := ⟨_, rfl⟩
  have hx : 0 ≤ x ∧ x ≤ 1000100 := by omega
  have qx : IntKind.i64.wrap (fr + p0) = x := by rw [IntWalk.i64_in _ (by omega)]; exact ex
  have D1 : DrS b (n + 2) w w1.heap.size (w1.alloc (.cells #[.int .i64 x, .int .i64 0, .slice none 0 0] 36)) x 0 (.slice none 0 0) [] :=
    ⟨hS1.below ((Below.refl _ w1).alloc (Nat.le_refl _) _), R1.alloc' _, Blk.new _ _ _, OwnI.none_ _ _, A1.trans (Aside.of_below ((Below.refl _ _).alloc (Nat.le_refl _) _)), hbl, by omega⟩
  clear ha1 R0 A0 S0 R1 A1 ex
  go_wp2_with fail
  obtain ⟨bs, ebs⟩ : ∃ bs, w1.heap.size = bs := ⟨_, rfl⟩
  generalize w1.alloc (.cells #[.int .i64 x, .int .i64 0, .slice none 0 0] 36) = w2 at D1 ⊢
  rw [ebs] at D1 ⊢
  go_cut [5] (fun v5 wx => v5 = .pointer (some ⟨bs, 0, none⟩) ∧ ∃ y, (0 ≤ y ∧ y ≤ 1001000) ∧ DrS b (n + 4) w bs wx x y (.slice none 0 0) [])
  case first =>
    obtain ⟨c0, c1, c2⟩ := D1.blk.cell3
    have cf := D1.blk.frozen
    have cl := D1.blk.lt
    go_region_with (go_at_call 67; refine (src_pick b (n + 2) 100 _ (by exact D1.src) (by omega) (by omega)).mono ?_; rintro e w3 ⟨p1, rfl, hp1, hS3, ha3⟩; have D3 := D1.drew.step ha3 hS3; have q1 : IntKind.i64.wrap (x + p1) = x + p1 := IntWalk.i64_in _ (by omega); obtain ⟨d0, d1, d2⟩ := D3.blk.cell3; have df := D3.blk.frozen; have dl := D3.blk.lt)
    all_goals
      go_wp2_with fail
      go_meet
      exact ⟨rfl, x + p1, by omega, D3.setY _⟩
  case rest =>
    obtain ⟨rfl, y, hy, D4⟩ := hcut
    obtain ⟨w4, hwc⟩ : ∃ w4, w4 = wc := ⟨_, rfl⟩
    subst hwc
    go_wp2_with fail
    go_cut [6] (fun v6 wx => ∃ t, v6 = .int .i64 t ∧ (0 ≤ t ∧ t ≤ 1001000) ∧ DrS b (n + 6) w bs wx x y (.slice none 0 0) [])
    case first =>
      obtain ⟨c0, c1, c2⟩ := D4.blk.cell3
      have cl := D4.blk.lt
      go_region_with (go_at_call 67; refine (src_pick b (n + 4) 20 _ (by exact D4.src) (by omega) (by omega)).mono ?_; rintro e w5 ⟨p2, rfl, hp2, hS5, ha5⟩; have D5 := D4.drew.step ha5 hS5; have q2 : IntKind.i64.wrap (x + p2) = x + p2 := IntWalk.i64_in _ (by omega); obtain ⟨d0, d1, d2⟩ := D5.blk.cell3; have dl := D5.blk.lt)
      all_goals
        go_wp2_with fail
        go_meet
        exact ⟨x + p2, rfl, by omega, D5⟩
    case rest =>
      obtain ⟨t, rfl, ht, D6⟩ := hcut
      obtain ⟨w6, hwc⟩ : ∃ w6, w6 = wc := ⟨_, rfl⟩
      subst hwc
      go_wp2_with fail
      refine (src_pick b (n + 6) 5 _ D6.src (by omega) (by omega)).mono ?_
      rintro e w7 ⟨k0, rfl, hk0, hS7, ha7⟩
      have D7 := D6.step ha7 hS7
      clear D6 D4 D1 ha7 hS7
      go_wp2_with fail
      go_loopw [6, 7] (fun tv kv wr => ∃ (t k : Int) (v : Value) (l : List Int) (m : Nat), tv = .int .i64 t ∧ kv = .int .i64 k ∧ (0 ≤ t ∧ t ≤ 1001000 + 100 * (4 - k)) ∧ (0 ≤ k ∧ k ≤ 4) ∧ (l.length : Int) + k ≤ 4 ∧ (m : Int) + 2 * k ≤ n + 20 ∧ DrS b m w bs wr x y v l) (fun _ kv _ => (intOf kv).toNat)
      case atStart => exact ⟨t, k0, _, [], n + 8, rfl, rfl, by omega, by omega, by simp; omega, by omega, D7⟩
      case round =>
        obtain ⟨t, k, v, l, m, rfl, rfl, ht, hk, hlk, hm, D⟩ := hrel
        obtain ⟨c0, c1, c2⟩ := D.blk.cell3
        have hgo : (0 < k ∧ t < y) ∨ (k ≤ 0 ∨ y ≤ t) := by omega
        rcases hgo with ⟨hk0, hty⟩ | hstop
        · have d0 : decide (0 < k) = true := decide_eq_true hk0
          have d1 : decide (t < y) = true := decide_eq_true hty
          obtain ⟨qv, dv, rfl, -, -⟩ := D.own.open0
          have hz : bs + 1 ≤ wr.heap.size := D.blk.lt
          have hB4 : ∀ w4, Below (bs + 1) wr w4 → Blk w4 bs 36 #[.int .i64 x, .int .i64 y, .slice qv l.length dv] := fun w4 hb4 => D.blk.below hb4 (Nat.lt_succ_self _)
          have HB4 := Lib.hid hB4
          clear hB4
          go_wp2_with (at_builtin; refine append_int _ rfl (.tmp 37) (.tmp 39) rfl (bs + 1) (.slice qv l.length dv) l t rfl rfl D.own (by omega) hz ?_; intro v1 w8 hown1 hb8; obtain ⟨L1, eL1⟩ : ∃ L1, l ++ [t] = L1 := ⟨_, rfl⟩; rw [eL1] at hown1; have HL1 := Lib.hid eL1; clear eL1; obtain ⟨q1, e1, rfl, -⟩ := hown1.open_; have B8 := HB4.out _ hb8; obtain ⟨g0, g1, g2⟩ := B8.cell3; have gf := B8.frozen; have gl := B8.lt)
          have D8 := D.push hown1 hb8
          refine (src_pick b m 30 _ D8.src (by omega) (by omega)).mono ?_
          rintro e w9 ⟨p3, rfl, hp3, hS9, ha9⟩
          have D9 := D8.step ha9 hS9
          have q3 : IntKind.i64.wrap (1 + p3) = 1 + p3 := IntWalk.i64_in _ (by omega)
          have q4 : IntKind.i64.wrap (t + (1 + p3)) = t + (1 + p3) := IntWalk.i64_in _ (by omega)
          have q5 : IntKind.i64.wrap (k - 1) = k - 1 := IntWalk.i64_in _ (by omega)
          clear c0 c1 c2 g0 g1 g2 gf gl B8
          go_wp2_with fail
          have hL1 : L1.length = l.length + 1 := by rw [← HL1.out]; simp
          exact ⟨⟨t + (1 + p3), k - 1, _, L1, m + 2, rfl, rfl, by omega, by omega, by omega, by omega, D9⟩, by simp [intOf]; omega⟩
        · have hl4 : l.length ≤ 4 := by omega
          have hm2 : m ≤ n + 20 := by omega
          have hst : decide (0 < k) = false ∨ (decide (0 < k) = true ∧ decide (t < y) = false) := by
            by_cases h : 0 < k
            · exact .inr ⟨decide_eq_true h, decide_eq_false (by omega)⟩
            · exact .inl (decide_eq_false h)
          rcases hst with d0 | ⟨d0, d1⟩
          all_goals
            go_wp2_with fail
            refine (src_one b m 24 _ D.src (by omega) (by omega)).mono ?_
            rintro e w8 ⟨u1, rfl, hS8, ha8⟩
            have D8 := D.step ha8 hS8
            clear c0 c1 c2
            obtain ⟨c0, c1, c2⟩ := D8.blk.cell3
            cases u1
            · go_wp2_with fail
              refine (src_one b _ 24 _ D8.src (by omega) (by omega)).mono ?_
              rintro e wb ⟨u2, rfl, hSb, hab⟩
              have Db := D8.step hab hSb
              clear c0 c1 c2
              cases u2
              · obtain ⟨q, d, hv, hOS, hqd⟩ := Db.own.open0
                first | subst hv | (injection hv with hv1 hv2 hv3; replace hv1 := hv1.symm; replace hv3 := hv3.symm; subst hv1; subst hv3)
                obtain ⟨c0, c1, c2⟩ := Db.blk.cell3
                obtain ⟨r0, r1, r2⟩ := Db.r.cell3
                have rf := Db.r.frozen
                have rl := Db.r.lt
                have cl := Db.blk.lt
                obtain ⟨e0, e1, e2⟩ := (Db.r.set3 (.int .i64 x) (.int .i64 y) (.slice q l.length d)).cell3
                go_wp2_with fail
                refine bodyPost_ret (v := .agg #[.int .i64 x, .int .i64 y, .slice q l.length d]) (by simp [results, Try.results58, go_sem, e0, e1, e2]) rfl ?_
                have hB := (((Below.refl w.heap.size wb).setCell (p := ⟨w.heap.size, 0, none⟩) (Nat.le_refl _) (.int .i64 x)).setCell (p := ⟨w.heap.size, 1, none⟩) (Nat.le_refl _) (.int .i64 y)).setCell (p := ⟨w.heap.size, 2, none⟩) (Nat.le_refl _) (.slice q l.length d)
                have hlt : w.heap.size < bs + 1 := by have := Db.hbf; omega
                exact ⟨x, y, q, l, d, rfl, (((hOS.offS (g' := w.heap.size) hlt 0 _).offS (g' := w.heap.size) hlt 1 _).offS (g' := w.heap.size) hlt 2 _).mono (by omega), hqd, (by first | omega | (have := HLL.out; omega)), (Db.src.belowB hB Db.hb).mono (by omega), Db.aside.trans_below hB (Nat.le_refl _)⟩
              · obtain ⟨c0, c1, c2⟩ := Db.blk.cell3
                have cl := Db.blk.lt
                have qy : IntKind.i64.wrap (y + 1) = y + 1 := IntWalk.i64_in _ (by omega)
                have Dc := Db.al (.cells #[.int .i64 (-1), .int .i64 (y + 1), .int .i64 0] 2)
                go_wp2_with fail
                refine (src_among b _ _ [-1, y + 1, 0] 3 _ (by exact Dc.src) (by omega) (by exact lit_ints wb [-1, y + 1, 0]) (fun a e => by injection e with e; subst e; simp; have := Db.src.lt; omega) (by simp) (by simp)).mono ?_
                rintro e wd ⟨x1, rfl, hx1, hSd, had⟩
                have Dd := Dc.step had hSd
                clear c0 c1 c2 cl
                obtain ⟨g0, g1, g2⟩ := Dd.blk.cell3
                have gf := Dd.blk.frozen
                have gl := Dd.blk.lt
                have De := Dd.setX x1
                obtain ⟨q, d, hv, hOS, hqd⟩ := De.own.open0
                first | subst hv | (injection hv with hv1 hv2 hv3; replace hv1 := hv1.symm; replace hv3 := hv3.symm; subst hv1; subst hv3)
                obtain ⟨c0, c1, c2⟩ := De.blk.cell3
                obtain ⟨r0, r1, r2⟩ := De.r.cell3
                have rf := De.r.frozen
                have rl := De.r.lt
                have cl := De.blk.lt
                obtain ⟨e0, e1, e2⟩ := (De.r.set3 (.int .i64 x1) (.int .i64 y) (.slice q l.length d)).cell3
                go_wp2_with fail
                refine bodyPost_ret (v := .agg #[.int .i64 x1, .int .i64 y, .slice q l.length d]) (by simp [results, Try.results58, go_sem, e0, e1, e2]) rfl ?_
                have hB := (((Below.refl w.heap.size (wd.setCell ⟨bs, 0, none⟩ (.int .i64 x1))).setCell (p := ⟨w.heap.size, 0, none⟩) (Nat.le_refl _) (.int .i64 x1)).setCell (p := ⟨w.heap.size, 1, none⟩) (Nat.le_refl _) (.int .i64 y)).setCell (p := ⟨w.heap.size, 2, none⟩) (Nat.le_refl _) (.slice q l.length d)
                have hlt : w.heap.size < bs + 1 := by have := De.hbf; omega
                exact ⟨x1, y, q, l, d, rfl, (((hOS.offS (g' := w.heap.size) hlt 0 _).offS (g' := w.heap.size) hlt 1 _).offS (g' := w.heap.size) hlt 2 _).mono (by omega), hqd, (by first | omega | (have := HLL.out; omega)), (De.src.belowB hB De.hb).mono (by omega), De.aside.trans_below hB (Nat.le_refl _)⟩
            · have hz : bs + 1 ≤ w8.heap.size := D8.blk.lt
              obtain ⟨qv, dv, rfl, -, -⟩ := D8.own.open0
              have hB4 : ∀ w4, Below (bs + 1) w8 w4 → Blk w4 bs 36 #[.int .i64 x, .int .i64 y, .slice qv l.length dv] := fun w4 hb4 => D8.blk.below hb4 (Nat.lt_succ_self _)
              have HB4 := Lib.hid hB4
              clear hB4
              go_wp2_with (at_builtin; refine append_int _ rfl (.tmp 50) (.tmp 53) rfl (bs + 1) (.slice qv l.length dv) l y rfl rfl D8.own (by omega) hz ?_; intro v1 w9 hown1 hb9; obtain ⟨L1, eL1⟩ : ∃ L1, l ++ [y] = L1 := ⟨_, rfl⟩; rw [eL1] at hown1; have HL1 := Lib.hid eL1; clear eL1; obtain ⟨q1, e1, rfl, -⟩ := hown1.open_; have B9 := HB4.out _ hb9; obtain ⟨g0, g1, g2⟩ := B9.cell3; have gf := B9.frozen; have gl := B9.lt)
              have D9 := D8.push hown1 hb9
              have HLL : Hid (L1.length = l.length + 1) := Lib.hid (by rw [← HL1.out]; simp)
              clear g0 g1 g2 gf gl B9
              refine (src_one b _ 24 _ D9.src (by omega) (by omega)).mono ?_
              rintro e wb ⟨u2, rfl, hSb, hab⟩
              have Db := D9.step hab hSb
              clear c0 c1 c2
              cases u2
              · obtain ⟨q, d, hv, hOS, hqd⟩ := Db.own.open0
                first | subst hv | (injection hv with hv1 hv2 hv3; replace hv1 := hv1.symm; replace hv3 := hv3.symm; subst hv1; subst hv3)
                obtain ⟨c0, c1, c2⟩ := Db.blk.cell3
                obtain ⟨r0, r1, r2⟩ := Db.r.cell3
                have rf := Db.r.frozen
                have rl := Db.r.lt
                have cl := Db.blk.lt
                obtain ⟨e0, e1, e2⟩ := (Db.r.set3 (.int .i64 x) (.int .i64 y) (.slice q L1.length d)).cell3
                go_wp2_with fail
                refine bodyPost_ret (v := .agg #[.int .i64 x, .int .i64 y, .slice q L1.length d]) (by simp [results, Try.results58, go_sem, e0, e1, e2]) rfl ?_
                have hB := (((Below.refl w.heap.size wb).setCell (p := ⟨w.heap.size, 0, none⟩) (Nat.le_refl _) (.int .i64 x)).setCell (p := ⟨w.heap.size, 1, none⟩) (Nat.le_refl _) (.int .i64 y)).setCell (p := ⟨w.heap.size, 2, none⟩) (Nat.le_refl _) (.slice q L1.length d)
                have hlt : w.heap.size < bs + 1 := by have := Db.hbf; omega
                exact ⟨x, y, q, L1, d, rfl, (((hOS.offS (g' := w.heap.size) hlt 0 _).offS (g' := w.heap.size) hlt 1 _).offS (g' := w.heap.size) hlt 2 _).mono (by omega), hqd, (by first | omega | (have := HLL.out; omega)), (Db.src.belowB hB Db.hb).mono (by omega), Db.aside.trans_below hB (Nat.le_refl _)⟩
              · obtain ⟨c0, c1, c2⟩ := Db.blk.cell3
                have cl := Db.blk.lt
                have qy : IntKind.i64.wrap (y + 1) = y + 1 := IntWalk.i64_in _ (by omega)
                have Dc := Db.al (.cells #[.int .i64 (-1), .int .i64 (y + 1), .int .i64 0] 2)
                go_wp2_with fail
                refine (src_among b _ _ [-1, y + 1, 0] 3 _ (by exact Dc.src) (by omega) (by exact lit_ints wb [-1, y + 1, 0]) (fun a e => by injection e with e; subst e; simp; have := Db.src.lt; omega) (by simp) (by simp)).mono ?_
                rintro e wd ⟨x1, rfl, hx1, hSd, had⟩
                have Dd := Dc.step had hSd
                clear c0 c1 c2 cl
                obtain ⟨g0, g1, g2⟩ := Dd.blk.cell3
                have gf := Dd.blk.frozen
                have gl := Dd.blk.lt
                have De := Dd.setX x1
                obtain ⟨q, d, hv, hOS, hqd⟩ := De.own.open0
                first | subst hv | (injection hv with hv1 hv2 hv3; replace hv1 := hv1.symm; replace hv3 := hv3.symm; subst hv1; subst hv3)
                obtain ⟨c0, c1, c2⟩ := De.blk.cell3
                obtain ⟨r0, r1, r2⟩ := De.r.cell3
                have rf := De.r.frozen
                have rl := De.r.lt
                have cl := De.blk.lt
                obtain ⟨e0, e1, e2⟩ := (De.r.set3 (.int .i64 x1) (.int .i64 y) (.slice q L1.length d)).cell3
                go_wp2_with fail
                refine bodyPost_ret (v := .agg #[.int .i64 x1, .int .i64 y, .slice q L1.length d]) (by simp [results, Try.results58, go_sem, e0, e1, e2]) rfl ?_
                have hB := (((Below.refl w.heap.size (wd.setCell ⟨bs, 0, none⟩ (.int .i64 x1))).setCell (p := ⟨w.heap.size, 0, none⟩) (Nat.le_refl _) (.int .i64 x1)).setCell (p := ⟨w.heap.size, 1, none⟩) (Nat.le_refl _) (.int .i64 y)).setCell (p := ⟨w.heap.size, 2, none⟩) (Nat.le_refl _) (.slice q L1.length d)
                have hlt : w.heap.size < bs + 1 := by have := De.hbf; omega
                exact ⟨x1, y, q, L1, d, rfl, (((hOS.offS (g' := w.heap.size) hlt 0 _).offS (g' := w.heap.size) hlt 1 _).offS (g' := w.heap.size) hlt 2 _).mono (by omega), hqd, (by first | omega | (have := HLL.out; omega)), (De.src.belowB hB De.hb).mono (by omega), De.aside.trans_below hB (Nat.le_refl _)⟩
end Go.Proofs.Ytfdcainjppljhaa
