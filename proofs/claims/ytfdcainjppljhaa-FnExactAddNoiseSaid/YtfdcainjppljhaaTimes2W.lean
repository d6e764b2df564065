/- spec.l02Times: the text of impl.fluxOfTimes once more. -/
import Derived.Test.YtfdcainjppljhaaTimesW
namespace Go.Proofs.Ytfdcainjppljhaa
open Go.RowKit
set_option maxHeartbeats 4000000 in
set_option maxRecDepth 20000 in
theorem spec_l02Times (p : Option Addr) (l : List Int) (cap : Nat) (rev cell : Int) (w : World) (hI : IntsAt w p l) (h1 : 1 ≤ l.length) (hl : l.length ≤ 1048576) :
    Calls Try.prog 44 #[.int .i64 cell, .slice p l.length cap, .int .i64 rev] w fun e w' => ∃ q dq, e = .returned (.agg #[.int .i64 cell, .int .i64 (l.headD 0), .slice q (gapsT l rev).length dq]) ∧ OwnS w' w.heap.size q (gapsT l rev) ∧ Below w.heap.size w w' := by
  have hh := headD_at (l := l) (by omega)
  have hlast := lastD_at (l := l) (n := l.length - 1) (by omega)
  have HG : Hid (gapsT l rev = diffW l ++ [IntKind.i64.wrap (IntKind.i64.wrap (rev - l.getLastD 0) + l.headD 0)]) := Lib.hid rfl
  have hIe : ∃ a, p = some a ∧ (w.cell? (a.add 0) = some (.int .i64 (l.headD 0))) := by
    obtain ⟨a, ha, hc⟩ := hI.at_ (k := 0) (by omega)
    exact ⟨a, ha, by rw [hc, hh]⟩
  obtain ⟨a, rfl, hx0⟩ := hIe
  obtain ⟨t0, et0⟩ : ∃ t0, l.headD 0 = t0 := ⟨_, rfl⟩
  rw [et0] at hx0 HG ⊢
  have hx0' : w.cell? a = some (.int .i64 t0) := by rw [Addr.add_zero'] at hx0; exact hx0
  have i00 : (0 : Int) < (l.length : Int) := by omega
  have i000 : 0 < l.length := by omega
  have hab : a.block < w.heap.size := World.block_lt_of_cell? w _ hx0'
  have HT := Lib.hid et0
  have HL := Lib.hid hlast
  clear hh hlast et0
  go_enter Try.func44, Try.ntmps44
  go_wp2_with fail
  have W0 : Below w.heap.size w ((w.alloc (.cells #[.int .i64 0, .int .i64 0, .slice none 0 0] 26)).alloc (.cells #[.int .i64 cell, .int .i64 t0, .slice none 0 0] 26)) := ((Below.refl _ _).alloc (Nat.le_refl _) _).alloc (by simp) _
  have R0 := (Blk.new w 26 #[.int .i64 0, .int .i64 0, .slice none 0 0]).keep ((Below.refl _ _).alloc (Nat.le_refl _) (.cells #[.int .i64 cell, .int .i64 t0, .slice none 0 0] 26))
  have F0 := Blk.new (w.alloc (.cells #[.int .i64 0, .int .i64 0, .slice none 0 0] 26)) 26 #[.int .i64 cell, .int .i64 t0, .slice none 0 0]
  have esz : (w.alloc (.cells #[.int .i64 0, .int .i64 0, .slice none 0 0] 26)).heap.size = w.heap.size + 1 := by simp
  have hz0 : ((w.alloc (.cells #[.int .i64 0, .int .i64 0, .slice none 0 0] 26)).alloc (.cells #[.int .i64 cell, .int .i64 t0, .slice none 0 0] 26)).heap.size = w.heap.size + 2 := by simp
  rw [esz] at F0
  generalize (w.alloc (.cells #[.int .i64 0, .int .i64 0, .slice none 0 0] 26)).alloc (.cells #[.int .i64 cell, .int .i64 t0, .slice none 0 0] 26) = w0 at W0 R0 F0 hz0 ⊢
  clear esz
  obtain ⟨B, eB⟩ : ∃ B, w.heap.size + 2 = B := ⟨_, rfl⟩
  go_loopw [8] (fun i wr => ∃ (k : Nat) (v : Value), 1 ≤ k ∧ k ≤ l.length ∧ i = .int .i64 k ∧ OwnI wr B v (diffW (l.take k)) ∧ Blk wr (w.heap.size + 1) 26 #[.int .i64 cell, .int .i64 t0, v] ∧ Blk wr w.heap.size 26 #[.int .i64 0, .int .i64 0, .slice none 0 0] ∧ Below w.heap.size w wr) (fun i _ => l.length - (intOf i).toNat)
  case atStart => exact ⟨1, .slice none 0 0, Nat.le_refl _, h1, rfl, by rw [diffW_one]; exact OwnI.none_ _ _, F0, R0, W0⟩
  case round =>
    obtain ⟨k, v, hk1, hk, rfl, hown, hF, hR, hbel⟩ := hrel
    have hzr : B ≤ wr.heap.size := by have := hF.lt; omega
    obtain ⟨f0, f1, f2⟩ := hF.cell3
    have ff := hF.frozen
    have hfl := hF.lt
    have halt : a.block < wr.heap.size := Nat.lt_of_lt_of_le hab hbel.size
    by_cases hlt : k < l.length
    · obtain ⟨b, eb, hx⟩ := (hI.below hbel).at_ hlt
      cases eb
      obtain ⟨b, eb, hy⟩ := (hI.below hbel).at_ (k := k - 1) (by omega)
      cases eb
      have hd := diffW_take hk1 hlt
      have hdl : (diffW (l.take k)).length ≤ 1048576 := by rw [diffW_len]; simp; omega
      obtain ⟨x, ex⟩ : ∃ x, l[k] = x := ⟨_, rfl⟩
      obtain ⟨y, ey⟩ : ∃ y, l[k - 1]'(by omega) = y := ⟨_, rfl⟩
      rw [ex] at hx hd
      rw [ey] at hy hd
      obtain ⟨z, ez⟩ : ∃ z, IntKind.i64.wrap (x - y) = z := ⟨_, rfl⟩
      rw [ez] at hd
      have HD := Lib.hid hd
      clear hd ex ey
      have i0 : 1 ≤ (k : Int) := by omega
      have i1 : 0 ≤ (k : Int) - 1 := by omega
      have i2 : (k : Int) - 1 < (l.length : Int) := by omega
      have q1 : IntKind.i64.wrap ((k : Int) - 1) = (k : Int) - 1 := IntWalk.i64_in _ (by omega)
      have hxb : (a.add k).block < wr.heap.size := World.block_lt_of_cell? wr _ hx
      have hyb : (a.add (k - 1)).block < wr.heap.size := World.block_lt_of_cell? wr _ hy
      go_wp2_with fail
      go_region_law (go_loud (refine step_append_int rfl _ _ rfl B v (diffW (l.take k)) z _ rfl rfl (by first | exact hown.alloc _ | exact (hown.alloc _).drew) (by simp) (by omega) (by first | omega | (simp; omega)) ?_; intro v1 w1 hown1 hb1; obtain ⟨q1, c1, rfl, hs1⟩ := hown1.open_; have F1 := Blk.below (by exact hF.alloc' _) hb1 (by omega); obtain ⟨p0, p1, p2⟩ := F1.cell3; have pf := F1.frozen; have R1 := Blk.below (by exact hR.alloc' _) hb1 (by omega); have hz1 := hb1.size; simp at hz1))
      all_goals
        have hown2 : OwnI w1 B (.slice q1 ((diffW (l.take k)).length + 1) c1) (diffW (l.take (k + 1))) := by
          rw [HD.out]
          simpa using hown1
        have hbn : Below w.heap.size w w1 := by first | exact (hbel.alloc hbel.size (.cells #[.int .i64 z] 2)).drew.trans (hb1.mono (B' := w.heap.size) (by omega)) | exact (hbel.alloc hbel.size (.cells #[.int .i64 z] 2)).trans (hb1.mono (B' := w.heap.size) (by omega))
        go_wp2_with fail
        go_roundw
        case rel => exact ⟨k + 1, _, by omega, by omega, by go_num, hown2.off (g' := w.heap.size + 1) (by omega) 2 _, F1.set32 _, R1.off (g' := w.heap.size + 1) (by omega) 2 _, hbn.setCell (p := ⟨w.heap.size + 1, 2, none⟩) (Nat.le_succ _) _⟩
        case measure => simp [intOf]; omega
    · have ek : k = l.length := by omega
      subst ek
      rw [List.take_length] at hown
      obtain ⟨b, eb, hy⟩ := (hI.below hbel).at_ (k := l.length - 1) (by omega)
      cases eb
      rw [HL.out] at hy
      have hdl : (diffW l).length ≤ 1048576 := by rw [diffW_len]; omega
      obtain ⟨y, ey⟩ : ∃ y, l.getLastD 0 = y := ⟨_, rfl⟩
      have hg := HG.out
      rw [ey] at hy hg
      obtain ⟨z1, ez1⟩ : ∃ z1, IntKind.i64.wrap (rev - y) = z1 := ⟨_, rfl⟩
      rw [ez1] at hg
      obtain ⟨z, ez⟩ : ∃ z, IntKind.i64.wrap (z1 + t0) = z := ⟨_, rfl⟩
      rw [ez] at hg
      have HGG := Lib.hid hg
      clear hg ey HL
      have i0 : 1 ≤ (l.length : Int) := by omega
      have i1 : 0 ≤ (l.length : Int) - 1 := by omega
      have i2 : (l.length : Int) - 1 < (l.length : Int) := by omega
      have q1 : IntKind.i64.wrap ((l.length : Int) - 1) = (l.length : Int) - 1 := IntWalk.i64_in _ (by omega)
      have hx0r : wr.cell? a = some (.int .i64 t0) := (hbel.cell (p := a) hab).trans hx0'
      have hyb : (a.add (l.length - 1)).block < wr.heap.size := World.block_lt_of_cell? wr _ hy
      go_wp2_with fail
      go_region_law (refine step_append_int rfl _ _ rfl B v (diffW l) z _ rfl rfl (by first | exact hown.alloc _ | exact (hown.alloc _).drew) (by simp) (by omega) (by first | omega | (simp; omega)) ?_; intro v1 w1 hown1 hb1; obtain ⟨q1, c1, rfl, hs1⟩ := hown1.open_; have F1 := Blk.below (by exact hF.alloc' _) hb1 (by omega); obtain ⟨p0, p1, p2⟩ := F1.cell3; have pf := F1.frozen; have R1 := Blk.below (by exact hR.alloc' _) hb1 (by omega); have hz1 := hb1.size; simp at hz1)
      all_goals
        have hown2 : OwnI w1 B (.slice q1 ((diffW l).length + 1) c1) (gapsT l rev) := by
          rw [HGG.out]
          simpa using hown1
        have hbn : Below w.heap.size w w1 := by first | exact (hbel.alloc hbel.size (.cells #[.int .i64 z] 2)).drew.trans (hb1.mono (B' := w.heap.size) (by omega)) | exact (hbel.alloc hbel.size (.cells #[.int .i64 z] 2)).trans (hb1.mono (B' := w.heap.size) (by omega))
        have hgl : (gapsT l rev).length = (diffW l).length + 1 := by rw [HGG.out]; simp
        have F2 := F1.set32 (.slice q1 ((diffW l).length + 1) c1)
        have R2 := R1.off (g' := w.heap.size + 1) (by omega) 2 (.slice q1 ((diffW l).length + 1) c1)
        obtain ⟨s0, s1, s2⟩ := F2.cell3
        obtain ⟨r0, r1, r2⟩ := R2.cell3
        have rf := R2.frozen
        have hown3 := hown2.off (g' := w.heap.size + 1) (by omega) 2 (.slice q1 ((diffW l).length + 1) c1)
        have hbn2 := hbn.setCell (p := ⟨w.heap.size + 1, 2, none⟩) (Nat.le_succ _) (.slice q1 ((diffW l).length + 1) c1)
        clear p0 p1 p2 f0 f1 f2
        have R3 := R2.set3 (.int .i64 cell) (.int .i64 t0) (.slice q1 ((diffW l).length + 1) c1)
        obtain ⟨e0, e1, e2⟩ := R3.cell3
        generalize w1.setCell ⟨w.heap.size + 1, 2, none⟩ (.slice q1 ((diffW l).length + 1) c1) = w5 at F2 R2 s0 s1 s2 r0 r1 r2 rf hown3 hbn2 R3 e0 e1 e2 ⊢
        go_wp2_with fail
        refine bodyPost_ret (v := .agg #[.int .i64 cell, .int .i64 t0, .slice q1 ((diffW l).length + 1) c1]) (by simp [results, Try.results44, go_sem, e0, e1, e2]) rfl ?_
        obtain ⟨qq, dd, hqq, hS⟩ := (((hown3.off (g' := w.heap.size) (by omega) 0 (.int .i64 cell)).off (g' := w.heap.size) (by omega) 1 (.int .i64 t0)).off (g' := w.heap.size) (by omega) 2 (.slice q1 ((diffW l).length + 1) c1)).open_
        injection hqq with h3 h4 h5
        subst h3
        exact ⟨q1, c1, by rw [hgl], hS.mono (by omega), ((hbn2.setCell (p := ⟨w.heap.size, 0, none⟩) (Nat.le_refl _) _).setCell (p := ⟨w.heap.size, 1, none⟩) (Nat.le_refl _) _).setCell (p := ⟨w.heap.size, 2, none⟩) (Nat.le_refl _) _⟩
end Go.Proofs.Ytfdcainjppljhaa
