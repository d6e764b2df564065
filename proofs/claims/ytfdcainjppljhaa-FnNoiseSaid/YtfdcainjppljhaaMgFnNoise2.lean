/- Rising lists; flux of times. spec.l02Times: the text of impl.fluxOfTimes once more. When times become flux: the two ways of testing agree, plain. Times that become flux: timedFlux, l04Make and their callers. Printed by makegen.py. Flux of times, its four callers. Printed by makegen.py. The revolution and the changes of flux. What the changes of times have in common. Printed by opgen.py. Spans: their copies, sizes, comparison, marks; the two tests of a span; slices.Clone at int64. -/
import Derived.Test.YtfdcainjppljhaaMgFnNoise1
import Derived.Deep.RegionLaw
import Derived.Deep.RegionHeld3
import Derived.Deep.DeepCutAuto
import Derived.BigQuiet
import Derived.Deep.QuietTactic
import Derived.Lib.SliceRun
namespace Go.Proofs.Ytfdcainjppljhaa
open Go.RowKit
set_option maxHeartbeats 1000000 in
set_option maxRecDepth 20000 in
theorem impl_rises (p : Option Addr) (l : List Int) (cap : Nat) (lo hi : Int) (w : World) (hI : IntsAt w p l) (hl : l.length ≤ 1048576) :
    Calls Try.prog 88 #[.slice p l.length cap, .int .i64 lo, .int .i64 hi] w fun e w' => e = .returned (.bool (risesB l lo hi)) ∧ Below w.heap.size w w' := by
  go_enter Try.func88, Try.ntmps88
  go_wp2_with fail
  go_loopw [11] (fun i wr => ∃ k : Nat, k ≤ l.length ∧ i = .int .i64 k ∧ risesK l lo hi k ∧ wr = w) (fun i _ => l.length - (intOf i).toNat)
  case atStart => exact ⟨0, Nat.zero_le _, rfl, fun i _ h => absurd h (Nat.not_lt_zero _), rfl⟩
  case round =>
    obtain ⟨k, hk, rfl, hr, rfl⟩ := hrel
    by_cases hlt : k < l.length
    · obtain ⟨a, rfl, hx⟩ := hI.at_ hlt
      have hno := @risesB_no l lo hi k hlt
      have HR := Lib.hid hr
      clear hr
      obtain ⟨x, ex⟩ : ∃ x, l[k] = x := ⟨_, rfl⟩
      rw [ex] at hx hno
      have EX := Lib.hid ex
      have HN := Lib.hid hno
      clear ex hno
      cases hin : inB x lo hi
      · have HI := Lib.hid hin
        clear hin
        go_wp2_with (go_at_call 48; refine (within_any _ _ _ _).mono ?_; rintro e w' ⟨rfl, rfl⟩; try rw [HI.out])
        go_ret
        exact ⟨ret_bool (HN.out (.inl HI.out)).symm, Below.refl _ _⟩
      · have HI := Lib.hid hin
        clear hin
        by_cases h0 : k = 0
        · subst h0
          have hx0 : wr.cell? a = some (.int .i64 x) := by rw [Addr.add_zero'] at hx; exact hx
          go_wp2_with (go_at_call 48; refine (within_any _ _ _ _).mono ?_; rintro e w' ⟨rfl, rfl⟩; try rw [HI.out])
          refine ⟨⟨1, by omega, rfl, ?_, trivial⟩, by simp [intOf]; omega⟩
          intro i h hi1
          have : i = 0 := by omega
          subst this
          exact ⟨by rw [EX.out]; exact HI.out, fun h => absurd h (by omega)⟩
        · obtain ⟨a', ha', hy⟩ := hI.at_ (k := k - 1) (by omega)
          cases ha'
          obtain ⟨y, ey⟩ : ∃ y, l[k - 1]'(by omega) = y := ⟨_, rfl⟩
          rw [ey] at hy
          have EY := Lib.hid ey
          clear ey
          have g0 : decide (0 < (k : Int)) = true := by simp; omega
          have g1 : decide (0 < k) = true := by simp; omega
          have i0 : 1 ≤ (k : Int) := by omega
          have i1 : 0 ≤ (k : Int) - 1 := by omega
          have i2 : (k : Int) - 1 < (l.length : Int) := by omega
          have q1 : IntKind.i64.wrap ((k : Int) - 1) = (k : Int) - 1 := IntWalk.i64_in _ (by omega)
          by_cases hyx : x ≤ y
          · have hd : decide (x ≤ y) = true := by simp [hyx]
            go_wp2_with (go_at_call 48; refine (within_any _ _ _ _).mono ?_; rintro e w' ⟨rfl, rfl⟩; try rw [HI.out])
            go_ret
            exact ⟨ret_bool (HN.out (.inr ⟨by omega, by rw [EY.out]; omega⟩)).symm, Below.refl _ _⟩
          · have hd : decide (x ≤ y) = false := by simp; omega
            go_wp2_with (go_at_call 48; refine (within_any _ _ _ _).mono ?_; rintro e w' ⟨rfl, rfl⟩; try rw [HI.out])
            refine ⟨⟨k + 1, by omega, by go_num, ?_, trivial⟩, by simp [intOf]; omega⟩
            intro i h hi1
            by_cases e : i = k
            · subst e
              exact ⟨by rw [EX.out]; exact HI.out, fun _ => by rw [EX.out, EY.out]; omega⟩
            · exact HR.out i h (by omega)
    · have e : k = l.length := by omega
      subst e
      have HR := Lib.hid hr
      clear hr
      go_wp2_with fail
      go_ret
      exact ⟨ret_bool (risesK_all.2 HR.out).symm, Below.refl _ _⟩
set_option maxHeartbeats 1000000 in
set_option maxRecDepth 20000 in
theorem spec_l00Rises (p : Option Addr) (l : List Int) (cap : Nat) (lo hi : Int) (w : World) (hI : IntsAt w p l) (hl : l.length ≤ 1048576) :
    Calls Try.prog 90 #[.slice p l.length cap, .int .i64 lo, .int .i64 hi] w fun e w' => e = .returned (.bool (risesB l lo hi)) ∧ Below w.heap.size w w' := by
  go_enter Try.func90, Try.ntmps90
  go_wp2_with fail
  go_loopw [7] (fun i wr => ∃ k : Nat, k ≤ l.length ∧ i = .int .i64 k ∧ risesK l lo hi k ∧ Below w.heap.size w wr) (fun i _ => l.length - (intOf i).toNat)
  case atStart => exact ⟨0, Nat.zero_le _, rfl, fun i _ h => absurd h (Nat.not_lt_zero _), Below.refl _ _⟩
  case round =>
    obtain ⟨k, hk, rfl, hr, hbel⟩ := hrel
    have hIr := hI.below hbel
    by_cases hlt : k < l.length
    · obtain ⟨a, rfl, hx⟩ := hIr.at_ hlt
      have hno := @risesB_no l lo hi k hlt
      have HR := Lib.hid hr
      clear hr
      obtain ⟨x, ex⟩ : ∃ x, l[k] = x := ⟨_, rfl⟩
      rw [ex] at hx hno
      have EX := Lib.hid ex
      have HN := Lib.hid hno
      clear ex hno
      cases hin : inB x lo hi
      · have HI := Lib.hid hin
        have hq := fun w n => l00In_q x lo hi w n
        simp only [hin] at hq
        clear hin
        go_wp2_with fail
        go_quiet (exact hq _ _)
        go_wp2_with fail
        go_ret
        exact ⟨ret_bool (HN.out (.inl HI.out)).symm, below_drewN hbel _⟩
      · have HI := Lib.hid hin
        have hq := fun w n => l00In_q x lo hi w n
        simp only [hin] at hq
        clear hin
        by_cases h0 : k = 0
        · subst h0
          have hx0 : wr.cell? a = some (.int .i64 x) := by rw [Addr.add_zero'] at hx; exact hx
          go_wp2_with fail
          go_quiet (exact hq _ _)
          go_wp2_with fail
          refine ⟨⟨1, by omega, rfl, ?_, below_drewN hbel _⟩, by simp [intOf]; omega⟩
          intro i h hi1
          have : i = 0 := by omega
          subst this
          exact ⟨by rw [EX.out]; exact HI.out, fun h => absurd h (by omega)⟩
        · obtain ⟨a', ha', hy⟩ := hIr.at_ (k := k - 1) (by omega)
          cases ha'
          obtain ⟨y, ey⟩ : ∃ y, l[k - 1]'(by omega) = y := ⟨_, rfl⟩
          rw [ey] at hy
          have EY := Lib.hid ey
          clear ey
          have g0 : decide (0 < (k : Int)) = true := by simp; omega
          have g1 : decide (0 < k) = true := by simp; omega
          have i0 : 1 ≤ (k : Int) := by omega
          have i1 : 0 ≤ (k : Int) - 1 := by omega
          have i2 : (k : Int) - 1 < (l.length : Int) := by omega
          have q1 : IntKind.i64.wrap ((k : Int) - 1) = (k : Int) - 1 := IntWalk.i64_in _ (by omega)
          by_cases hyx : x ≤ y
          · have hd : decide (x ≤ y) = true := by simp [hyx]
            go_wp2_with fail
            go_quiet (exact hq _ _)
            go_wp2_with fail
            go_ret
            exact ⟨ret_bool (HN.out (.inr ⟨by omega, by rw [EY.out]; omega⟩)).symm, below_drewN hbel _⟩
          · have hd : decide (x ≤ y) = false := by simp; omega
            go_wp2_with fail
            go_quiet (exact hq _ _)
            go_wp2_with fail
            refine ⟨⟨k + 1, by omega, by go_num, ?_, below_drewN hbel _⟩, by simp [intOf]; omega⟩
            intro i h hi1
            by_cases e : i = k
            · subst e
              exact ⟨by rw [EX.out]; exact HI.out, fun _ => by rw [EX.out, EY.out]; omega⟩
            · exact HR.out i h (by omega)
    · have e : k = l.length := by omega
      subst e
      have HR := Lib.hid hr
      clear hr
      go_wp2_with fail
      go_ret
      exact ⟨ret_bool (risesK_all.2 HR.out).symm, hbel⟩
theorem Blk.alloc' {w : World} {g : Nat} {t : TypeId} {cs : Array Value} (h : Blk w g t cs) (o : Obj) : Blk (w.alloc o) g t cs := h.keep ((Below.refl _ _).alloc (Nat.le_refl _) o)
theorem Blk.set32 {w : World} {g : Nat} {t : TypeId} {a b c : Value} (h : Blk w g t #[a, b, c]) (x : Value) : Blk (w.setCell ⟨g, 2, none⟩ x) g t #[a, b, x] := by
  have hB' : w.heap[g]? = some (.cells #[a, b, c] t (0, 0)) := h
  unfold Blk
  simp [World.setCell, Array.getElem?_modify, hB']
theorem Blk.set3 {w : World} {g : Nat} {t : TypeId} {a b c : Value} (h : Blk w g t #[a, b, c]) (x y z : Value) : Blk (((w.setCell ⟨g, 0, none⟩ x).setCell ⟨g, 1, none⟩ y).setCell ⟨g, 2, none⟩ z) g t #[x, y, z] := by
  have hB' : w.heap[g]? = some (.cells #[a, b, c] t (0, 0)) := h
  unfold Blk
  simp [World.setCell, Array.getElem?_modify, hB']
theorem Blk.off {w : World} {g g' : Nat} {t : TypeId} {cs : Array Value} (h : Blk w g t cs) (hne : g ≠ g') (o : Nat) (v : Value) : Blk (w.setCell ⟨g', o, none⟩ v) g t cs := h.asides (Aside.setCell g' o v) (fun e => hne (by injection e with e; exact e.symm))
theorem OwnI.off {w : World} {base g' : Nat} {v : Value} {l : List Int} (h : OwnI w base v l) (hb : g' < base) (o : Nat) (x : Value) : OwnI (w.setCell ⟨g', o, none⟩ x) base v l := h.asides (Aside.setCell g' o x) (fun g hg e => by have := (h.blk hg).1; injection e with e; omega)
set_option maxHeartbeats 4000000 in
set_option maxRecDepth 20000 in
theorem impl_fluxOfTimes (p : Option Addr) (l : List Int) (cap : Nat) (rev cell : Int) (w : World) (hI : IntsAt w p l) (h1 : 1 ≤ l.length) (hl : l.length ≤ 1048576) :
    Calls Try.prog 52 #[.slice p l.length cap, .int .i64 rev, .int .i64 cell] w fun e w' => ∃ q dq, e = .returned (.agg #[.int .i64 cell, .int .i64 (l.headD 0), .slice q (gapsT l rev).length dq]) ∧ OwnS w' w.heap.size q (gapsT l rev) ∧ Below w.heap.size w w' := by
  have hh := headD_at (l := l) (by omega)
  have hlast := lastD_at (l := l) (n := l.length - 1) (by omega)
  have HG : Hid (gapsT l rev = diffW l ++ [IntKind.i64.wrap (IntKind.i64.wrap (rev - l.getLastD 0) + l.headD 0)]) := Lib.hid rfl
  have hIe : ∃ a, p = some a ∧ (w.cell? (a.add 0) = some (.int .i64 (l.headD 0))) := by
    obtain ⟨a, ha, hc⟩ := hI.at_ (k := 0) (by omega)
    exact ⟨a, ha, by rw [hc, hh]⟩
  obtain ⟨a, rfl, hx0⟩ := hIe
  obtain ⟨t0, et0⟩ : ∃ t0, l.headD 0 = t0 := ⟨_, rfl⟩
  rw [et0] at hx0 HG ⊢
  have hx0' : w.cell? a = some (.int .i64 t0) := by rw [Addr.add_zero'] at hx0; exact hx0
  have i00 : (0 : Int) < (l.length : Int) := by omega
  have i000 : 0 < l.length := by omega
  have hab : a.block < w.heap.size := World.block_lt_of_cell? w _ hx0'
  have HT := Lib.hid et0
  have HL := Lib.hid hlast
  clear hh hlast et0
  go_enter Try.func52, Try.ntmps52
  go_wp2_with fail
  have W0 : Below w.heap.size w ((w.alloc (.cells #[.int .i64 0, .int .i64 0, .slice none 0 0] 26)).alloc (.cells #[.int .i64 cell, .int .i64 t0, .slice none 0 0] 26)) := ((Below.refl _ _).alloc (Nat.le_refl _) _).alloc (by simp) _
  have R0 := (Blk.new w 26 #[.int .i64 0, .int .i64 0, .slice none 0 0]).keep ((Below.refl _ _).alloc (Nat.le_refl _) (.cells #[.int .i64 cell, .int .i64 t0, .slice none 0 0] 26))
  have F0 := Blk.new (w.alloc (.cells #[.int .i64 0, .int .i64 0, .slice none 0 0] 26)) 26 #[.int .i64 cell, .int .i64 t0, .slice none 0 0]
  have esz : (w.alloc (.cells #[.int .i64 0, .int .i64 0, .slice none 0 0] 26)).heap.size = w.heap.size + 1 := by simp
  have hz0 : ((w.alloc (.cells #[.int .i64 0, .int .i64 0, .slice none 0 0] 26)).alloc (.cells #[.int .i64 cell, .int .i64 t0, .slice none 0 0] 26)).heap.size = w.heap.size + 2 := by simp
  rw [esz] at F0
  generalize (w.alloc (.cells #[.int .i64 0, .int .i64 0, .slice none 0 0] 26)).alloc (.cells #[.int .i64 cell, .int .i64 t0, .slice none 0 0] 26) = w0 at W0 R0 F0 hz0 ⊢
  clear esz
  obtain ⟨B, eB⟩ : ∃ B, w.heap.size + 2 = B := ⟨_, rfl⟩
  go_loopw [8] (fun i wr => ∃ (k : Nat) (v : Value), 1 ≤ k ∧ k ≤ l.length ∧ i = .int .i64 k ∧ OwnI wr B v (diffW (l.take k)) ∧ Blk wr (w.heap.size + 1) 26 #[.int .i64 cell, .int .i64 t0, v] ∧ Blk wr w.heap.size 26 #[.int .i64 0, .int .i64 0, .slice none 0 0] ∧ Below w.heap.size w wr) (fun i _ => l.length - (intOf i).toNat)
  case atStart => exact ⟨1, .slice none 0 0, Nat.le_refl _, h1, rfl, by rw [diffW_one]; exact OwnI.none_ _ _, F0, R0, W0⟩
  case round =>
    obtain ⟨k, v, hk1, hk, rfl, hown, hF, hR, hbel⟩ := hrel
    have hzr : B ≤ wr.heap.size := by have := hF.lt; omega
    obtain ⟨f0, f1, f2⟩ := hF.cell3
    have ff := hF.frozen
    have hfl := hF.lt
    have halt : a.block < wr.heap.size := Nat.lt_of_lt_of_le hab hbel.size
    by_cases hlt : k < l.length
    · obtain ⟨b, eb, hx⟩ := (hI.below hbel).at_ hlt
      cases eb
      obtain ⟨b, eb, hy⟩ := (hI.below hbel).at_ (k := k - 1) (by omega)
      cases eb
      have hd := diffW_take hk1 hlt
      have hdl : (diffW (l.take k)).length ≤ 1048576 := by rw [diffW_len]; simp; omega
      obtain ⟨x, ex⟩ : ∃ x, l[k] = x := ⟨_, rfl⟩
      obtain ⟨y, ey⟩ : ∃ y, l[k - 1]'(by omega) = y := ⟨_, rfl⟩
      rw [ex] at hx hd
      rw [ey] at hy hd
      obtain ⟨z, ez⟩ : ∃ z, IntKind.i64.wrap (x - y) = z := ⟨_, rfl⟩
      rw [ez] at hd
      have HD := Lib.hid hd
      clear hd ex ey
      have i0 : 1 ≤ (k : Int) := by omega
      have i1 : 0 ≤ (k : Int) - 1 := by omega
      have i2 : (k : Int) - 1 < (l.length : Int) := by omega
      have q1 : IntKind.i64.wrap ((k : Int) - 1) = (k : Int) - 1 := IntWalk.i64_in _ (by omega)
      have hxb : (a.add k).block < wr.heap.size := World.block_lt_of_cell? wr _ hx
      have hyb : (a.add (k - 1)).block < wr.heap.size := World.block_lt_of_cell? wr _ hy
      go_wp2_with fail
      go_region_law (go_loud (refine step_append_int rfl _ _ rfl B v (diffW (l.take k)) z _ rfl rfl (by first | exact hown.alloc _ | exact (hown.alloc _).drew) (by simp) (by omega) (by first | omega | (simp; omega)) ?_; intro v1 w1 hown1 hb1; obtain ⟨q1, c1, rfl, hs1⟩ := hown1.open_; have F1 := Blk.below (by exact hF.alloc' _) hb1 (by omega); obtain ⟨p0, p1, p2⟩ := F1.cell3; have pf := F1.frozen; have R1 := Blk.below (by exact hR.alloc' _) hb1 (by omega); have hz1 := hb1.size; simp at hz1))
      all_goals
        have hown2 : OwnI w1 B (.slice q1 ((diffW (l.take k)).length + 1) c1) (diffW (l.take (k + 1))) := by
          rw [HD.out]
          simpa using hown1
        have hbn : Below w.heap.size w w1 := by first | exact (hbel.alloc hbel.size (.cells #[.int .i64 z] 2)).drew.trans (hb1.mono (B' := w.heap.size) (by omega)) | exact (hbel.alloc hbel.size (.cells #[.int .i64 z] 2)).trans (hb1.mono (B' := w.heap.size) (by omega))
        go_wp2_with fail
        go_roundw
        case rel => exact ⟨k + 1, _, by omega, by omega, by go_num, hown2.off (g' := w.heap.size + 1) (by omega) 2 _, F1.set32 _, R1.off (g' := w.heap.size + 1) (by omega) 2 _, hbn.setCell (p := ⟨w.heap.size + 1, 2, none⟩) (Nat.le_succ _) _⟩
        case measure => simp [intOf]; omega
    · have ek : k = l.length := by omega
      subst ek
      rw [List.take_length] at hown
      obtain ⟨b, eb, hy⟩ := (hI.below hbel).at_ (k := l.length - 1) (by omega)
      cases eb
      rw [HL.out] at hy
      have hdl : (diffW l).length ≤ 1048576 := by rw [diffW_len]; omega
      obtain ⟨y, ey⟩ : ∃ y, l.getLastD 0 = y := ⟨_, rfl⟩
      have hg := HG.out
      rw [ey] at hy hg
      obtain ⟨z1, ez1⟩ : ∃ z1, IntKind.i64.wrap (rev - y) = z1 := ⟨_, rfl⟩
      rw [ez1] at hg
      obtain ⟨z, ez⟩ : ∃ z, IntKind.i64.wrap (z1 + t0) = z := ⟨_, rfl⟩
      rw [ez] at hg
      have HGG := Lib.hid hg
      clear hg ey HL
      have i0 : 1 ≤ (l.length : Int) := by omega
      have i1 : 0 ≤ (l.length : Int) - 1 := by omega
      have i2 : (l.length : Int) - 1 < (l.length : Int) := by omega
      have q1 : IntKind.i64.wrap ((l.length : Int) - 1) = (l.length : Int) - 1 := IntWalk.i64_in _ (by omega)
      have hx0r : wr.cell? a = some (.int .i64 t0) := (hbel.cell (p := a) hab).trans hx0'
      have hyb : (a.add (l.length - 1)).block < wr.heap.size := World.block_lt_of_cell? wr _ hy
      go_wp2_with fail
      go_region_law (refine step_append_int rfl _ _ rfl B v (diffW l) z _ rfl rfl (by first | exact hown.alloc _ | exact (hown.alloc _).drew) (by simp) (by omega) (by first | omega | (simp; omega)) ?_; intro v1 w1 hown1 hb1; obtain ⟨q1, c1, rfl, hs1⟩ := hown1.open_; have F1 := Blk.below (by exact hF.alloc' _) hb1 (by omega); obtain ⟨p0, p1, p2⟩ := F1.cell3; have pf := F1.frozen; have R1 := Blk.below (by exact hR.alloc' _) hb1 (by omega); have hz1 := hb1.size; simp at hz1)
      all_goals
        have hown2 : OwnI w1 B (.slice q1 ((diffW l).length + 1) c1) (gapsT l rev) := by
          rw [HGG.out]
          simpa using hown1
        have hbn : Below w.heap.size w w1 := by first | exact (hbel.alloc hbel.size (.cells #[.int .i64 z] 2)).drew.trans (hb1.mono (B' := w.heap.size) (by omega)) | exact (hbel.alloc hbel.size (.cells #[.int .i64 z] 2)).trans (hb1.mono (B' := w.heap.size) (by omega))
        have hgl : (gapsT l rev).length = (diffW l).length + 1 := by rw [HGG.out]; simp
        have F2 := F1.set32 (.slice q1 ((diffW l).length + 1) c1)
        have R2 := R1.off (g' := w.heap.size + 1) (by omega) 2 (.slice q1 ((diffW l).length + 1) c1)
        obtain ⟨s0, s1, s2⟩ := F2.cell3
        obtain ⟨r0, r1, r2⟩ := R2.cell3
        have rf := R2.frozen
        have hown3 := hown2.off (g' := w.heap.size + 1) (by omega) 2 (.slice q1 ((diffW l).length + 1) c1)
        have hbn2 := hbn.setCell (p := ⟨w.heap.size + 1, 2, none⟩) (Nat.le_succ _) (.slice q1 ((diffW l).length + 1) c1)
        clear p0 p1 p2 f0 f1 f2
        have R3 := R2.set3 (.int .i64 cell) (.int .i64 t0) (.slice q1 ((diffW l).length + 1) c1)
        obtain ⟨e0, e1, e2⟩ := R3.cell3
        generalize w1.setCell ⟨w.heap.size + 1, 2, none⟩ (.slice q1 ((diffW l).length + 1) c1) = w5 at F2 R2 s0 s1 s2 r0 r1 r2 rf hown3 hbn2 R3 e0 e1 e2 ⊢
        go_wp2_with fail
        refine bodyPost_ret (v := .agg #[.int .i64 cell, .int .i64 t0, .slice q1 ((diffW l).length + 1) c1]) (by simp [results, Try.results52, go_sem, e0, e1, e2]) rfl ?_
        obtain ⟨qq, dd, hqq, hS⟩ := (((hown3.off (g' := w.heap.size) (by omega) 0 (.int .i64 cell)).off (g' := w.heap.size) (by omega) 1 (.int .i64 t0)).off (g' := w.heap.size) (by omega) 2 (.slice q1 ((diffW l).length + 1) c1)).open_
        injection hqq with h3 h4 h5
        subst h3
        exact ⟨q1, c1, by rw [hgl], hS.mono (by omega), ((hbn2.setCell (p := ⟨w.heap.size, 0, none⟩) (Nat.le_refl _) _).setCell (p := ⟨w.heap.size, 1, none⟩) (Nat.le_refl _) _).setCell (p := ⟨w.heap.size, 2, none⟩) (Nat.le_refl _) _⟩
end Go.Proofs.Ytfdcainjppljhaa
namespace Go.Proofs.Ytfdcainjppljhaa
open Go.RowKit
set_option maxHeartbeats 4000000 in
set_option maxRecDepth 20000 in
theorem spec_l02Times (p : Option Addr) (l : List Int) (cap : Nat) (rev cell : Int) (w : World) (hI : IntsAt w p l) (h1 : 1 ≤ l.length) (hl : l.length ≤ 1048576) :
    Calls Try.prog 44 #[.int .i64 cell, .slice p l.length cap, .int .i64 rev] w fun e w' => ∃ q dq, e = .returned (.agg #[.int .i64 cell, .int .i64 (l.headD 0), .slice q (gapsT l rev).length dq]) ∧ OwnS w' w.heap.size q (gapsT l rev) ∧ Below w.heap.size w w' := by
  have hh := headD_at (l := l) (by omega)
  have hlast := lastD_at (l := l) (n := l.length - 1) (by omega)
  have HG : Hid (gapsT l rev = diffW l ++ [IntKind.i64.wrap (IntKind.i64.wrap (rev - l.getLastD 0) + l.headD 0)]) := Lib.hid rfl
  have hIe : ∃ a, p = some a ∧ (w.cell? (a.add 0) = some (.int .i64 (l.headD 0))) := by
    obtain ⟨a, ha, hc⟩ := hI.at_ (k := 0) (by omega)
    exact ⟨a, ha, by rw [hc, hh]⟩
  obtain ⟨a, rfl, hx0⟩ := hIe
  obtain ⟨t0, et0⟩ : ∃ t0, l.headD 0 = t0 := ⟨_, rfl⟩
  rw [et0] at hx0 HG ⊢
  have hx0' : w.cell? a = some (.int .i64 t0) := by rw [Addr.add_zero'] at hx0; exact hx0
  have i00 : (0 : Int) < (l.length : Int) := by omega
  have i000 : 0 < l.length := by omega
  have hab : a.block < w.heap.size := World.block_lt_of_cell? w _ hx0'
  have HT := Lib.hid et0
  have HL := Lib.hid hlast
  clear hh hlast et0
  go_enter Try.func44, Try.ntmps44
  go_wp2_with fail
  have W0 : Below w.heap.size w ((w.alloc (.cells #[.int .i64 0, .int .i64 0, .slice none 0 0] 26)).alloc (.cells #[.int .i64 cell, .int .i64 t0, .slice none 0 0] 26)) := ((Below.refl _ _).alloc (Nat.le_refl _) _).alloc (by simp) _
  have R0 := (Blk.new w 26 #[.int .i64 0, .int .i64 0, .slice none 0 0]).keep ((Below.refl _ _).alloc (Nat.le_refl _) (.cells #[.int .i64 cell, .int .i64 t0, .slice none 0 0] 26))
  have F0 := Blk.new (w.alloc (.cells #[.int .i64 0, .int .i64 0, .slice none 0 0] 26)) 26 #[.int .i64 cell, .int .i64 t0, .slice none 0 0]
  have esz : (w.alloc (.cells #[.int .i64 0, .int .i64 0, .slice none 0 0] 26)).heap.size = w.heap.size + 1 := by simp
  have hz0 : ((w.alloc (.cells #[.int .i64 0, .int .i64 0, .slice none 0 0] 26)).alloc (.cells #[.int .i64 cell, .int .i64 t0, .slice none 0 0] 26)).heap.size = w.heap.size + 2 := by simp
  rw [esz] at F0
  generalize (w.alloc (.cells #[.int .i64 0, .int .i64 0, .slice none 0 0] 26)).alloc (.cells #[.int .i64 cell, .int .i64 t0, .slice none 0 0] 26) = w0 at W0 R0 F0 hz0 ⊢
  clear esz
  obtain ⟨B, eB⟩ : ∃ B, w.heap.size + 2 = B := ⟨_, rfl⟩
  go_loopw [8] (fun i wr => ∃ (k : Nat) (v : Value), 1 ≤ k ∧ k ≤ l.length ∧ i = .int .i64 k ∧ OwnI wr B v (diffW (l.take k)) ∧ Blk wr (w.heap.size + 1) 26 #[.int .i64 cell, .int .i64 t0, v] ∧ Blk wr w.heap.size 26 #[.int .i64 0, .int .i64 0, .slice none 0 0] ∧ Below w.heap.size w wr) (fun i _ => l.length - (intOf i).toNat)
  case atStart => exact ⟨1, .slice none 0 0, Nat.le_refl _, h1, rfl, by rw [diffW_one]; exact OwnI.none_ _ _, F0, R0, W0⟩
  case round =>
    obtain ⟨k, v, hk1, hk, rfl, hown, hF, hR, hbel⟩ := hrel
    have hzr : B ≤ wr.heap.size := by have := hF.lt; omega
    obtain ⟨f0, f1, f2⟩ := hF.cell3
    have ff := hF.frozen
    have hfl := hF.lt
    have halt : a.block < wr.heap.size := Nat.lt_of_lt_of_le hab hbel.size
    by_cases hlt : k < l.length
    · obtain ⟨b, eb, hx⟩ := (hI.below hbel).at_ hlt
      cases eb
      obtain ⟨b, eb, hy⟩ := (hI.below hbel).at_ (k := k - 1) (by omega)
      cases eb
      have hd := diffW_take hk1 hlt
      have hdl : (diffW (l.take k)).length ≤ 1048576 := by rw [diffW_len]; simp; omega
      obtain ⟨x, ex⟩ : ∃ x, l[k] = x := ⟨_, rfl⟩
      obtain ⟨y, ey⟩ : ∃ y, l[k - 1]'(by omega) = y := ⟨_, rfl⟩
      rw [ex] at hx hd
      rw [ey] at hy hd
      obtain ⟨z, ez⟩ : ∃ z, IntKind.i64.wrap (x - y) = z := ⟨_, rfl⟩
      rw [ez] at hd
      have HD := Lib.hid hd
      clear hd ex ey
      have i0 : 1 ≤ (k : Int) := by omega
      have i1 : 0 ≤ (k : Int) - 1 := by omega
      have i2 : (k : Int) - 1 < (l.length : Int) := by omega
      have q1 : IntKind.i64.wrap ((k : Int) - 1) = (k : Int) - 1 := IntWalk.i64_in _ (by omega)
      have hxb : (a.add k).block < wr.heap.size := World.block_lt_of_cell? wr _ hx
      have hyb : (a.add (k - 1)).block < wr.heap.size := World.block_lt_of_cell? wr _ hy
      go_wp2_with fail
      go_region_law (go_loud (refine step_append_int rfl _ _ rfl B v (diffW (l.take k)) z _ rfl rfl (by first | exact hown.alloc _ | exact (hown.alloc _).drew) (by simp) (by omega) (by first | omega | (simp; omega)) ?_; intro v1 w1 hown1 hb1; obtain ⟨q1, c1, rfl, hs1⟩ := hown1.open_; have F1 := Blk.below (by exact hF.alloc' _) hb1 (by omega); obtain ⟨p0, p1, p2⟩ := F1.cell3; have pf := F1.frozen; have R1 := Blk.below (by exact hR.alloc' _) hb1 (by omega); have hz1 := hb1.size; simp at hz1))
      all_goals
        have hown2 : OwnI w1 B (.slice q1 ((diffW (l.take k)).length + 1) c1) (diffW (l.take (k + 1))) := by
          rw [HD.out]
          simpa using hown1
        have hbn : Below w.heap.size w w1 := by first | exact (hbel.alloc hbel.size (.cells #[.int .i64 z] 2)).drew.trans (hb1.mono (B' := w.heap.size) (by omega)) | exact (hbel.alloc hbel.size (.cells #[.int .i64 z] 2)).trans (hb1.mono (B' := w.heap.size) (by omega))
        go_wp2_with fail
        go_roundw
        case rel => exact ⟨k + 1, _, by omega, by omega, by go_num, hown2.off (g' := w.heap.size + 1) (by omega) 2 _, F1.set32 _, R1.off (g' := w.heap.size + 1) (by omega) 2 _, hbn.setCell (p := ⟨w.heap.size + 1, 2, none⟩) (Nat.le_succ _) _⟩
        case measure => simp [intOf]; omega
    · have ek : k = l.length := by omega
      subst ek
      rw [List.take_length] at hown
      obtain ⟨b, eb, hy⟩ := (hI.below hbel).at_ (k := l.length - 1) (by omega)
      cases eb
      rw [HL.out] at hy
      have hdl : (diffW l).length ≤ 1048576 := by rw [diffW_len]; omega
      obtain ⟨y, ey⟩ : ∃ y, l.getLastD 0 = y := ⟨_, rfl⟩
      have hg := HG.out
      rw [ey] at hy hg
      obtain ⟨z1, ez1⟩ : ∃ z1, IntKind.i64.wrap (rev - y) = z1 := ⟨_, rfl⟩
      rw [ez1] at hg
      obtain ⟨z, ez⟩ : ∃ z, IntKind.i64.wrap (z1 + t0) = z := ⟨_, rfl⟩
      rw [ez] at hg
      have HGG := Lib.hid hg
      clear hg ey HL
      have i0 : 1 ≤ (l.length : Int) := by omega
      have i1 : 0 ≤ (l.length : Int) - 1 := by omega
      have i2 : (l.length : Int) - 1 < (l.length : Int) := by omega
      have q1 : IntKind.i64.wrap ((l.length : Int) - 1) = (l.length : Int) - 1 := IntWalk.i64_in _ (by omega)
      have hx0r : wr.cell? a = some (.int .i64 t0) := (hbel.cell (p := a) hab).trans hx0'
      have hyb : (a.add (l.length - 1)).block < wr.heap.size := World.block_lt_of_cell? wr _ hy
      go_wp2_with fail
      go_region_law (refine step_append_int rfl _ _ rfl B v (diffW l) z _ rfl rfl (by first | exact hown.alloc _ | exact (hown.alloc _).drew) (by simp) (by omega) (by first | omega | (simp; omega)) ?_; intro v1 w1 hown1 hb1; obtain ⟨q1, c1, rfl, hs1⟩ := hown1.open_; have F1 := Blk.below (by exact hF.alloc' _) hb1 (by omega); obtain ⟨p0, p1, p2⟩ := F1.cell3; have pf := F1.frozen; have R1 := Blk.below (by exact hR.alloc' _) hb1 (by omega); have hz1 := hb1.size; simp at hz1)
      all_goals
        have hown2 : OwnI w1 B (.slice q1 ((diffW l).length + 1) c1) (gapsT l rev) := by
          rw [HGG.out]
          simpa using hown1
        have hbn : Below w.heap.size w w1 := by first | exact (hbel.alloc hbel.size (.cells #[.int .i64 z] 2)).drew.trans (hb1.mono (B' := w.heap.size) (by omega)) | exact (hbel.alloc hbel.size (.cells #[.int .i64 z] 2)).trans (hb1.mono (B' := w.heap.size) (by omega))
        have hgl : (gapsT l rev).length = (diffW l).length + 1 := by rw [HGG.out]; simp
        have F2 := F1.set32 (.slice q1 ((diffW l).length + 1) c1)
        have R2 := R1.off (g' := w.heap.size + 1) (by omega) 2 (.slice q1 ((diffW l).length + 1) c1)
        obtain ⟨s0, s1, s2⟩ := F2.cell3
        obtain ⟨r0, r1, r2⟩ := R2.cell3
        have rf := R2.frozen
        have hown3 := hown2.off (g' := w.heap.size + 1) (by omega) 2 (.slice q1 ((diffW l).length + 1) c1)
        have hbn2 := hbn.setCell (p := ⟨w.heap.size + 1, 2, none⟩) (Nat.le_succ _) (.slice q1 ((diffW l).length + 1) c1)
        clear p0 p1 p2 f0 f1 f2
        have R3 := R2.set3 (.int .i64 cell) (.int .i64 t0) (.slice q1 ((diffW l).length + 1) c1)
        obtain ⟨e0, e1, e2⟩ := R3.cell3
        generalize w1.setCell ⟨w.heap.size + 1, 2, none⟩ (.slice q1 ((diffW l).length + 1) c1) = w5 at F2 R2 s0 s1 s2 r0 r1 r2 rf hown3 hbn2 R3 e0 e1 e2 ⊢
        go_wp2_with fail
        refine bodyPost_ret (v := .agg #[.int .i64 cell, .int .i64 t0, .slice q1 ((diffW l).length + 1) c1]) (by simp [results, Try.results44, go_sem, e0, e1, e2]) rfl ?_
        obtain ⟨qq, dd, hqq, hS⟩ := (((hown3.off (g' := w.heap.size) (by omega) 0 (.int .i64 cell)).off (g' := w.heap.size) (by omega) 1 (.int .i64 t0)).off (g' := w.heap.size) (by omega) 2 (.slice q1 ((diffW l).length + 1) c1)).open_
        injection hqq with h3 h4 h5
        subst h3
        exact ⟨q1, c1, by rw [hgl], hS.mono (by omega), ((hbn2.setCell (p := ⟨w.heap.size, 0, none⟩) (Nat.le_refl _) _).setCell (p := ⟨w.heap.size, 1, none⟩) (Nat.le_refl _) _).setCell (p := ⟨w.heap.size, 2, none⟩) (Nat.le_refl _) _⟩
end Go.Proofs.Ytfdcainjppljhaa
namespace Go.Proofs.Ytfdcainjppljhaa
theorem diffW_sum : ∀ (t : List Int), t ≠ [] → (∀ x ∈ t, 0 ≤ x ∧ x ≤ 9223372036854775807) → (diffW t).sum = t.getLastD 0 - t.headD 0
  | [], h, _ => absurd rfl h
  | [a], _, _ => by simp [diffW]
  | a :: b :: l, _, hb => by
    have ha := hb a (by simp)
    have hbb := hb b (by simp)
    have ih := diffW_sum (b :: l) (by simp) (fun x hx => hb x (by simp [hx]))
    have hw : IntKind.i64.wrap (b - a) = b - a := IntWalk.i64_in _ (by omega)
    simp only [diffW, List.sum_cons, hw, ih]
    simp only [List.headD_cons, List.getLastD_cons]
    cases l <;> simp <;> omega
theorem getLastD_mem' {l : List Int} (h : l ≠ []) : l.getLastD 0 ∈ l := lastD_mem (by cases l with | nil => exact absurd rfl h | cons a l => simp)
theorem headD_mem {l : List Int} (h : l ≠ []) : l.headD 0 ∈ l := by
  cases l with
  | nil => exact absurd rfl h
  | cons a l => simp
theorem risesB_mem {l : List Int} {lo hi : Int} (h : risesB l lo hi = true) : ∀ x ∈ l, lo ≤ x ∧ x ≤ hi := by
  unfold risesB at h
  rw [Bool.and_eq_true] at h
  intro x hx
  exact inB_iff.1 (List.all_eq_true.1 h.1 x hx)
theorem make_ok {t : List Int} {rev cell : Int} (ht : t ≠ []) (hr : -9223372036854775808 ≤ rev ∧ rev ≤ 9223372036854775807) :
    (risesB t 0 (IntKind.i64.wrap (rev - 1)) && (decide (rev ≤ 2000000) && fluxOk cell (t.headD 0) (gapsT t rev))) = timesOk t rev cell := by
  by_cases h1 : inB rev 1 2000000 = true
  · have h2 := inB_iff.1 h1
    have hw : IntKind.i64.wrap (rev - 1) = rev - 1 := IntWalk.i64_in _ (by omega)
    unfold timesOk
    rw [h1, hw, decide_eq_true h2.2]
    simp
  · have h2 : timesOk t rev cell = false := by unfold timesOk; simp only [Bool.not_eq_true] at h1; rw [h1]; rfl
    rw [h2]
    by_cases h3 : rev ≤ 2000000
    · have h4 : rev ≤ 0 := by
        rcases Int.lt_or_le 0 rev with h | h
        · exact absurd (inB_yes ⟨by omega, h3⟩) h1
        · exact h
      cases h5 : risesB t 0 (IntKind.i64.wrap (rev - 1))
      · rfl
      · have hm := risesB_mem h5
        have hh := hm _ (headD_mem ht)
        have hl := hm _ (getLastD_mem' ht)
        have hmin : rev = -9223372036854775808 := by
          rcases Int.lt_or_le (-9223372036854775808) rev with h | h
          · rw [show IntKind.i64.wrap (rev - 1) = rev - 1 from IntWalk.i64_in _ (by omega)] at hh
            omega
          · omega
        subst hmin
        cases h6 : fluxOk cell (t.headD 0) (gapsT t (-9223372036854775808))
        · simp
        · exfalso
          obtain ⟨-, -, hg, -, -, hs⟩ := fluxOk_bd h6
          rw [show IntKind.i64.wrap (-9223372036854775808 - 1) = 9223372036854775807 by decide] at hm hh hl
          have hsum := diffW_sum t ht hm
          have hlast := hg (IntKind.i64.wrap (IntKind.i64.wrap (-9223372036854775808 - t.getLastD 0) + t.headD 0)) (by simp [gapsT])
          have hd : 0 ≤ (diffW t).sum := by
            have := sumI_bd (l := diffW t) (lo := 0) (hi := 2000000) (fun x hx => by have := hg x (by simp [gapsT, hx]); omega)
            omega
          have hs2 : (gapsT t (-9223372036854775808)).sum = (diffW t).sum + IntKind.i64.wrap (IntKind.i64.wrap (-9223372036854775808 - t.getLastD 0) + t.headD 0) := by simp [gapsT]
          rw [hs2] at hs
          generalize t.getLastD 0 = u at *
          generalize t.headD 0 = v at *
          simp only [IntKind.wrap_i64] at hlast hs
          omega
    · rw [decide_eq_false h3]
      simp
end Go.Proofs.Ytfdcainjppljhaa
namespace Go.Proofs.Ytfdcainjppljhaa
open Go.RowKit
set_option linter.unusedVariables false

theorem Blk.drew {w : World} {g : Nat} {t : TypeId} {cs : Array Value} (h : Blk w g t cs) : Blk w.drew g t cs := h
theorem OwnS.offS {w : World} {base g' : Nat} {p : Option Addr} {l : List Int} (h : OwnS w base p l) (hb : g' < base) (o : Nat) (x : Value) : OwnS (w.setCell ⟨g', o, none⟩ x) base p l := h.asides (Aside.setCell g' o x) (fun hl g hp e => by have := (h.lt hl hp).1; injection e with e; omega)

set_option maxHeartbeats 2000000 in
set_option maxRecDepth 20000 in
theorem spec_l04Make (p : Option Addr) (l : List Int) (cap : Nat) (rev cell : Int) (w : World) (hI : IntsAt w p l) (h1 : 1 ≤ l.length) (hl : l.length ≤ 1048576) (hr : -9223372036854775808 ≤ rev ∧ rev ≤ 9223372036854775807) :
    Calls Try.prog 91 #[.slice p l.length cap, .int .i64 rev, .int .i64 cell] w fun e w' => ∃ (x y : Int) (q : Option Addr) (m : List Int) (dq : Nat), e = .returned (.tuple #[.agg #[.int .i64 x, .int .i64 y, .slice q m.length dq], .bool (timesOk l rev cell)]) ∧ (timesOk l rev cell = true → x = cell ∧ y = l.headD 0 ∧ m = gapsT l rev) ∧ OwnS w' w.heap.size q m ∧ Below w.heap.size w w' := by
  have hmk := make_ok (t := l) (rev := rev) (cell := cell) (by intro e; rw [e] at h1; simp at h1) hr
  have hgl : (gapsT l rev).length ≤ 1048576 := by rw [gapsT_len _ _ h1]; exact hl
  obtain ⟨t0, et0⟩ : ∃ t0, l.headD 0 = t0 := ⟨_, rfl⟩
  have htm := fun w hI => spec_l02Times p l cap rev cell w hI h1 hl
  simp only [et0] at htm
  rw [et0] at hmk
  rw [et0]
  clear et0
  obtain ⟨r1, er1⟩ : ∃ r1, IntKind.i64.wrap (rev - 1) = r1 := ⟨_, rfl⟩
  rw [er1] at hmk
  have R0 := Blk.new w 26 #[.int .i64 0, .int .i64 0, .slice none 0 0]
  have W0 : Below w.heap.size w (w.alloc (.cells #[.int .i64 0, .int .i64 0, .slice none 0 0] 26)) := (Below.refl _ _).alloc (Nat.le_refl _) _
  cases hri : risesB l 0 r1
  · have HR := Lib.hid hri
    have HK : Hid (timesOk l rev cell = false) := Lib.hid (by rw [← hmk, hri]; rfl)
    clear hri hmk
    go_enter Try.func91, Try.ntmps91
    go_wp2_with fail
    generalize w.alloc (.cells #[.int .i64 0, .int .i64 0, .slice none 0 0] 26) = w0 at R0 W0 ⊢
    refine (spec_l00Rises _ _ _ _ _ _ (hI.below W0) hl).mono ?_
    rintro e w1 ⟨rfl, hb1⟩
    rw [HR.out]
    have R1 := R0.keep hb1
    have hw1 := below_st W0 hb1 (Nat.le_refl _)
    obtain ⟨r0, r1', r2⟩ := R1.cell3
    have rf := R1.frozen
    obtain ⟨e0, e1, e2⟩ := (R1.set3 (.int .i64 0) (.int .i64 0) (.slice none 0 0)).cell3
    go_wp2_with fail
    refine bodyPost_ret (v := .tuple #[.agg #[.int .i64 0, .int .i64 0, .slice none 0 0], .bool false]) (by simp [results, Try.results91, go_sem, e0, e1, e2]) rfl ?_
    rw [HK.out]
    exact ⟨0, 0, none, [], 0, rfl, (fun h => absurd h (by decide)), OwnS.nil_ _ _ _, ((hw1.setCell (p := ⟨w.heap.size, 0, none⟩) (Nat.le_refl _) _).setCell (p := ⟨w.heap.size, 1, none⟩) (Nat.le_refl _) _).setCell (p := ⟨w.heap.size, 2, none⟩) (Nat.le_refl _) _⟩
  by_cases h2 : rev ≤ 2000000
  rotate_left
  · have HR := Lib.hid hri
    have hd : decide (2000000 < rev) = true := by simp; omega
    have HK : Hid (timesOk l rev cell = false) := Lib.hid (by rw [← hmk, hri, decide_eq_false h2]; rfl)
    clear hri hmk h2
    go_enter Try.func91, Try.ntmps91
    go_wp2_with fail
    generalize w.alloc (.cells #[.int .i64 0, .int .i64 0, .slice none 0 0] 26) = w0 at R0 W0 ⊢
    refine (spec_l00Rises _ _ _ _ _ _ (hI.below W0) hl).mono ?_
    rintro e w1 ⟨rfl, hb1⟩
    rw [HR.out]
    have R1 := R0.keep hb1
    have hw1 := below_st W0 hb1 (Nat.le_refl _)
    obtain ⟨r0, r1', r2⟩ := R1.cell3
    have rf := R1.frozen
    obtain ⟨e0, e1, e2⟩ := (R1.set3 (.int .i64 0) (.int .i64 0) (.slice none 0 0)).cell3
    go_wp2_with fail
    refine bodyPost_ret (v := .tuple #[.agg #[.int .i64 0, .int .i64 0, .slice none 0 0], .bool false]) (by simp [results, Try.results91, go_sem, e0, e1, e2]) rfl ?_
    rw [HK.out]
    exact ⟨0, 0, none, [], 0, rfl, (fun h => absurd h (by decide)), OwnS.nil_ _ _ _, ((hw1.setCell (p := ⟨w.heap.size, 0, none⟩) (Nat.le_refl _) _).setCell (p := ⟨w.heap.size, 1, none⟩) (Nat.le_refl _) _).setCell (p := ⟨w.heap.size, 2, none⟩) (Nat.le_refl _) _⟩
  have HR := Lib.hid hri
  have hd : decide (2000000 < rev) = false := by simp; omega
  have HK : Hid (timesOk l rev cell = fluxOk cell t0 (gapsT l rev)) := Lib.hid (by rw [← hmk, hri, decide_eq_true h2]; rfl)
  clear hri hmk h2
  cases hok : fluxOk cell t0 (gapsT l rev)
  all_goals
    have HO := Lib.hid hok
    clear hok
    go_enter Try.func91, Try.ntmps91
    go_wp2_with fail
    generalize w.alloc (.cells #[.int .i64 0, .int .i64 0, .slice none 0 0] 26) = w0 at R0 W0 ⊢
    refine (spec_l00Rises _ _ _ _ _ _ (hI.below W0) hl).mono ?_
    rintro e w1 ⟨rfl, hb1⟩
    rw [HR.out]
    have R1 := R0.keep hb1
    have hw1 := below_st W0 hb1 (Nat.le_refl _)
    clear hb1
    go_wp2_with fail
    refine (htm _ (hI.below hw1)).mono ?_
    rintro e w2 ⟨q, dq, rfl, S2, hb2⟩
    have R2 := R1.keep hb2
    have hw2 := below_st hw1 hb2 (Nat.le_refl _)
    have hz2 := hb2.size
    clear hb2
    have F2 := Blk.new w2 26 #[.int .i64 cell, .int .i64 t0, .slice q (gapsT l rev).length dq]
    have R3 := R2.alloc' (.cells #[.int .i64 cell, .int .i64 t0, .slice q (gapsT l rev).length dq] 26)
    have S3 := S2.below ((Below.refl _ w2).alloc (Nat.le_refl _) (.cells #[.int .i64 cell, .int .i64 t0, .slice q (gapsT l rev).length dq] 26))
    have hw3 := hw2.alloc hw2.size (.cells #[.int .i64 cell, .int .i64 t0, .slice q (gapsT l rev).length dq] 26)
    go_wp2_with fail
    generalize w2.alloc (.cells #[.int .i64 cell, .int .i64 t0, .slice q (gapsT l rev).length dq] 26) = w3 at F2 R3 S3 hw3 ⊢
    refine (spec_l02Ok _ _ _ _ _ _ _ S3.ints hgl F2).mono ?_
    rintro e w4 ⟨rfl, hb4⟩
    rw [HO.out]
    have R4 := R3.keep hb4
    have F4 := F2.keep hb4
    have S4 := S3.below hb4
    have hw4 := below_st hw3 hb4 (Nat.le_refl _)
    obtain ⟨r0, r1', r2⟩ := R4.cell3
    have rf := R4.frozen
    obtain ⟨f0, f1, f2⟩ := F4.cell3
  · obtain ⟨e0, e1, e2⟩ := (R4.set3 (.int .i64 0) (.int .i64 0) (.slice none 0 0)).cell3
    go_wp2_with fail
    refine bodyPost_ret (v := .tuple #[.agg #[.int .i64 0, .int .i64 0, .slice none 0 0], .bool false]) (by simp [results, Try.results91, go_sem, e0, e1, e2]) rfl ?_
    rw [HK.out, HO.out]
    exact ⟨0, 0, none, [], 0, rfl, (fun h => absurd h (by decide)), OwnS.nil_ _ _ _, ((hw4.setCell (p := ⟨w.heap.size, 0, none⟩) (Nat.le_refl _) _).setCell (p := ⟨w.heap.size, 1, none⟩) (Nat.le_refl _) _).setCell (p := ⟨w.heap.size, 2, none⟩) (Nat.le_refl _) _⟩
  · obtain ⟨e0, e1, e2⟩ := (R4.set3 (.int .i64 cell) (.int .i64 t0) (.slice q (gapsT l rev).length dq)).cell3
    have hz1 := hw1.size
    have hz0 := R1.lt
    have S5 := ((S4.offS (g' := w.heap.size) hz0 0 (.int .i64 cell)).offS (g' := w.heap.size) hz0 1 (.int .i64 t0)).offS (g' := w.heap.size) hz0 2 (.slice q (gapsT l rev).length dq)
    go_wp2_with fail
    refine bodyPost_ret (v := .tuple #[.agg #[.int .i64 cell, .int .i64 t0, .slice q (gapsT l rev).length dq], .bool true]) (by simp [results, Try.results91, go_sem, e0, e1, e2]) rfl ?_
    rw [HK.out, HO.out]
    exact ⟨cell, t0, q, gapsT l rev, dq, rfl, fun _ => ⟨rfl, rfl, rfl⟩, S5.mono hz1, ((hw4.setCell (p := ⟨w.heap.size, 0, none⟩) (Nat.le_refl _) _).setCell (p := ⟨w.heap.size, 1, none⟩) (Nat.le_refl _) _).setCell (p := ⟨w.heap.size, 2, none⟩) (Nat.le_refl _) _⟩
set_option maxHeartbeats 2000000 in
set_option maxRecDepth 20000 in
theorem impl_timedFlux (p : Option Addr) (l : List Int) (cap : Nat) (rev cell : Int) (w : World) (hI : IntsAt w p l) (h1 : 1 ≤ l.length) (hl : l.length ≤ 1048576) (hr : -9223372036854775808 ≤ rev ∧ rev ≤ 9223372036854775807) :
    Calls Try.prog 89 #[.slice p l.length cap, .int .i64 rev, .int .i64 cell] w fun e w' => ∃ (x y : Int) (q : Option Addr) (m : List Int) (dq : Nat), e = .returned (.tuple #[.agg #[.int .i64 x, .int .i64 y, .slice q m.length dq], .bool (timesOk l rev cell)]) ∧ (timesOk l rev cell = true → x = cell ∧ y = l.headD 0 ∧ m = gapsT l rev) ∧ OwnS w' w.heap.size q m ∧ Below w.heap.size w w' := by
  have hgl : (gapsT l rev).length ≤ 1048576 := by rw [gapsT_len _ _ h1]; exact hl
  obtain ⟨t0, et0⟩ : ∃ t0, l.headD 0 = t0 := ⟨_, rfl⟩
  have htm := fun w hI => impl_fluxOfTimes p l cap rev cell w hI h1 hl
  have hdef : timesOk l rev cell = (inB rev 1 2000000 && (risesB l 0 (rev - 1) && fluxOk cell (l.headD 0) (gapsT l rev))) := rfl
  simp only [et0] at htm
  rw [et0] at hdef
  rw [et0]
  clear et0
  have R0 := Blk.new w 26 #[.int .i64 0, .int .i64 0, .slice none 0 0]
  have W0 : Below w.heap.size w (w.alloc (.cells #[.int .i64 0, .int .i64 0, .slice none 0 0] 26)) := (Below.refl _ _).alloc (Nat.le_refl _) _
  cases hin : inB rev 1 2000000
  · have HR := Lib.hid hin
    have HK : Hid (timesOk l rev cell = false) := Lib.hid (by rw [hdef, hin]; rfl)
    clear hin hdef
    go_enter Try.func89, Try.ntmps89
    go_wp2_with (go_at_call 48; refine (within_any _ _ _ _).mono ?_; rintro e w' ⟨rfl, rfl⟩; rw [HR.out])
    refine bodyPost_ret (v := .tuple #[.agg #[.int .i64 0, .int .i64 0, .slice none 0 0], .bool false]) (by simp [results, Try.results89, go_sem]) rfl ?_
    rw [HK.out]
    exact ⟨0, 0, none, [], 0, rfl, (fun h => absurd h (by decide)), OwnS.nil_ _ _ _, W0⟩
  have hrv := inB_iff.1 hin
  have hw1 : IntKind.i64.wrap (rev - 1) = rev - 1 := IntWalk.i64_in _ (by omega)
  cases hri : risesB l 0 (rev - 1)
  · have HR := Lib.hid hri
    have HI2 := Lib.hid hin
    have HK : Hid (timesOk l rev cell = false) := Lib.hid (by rw [hdef, hin, hri]; rfl)
    clear hri hdef hin
    go_enter Try.func89, Try.ntmps89
    go_wp2_with fail
    refine (within_any _ _ _ _).mono ?_
    rintro e w' ⟨rfl, rfl⟩
    rw [HI2.out]
    go_wp2_with fail
    generalize w.alloc (.cells #[.int .i64 0, .int .i64 0, .slice none 0 0] 26) = w0 at R0 W0 ⊢
    refine (impl_rises _ _ _ _ _ _ (hI.below W0) hl).mono ?_
    rintro e w1 ⟨rfl, hb1⟩
    rw [HR.out]
    have R1 := R0.keep hb1
    have hw1 := below_st W0 hb1 (Nat.le_refl _)
    obtain ⟨r0, r1', r2⟩ := R1.cell3
    have rf := R1.frozen
    obtain ⟨e0, e1, e2⟩ := (R1.set3 (.int .i64 0) (.int .i64 0) (.slice none 0 0)).cell3
    go_wp2_with fail
    refine bodyPost_ret (v := .tuple #[.agg #[.int .i64 0, .int .i64 0, .slice none 0 0], .bool false]) (by simp [results, Try.results89, go_sem, e0, e1, e2]) rfl ?_
    rw [HK.out]
    exact ⟨0, 0, none, [], 0, rfl, (fun h => absurd h (by decide)), OwnS.nil_ _ _ _, ((hw1.setCell (p := ⟨w.heap.size, 0, none⟩) (Nat.le_refl _) _).setCell (p := ⟨w.heap.size, 1, none⟩) (Nat.le_refl _) _).setCell (p := ⟨w.heap.size, 2, none⟩) (Nat.le_refl _) _⟩
  have HR := Lib.hid hri
  have HI2 := Lib.hid hin
  have HK : Hid (timesOk l rev cell = fluxOk cell t0 (gapsT l rev)) := Lib.hid (by rw [hdef, hin, hri]; rfl)
  clear hri hdef hin
  go_enter Try.func89, Try.ntmps89
  go_wp2_with fail
  refine (within_any _ _ _ _).mono ?_
  rintro e w' ⟨rfl, rfl⟩
  rw [HI2.out]
  go_wp2_with fail
  generalize w.alloc (.cells #[.int .i64 0, .int .i64 0, .slice none 0 0] 26) = w0 at R0 W0 ⊢
  refine (impl_rises _ _ _ _ _ _ (hI.below W0) hl).mono ?_
  rintro e w1 ⟨rfl, hb1⟩
  rw [HR.out]
  have R1 := R0.keep hb1
  have hw1 := below_st W0 hb1 (Nat.le_refl _)
  clear hb1
  go_wp2_with fail
  refine (htm _ (hI.below hw1)).mono ?_
  rintro e w2 ⟨q, dq, rfl, S2, hb2⟩
  have R2 := R1.keep hb2
  have hw2 := below_st hw1 hb2 (Nat.le_refl _)
  have hz2 := hb2.size
  clear hb2
  have F2 := Blk.new w2 26 #[.int .i64 cell, .int .i64 t0, .slice q (gapsT l rev).length dq]
  have R3 := R2.alloc' (.cells #[.int .i64 cell, .int .i64 t0, .slice q (gapsT l rev).length dq] 26)
  have S3 := S2.below ((Below.refl _ w2).alloc (Nat.le_refl _) (.cells #[.int .i64 cell, .int .i64 t0, .slice q (gapsT l rev).length dq] 26))
  have hw3 := hw2.alloc hw2.size (.cells #[.int .i64 cell, .int .i64 t0, .slice q (gapsT l rev).length dq] 26)
  go_wp2_with fail
  generalize w2.alloc (.cells #[.int .i64 cell, .int .i64 t0, .slice q (gapsT l rev).length dq] 26) = w3 at F2 R3 S3 hw3 ⊢
  obtain ⟨f0, f1, f2⟩ := F2.cell3
  have hz0 := R1.lt
  have hz1 := hw1.size
  have R3d := Blk.drew R3
  have F3d := Blk.drew F2
  have S3d := S3.below (Below.refl _ _).drew
  go_region_with (go_at_call 46; refine (impl_ValidFlux cell t0 q (gapsT l rev) dq _ (by exact S3d.ints) hgl).mono ?_; rintro e w4 ⟨rfl, hb4⟩; have R4 := R3d.keep hb4; have F4 := F3d.keep hb4; have S4 := S3d.below hb4; obtain ⟨r0, r1', r2⟩ := R4.cell3; have rf := R4.frozen; obtain ⟨g0, g1, g2⟩ := F4.cell3)
  all_goals
    have hw4 := below_st hw3.drew hb4 (Nat.le_refl _)
    obtain ⟨e0, e1, e2⟩ := (R4.set3 (.int .i64 cell) (.int .i64 t0) (.slice q (gapsT l rev).length dq)).cell3
    have S5 := ((S4.offS (g' := w.heap.size) hz0 0 (.int .i64 cell)).offS (g' := w.heap.size) hz0 1 (.int .i64 t0)).offS (g' := w.heap.size) hz0 2 (.slice q (gapsT l rev).length dq)
    go_wp2_with fail
    refine bodyPost_ret (v := .tuple #[.agg #[.int .i64 cell, .int .i64 t0, .slice q (gapsT l rev).length dq], .bool (fluxOk cell t0 (gapsT l rev))]) (by simp [results, Try.results89, go_sem, e0, e1, e2]) rfl ?_
    rw [HK.out]
    exact ⟨cell, t0, q, gapsT l rev, dq, rfl, fun _ => ⟨rfl, rfl, rfl⟩, S5.mono hz1, ((hw4.setCell (p := ⟨w.heap.size, 0, none⟩) (Nat.le_refl _) _).setCell (p := ⟨w.heap.size, 1, none⟩) (Nat.le_refl _) _).setCell (p := ⟨w.heap.size, 2, none⟩) (Nat.le_refl _) _⟩
end Go.Proofs.Ytfdcainjppljhaa
namespace Go.Proofs.Ytfdcainjppljhaa
open Go.RowKit
set_option linter.unusedVariables false
/-- What times become. -/
def tmB (l : List Int) (rev cell : Int) : Bool := !l.isEmpty && timesOk l rev cell
def tmC (l : List Int) (rev cell : Int) : Int := if tmB l rev cell then cell else 0
def tmF (l : List Int) (rev cell : Int) : Int := if tmB l rev cell then l.headD 0 else 0
def tmL (l : List Int) (rev cell : Int) : List Int := if tmB l rev cell then gapsT l rev else []
def tmE (err : Int) (l : List Int) (rev cell : Int) : Int := if l.isEmpty then 6 else if timesOk l rev cell then 0 else err
theorem tmL_len (l : List Int) (rev cell : Int) : (tmL l rev cell).length ≤ l.length := by
  unfold tmL tmB
  split
  · rename_i h
    cases l with
    | nil => simp at h
    | cons a l => rw [gapsT_len _ _ (by simp)]; omega
  · simp
set_option maxHeartbeats 2000000 in
set_option maxRecDepth 20000 in
theorem spec_l04Done (p : Option Addr) (l : List Int) (cap : Nat) (rev cell : Int) (w : World) (hI : IntsAt w p l) (hl : l.length ≤ 1048576) (hr : -9223372036854775808 ≤ rev ∧ rev ≤ 9223372036854775807) :
    Calls Try.prog 63 #[.slice p l.length cap, .int .i64 rev, .int .i64 cell] w fun e w' => ∃ (q : Option Addr) (dq : Nat), e = .returned (.tuple #[.agg #[.int .i64 (tmC l rev cell), .int .i64 (tmF l rev cell), .slice q (tmL l rev cell).length dq], .int .i64 (tmE 2 l rev cell)]) ∧ OwnS w' w.heap.size q (tmL l rev cell) ∧ Below w.heap.size w w' := by
  have R0 := Blk.new w 26 #[.int .i64 0, .int .i64 0, .slice none 0 0]
  have W0 : Below w.heap.size w (w.alloc (.cells #[.int .i64 0, .int .i64 0, .slice none 0 0] 26)) := (Below.refl _ _).alloc (Nat.le_refl _) _
  cases hb : tmB l rev cell
  · have HC : Hid (tmC l rev cell = 0) := Lib.hid (by unfold tmC; rw [hb]; rfl)
    have HF : Hid (tmF l rev cell = 0) := Lib.hid (by unfold tmF; rw [hb]; rfl)
    have HL : Hid (tmL l rev cell = []) := Lib.hid (by unfold tmL; rw [hb]; rfl)
    by_cases h0 : l = []
    · have HE : Hid (tmE 2 l rev cell = 6) := Lib.hid (by unfold tmE; rw [h0]; rfl)
      have hz : ((l.length : Int) == 0) = true := by rw [h0]; rfl
      have hz' : (l.length : Int) = 0 := by rw [h0]; rfl
      clear h0 hb
      go_enter Try.func63, Try.ntmps63
      go_wp2_with fail
      refine bodyPost_ret (v := .tuple #[.agg #[.int .i64 0, .int .i64 0, .slice none 0 0], .int .i64 6]) (by simp [results, Try.results63, go_sem]) rfl ?_
      rw [HC.out, HF.out, HL.out, HE.out]
      exact ⟨none, 0, rfl, OwnS.nil_ _ _ _, W0⟩
    · have h1 : 1 ≤ l.length := by
        cases l with
        | nil => exact absurd rfl h0
        | cons a l => simp
      have hem : l.isEmpty = false := by cases l with | nil => exact absurd rfl h0 | cons a l => rfl
      have hok : timesOk l rev cell = false := by unfold tmB at hb; rw [hem] at hb; simpa using hb
      have HE : Hid (tmE 2 l rev cell = 2) := Lib.hid (by unfold tmE; rw [hem, hok]; rfl)
      have hz : ((l.length : Int) == 0) = false := by simp; exact h0
      have HO := Lib.hid hok
      have H0 := Lib.hid h0
      clear h0 hb hok hem
      go_enter Try.func63, Try.ntmps63
      go_wp2_with fail
      generalize w.alloc (.cells #[.int .i64 0, .int .i64 0, .slice none 0 0] 26) = w0 at R0 W0 ⊢
      refine (spec_l04Make _ _ _ _ _ _ (hI.below W0) h1 hl hr).mono ?_
      rintro e w1 ⟨x, y, q, n, dq, rfl, -, -, hb1⟩
      rw [HO.out]
      have R1 := R0.keep hb1
      have hw1 := below_st W0 hb1 (Nat.le_refl _)
      have hs1 := ((hw1.setCell (p := ⟨w.heap.size, 0, none⟩) (Nat.le_refl _) (.int .i64 0)).setCell (p := ⟨w.heap.size, 1, none⟩) (Nat.le_refl _) (.int .i64 0)).setCell (p := ⟨w.heap.size, 2, none⟩) (Nat.le_refl _) (.slice none 0 0)
      have hs2 := hs1.alloc hs1.size (.cells #[.int .i64 x, .int .i64 y, .slice q n.length dq] 26)
      obtain ⟨r0, r1', r2⟩ := R1.cell3
      have rf := R1.frozen
      have rlt := R1.lt
      obtain ⟨e0, e1, e2⟩ := ((R1.set3 (.int .i64 0) (.int .i64 0) (.slice none 0 0)).alloc' (.cells #[.int .i64 x, .int .i64 y, .slice q n.length dq] 26)).cell3
      go_wp2_with fail
      refine bodyPost_ret (v := .tuple #[.agg #[.int .i64 0, .int .i64 0, .slice none 0 0], .int .i64 2]) (by simp [results, Try.results63, go_sem, e0, e1, e2]) rfl ?_
      rw [HC.out, HF.out, HL.out, HE.out]
      exact ⟨none, 0, rfl, OwnS.nil_ _ _ _, hs2⟩
  · have HC : Hid (tmC l rev cell = cell) := Lib.hid (by unfold tmC; rw [hb]; rfl)
    have HF : Hid (tmF l rev cell = l.headD 0) := Lib.hid (by unfold tmF; rw [hb]; rfl)
    have HL : Hid (tmL l rev cell = gapsT l rev) := Lib.hid (by unfold tmL; rw [hb]; rfl)
    unfold tmB at hb
    rw [Bool.and_eq_true] at hb
    obtain ⟨hem, hok⟩ := hb
    have h1 : 1 ≤ l.length := by
      cases l with
      | nil => simp at hem
      | cons a l => simp
    have HE : Hid (tmE 2 l rev cell = 0) := Lib.hid (by unfold tmE; rw [show l.isEmpty = false by simpa using hem, hok]; rfl)
    have hz : ((l.length : Int) == 0) = false := by simp; intro e; rw [e] at h1; simp at h1
    have hz2 : l ≠ [] := by intro e; rw [e] at h1; simp at h1
    have HO := Lib.hid hok
    clear hok hem
    go_enter Try.func63, Try.ntmps63
    go_wp2_with fail
    generalize w.alloc (.cells #[.int .i64 0, .int .i64 0, .slice none 0 0] 26) = w0 at R0 W0 ⊢
    refine (spec_l04Make _ _ _ _ _ _ (hI.below W0) h1 hl hr).mono ?_
    rintro e w1 ⟨x, y, q, n, dq, rfl, himp, S1, hb1⟩
    obtain ⟨rfl, hy, rfl⟩ := himp HO.out
    rw [HO.out]
    have HY := Lib.hid hy
    clear himp hy
    have R1 := R0.keep hb1
    have hw1 := below_st W0 hb1 (Nat.le_refl _)
    have hz0 := hb1.size
    have hs1 := ((hw1.setCell (p := ⟨w.heap.size, 0, none⟩) (Nat.le_refl _) (.int .i64 x)).setCell (p := ⟨w.heap.size, 1, none⟩) (Nat.le_refl _) (.int .i64 y)).setCell (p := ⟨w.heap.size, 2, none⟩) (Nat.le_refl _) (.slice q (gapsT l rev).length dq)
    have hs2 := hs1.alloc hs1.size (.cells #[.int .i64 x, .int .i64 y, .slice q (gapsT l rev).length dq] 26)
    have hz1 := W0.size
    have hz0' := R0.lt
    obtain ⟨r0, r1', r2⟩ := R1.cell3
    have rf := R1.frozen
    have rlt := R1.lt
    obtain ⟨e0, e1, e2⟩ := ((R1.set3 (.int .i64 x) (.int .i64 y) (.slice q (gapsT l rev).length dq)).alloc' (.cells #[.int .i64 x, .int .i64 y, .slice q (gapsT l rev).length dq] 26)).cell3
    have S5 := (((S1.offS (g' := w.heap.size) hz0' 0 (.int .i64 x)).offS (g' := w.heap.size) hz0' 1 (.int .i64 y)).offS (g' := w.heap.size) hz0' 2 (.slice q (gapsT l rev).length dq)).below ((Below.refl _ _).alloc (Nat.le_refl _) (.cells #[.int .i64 x, .int .i64 y, .slice q (gapsT l rev).length dq] 26))
    go_wp2_with fail
    refine bodyPost_ret (v := .tuple #[.agg #[.int .i64 x, .int .i64 y, .slice q (gapsT l rev).length dq], .int .i64 0]) (by simp [results, Try.results63, go_sem, e0, e1, e2]) rfl ?_
    rw [HC.out, HF.out, HL.out, HE.out, ← HY.out]
    exact ⟨q, dq, rfl, S5.mono hz1, hs2⟩
set_option maxHeartbeats 2000000 in
set_option maxRecDepth 20000 in
theorem impl_changed (p : Option Addr) (l : List Int) (cap : Nat) (rev cell : Int) (w : World) (hI : IntsAt w p l) (hl : l.length ≤ 1048576) (hr : -9223372036854775808 ≤ rev ∧ rev ≤ 9223372036854775807) :
    Calls Try.prog 61 #[.slice p l.length cap, .int .i64 rev, .int .i64 cell] w fun e w' => ∃ (q : Option Addr) (dq : Nat), e = .returned (.tuple #[.agg #[.int .i64 (tmC l rev cell), .int .i64 (tmF l rev cell), .slice q (tmL l rev cell).length dq], .int .i64 (tmE 2 l rev cell)]) ∧ OwnS w' w.heap.size q (tmL l rev cell) ∧ Below w.heap.size w w' := by
  have R0 := Blk.new w 26 #[.int .i64 0, .int .i64 0, .slice none 0 0]
  have W0 : Below w.heap.size w (w.alloc (.cells #[.int .i64 0, .int .i64 0, .slice none 0 0] 26)) := (Below.refl _ _).alloc (Nat.le_refl _) _
  cases hb : tmB l rev cell
  · have HC : Hid (tmC l rev cell = 0) := Lib.hid (by unfold tmC; rw [hb]; rfl)
    have HF : Hid (tmF l rev cell = 0) := Lib.hid (by unfold tmF; rw [hb]; rfl)
    have HL : Hid (tmL l rev cell = []) := Lib.hid (by unfold tmL; rw [hb]; rfl)
    by_cases h0 : l = []
    · have HE : Hid (tmE 2 l rev cell = 6) := Lib.hid (by unfold tmE; rw [h0]; rfl)
      have hz : ((l.length : Int) == 0) = true := by rw [h0]; rfl
      have hz' : (l.length : Int) = 0 := by rw [h0]; rfl
      clear h0 hb
      go_enter Try.func61, Try.ntmps61
      go_wp2_with fail
      refine bodyPost_ret (v := .tuple #[.agg #[.int .i64 0, .int .i64 0, .slice none 0 0], .int .i64 6]) (by simp [results, Try.results61, go_sem]) rfl ?_
      rw [HC.out, HF.out, HL.out, HE.out]
      exact ⟨none, 0, rfl, OwnS.nil_ _ _ _, W0⟩
    · have h1 : 1 ≤ l.length := by
        cases l with
        | nil => exact absurd rfl h0
        | cons a l => simp
      have hem : l.isEmpty = false := by cases l with | nil => exact absurd rfl h0 | cons a l => rfl
      have hok : timesOk l rev cell = false := by unfold tmB at hb; rw [hem] at hb; simpa using hb
      have HE : Hid (tmE 2 l rev cell = 2) := Lib.hid (by unfold tmE; rw [hem, hok]; rfl)
      have hz : ((l.length : Int) == 0) = false := by simp; exact h0
      have HO := Lib.hid hok
      have H0 := Lib.hid h0
      clear h0 hb hok hem
      go_enter Try.func61, Try.ntmps61
      go_wp2_with fail
      generalize w.alloc (.cells #[.int .i64 0, .int .i64 0, .slice none 0 0] 26) = w0 at R0 W0 ⊢
      refine (impl_timedFlux _ _ _ _ _ _ (hI.below W0) h1 hl hr).mono ?_
      rintro e w1 ⟨x, y, q, n, dq, rfl, -, -, hb1⟩
      rw [HO.out]
      have R1 := R0.keep hb1
      have hw1 := below_st W0 hb1 (Nat.le_refl _)
      have hs1 := ((hw1.setCell (p := ⟨w.heap.size, 0, none⟩) (Nat.le_refl _) (.int .i64 0)).setCell (p := ⟨w.heap.size, 1, none⟩) (Nat.le_refl _) (.int .i64 0)).setCell (p := ⟨w.heap.size, 2, none⟩) (Nat.le_refl _) (.slice none 0 0)
      have hs2 := hs1.alloc hs1.size (.cells #[.int .i64 x, .int .i64 y, .slice q n.length dq] 26)
      obtain ⟨r0, r1', r2⟩ := R1.cell3
      have rf := R1.frozen
      have rlt := R1.lt
      obtain ⟨e0, e1, e2⟩ := ((R1.set3 (.int .i64 0) (.int .i64 0) (.slice none 0 0)).alloc' (.cells #[.int .i64 x, .int .i64 y, .slice q n.length dq] 26)).cell3
      go_wp2_with fail
      refine bodyPost_ret (v := .tuple #[.agg #[.int .i64 0, .int .i64 0, .slice none 0 0], .int .i64 2]) (by simp [results, Try.results61, go_sem, e0, e1, e2]) rfl ?_
      rw [HC.out, HF.out, HL.out, HE.out]
      exact ⟨none, 0, rfl, OwnS.nil_ _ _ _, hs2⟩
  · have HC : Hid (tmC l rev cell = cell) := Lib.hid (by unfold tmC; rw [hb]; rfl)
    have HF : Hid (tmF l rev cell = l.headD 0) := Lib.hid (by unfold tmF; rw [hb]; rfl)
    have HL : Hid (tmL l rev cell = gapsT l rev) := Lib.hid (by unfold tmL; rw [hb]; rfl)
    unfold tmB at hb
    rw [Bool.and_eq_true] at hb
    obtain ⟨hem, hok⟩ := hb
    have h1 : 1 ≤ l.length := by
      cases l with
      | nil => simp at hem
      | cons a l => simp
    have HE : Hid (tmE 2 l rev cell = 0) := Lib.hid (by unfold tmE; rw [show l.isEmpty = false by simpa using hem, hok]; rfl)
    have hz : ((l.length : Int) == 0) = false := by simp; intro e; rw [e] at h1; simp at h1
    have hz2 : l ≠ [] := by intro e; rw [e] at h1; simp at h1
    have HO := Lib.hid hok
    clear hok hem
    go_enter Try.func61, Try.ntmps61
    go_wp2_with fail
    generalize w.alloc (.cells #[.int .i64 0, .int .i64 0, .slice none 0 0] 26) = w0 at R0 W0 ⊢
    refine (impl_timedFlux _ _ _ _ _ _ (hI.below W0) h1 hl hr).mono ?_
    rintro e w1 ⟨x, y, q, n, dq, rfl, himp, S1, hb1⟩
    obtain ⟨rfl, hy, rfl⟩ := himp HO.out
    rw [HO.out]
    have HY := Lib.hid hy
    clear himp hy
    have R1 := R0.keep hb1
    have hw1 := below_st W0 hb1 (Nat.le_refl _)
    have hz0 := hb1.size
    have hs1 := ((hw1.setCell (p := ⟨w.heap.size, 0, none⟩) (Nat.le_refl _) (.int .i64 x)).setCell (p := ⟨w.heap.size, 1, none⟩) (Nat.le_refl _) (.int .i64 y)).setCell (p := ⟨w.heap.size, 2, none⟩) (Nat.le_refl _) (.slice q (gapsT l rev).length dq)
    have hs2 := hs1.alloc hs1.size (.cells #[.int .i64 x, .int .i64 y, .slice q (gapsT l rev).length dq] 26)
    have hz1 := W0.size
    have hz0' := R0.lt
    obtain ⟨r0, r1', r2⟩ := R1.cell3
    have rf := R1.frozen
    have rlt := R1.lt
    obtain ⟨e0, e1, e2⟩ := ((R1.set3 (.int .i64 x) (.int .i64 y) (.slice q (gapsT l rev).length dq)).alloc' (.cells #[.int .i64 x, .int .i64 y, .slice q (gapsT l rev).length dq] 26)).cell3
    have S5 := (((S1.offS (g' := w.heap.size) hz0' 0 (.int .i64 x)).offS (g' := w.heap.size) hz0' 1 (.int .i64 y)).offS (g' := w.heap.size) hz0' 2 (.slice q (gapsT l rev).length dq)).below ((Below.refl _ _).alloc (Nat.le_refl _) (.cells #[.int .i64 x, .int .i64 y, .slice q (gapsT l rev).length dq] 26))
    go_wp2_with fail
    refine bodyPost_ret (v := .tuple #[.agg #[.int .i64 x, .int .i64 y, .slice q (gapsT l rev).length dq], .int .i64 0]) (by simp [results, Try.results61, go_sem, e0, e1, e2]) rfl ?_
    rw [HC.out, HF.out, HL.out, HE.out, ← HY.out]
    exact ⟨q, dq, rfl, S5.mono hz1, hs2⟩
end Go.Proofs.Ytfdcainjppljhaa
namespace Go.Proofs.Ytfdcainjppljhaa
open Go.RowKit
set_option maxHeartbeats 1000000 in
set_option maxRecDepth 20000 in
theorem impl_total (p : Option Addr) (l : List Int) (cap : Nat) (w : World) (hI : IntsAt w p l) (hl : l.length ≤ 1048576) (hs : ∀ k, -4000000000000000000 ≤ (l.take k).sum ∧ (l.take k).sum ≤ 4000000000000000000) :
    Calls Try.prog 47 #[.slice p l.length cap] w fun e w' => e = .returned (.int .i64 l.sum) ∧ w' = w := by
  have HS := Lib.hid hs
  clear hs
  go_enter Try.func47, Try.ntmps47
  go_wp2
  go_loopw [3, 8] (fun s i wr => ∃ k : Nat, k ≤ l.length ∧ i = .int .i64 k ∧ s = .int .i64 (l.take k).sum ∧ wr = w) (fun _ i _ => l.length - (intOf i).toNat)
  case atStart => exact ⟨0, Nat.zero_le _, rfl, by simp, rfl⟩
  case round =>
    obtain ⟨k, hk, rfl, rfl, rfl⟩ := hrel
    by_cases hlt : k < l.length
    · obtain ⟨a, rfl, hx⟩ := hI.at_ hlt
      have hs1 := HS.out k
      have hs2 := HS.out (k + 1)
      have hsum := sumI_take hlt
      obtain ⟨x, ex⟩ : ∃ x, l[k] = x := ⟨_, rfl⟩
      rw [ex] at hx hsum
      obtain ⟨s, es⟩ : ∃ s, (l.take k).sum = s := ⟨_, rfl⟩
      rw [es] at hs1 hsum
      rw [hsum] at hs2
      simp only [es]
      have H := Lib.hid hsum
      clear hsum es ex
      go_wp2
      exact ⟨⟨k + 1, by omega, by go_num, by rw [H.out], trivial⟩, by simp [intOf]; omega⟩
    · rw [List.take_of_length_le (by omega)]
      go_wp2
      go_ret
      exact ⟨rfl, rfl⟩
set_option maxHeartbeats 1000000 in
set_option maxRecDepth 20000 in
theorem spec_l02Revolution (c f : Int) (p : Option Addr) (l : List Int) (cap g : Nat) (w : World) (hI : IntsAt w p l) (hl : l.length ≤ 1048576) (hs : ∀ k, -4000000000000000000 ≤ (l.take k).sum ∧ (l.take k).sum ≤ 4000000000000000000) (hB : Blk w g 26 #[.int .i64 c, .int .i64 f, .slice p l.length cap]) :
    Calls Try.prog 41 #[.pointer (some ⟨g, 0, none⟩)] w fun e w' => e = .returned (.int .i64 l.sum) ∧ w' = w := by
  obtain ⟨b0, b1, b2⟩ := hB.cell3
  have HS := Lib.hid hs
  clear hs hB
  go_enter Try.func41, Try.ntmps41
  go_wp2
  go_loopw [3, 4] (fun s i wr => ∃ k : Nat, k ≤ l.length ∧ i = .int .i64 k ∧ s = .int .i64 (l.take k).sum ∧ wr = w) (fun _ i _ => l.length - (intOf i).toNat)
  case atStart => exact ⟨0, Nat.zero_le _, rfl, by simp, rfl⟩
  case round =>
    obtain ⟨k, hk, rfl, rfl, rfl⟩ := hrel
    by_cases hlt : k < l.length
    · obtain ⟨a, rfl, hx⟩ := hI.at_ hlt
      have hs1 := HS.out k
      have hs2 := HS.out (k + 1)
      have hsum := sumI_take hlt
      obtain ⟨x, ex⟩ : ∃ x, l[k] = x := ⟨_, rfl⟩
      rw [ex] at hx hsum
      obtain ⟨s, es⟩ : ∃ s, (l.take k).sum = s := ⟨_, rfl⟩
      rw [es] at hs1 hsum
      rw [hsum] at hs2
      simp only [es]
      have H := Lib.hid hsum
      clear hsum es ex
      go_wp2
      exact ⟨⟨k + 1, by omega, by go_num, by rw [H.out], trivial⟩, by simp [intOf]; omega⟩
    · rw [List.take_of_length_le (by omega)]
      go_wp2
      go_ret
      exact ⟨rfl, rfl⟩
set_option maxHeartbeats 1000000 in
set_option maxRecDepth 20000 in
theorem spec_l02Changes (c f : Int) (p : Option Addr) (l : List Int) (cap g : Nat) (w : World) (hI : IntsAt w p l) (hl : l.length ≤ 1048576) (hs : ∀ k, -4000000000000000000 ≤ f + (l.take k).sum ∧ f + (l.take k).sum ≤ 4000000000000000000) (hB : Blk w g 26 #[.int .i64 c, .int .i64 f, .slice p l.length cap]) :
    Calls Try.prog 43 #[.pointer (some ⟨g, 0, none⟩)] w fun e w' => ∃ q dap, e = .returned (.slice q (chgL f l).length dap) ∧ OwnS w' w.heap.size q (chgL f l) ∧ Below w.heap.size w w' := by
  obtain ⟨b0, b1, b2⟩ := hB.cell3
  have hg := hB.lt
  have HS := Lib.hid hs
  clear hs
  go_enter Try.func43, Try.ntmps43
  go_wp2
  go_loopw [3, 4, 5] (fun v s i wr => ∃ k : Nat, k ≤ l.length ∧ i = .int .i64 k ∧ s = .int .i64 (f + (l.take k).sum) ∧ OwnI wr w.heap.size v (chgL f (l.take k)) ∧ Below w.heap.size w wr) (fun _ _ i _ => l.length - (intOf i).toNat)
  case atStart => exact ⟨0, Nat.zero_le _, rfl, by simp, OwnI.nil0 _, (Below.refl _ _).alloc (Nat.le_refl _) _⟩
  case round =>
    obtain ⟨k, hk, rfl, rfl, hown, hbel⟩ := hrel
    obtain ⟨d0, d1, d2⟩ := (hB.keep hbel).cell3
    clear b0 b1 b2
    by_cases hlt : k < l.length
    · have hI' := hI.below hbel
      have hs1 := HS.out k
      have hs2 := HS.out (k + 1)
      have hsum := sumI_take hlt
      have hsn := chgL_snoc f (l.take k) (l[k])
      rw [← takeI_snoc hlt] at hsn
      have hcl : (chgL f (l.take k)).length ≤ 1048576 := by rw [chgL_len]; simp; omega
      obtain ⟨a, rfl, hx⟩ := hI'.at_ hlt
      have hxw : (a.add k).block < w.heap.size ∧ w.cell? (a.add k) = some (.int .i64 (l[k])) := by
        obtain ⟨b, hb, hlb, hcb⟩ := hI (by intro e; rw [e] at hlt; exact absurd hlt (Nat.not_lt_zero k))
        cases hb
        exact ⟨by rw [Go.ChangeShapes.block_add]; exact hlb, hcb k hlt⟩
      obtain ⟨x, ex⟩ : ∃ x, l[k] = x := ⟨_, rfl⟩
      rw [ex] at hx hsum hxw
      obtain ⟨s, es⟩ : ∃ s, f + (l.take k).sum = s := ⟨_, rfl⟩
      have hsum2 : f + (l.take (k + 1)).sum = s + x := by rw [hsum, ← es]; omega
      rw [es] at hs1 hsn
      rw [hsum2] at hs2
      simp only [es]
      have H := Lib.hid hsum2
      have HN := Lib.hid hsn
      clear hsum hsum2 hsn es ex
      have hz := hbel.size
      go_wp2_with (at_builtin; refine append_int _ rfl _ _ rfl w.heap.size u3 (chgL f (l.take k)) s rfl rfl hown (by omega) hz ?_; intro v1 w1 hown1 hb1; have hb2 := hbel.trans hb1; obtain ⟨f0, f1, f2⟩ := (hB.keep hb2).cell3; obtain ⟨j1, j2⟩ := bcell hb2; have hx1 : w1.cell? (a.add k) = some (.int .i64 x) := (hb2.cell (p := a.add k) hxw.1).trans hxw.2)
      refine ⟨⟨k + 1, by omega, by go_num, by rw [H.out], ?_, hb2⟩, by simp [intOf]; omega⟩
      rw [HN.out]
      exact hown1
    · rw [List.take_of_length_le (by omega)] at hown
      obtain ⟨q, dap, hv, hS⟩ := hown.open_
      subst hv
      go_wp2
      go_ret
      exact ⟨q, dap, rfl, hS, hbel⟩
set_option maxHeartbeats 1000000 in
set_option maxRecDepth 20000 in
theorem impl_changes (c f : Int) (p : Option Addr) (l : List Int) (cap : Nat) (w : World) (hI : IntsAt w p l) (hl : l.length ≤ 1048576) (hs : ∀ k, -4000000000000000000 ≤ f + (l.take k).sum ∧ f + (l.take k).sum ≤ 4000000000000000000) :
    Calls Try.prog 49 #[.agg #[.int .i64 c, .int .i64 f, .slice p l.length cap]] w fun e w' => ∃ q dap, e = .returned (.slice q (chgL f l).length dap) ∧ OwnS w' w.heap.size q (chgL f l) ∧ Below w.heap.size w w' := by
  have HS := Lib.hid hs
  clear hs
  have hmk := make_ints l.length (by omega)
  have hcl := chgL_len f l
  go_enter Try.func49, Try.ntmps49
  go_wp2
  clear hmk
  go_loopw [4, 16] (fun s i wr => ∃ k : Nat, k ≤ l.length ∧ i = .int .i64 k ∧ s = .int .i64 (f + (l.take k).sum) ∧ RowI wr (w.heap.size + 1) (fillP (chgL f l) k) ∧ Below (w.heap.size + 1) (w.alloc (.cells #[.int .i64 c, .int .i64 f, .slice p l.length cap] 26)) wr) (fun _ i _ => l.length - (intOf i).toNat)
  case atStart =>
    refine ⟨0, Nat.zero_le _, rfl, by simp, ?_, ?_⟩
    · rw [fillP_zero, hcl]
      have := RowI.made (w.alloc (.cells #[.int .i64 c, .int .i64 f, .slice p l.length cap] 26)) l.length
      simpa using this
    · exact (Below.refl _ _).alloc (by simp) _
  case round =>
    obtain ⟨k, hk, rfl, rfl, hrow, hbel⟩ := hrel
    have hbw : Below w.heap.size w wr := ((Below.refl w.heap.size w).alloc (Nat.le_refl _) _).trans (hbel.mono (by omega))
    by_cases hlt : k < l.length
    · have hs1 := HS.out k
      have hs2 := HS.out (k + 1)
      have hsum := sumI_take hlt
      have hat := chgL_at f l k (by omega)
      have hf := (hrow.cell (k := k) (by rw [fillP_len (by omega)]; omega))
      have hn := hrow.set_ k (f + (l.take k).sum)
      rw [← hat, fillP_set (by omega)] at hn
      rw [hat] at hn
      obtain ⟨a, rfl, hx⟩ := (hI.below hbw).at_ hlt
      obtain ⟨x, ex⟩ : ∃ x, l[k] = x := ⟨_, rfl⟩
      rw [ex] at hx hsum
      obtain ⟨s, es⟩ : ∃ s, f + (l.take k).sum = s := ⟨_, rfl⟩
      have hsum2 : f + (l.take (k + 1)).sum = s + x := by rw [hsum, ← es]; omega
      rw [es] at hs1 hn
      rw [hsum2] at hs2
      simp only [es]
      have H := Lib.hid hsum2
      clear hsum hsum2 hat es ex
      go_wp2
      exact ⟨⟨k + 1, by omega, by go_num, by rw [H.out], hn, hbel.setCell (Nat.le_refl _) _⟩, by simp [intOf]; omega⟩
    · rw [fillP_all (by omega)] at hrow
      have HC := Lib.hid hcl
      clear hcl
      go_wp2
      go_ret
      exact ⟨some ⟨w.heap.size + 1, 0, none⟩, l.length, by rw [HC.out]; rfl, OwnS.of_row hrow (by omega), hbw⟩
/-- Prefix sums of valid flux are small. -/
theorem fluxOk_sums {c f : Int} {l : List Int} (h : fluxOk c f l = true) : (∀ k, -4000000000000000000 ≤ (l.take k).sum ∧ (l.take k).sum ≤ 4000000000000000000) ∧ (∀ k, -4000000000000000000 ≤ f + (l.take k).sum ∧ f + (l.take k).sum ≤ 4000000000000000000) := by
  obtain ⟨-, -, -, h4, h5, -⟩ := fluxOk_bd h
  exact ⟨fun k => by have := h4 k; omega, fun k => by have := h4 k; omega⟩
def revV (c f : Int) (l : List Int) : Int := if fluxOk c f l then l.sum else -1
set_option maxHeartbeats 1000000 in
set_option maxRecDepth 20000 in
theorem impl_RevolutionOf (c f : Int) (p : Option Addr) (l : List Int) (cap : Nat) (w : World) (hI : IntsAt w p l) (hl : l.length ≤ 1048576) :
    Calls Try.prog 20 #[.agg #[.int .i64 c, .int .i64 f, .slice p l.length cap]] w fun e w' => e = .returned (.int .i64 (revV c f l)) ∧ Below w.heap.size w w' := by
  have B0 := Blk.new w 26 #[.int .i64 c, .int .i64 f, .slice p l.length cap]
  cases hok : fluxOk c f l
  · have H := Lib.hid hok
    clear hok
    go_enter Try.func20, Try.ntmps20
    go_wp2_with (go_at_call 46; refine (impl_ValidFlux c f p l cap _ (hI.alloc _) hl).mono ?_; rintro e w1 ⟨rfl, hb1⟩; rw [H.out])
    go_ret
    exact ⟨ret_int (by unfold revV; rw [H.out]; rfl), below_al (Below.refl _ _) hb1 (Nat.le_refl _)⟩
  · have H := Lib.hid hok
    clear hok
    go_enter Try.func20, Try.ntmps20
    go_wp2_with (first | (go_at_call 46; refine (impl_ValidFlux c f p l cap _ (hI.alloc _) hl).mono ?_; rintro e w1 ⟨rfl, hb1⟩; rw [H.out]; obtain ⟨b0, b1, b2⟩ := (B0.keep hb1).cell3; have J1 := (hI.alloc _).below hb1) | (go_at_call 47; refine (impl_total _ _ _ _ J1 hl (fluxOk_sums H.out).1).mono ?_; rintro e w2 ⟨rfl, rfl⟩))
    go_ret
    exact ⟨ret_int (by unfold revV; rw [H.out]; rfl), below_al (Below.refl _ _) hb1 (Nat.le_refl _)⟩
def chV (c f : Int) (l : List Int) : List Int := if fluxOk c f l then chgL f l else []
theorem chV_len (c f : Int) (l : List Int) : (chV c f l).length ≤ l.length := by unfold chV; split <;> simp [chgL_len]
set_option maxHeartbeats 1000000 in
set_option maxRecDepth 20000 in
theorem impl_ChangesOf (c f : Int) (p : Option Addr) (l : List Int) (cap : Nat) (w : World) (hI : IntsAt w p l) (hl : l.length ≤ 1048576) :
    Calls Try.prog 18 #[.agg #[.int .i64 c, .int .i64 f, .slice p l.length cap]] w fun e w' => ∃ q dap, e = .returned (.slice q (chV c f l).length dap) ∧ OwnS w' w.heap.size q (chV c f l) ∧ Below w.heap.size w w' := by
  have B0 := Blk.new w 26 #[.int .i64 c, .int .i64 f, .slice p l.length cap]
  cases hok : fluxOk c f l
  · have H := Lib.hid hok
    clear hok
    go_enter Try.func18, Try.ntmps18
    go_wp2_with (go_at_call 46; refine (impl_ValidFlux c f p l cap _ (hI.alloc _) hl).mono ?_; rintro e w1 ⟨rfl, hb1⟩; rw [H.out])
    go_ret
    have E : chV c f l = [] := by unfold chV; rw [H.out]; rfl
    exact ⟨none, 0, by rw [E]; rfl, by rw [E]; exact OwnS.nil_ _ _ _, below_al (Below.refl _ _) hb1 (Nat.le_refl _)⟩
  · have H := Lib.hid hok
    clear hok
    go_enter Try.func18, Try.ntmps18
    go_wp2_with (first | (go_at_call 46; refine (impl_ValidFlux c f p l cap _ (hI.alloc _) hl).mono ?_; rintro e w1 ⟨rfl, hb1⟩; rw [H.out]; obtain ⟨b0, b1, b2⟩ := (B0.keep hb1).cell3; have J1 := (hI.alloc _).below hb1) | (go_at_call 49; refine (impl_changes _ _ _ _ _ _ J1 hl (fluxOk_sums H.out).2).mono ?_; rintro e w2 ⟨q, dap, rfl, hS, hb2⟩))
    go_ret
    have E : chV c f l = chgL f l := by unfold chV; rw [H.out]; rfl
    have hz := hb1.size
    simp at hz
    exact ⟨q, dap, by rw [E]; rfl, by rw [E]; exact hS.mono (by omega), below_st (below_al (Below.refl _ _) hb1 (Nat.le_refl _)) hb2 (Nat.le_refl _)⟩
end Go.Proofs.Ytfdcainjppljhaa
namespace Go.Proofs.Ytfdcainjppljhaa
open Go.RowKit
/-- A result: flux of times if the arguments are valid. -/
def fxC (v : Bool) (t : List Int) (rev cell : Int) : Int := if v then tmC t rev cell else 0
def fxF (v : Bool) (t : List Int) (rev cell : Int) : Int := if v then tmF t rev cell else 0
def fxL (v : Bool) (t : List Int) (rev cell : Int) : List Int := if v then tmL t rev cell else []
def fxE (v : Bool) (t : List Int) (rev cell : Int) : Int := if v then tmE 2 t rev cell else 1
theorem fxL_len (v : Bool) (t : List Int) (rev cell : Int) : (fxL v t rev cell).length ≤ t.length := by
  unfold fxL
  split
  · exact tmL_len _ _ _
  · simp
theorem mix_at {T X : List Int} (h : T.length = X.length) {k : Nat} (hk : k < X.length) {h2 : k < (T.take k ++ X.drop k).length} : (T.take k ++ X.drop k)[k] = X[k] := by
  rw [List.getElem_append_right (by rw [List.length_take]; omega)]
  simp [show min k T.length = k by omega]
theorem mix_set {T X : List Int} (h : T.length = X.length) {k : Nat} (hk : k < X.length) : (T.take k ++ X.drop k).set k (T[k]'(by omega)) = T.take (k + 1) ++ X.drop (k + 1) := by
  rw [List.set_append_right _ _ (by rw [List.length_take]; omega), takeI_snoc (by omega : k < T.length), List.append_assoc]
  congr 1
  rw [show k - (T.take k).length = 0 by simp; omega, List.drop_eq_getElem_cons hk, List.set_cons_zero]
  rfl
theorem chg_bd {c f : Int} {l : List Int} (h : fluxOk c f l = true) (k : Nat) (hk : k < (chgL f l).length) : 0 ≤ (chgL f l)[k] ∧ (chgL f l)[k] ≤ 4000000 := by
  obtain ⟨-, -, -, h4, h5, -⟩ := fluxOk_bd h
  rw [chgL_at]
  have := h4 k
  omega
end Go.Proofs.Ytfdcainjppljhaa
namespace Go.Proofs.Ytfdcainjppljhaa
open Go.RowKit
set_option linter.unusedVariables false
set_option maxHeartbeats 400000 in
set_option maxRecDepth 20000 in
theorem laws_toSpan (c f : Int) (p : Option Addr) (l : List Int) (cap : Nat) (w : World) (hI : IntsAt w p l) (hl : l.length ≤ 1048576) :
    Calls Try.prog 23 #[.agg #[.int .i64 c, .int .i64 f, .slice p l.length cap]] w fun e w' => ∃ g, e = .returned (.agg #[.int .i64 c, .int .i64 f, .slice (some ⟨g, 0, none⟩) l.length l.length]) ∧ w.heap.size ≤ g ∧ RowI w' g l ∧ Below w.heap.size w w' := by
  go_enter Try.func23, Try.ntmps23
  go_wp2_with (go_at_call 45; refine (laws_toInt64S _ _ _ _ (((hI.alloc _).alloc _).alloc _) hl).mono ?_; rintro e w1 ⟨rfl, hr1, hb1⟩; have z1 := hb1.size; simp at z1; have B1 := (Blk.new _ 36 #[.int .i64 c, .int .i64 f, .slice none 0 0]).keep hb1; simp at B1; obtain ⟨g0, g1, g2⟩ := B1.cell3; have k1 := B1.frozen; simp at hr1; have C1 := (((Blk.new _ 36 #[.int .i64 0, .int .i64 0, .slice none 0 0]).keep ((Below.refl _ _).alloc (Nat.le_refl _) _)).keep hb1); simp at C1; obtain ⟨g3, g4, g5⟩ := C1.cell3; have k2 := C1.frozen; obtain ⟨e3, e4, e5⟩ := cells3_after g3 g4 g5 (w.heap.size + 1 + 1) (by omega))
  refine bodyPost_ret (v := .agg #[.int .i64 c, .int .i64 f, .slice (some ⟨w.heap.size + 1 + 1 + 1, 0, none⟩) l.length l.length]) (by simp [results, Try.results23, go_sem, e3, e4, e5]) rfl ⟨_, rfl, by omega, ?_, ?_⟩
  · exact (((hr1.off (by omega) _ _).off (by omega) _ _).off (by omega) _ _).off (by omega) _ _
  · have hw1 := below_al (((Below.refl w.heap.size w).alloc (Nat.le_refl _) _).alloc (by simp) _) hb1 (Nat.le_refl _)
    go_grown
set_option maxHeartbeats 400000 in
theorem laws_szSpan (c f : Int) (p : Option Addr) (l : List Int) (cap : Nat) (left : Int) (w : World) (hl : l.length ≤ maxLen) (h : 0 ≤ left ∧ left ≤ 1048576) :
    Calls Try.prog 21 #[.agg #[.int .i64 c, .int .i64 f, .slice p l.length cap], .int .i64 left] w fun e w' => e = .returned (.int .i64 (szL left l.length)) ∧ Below w.heap.size w w' := by
  have hz : -1 ≤ szL left l.length ∧ (szL left l.length < 0 → szL left l.length = -1) := by unfold szL; split <;> omega
  obtain ⟨z, ez⟩ : ∃ z, szL left l.length = z := ⟨_, rfl⟩
  rw [ez] at hz ⊢
  have H := Lib.hid ez
  clear ez
  go_enter Try.func21, Try.ntmps21
  go_wp2_with (go_at_call 39; refine (laws_szInt64S _ _ _ _ _ hl h).mono ?_; rintro e w1 ⟨rfl, hb1⟩; rw [H.out])
  all_goals
    go_ret
    exact ⟨ret_int (by omega), below_al (Below.refl _ _) hb1 (Nat.le_refl _)⟩
set_option maxHeartbeats 400000 in
theorem laws_eqSpan_same (c f : Int) (p q : Option Addr) (l : List Int) (cap dap : Nat) (w : World) (hI : IntsAt w p l) (hJ : IntsAt w q l) (hl : l.length ≤ 9000000) :
    Calls Try.prog 24 #[.agg #[.int .i64 c, .int .i64 f, .slice p l.length cap], .agg #[.int .i64 c, .int .i64 f, .slice q l.length dap]] w fun e w' => e = .returned (.bool true) ∧ Below w.heap.size w w' := by
  go_enter Try.func24, Try.ntmps24
  go_wp2_with (go_at_call 53; refine (laws_eqInt64S p q l l cap dap _ ((hI.alloc _).alloc _) ((hJ.alloc _).alloc _) hl).mono ?_; rintro e w1 ⟨rfl, hb1⟩; rw [decide_eq_true rfl])
  go_ret
  refine ⟨rfl, below_al (((Below.refl _ _).alloc (Nat.le_refl _) _)) hb1 (Nat.le_refl _)⟩
set_option maxHeartbeats 1000000 in
theorem laws_markSpan (c f : Int) (p : Option Addr) (l : List Int) (cap : Nat) (k : Int) (base : Nat) (w : World) (hS : OwnS w base p l) (hl : l.length ≤ 9000000) (hk : 0 ≤ k ∧ k ≤ 9000000) :
    Calls Try.prog 25 #[.agg #[.int .i64 c, .int .i64 f, .slice p l.length cap], .int .i64 k] w fun e w' => e = .returned (.int .i64 (k + l.length)) ∧ OwnS w' base p (mkL k l.length) ∧ Aside (ownOf p l) w w' := by
  go_enter Try.func25, Try.ntmps25
  go_wp2_with (go_at_call 54; refine (laws_markInt64S p l cap k base _ (hS.below ((Below.refl _ _).alloc (Nat.le_refl _) _)) hl hk).mono ?_; rintro e w1 ⟨rfl, h1, h2⟩)
  go_ret
  exact ⟨rfl, h1, (Aside.of_below ((Below.refl _ _).alloc (Nat.le_refl _) _)).trans h2⟩
theorem drewN_more {w wr : World} (h : ∃ n, wr = w.drewN n) (m : Nat) : ∃ n, wr.drewN m = w.drewN n := by
  obtain ⟨n, rfl⟩ := h
  exact ⟨n + m, by simp [World.drewN, Nat.add_assoc]⟩
set_option maxHeartbeats 1000000 in
set_option maxRecDepth 20000 in
theorem spec_l00RisesQ (p : Option Addr) (l : List Int) (cap : Nat) (lo hi : Int) (w : World) (hI : IntsAt w p l) (hl : l.length ≤ 1048576) :
    Calls Try.prog 90 #[.slice p l.length cap, .int .i64 lo, .int .i64 hi] w fun e w' => e = .returned (.bool (risesB l lo hi)) ∧ ∃ n, w' = w.drewN n := by
  go_enter Try.func90, Try.ntmps90
  go_wp2_with fail
  go_loopw [7] (fun i wr => ∃ k : Nat, k ≤ l.length ∧ i = .int .i64 k ∧ risesK l lo hi k ∧ ∃ n, wr = w.drewN n) (fun i _ => l.length - (intOf i).toNat)
  case atStart => exact ⟨0, Nat.zero_le _, rfl, fun i _ h => absurd h (Nat.not_lt_zero _), ⟨0, rfl⟩⟩
  case round =>
    obtain ⟨k, hk, rfl, hr, hbel⟩ := hrel
    have hIr : IntsAt wr p l := by obtain ⟨n0, hn0⟩ := hbel; rw [hn0]; exact hI
    by_cases hlt : k < l.length
    · obtain ⟨a, rfl, hx⟩ := hIr.at_ hlt
      have hno := @risesB_no l lo hi k hlt
      have HR := Lib.hid hr
      clear hr
      obtain ⟨x, ex⟩ : ∃ x, l[k] = x := ⟨_, rfl⟩
      rw [ex] at hx hno
      have EX := Lib.hid ex
      have HN := Lib.hid hno
      clear ex hno
      cases hin : inB x lo hi
      · have HI := Lib.hid hin
        have hq := fun w n => l00In_q x lo hi w n
        simp only [hin] at hq
        clear hin
        go_wp2_with fail
        go_quiet (exact hq _ _)
        go_wp2_with fail
        go_ret
        exact ⟨ret_bool (HN.out (.inl HI.out)).symm, drewN_more hbel _⟩
      · have HI := Lib.hid hin
        have hq := fun w n => l00In_q x lo hi w n
        simp only [hin] at hq
        clear hin
        by_cases h0 : k = 0
        · subst h0
          have hx0 : wr.cell? a = some (.int .i64 x) := by rw [Addr.add_zero'] at hx; exact hx
          go_wp2_with fail
          go_quiet (exact hq _ _)
          go_wp2_with fail
          refine ⟨⟨1, by omega, rfl, ?_, drewN_more hbel _⟩, by simp [intOf]; omega⟩
          intro i h hi1
          have : i = 0 := by omega
          subst this
          exact ⟨by rw [EX.out]; exact HI.out, fun h => absurd h (by omega)⟩
        · obtain ⟨a', ha', hy⟩ := hIr.at_ (k := k - 1) (by omega)
          cases ha'
          obtain ⟨y, ey⟩ : ∃ y, l[k - 1]'(by omega) = y := ⟨_, rfl⟩
          rw [ey] at hy
          have EY := Lib.hid ey
          clear ey
          have g0 : decide (0 < (k : Int)) = true := by simp; omega
          have g1 : decide (0 < k) = true := by simp; omega
          have i0 : 1 ≤ (k : Int) := by omega
          have i1 : 0 ≤ (k : Int) - 1 := by omega
          have i2 : (k : Int) - 1 < (l.length : Int) := by omega
          have q1 : IntKind.i64.wrap ((k : Int) - 1) = (k : Int) - 1 := IntWalk.i64_in _ (by omega)
          by_cases hyx : x ≤ y
          · have hd : decide (x ≤ y) = true := by simp [hyx]
            go_wp2_with fail
            go_quiet (exact hq _ _)
            go_wp2_with fail
            go_ret
            exact ⟨ret_bool (HN.out (.inr ⟨by omega, by rw [EY.out]; omega⟩)).symm, drewN_more hbel _⟩
          · have hd : decide (x ≤ y) = false := by simp; omega
            go_wp2_with fail
            go_quiet (exact hq _ _)
            go_wp2_with fail
            refine ⟨⟨k + 1, by omega, by go_num, ?_, drewN_more hbel _⟩, by simp [intOf]; omega⟩
            intro i h hi1
            by_cases e : i = k
            · subst e
              exact ⟨by rw [EX.out]; exact HI.out, fun _ => by rw [EX.out, EY.out]; omega⟩
            · exact HR.out i h (by omega)
    · have e : k = l.length := by omega
      subst e
      have HR := Lib.hid hr
      clear hr
      go_wp2_with fail
      go_ret
      exact ⟨ret_bool (risesK_all.2 HR.out).symm, hbel⟩
/-- 'append(s, t..)'. -/
theorem append_ints {ops : Array Oper} {rest : List Oper} {o : Oper} {a : Act} {Q : Exit → Act → World → Prop} (w : World) (hg : o.guard = none) (s x : Operand)
    (ho : o.op = .call { callee := .builtin .append, args := #[s, x], argTypes := #[22, 22] })
    (base : Nat) (v : Value) (l M : List Int) (ad : Addr) (m c : Nat) (hs : a.eval s = v) (hx : a.eval x = .slice (some ad) m c) (hm : M.length = m)
    (hM : ∀ j (h : j < M.length), w.cell? (ad.add j) = some (.int .i64 M[j]))
    (hown : OwnI w base v l) (hlen : l.length + m ≤ 10000000) (hbase : base ≤ w.heap.size)
    (h : ∀ v' w', OwnI w' base v' (l ++ M) → Below base w w' → wpList Try.prog ops Q rest (a.put o.dst v') w') :
    wpList Try.prog ops Q (o :: rest) a w := by
  obtain ⟨i, hi, hz, hsz, hby⟩ := info_parts info_i64
  refine wpList_append_own _ hg s x 22 ho base 2 i (.int .i64 0) 1 8 Try.underlying22 hi hz hsz hby rfl (by decide) v l.length (l.map (Value.int .i64)) hs hown
    ad m c (M.map (Value.int .i64)) hx (by simp [hm]) ?_ ?_ (by unfold maxLen; omega) (by omega) hbase ?_
  · intro j u hj
    rw [List.getElem?_map] at hj
    rcases Nat.lt_or_ge j M.length with hlt | hge
    · rw [List.getElem?_eq_getElem hlt] at hj
      simp at hj
      subst hj
      exact hM j hlt
    · rw [List.getElem?_eq_none hge] at hj; simp at hj
  · intro u hu
    simp at hu
    obtain ⟨y, -, rfl⟩ := hu
    rfl
  · intro v' w' h1 h2 _
    refine h v' w' ?_ ?_
    · unfold OwnI
      rw [List.map_append, List.length_append, hm]
      exact h1
    · refine (Below.refl base w).grown h2 hbase ?_
      intro k hk
      rcases hown.2 with ⟨rfl, _⟩ | ⟨g, cap, cur, rfl, hbg, _⟩
      · simp [Value.ownBlock] at hk
      · simp [Value.ownBlock] at hk; omega
/-- A span is valid. -/
def spanOk (a b : Int) (t : List Int) : Bool := inB a 0 b && (decide (b ≤ 2000000) && risesB t a (b - 1))
theorem spanOk_bd {a b : Int} {t : List Int} (h : spanOk a b t = true) : 0 ≤ a ∧ a ≤ b ∧ b ≤ 2000000 ∧ risesB t a (b - 1) = true := by
  unfold spanOk at h
  simp only [Bool.and_eq_true, decide_eq_true_eq, inB_iff] at h
  exact ⟨h.1.1, h.1.2, h.2.1, h.2.2⟩
set_option maxHeartbeats 1000000 in
theorem impl_validSpan (a b : Int) (p : Option Addr) (t : List Int) (cap : Nat) (w : World) (hI : IntsAt w p t) (hl : t.length ≤ 1048576) :
    Calls Try.prog 59 #[.agg #[.int .i64 a, .int .i64 b, .slice p t.length cap]] w fun e w' => e = .returned (.bool (spanOk a b t)) ∧ Below w.heap.size w w' := by
  have hA := (Below.refl w.heap.size w).alloc (Nat.le_refl _) (.cells #[.int .i64 a, .int .i64 b, .slice p t.length cap] 36)
  obtain h1 | h1 := (Bool.eq_false_or_eq_true (inB a 0 b)).symm
  · have H1 := Lib.hid h1
    have HV : Hid (spanOk a b t = false) := Lib.hid (by unfold spanOk; rw [h1]; rfl)
    clear h1
    go_enter Try.func59, Try.ntmps59
    go_wp2_with (go_at_call 48; refine (within_any _ _ _ _).mono ?_; rintro e w' ⟨rfl, rfl⟩; rw [H1.out])
    go_ret
    exact ⟨ret_bool (by rw [HV.out]), hA⟩
  have hb := inB_iff.1 h1
  by_cases h2 : b ≤ 2000000
  · have q1 : IntKind.i64.wrap (b - 1) = b - 1 := IntWalk.i64_in _ (by omega)
    have H1 := Lib.hid h1
    have HV : Hid (spanOk a b t = risesB t a (b - 1)) := Lib.hid (by unfold spanOk; rw [h1, decide_eq_true h2]; rfl)
    clear h1
    go_enter Try.func59, Try.ntmps59
    go_wp2_with (first | (go_at_call 48; refine (within_any _ _ _ _).mono ?_; rintro e w' ⟨rfl, rfl⟩; rw [H1.out]) | (go_at_call 88; refine (impl_rises p t cap a (b - 1) _ (hI.below hA) hl).mono ?_; rintro e w1 ⟨rfl, hb1⟩))
    go_ret
    exact ⟨ret_bool (by rw [HV.out]), below_st hA hb1 (Nat.le_refl _)⟩
  · have H1 := Lib.hid h1
    have HV : Hid (spanOk a b t = false) := Lib.hid (by unfold spanOk; rw [h1, decide_eq_false h2]; rfl)
    clear h1
    go_enter Try.func59, Try.ntmps59
    go_wp2_with (go_at_call 48; refine (within_any _ _ _ _).mono ?_; rintro e w' ⟨rfl, rfl⟩; rw [H1.out])
    go_ret
    exact ⟨ret_bool (by rw [HV.out]), hA⟩
set_option maxHeartbeats 8000000 in
set_option maxRecDepth 20000 in
theorem spec_l04Span (a b : Int) (p : Option Addr) (t : List Int) (cap g o : Nat) (w : World) (hI : IntsAt w p t) (hl : t.length ≤ 1048576) (h0 : w.cell? ⟨g, o, none⟩ = some (.int .i64 a)) (h1 : w.cell? ⟨g, o + 1, none⟩ = some (.int .i64 b)) (h2 : w.cell? ⟨g, o + 2, none⟩ = some (.slice p t.length cap)) :
    Calls Try.prog 62 #[.pointer (some ⟨g, o, none⟩)] w fun e w' => e = .returned (.bool (spanOk a b t)) ∧ Below w.heap.size w w' := by
  obtain hB | hB := (Bool.eq_false_or_eq_true (inB b 0 2000000)).symm
  · have hqb := fun w n => l00In_q b 0 2000000 w n
    simp only [hB] at hqb
    have HV : Hid (spanOk a b t = false) := Lib.hid (by
      cases h : spanOk a b t
      · rfl
      · have := spanOk_bd h
        rw [inB_yes (by omega)] at hB; cases hB)
    clear hB
    go_enter Try.func62, Try.ntmps62
    go_wp2_with fail
    go_quiet (exact hqb _ _)
    go_wp2_with fail
    go_ret
    exact ⟨ret_bool (by rw [HV.out]), below_drewN (Below.refl _ _) _⟩
  have hbb := inB_iff.1 hB
  have hqb := fun w n => l00In_q b 0 2000000 w n
  simp only [hB] at hqb
  have q1 : IntKind.i64.wrap (b - 1) = b - 1 := IntWalk.i64_in _ (by omega)
  obtain hA | hA := (Bool.eq_false_or_eq_true (inB a 0 b)).symm
  · have hqa := fun w n => l00In_q a 0 b w n
    simp only [hA] at hqa
    have HV : Hid (spanOk a b t = false) := Lib.hid (by unfold spanOk; rw [hA]; rfl)
    clear hA hB
    go_enter Try.func62, Try.ntmps62
    go_wp2_with fail
    go_quiet (first | with_reducible exact hqb _ _ | with_reducible exact hqa _ _)
    go_wp2_with fail
    go_ret
    exact ⟨ret_bool (by rw [HV.out]), below_drewN (Below.refl _ _) _⟩
  have hqa := fun w n => l00In_q a 0 b w n
  simp only [hA] at hqa
  have HV : Hid (spanOk a b t = risesB t a (b - 1)) := Lib.hid (by unfold spanOk; rw [hA, decide_eq_true hbb.2]; rfl)
  have hr : ∀ n, Calls Try.prog 90 #[.slice p t.length cap, .int .i64 a, .int .i64 (b - 1)] (w.drewN n) fun e w'' => e = .returned (.bool (risesB t a (b - 1))) ∧ ∃ m, w'' = w.drewN m := fun n =>
    (spec_l00RisesQ p t cap a (b - 1) (w.drewN n) hI hl).mono fun e w'' ⟨h, m, hm⟩ => ⟨h, n + m, by rw [hm]; simp [World.drewN, Nat.add_assoc]⟩
  generalize risesB t a (b - 1) = r at HV hr
  clear hA hB
  go_enter Try.func62, Try.ntmps62
  go_wp2_with fail
  go_quiet (first | with_reducible exact hqb _ _ | with_reducible exact hqa _ _ | with_reducible exact hr _)
  go_wp2_with fail
  go_ret
  exact ⟨ret_bool (by rw [HV.out]), below_drewN (Below.refl _ _) _⟩
set_option maxHeartbeats 1000000 in
set_option maxRecDepth 20000 in
/-- slices.Clone. -/
theorem slices_CloneI (p : Option Addr) (t : List Int) (cap : Nat) (w : World) (hI : IntsAt w p t) (hl : t.length ≤ 1048576) :
    Calls Try.prog 60 #[.slice p t.length cap] w fun e w' => ∃ v, e = .returned v ∧ OwnI w' w.heap.size v t ∧ Below w.heap.size w w' := by
  have q22 : ∀ (w : World) (a : Option Addr) (n c n' c' : Nat), (binOp .eql 22 (.slice a n c) (.slice none n' c')).run Try.prog w = .ok (.bool a.isNone) w := fun w a n c n' c' => Lib.run_eql_slice_nil w _ _ a n c n' c' Try.underlying22
  cases p with
  | none =>
    have ht : t = [] := by
      cases t with
      | nil => rfl
      | cons x t => obtain ⟨a, h, -⟩ := hI (by simp); cases h
    subst ht
    go_enter Try.func60, Try.ntmps60
    go_wp2_with fail
    go_ret
    exact ⟨_, rfl, OwnI.none_ _ _, Below.refl _ _⟩
  | some a =>
    have hM : ∀ j (h : j < t.length), (w.alloc (.cells #[] 2)).cell? (a.add j) = some (.int .i64 t[j]) := fun j h => by
      obtain ⟨ad, had, hc⟩ := (hI.alloc (.cells #[] 2)).at_ h
      injection had with had
      subst had
      exact hc
    have h0 := OwnI.nil0 w
    go_enter Try.func60, Try.ntmps60
    go_wp2_with (at_builtin; refine append_ints _ rfl (.tmp 5) (.tmp 6) rfl w.heap.size _ [] t a t.length cap rfl rfl rfl hM h0 (by simp; omega) (by simp) ?_; intro v w2 hZ hb2)
    go_ret
    exact ⟨_, rfl, hZ, ((Below.refl _ _).alloc (Nat.le_refl _) _).trans hb2⟩
end Go.Proofs.Ytfdcainjppljhaa
