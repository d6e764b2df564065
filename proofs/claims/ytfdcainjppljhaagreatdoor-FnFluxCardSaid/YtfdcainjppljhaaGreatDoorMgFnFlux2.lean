/- Rising lists; flux of times. spec.l02Times: the text of impl.fluxOfTimes once more. When times become flux: the two ways of testing agree, plain. Times that become flux: timedFlux, l04Make and their callers. Printed by makegen.py. Flux of cells: l02Ones, l02Flux. strings.Trim at the cutset of two ASCII bytes; isBits, isCellString, ValidCells, l02Cells. isBits, isCellString, ValidCells, l02Cells, l05Cells; the law of ValidCells. FluxOf. Printed by fluxof.py. Flux of cells, plain (a part of FnRecover's plain law). The model's decimal numerals (l01Dec). Appending to a row of bytes that a conversion of a string has made (it bears a mark behind its end). The text of flux: spec.l02Text. The program's text of flux: decimal, joinNumbers, FluxText. FluxText, the program's and the model's. -/
import Derived.Test.YtfdcainjppljhaaGreatDoorMgFnFlux1
import Derived.Deep.RegionLaw
import Derived.Deep.RegionHeld3
import Derived.Deep.DeepCutAuto
import Derived.Test.YtfdcainjppljhaaGreatDoorShelf
import Derived.Shelf.Strings.SlTrimAscii
import Derived.Lib.ItoaNum
import Derived.Lib.ItoaLen
import Derived.Deep.RegionWith
import Derived.Lib.AppendStr
import Derived.Lib.ConvBytes
import Derived.Laws.CopyRow
import Derived.Lib.AppendIntMem
namespace Go.Proofs.YtfdcainjppljhaaGreatDoor
open Go.RowKit
theorem Blk.alloc' {w : World} {g : Nat} {t : TypeId} {cs : Array Value} (h : Blk w g t cs) (o : Obj) : Blk (w.alloc o) g t cs := h.keep ((Below.refl _ _).alloc (Nat.le_refl _) o)
theorem Blk.set32 {w : World} {g : Nat} {t : TypeId} {a b c : Value} (h : Blk w g t #[a, b, c]) (x : Value) : Blk (w.setCell ⟨g, 2, none⟩ x) g t #[a, b, x] := by
  have hB' : w.heap[g]? = some (.cells #[a, b, c] t (0, 0)) := h
  unfold Blk
  simp [World.setCell, Array.getElem?_modify, hB']
theorem Blk.set3 {w : World} {g : Nat} {t : TypeId} {a b c : Value} (h : Blk w g t #[a, b, c]) (x y z : Value) : Blk (((w.setCell ⟨g, 0, none⟩ x).setCell ⟨g, 1, none⟩ y).setCell ⟨g, 2, none⟩ z) g t #[x, y, z] := by
  have hB' : w.heap[g]? = some (.cells #[a, b, c] t (0, 0)) := h
  unfold Blk
  simp [World.setCell, Array.getElem?_modify, hB']
theorem Blk.off {w : World} {g g' : Nat} {t : TypeId} {cs : Array Value} (h : Blk w g t cs) (hne : g ≠ g') (o : Nat) (v : Value) : Blk (w.setCell ⟨g', o, none⟩ v) g t cs := h.asides (Aside.setCell g' o v) (fun e => hne (by injection e with e; exact e.symm))
theorem OwnI.off {w : World} {base g' : Nat} {v : Value} {l : List Int} (h : OwnI w base v l) (hb : g' < base) (o : Nat) (x : Value) : OwnI (w.setCell ⟨g', o, none⟩ x) base v l := h.asides (Aside.setCell g' o x) (fun g hg e => by have := (h.blk hg).1; injection e with e; omega)
set_option maxHeartbeats 4000000 in
set_option maxRecDepth 20000 in
theorem impl_fluxOfTimes (p : Option Addr) (l : List Int) (cap : Nat) (rev cell : Int) (w : World) (hI : IntsAt w p l) (h1 : 1 ≤ l.length) (hl : l.length ≤ 1048576) :
    Calls Tryz.prog 23 #[.slice p l.length cap, .int .i64 rev, .int .i64 cell] w fun e w' => ∃ q dq, e = .returned (.agg #[.int .i64 cell, .int .i64 (l.headD 0), .slice q (gapsT l rev).length dq]) ∧ OwnS w' w.heap.size q (gapsT l rev) ∧ Below w.heap.size w w' := by
  have hh := headD_at (l := l) (by omega)
  have hlast := lastD_at (l := l) (n := l.length - 1) (by omega)
  have HG : Hid (gapsT l rev = diffW l ++ [IntKind.i64.wrap (IntKind.i64.wrap (rev - l.getLastD 0) + l.headD 0)]) := Lib.hid rfl
  have hIe : ∃ a, p = some a ∧ (w.cell? (a.add 0) = some (.int .i64 (l.headD 0))) := by
    obtain ⟨a, ha, hc⟩ := hI.at_ (k := 0) (by omega)
    exact ⟨a, ha, by rw [hc, hh]⟩
  obtain ⟨a, rfl, hx0⟩ := hIe
  obtain ⟨t0, et0⟩ : ∃ t0, l.headD 0 = t0 := ⟨_, rfl⟩
  rw [et0] at hx0 HG ⊢
  have hx0' : w.cell? a = some (.int .i64 t0) := by rw [Addr.add_zero'] at hx0; exact hx0
  have i00 : (0 : Int) < (l.length : Int) := by omega
  have i000 : 0 < l.length := by omega
  have hab : a.block < w.heap.size := World.block_lt_of_cell? w _ hx0'
  have HT := Lib.hid et0
  have HL := Lib.hid hlast
  clear hh hlast et0
  go_enter Tryz.func23, Tryz.ntmps23
  go_wp2_with fail
  have W0 : Below w.heap.size w ((w.alloc (.cells #[.int .i64 0, .int .i64 0, .slice none 0 0] 28)).alloc (.cells #[.int .i64 cell, .int .i64 t0, .slice none 0 0] 28)) := ((Below.refl _ _).alloc (Nat.le_refl _) _).alloc (by simp) _
  have R0 := (Blk.new w 28 #[.int .i64 0, .int .i64 0, .slice none 0 0]).keep ((Below.refl _ _).alloc (Nat.le_refl _) (.cells #[.int .i64 cell, .int .i64 t0, .slice none 0 0] 28))
  have F0 := Blk.new (w.alloc (.cells #[.int .i64 0, .int .i64 0, .slice none 0 0] 28)) 28 #[.int .i64 cell, .int .i64 t0, .slice none 0 0]
  have esz : (w.alloc (.cells #[.int .i64 0, .int .i64 0, .slice none 0 0] 28)).heap.size = w.heap.size + 1 := by simp
  have hz0 : ((w.alloc (.cells #[.int .i64 0, .int .i64 0, .slice none 0 0] 28)).alloc (.cells #[.int .i64 cell, .int .i64 t0, .slice none 0 0] 28)).heap.size = w.heap.size + 2 := by simp
  rw [esz] at F0
  generalize (w.alloc (.cells #[.int .i64 0, .int .i64 0, .slice none 0 0] 28)).alloc (.cells #[.int .i64 cell, .int .i64 t0, .slice none 0 0] 28) = w0 at W0 R0 F0 hz0 ⊢
  clear esz
  obtain ⟨B, eB⟩ : ∃ B, w.heap.size + 2 = B := ⟨_, rfl⟩
  go_loopw [8] (fun i wr => ∃ (k : Nat) (v : Value), 1 ≤ k ∧ k ≤ l.length ∧ i = .int .i64 k ∧ OwnI wr B v (diffW (l.take k)) ∧ Blk wr (w.heap.size + 1) 28 #[.int .i64 cell, .int .i64 t0, v] ∧ Blk wr w.heap.size 28 #[.int .i64 0, .int .i64 0, .slice none 0 0] ∧ Below w.heap.size w wr) (fun i _ => l.length - (intOf i).toNat)
  case atStart => exact ⟨1, .slice none 0 0, Nat.le_refl _, h1, rfl, by rw [diffW_one]; exact OwnI.none_ _ _, F0, R0, W0⟩
  case round =>
    obtain ⟨k, v, hk1, hk, rfl, hown, hF, hR, hbel⟩ := hrel
    have hzr : B ≤ wr.heap.size := by have := hF.lt; omega
    obtain ⟨f0, f1, f2⟩ := hF.cell3
    have ff := hF.frozen
    have hfl := hF.lt
    have halt : a.block < wr.heap.size := Nat.lt_of_lt_of_le hab hbel.size
    by_cases hlt : k < l.length
    · obtain ⟨b, eb, hx⟩ := (hI.below hbel).at_ hlt
      cases eb
      obtain ⟨b, eb, hy⟩ := (hI.below hbel).at_ (k := k - 1) (by omega)
      cases eb
      have hd := diffW_take hk1 hlt
      have hdl : (diffW (l.take k)).length ≤ 1048576 := by rw [diffW_len]; simp; omega
      obtain ⟨x, ex⟩ : ∃ x, l[k] = x := ⟨_, rfl⟩
      obtain ⟨y, ey⟩ : ∃ y, l[k - 1]'(by omega) = y := ⟨_, rfl⟩
      rw [ex] at hx hd
      rw [ey] at hy hd
      obtain ⟨z, ez⟩ : ∃ z, IntKind.i64.wrap (x - y) = z := ⟨_, rfl⟩
      rw [ez] at hd
      have HD := Lib.hid hd
      clear hd ex ey
      have i0 : 1 ≤ (k : Int) := by omega
      have i1 : 0 ≤ (k : Int) - 1 := by omega
      have i2 : (k : Int) - 1 < (l.length : Int) := by omega
      have q1 : IntKind.i64.wrap ((k : Int) - 1) = (k : Int) - 1 := IntWalk.i64_in _ (by omega)
      have hxb : (a.add k).block < wr.heap.size := World.block_lt_of_cell? wr _ hx
      have hyb : (a.add (k - 1)).block < wr.heap.size := World.block_lt_of_cell? wr _ hy
      go_wp2_with fail
      go_region_law (go_loud (refine step_append_int rfl _ _ rfl B v (diffW (l.take k)) z _ rfl rfl (by first | exact hown.alloc _ | exact (hown.alloc _).drew) (by simp) (by omega) (by first | omega | (simp; omega)) ?_; intro v1 w1 hown1 hb1; obtain ⟨q1, c1, rfl, hs1⟩ := hown1.open_; have F1 := Blk.below (by exact hF.alloc' _) hb1 (by omega); obtain ⟨p0, p1, p2⟩ := F1.cell3; have pf := F1.frozen; have R1 := Blk.below (by exact hR.alloc' _) hb1 (by omega); have hz1 := hb1.size; simp at hz1))
      all_goals
        have hown2 : OwnI w1 B (.slice q1 ((diffW (l.take k)).length + 1) c1) (diffW (l.take (k + 1))) := by
          rw [HD.out]
          simpa using hown1
        have hbn : Below w.heap.size w w1 := by first | exact (hbel.alloc hbel.size (.cells #[.int .i64 z] 2)).drew.trans (hb1.mono (B' := w.heap.size) (by omega)) | exact (hbel.alloc hbel.size (.cells #[.int .i64 z] 2)).trans (hb1.mono (B' := w.heap.size) (by omega))
        go_wp2_with fail
        go_roundw
        case rel => exact ⟨k + 1, _, by omega, by omega, by go_num, hown2.off (g' := w.heap.size + 1) (by omega) 2 _, F1.set32 _, R1.off (g' := w.heap.size + 1) (by omega) 2 _, hbn.setCell (p := ⟨w.heap.size + 1, 2, none⟩) (Nat.le_succ _) _⟩
        case measure => simp [intOf]; omega
    · have ek : k = l.length := by omega
      subst ek
      rw [List.take_length] at hown
      obtain ⟨b, eb, hy⟩ := (hI.below hbel).at_ (k := l.length - 1) (by omega)
      cases eb
      rw [HL.out] at hy
      have hdl : (diffW l).length ≤ 1048576 := by rw [diffW_len]; omega
      obtain ⟨y, ey⟩ : ∃ y, l.getLastD 0 = y := ⟨_, rfl⟩
      have hg := HG.out
      rw [ey] at hy hg
      obtain ⟨z1, ez1⟩ : ∃ z1, IntKind.i64.wrap (rev - y) = z1 := ⟨_, rfl⟩
      rw [ez1] at hg
      obtain ⟨z, ez⟩ : ∃ z, IntKind.i64.wrap (z1 + t0) = z := ⟨_, rfl⟩
      rw [ez] at hg
      have HGG := Lib.hid hg
      clear hg ey HL
      have i0 : 1 ≤ (l.length : Int) := by omega
      have i1 : 0 ≤ (l.length : Int) - 1 := by omega
      have i2 : (l.length : Int) - 1 < (l.length : Int) := by omega
      have q1 : IntKind.i64.wrap ((l.length : Int) - 1) = (l.length : Int) - 1 := IntWalk.i64_in _ (by omega)
      have hx0r : wr.cell? a = some (.int .i64 t0) := (hbel.cell (p := a) hab).trans hx0'
      have hyb : (a.add (l.length - 1)).block < wr.heap.size := World.block_lt_of_cell? wr _ hy
      go_wp2_with fail
      go_region_law (refine step_append_int rfl _ _ rfl B v (diffW l) z _ rfl rfl (by first | exact hown.alloc _ | exact (hown.alloc _).drew) (by simp) (by omega) (by first | omega | (simp; omega)) ?_; intro v1 w1 hown1 hb1; obtain ⟨q1, c1, rfl, hs1⟩ := hown1.open_; have F1 := Blk.below (by exact hF.alloc' _) hb1 (by omega); obtain ⟨p0, p1, p2⟩ := F1.cell3; have pf := F1.frozen; have R1 := Blk.below (by exact hR.alloc' _) hb1 (by omega); have hz1 := hb1.size; simp at hz1)
      all_goals
        have hown2 : OwnI w1 B (.slice q1 ((diffW l).length + 1) c1) (gapsT l rev) := by
          rw [HGG.out]
          simpa using hown1
        have hbn : Below w.heap.size w w1 := by first | exact (hbel.alloc hbel.size (.cells #[.int .i64 z] 2)).drew.trans (hb1.mono (B' := w.heap.size) (by omega)) | exact (hbel.alloc hbel.size (.cells #[.int .i64 z] 2)).trans (hb1.mono (B' := w.heap.size) (by omega))
        have hgl : (gapsT l rev).length = (diffW l).length + 1 := by rw [HGG.out]; simp
        have F2 := F1.set32 (.slice q1 ((diffW l).length + 1) c1)
        have R2 := R1.off (g' := w.heap.size + 1) (by omega) 2 (.slice q1 ((diffW l).length + 1) c1)
        obtain ⟨s0, s1, s2⟩ := F2.cell3
        obtain ⟨r0, r1, r2⟩ := R2.cell3
        have rf := R2.frozen
        have hown3 := hown2.off (g' := w.heap.size + 1) (by omega) 2 (.slice q1 ((diffW l).length + 1) c1)
        have hbn2 := hbn.setCell (p := ⟨w.heap.size + 1, 2, none⟩) (Nat.le_succ _) (.slice q1 ((diffW l).length + 1) c1)
        clear p0 p1 p2 f0 f1 f2
        have R3 := R2.set3 (.int .i64 cell) (.int .i64 t0) (.slice q1 ((diffW l).length + 1) c1)
        obtain ⟨e0, e1, e2⟩ := R3.cell3
        generalize w1.setCell ⟨w.heap.size + 1, 2, none⟩ (.slice q1 ((diffW l).length + 1) c1) = w5 at F2 R2 s0 s1 s2 r0 r1 r2 rf hown3 hbn2 R3 e0 e1 e2 ⊢
        go_wp2_with fail
        refine bodyPost_ret (v := .agg #[.int .i64 cell, .int .i64 t0, .slice q1 ((diffW l).length + 1) c1]) (by simp [results, Tryz.results23, go_sem, e0, e1, e2]) rfl ?_
        obtain ⟨qq, dd, hqq, hS⟩ := (((hown3.off (g' := w.heap.size) (by omega) 0 (.int .i64 cell)).off (g' := w.heap.size) (by omega) 1 (.int .i64 t0)).off (g' := w.heap.size) (by omega) 2 (.slice q1 ((diffW l).length + 1) c1)).open_
        injection hqq with h3 h4 h5
        subst h3
        exact ⟨q1, c1, by rw [hgl], hS.mono (by omega), ((hbn2.setCell (p := ⟨w.heap.size, 0, none⟩) (Nat.le_refl _) _).setCell (p := ⟨w.heap.size, 1, none⟩) (Nat.le_refl _) _).setCell (p := ⟨w.heap.size, 2, none⟩) (Nat.le_refl _) _⟩
end Go.Proofs.YtfdcainjppljhaaGreatDoor
namespace Go.Proofs.YtfdcainjppljhaaGreatDoor
open Go.RowKit
end Go.Proofs.YtfdcainjppljhaaGreatDoor
namespace Go.Proofs.YtfdcainjppljhaaGreatDoor
theorem diffW_sum : ∀ (t : List Int), t ≠ [] → (∀ x ∈ t, 0 ≤ x ∧ x ≤ 9223372036854775807) → (diffW t).sum = t.getLastD 0 - t.headD 0
  | [], h, _ => absurd rfl h
  | [a], _, _ => by simp [diffW]
  | a :: b :: l, _, hb => by
    have ha := hb a (by simp)
    have hbb := hb b (by simp)
    have ih := diffW_sum (b :: l) (by simp) (fun x hx => hb x (by simp [hx]))
    have hw : IntKind.i64.wrap (b - a) = b - a := IntWalk.i64_in _ (by omega)
    simp only [diffW, List.sum_cons, hw, ih]
    simp only [List.headD_cons, List.getLastD_cons]
    cases l <;> simp <;> omega
theorem getLastD_mem' {l : List Int} (h : l ≠ []) : l.getLastD 0 ∈ l := lastD_mem (by cases l with | nil => exact absurd rfl h | cons a l => simp)
theorem headD_mem {l : List Int} (h : l ≠ []) : l.headD 0 ∈ l := by
  cases l with
  | nil => exact absurd rfl h
  | cons a l => simp
theorem risesB_mem {l : List Int} {lo hi : Int} (h : risesB l lo hi = true) : ∀ x ∈ l, lo ≤ x ∧ x ≤ hi := by
  unfold risesB at h
  rw [Bool.and_eq_true] at h
  intro x hx
  exact inB_iff.1 (List.all_eq_true.1 h.1 x hx)
theorem make_ok {t : List Int} {rev cell : Int} (ht : t ≠ []) (hr : -9223372036854775808 ≤ rev ∧ rev ≤ 9223372036854775807) :
    (risesB t 0 (IntKind.i64.wrap (rev - 1)) && (decide (rev ≤ 2000000) && fluxOk cell (t.headD 0) (gapsT t rev))) = timesOk t rev cell := by
  by_cases h1 : inB rev 1 2000000 = true
  · have h2 := inB_iff.1 h1
    have hw : IntKind.i64.wrap (rev - 1) = rev - 1 := IntWalk.i64_in _ (by omega)
    unfold timesOk
    rw [h1, hw, decide_eq_true h2.2]
    simp
  · have h2 : timesOk t rev cell = false := by unfold timesOk; simp only [Bool.not_eq_true] at h1; rw [h1]; rfl
    rw [h2]
    by_cases h3 : rev ≤ 2000000
    · have h4 : rev ≤ 0 := by
        rcases Int.lt_or_le 0 rev with h | h
        · exact absurd (inB_yes ⟨by omega, h3⟩) h1
        · exact h
      cases h5 : risesB t 0 (IntKind.i64.wrap (rev - 1))
      · rfl
      · have hm := risesB_mem h5
        have hh := hm _ (headD_mem ht)
        have hl := hm _ (getLastD_mem' ht)
        have hmin : rev = -9223372036854775808 := by
          rcases Int.lt_or_le (-9223372036854775808) rev with h | h
          · rw [show IntKind.i64.wrap (rev - 1) = rev - 1 from IntWalk.i64_in _ (by omega)] at hh
            omega
          · omega
        subst hmin
        cases h6 : fluxOk cell (t.headD 0) (gapsT t (-9223372036854775808))
        · simp
        · exfalso
          obtain ⟨-, -, hg, -, -, hs⟩ := fluxOk_bd h6
          rw [show IntKind.i64.wrap (-9223372036854775808 - 1) = 9223372036854775807 by decide] at hm hh hl
          have hsum := diffW_sum t ht hm
          have hlast := hg (IntKind.i64.wrap (IntKind.i64.wrap (-9223372036854775808 - t.getLastD 0) + t.headD 0)) (by simp [gapsT])
          have hd : 0 ≤ (diffW t).sum := by
            have := sumI_bd (l := diffW t) (lo := 0) (hi := 2000000) (fun x hx => by have := hg x (by simp [gapsT, hx]); omega)
            omega
          have hs2 : (gapsT t (-9223372036854775808)).sum = (diffW t).sum + IntKind.i64.wrap (IntKind.i64.wrap (-9223372036854775808 - t.getLastD 0) + t.headD 0) := by simp [gapsT]
          rw [hs2] at hs
          generalize t.getLastD 0 = u at *
          generalize t.headD 0 = v at *
          simp only [IntKind.wrap_i64] at hlast hs
          omega
    · rw [decide_eq_false h3]
      simp
end Go.Proofs.YtfdcainjppljhaaGreatDoor
namespace Go.Proofs.YtfdcainjppljhaaGreatDoor
open Go.RowKit
set_option linter.unusedVariables false

theorem Blk.drew {w : World} {g : Nat} {t : TypeId} {cs : Array Value} (h : Blk w g t cs) : Blk w.drew g t cs := h
theorem OwnS.offS {w : World} {base g' : Nat} {p : Option Addr} {l : List Int} (h : OwnS w base p l) (hb : g' < base) (o : Nat) (x : Value) : OwnS (w.setCell ⟨g', o, none⟩ x) base p l := h.asides (Aside.setCell g' o x) (fun hl g hp e => by have := (h.lt hl hp).1; injection e with e; omega)

end Go.Proofs.YtfdcainjppljhaaGreatDoor
namespace Go.Proofs.YtfdcainjppljhaaGreatDoor
open Go.RowKit
set_option linter.unusedVariables false
/-- The times of the changes of the first k cells. -/
def timesZ (l : List UInt8) (cell : Int) (k : Nat) : List Int := (onesL l k).map fun (i : Nat) => (i : Int) * cell + cell / 2
theorem timesZ_len (l : List UInt8) (cell : Int) (k : Nat) : (timesZ l cell k).length = (onesL l k).length := by simp [timesZ]
theorem timesZ_yes {l : List UInt8} {k : Nat} (cell : Int) (h : l.getD k 0 = 49) : timesZ l cell (k + 1) = timesZ l cell k ++ [(k : Int) * cell + cell / 2] := by
  unfold timesZ
  rw [onesL_yes h]
  simp
theorem timesZ_no {l : List UInt8} {k : Nat} (cell : Int) (h : l.getD k 0 ≠ 49) : timesZ l cell (k + 1) = timesZ l cell k := by
  unfold timesZ
  rw [onesL_no h]
end Go.Proofs.YtfdcainjppljhaaGreatDoor
namespace Go.Proofs.YtfdcainjppljhaaGreatDoor
open Go.RowKit
set_option linter.unusedVariables false
/-- All bytes are '0' or '1'. -/
def bitB (b : UInt8) : Bool := b == 48 || b == 49
def bitsAll (l : List UInt8) : Bool := l.all bitB
theorem dropWhile_nil {α : Type} (p : α → Bool) : ∀ l : List α, (l.dropWhile p = []) ↔ l.all p = true
  | [] => by simp
  | a :: l => by
    cases h : p a
    · simp [List.dropWhile, h]
    · simp [List.dropWhile, h, dropWhile_nil p l]
theorem contains01 (b : UInt8) : List.contains [48, 49] b = bitB b := by
  unfold bitB
  simp [List.contains, List.elem]
  cases h1 : (b == 48) <;> cases h2 : (b == 49) <;> rfl
theorem trim_nil (l : List UInt8) : Lib.trimS l [48, 49] = [] ↔ bitsAll l = true := by
  have hc : (fun b => List.contains [48, 49] b) = bitB := funext contains01
  unfold Lib.trimS Lib.trimLeftS Lib.trimRightS bitsAll
  rw [hc, dropWhile_nil, List.all_reverse]
  constructor
  · intro h
    have h1 : l.reverse.dropWhile bitB = [] := by
      cases e : l.reverse.dropWhile bitB with
      | nil => rfl
      | cons a r =>
        rw [e] at h
        have h2 := List.head?_dropWhile_not bitB l.reverse
        rw [e] at h2
        simp at h2
        simp [h2] at h
    rw [dropWhile_nil] at h1
    simpa using h1
  · intro h
    have h1 : l.reverse.dropWhile bitB = [] := (dropWhile_nil bitB _).2 (by simpa using h)
    rw [h1]
    rfl
theorem strings_Trim01 (s : ByteArray) (w : World) (hs : s.size ≤ 9223372036854775807) :
    Calls Tryz.prog 64 #[.string s, .string ⟨#[48, 49]⟩] w fun e w' => e = .returned (.string ⟨(Lib.trimS s.data.toList [48, 49]).toArray⟩) ∧ Below w.heap.size w w' :=
  Any.strings_Trim_laid Tryz.lays160 (by kernel_rfl) s ⟨#[48, 49]⟩ w hs (by decide) (ascii_of_all (by decide))
end Go.Proofs.YtfdcainjppljhaaGreatDoor
namespace Go.Proofs.YtfdcainjppljhaaGreatDoor
open Go.RowKit
set_option linter.unusedVariables false
theorem bitB_cases (b : UInt8) : (bitB b = true ∧ ((b.toNat : Int) = 48 ∨ (b.toNat : Int) = 49)) ∨ (bitB b = false ∧ ((b.toNat : Int) != 48) = true ∧ ((b.toNat : Int) != 49) = true) := by
  by_cases h1 : b = 48
  · subst h1; exact .inl ⟨rfl, .inl rfl⟩
  · by_cases h2 : b = 49
    · subst h2; exact .inl ⟨rfl, .inr rfl⟩
    · refine .inr ⟨by simp [bitB, h1, h2], ?_, ?_⟩
      · rw [bne_iff_ne]; intro h; exact h1 (UInt8.toNat_inj.1 (by rw [show (48 : UInt8).toNat = 48 from rfl]; omega))
      · rw [bne_iff_ne]; intro h; exact h2 (UInt8.toNat_inj.1 (by rw [show (49 : UInt8).toNat = 49 from rfl]; omega))
theorem bits_not {s : ByteArray} {k : Nat} (h : k < s.size) (hl : bitB (s[k]'h) = false) : bitsAll s.data.toList = false := by
  unfold bitsAll
  rw [List.all_eq_false]
  exact ⟨_, List.getElem_mem (l := s.data.toList) (n := k) (by simpa using h), by
    have : s.data.toList[k]'(by simpa using h) = s[k]'h := rfl
    rw [this, hl]; decide⟩
theorem bits_yes {s : ByteArray} (ha : ∀ j (hj : j < s.size), bitB (s[j]'hj) = true) : bitsAll s.data.toList = true := by
  unfold bitsAll
  rw [List.all_eq_true]
  intro c hc
  obtain ⟨j, hj, rfl⟩ := List.getElem_of_mem hc
  exact ha j (by simpa using hj)
theorem bits_at {s : ByteArray} (h : bitsAll s.data.toList = true) {k : Nat} (hk : k < s.size) : bitB (s[k]'hk) = true :=
  List.all_eq_true.1 h _ (List.getElem_mem (l := s.data.toList) (n := k) (by simpa using hk))
theorem bits_step {s : ByteArray} {k : Nat} (hlt : k < s.size) (h : Hid (∀ j (hj : j < s.size), j < k → bitB (s[j]'hj) = true)) (hk : bitB (s[k]'hlt) = true) :
    Hid (∀ j (hj : j < s.size), j < k + 1 → bitB (s[j]'hj) = true) := by
  intro j hj hjk
  by_cases e : j = k
  · subst e; exact hk
  · exact h.out j hj (by omega)
/-- Cells: at most 8000, each 0 or 1. -/
def cellStr (s : ByteArray) : Bool := decide (s.size ≤ 8000) && bitsAll s.data.toList
def cellsB (s : ByteArray) : Bool := decide (1 ≤ s.size) && cellStr s
theorem impl_isBits (s : ByteArray) (w : World) (hs : s.size ≤ 9223372036854775807) :
    Calls Tryz.prog 46 #[.string s] w fun e w' => e = .returned (.bool (bitsAll s.data.toList)) ∧ Below w.heap.size w w' := by
  go_enter Tryz.func46, Tryz.ntmps46
  go_wp2_with fail
  refine (strings_Trim01 s w hs).mono ?_
  rintro e w1 ⟨rfl, hb⟩
  have ht := trim_nil s.data.toList
  generalize Lib.trimS s.data.toList [48, 49] = t at ht
  cases t with
  | nil =>
    have H := Lib.hid (ht.1 rfl)
    go_wp2_with fail
    go_ret
    exact ⟨ret_bool (by rw [H.out]), hb⟩
  | cons a r =>
    have h1 : bitsAll s.data.toList = false := by
      cases h : bitsAll s.data.toList with
      | false => rfl
      | true => exact absurd (ht.2 h) (by simp)
    have H := Lib.hid h1
    clear ht h1
    go_wp2_with fail
    go_ret
    exact ⟨ret_bool (by rw [H.out]), hb⟩
theorem impl_isCellString (s : ByteArray) (w : World) (hs : s.size ≤ 9223372036854775807) :
    Calls Tryz.prog 37 #[.string s] w fun e w' => e = .returned (.bool (cellStr s)) ∧ Below w.heap.size w w' := by
  by_cases h : s.size ≤ 8000
  · have hd : decide ((s.size : Int) ≤ 8000) = true := by simp; omega
    have H : Hid (cellStr s = bitsAll s.data.toList) := Lib.hid (by simp [cellStr, h])
    go_enter Tryz.func37, Tryz.ntmps37
    go_wp2_with (go_at_call 46; refine (impl_isBits s _ hs).mono ?_; rintro e w1 ⟨rfl, hb⟩)
    all_goals
      go_ret
      exact ⟨ret_bool (by rw [H.out]), hb⟩
  · have hd : decide ((s.size : Int) ≤ 8000) = false := by simp; omega
    have H : Hid (cellStr s = false) := Lib.hid (by simp [cellStr, h])
    go_enter Tryz.func37, Tryz.ntmps37
    go_wp2_with fail
    go_ret
    exact ⟨ret_bool (by rw [H.out]), Below.refl _ _⟩
theorem impl_ValidCells (s : ByteArray) (w : World) (hs : s.size ≤ 9223372036854775807) :
    Calls Tryz.prog 21 #[.string s] w fun e w' => e = .returned (.bool (cellsB s)) ∧ Below w.heap.size w w' := by
  rcases Nat.eq_zero_or_pos s.size with h | h1
  · have H := Lib.hid (show cellsB s = false by simp [cellsB, h])
    obtain rfl := empty_of_size h
    go_enter Tryz.func21, Tryz.ntmps21
    go_wp2_with fail
    go_ret
    exact ⟨ret_bool (by rw [H.out]), Below.refl _ _⟩
  · have he := isEmpty_of_pos h1
    have hn : ¬ s.toList = [] := by rw [← List.isEmpty_iff, he]; decide
    have H : Hid (cellsB s = cellStr s) := Lib.hid (by simp [cellsB]; intro _; omega)
    go_enter Tryz.func21, Tryz.ntmps21
    go_wp2_with (go_at_call 37; refine (impl_isCellString s _ hs).mono ?_; rintro e w1 ⟨rfl, hb⟩)
    all_goals
      go_ret
      exact ⟨ret_bool (by rw [H.out]), hb⟩
end Go.Proofs.YtfdcainjppljhaaGreatDoor
namespace Go.Proofs.YtfdcainjppljhaaGreatDoor
open Go.RowKit
set_option linter.unusedVariables false
def foOk (s : ByteArray) (cell : Int) : Bool := cellsB s && inB cell 4 200
def foN (s : ByteArray) : Nat := (onesL s.data.toList s.size).length
def foGood (s : ByteArray) (cell : Int) : Bool := foOk s cell && (decide (1 ≤ foN s) && decide (foN s ≤ 4000))
def foT (s : ByteArray) (cell : Int) : List Int := timesZ s.data.toList cell s.size
def foC (s : ByteArray) (cell : Int) : Int := if foGood s cell then cell else 0
def foF (s : ByteArray) (cell : Int) : Int := if foGood s cell then (foT s cell).headD 0 else 0
def foL (s : ByteArray) (cell : Int) : List Int := if foGood s cell then gapsT (foT s cell) ((s.size : Int) * cell) else []
def foE (s : ByteArray) (cell : Int) : Int := if foOk s cell then (if foN s = 0 then 6 else if 4000 < foN s then 5 else 0) else 1
theorem fo_no {s : ByteArray} {cell : Int} (h : foGood s cell = false) : foC s cell = 0 ∧ foF s cell = 0 ∧ foL s cell = [] := by unfold foC foF foL; rw [h]; exact ⟨rfl, rfl, rfl⟩
theorem fo_yes {s : ByteArray} {cell : Int} (h : foGood s cell = true) : foC s cell = cell ∧ foF s cell = (foT s cell).headD 0 ∧ foL s cell = gapsT (foT s cell) ((s.size : Int) * cell) := by unfold foC foF foL; rw [h]; exact ⟨rfl, rfl, rfl⟩
theorem foL_len (s : ByteArray) (cell : Int) : (foL s cell).length ≤ 4000 := by
  unfold foL
  split
  · rename_i h
    unfold foGood at h
    simp at h
    rw [gapsT_len _ _ (by unfold foT; rw [timesZ_len]; exact h.2.1)]
    unfold foT
    rw [timesZ_len]
    exact h.2.2
  · simp
theorem cellStr_bd'' {s : ByteArray} (h : cellsB s = true) : 1 ≤ s.size ∧ s.size ≤ 8000 := by
  unfold cellsB cellStr at h
  simp at h
  omega
set_option maxHeartbeats 4000000 in
set_option maxRecDepth 20000 in
theorem impl_FluxOf (s : ByteArray) (cell : Int) (w : World) (hs : s.size ≤ 1048576) :
    Calls Tryz.prog 6 #[.string s, .int .i64 cell] w fun e w' => ∃ (q : Option Addr) (dq : Nat), e = .returned (.tuple #[.agg #[.int .i64 (foC s cell), .int .i64 (foF s cell), .slice q (foL s cell).length dq], .int .i64 (foE s cell)]) ∧ OwnS w' w.heap.size q (foL s cell) ∧ Below w.heap.size w w' := by
  have R0 := Blk.new w 28 #[.int .i64 0, .int .i64 0, .slice none 0 0]
  have W0 : Below w.heap.size w (w.alloc (.cells #[.int .i64 0, .int .i64 0, .slice none 0 0] 28)) := (Below.refl _ _).alloc (Nat.le_refl _) _
  obtain h | h := (Bool.eq_false_or_eq_true (cellsB s)).symm
  · have hg : foGood s cell = false := by unfold foGood foOk; rw [h]; rfl
    have HE : Hid (foE s cell = 1) := Lib.hid (by unfold foE foOk; rw [h]; rfl)
    have HN := Lib.hid (fo_no hg)
    have H := Lib.hid h
    clear h hg
    go_enter Tryz.func6, Tryz.ntmps6
    go_wp2_with fail
    generalize w.alloc (.cells #[.int .i64 0, .int .i64 0, .slice none 0 0] 28) = w0 at R0 W0 ⊢
    refine (impl_ValidCells s _ (by omega)).mono ?_
    rintro e w1 ⟨rfl, hb1⟩
    replace W0 := below_st W0 hb1 (Nat.le_refl _)
    replace R0 := R0.keep hb1
    clear hb1
    rw [H.out]
    obtain ⟨r0, r1', r2⟩ := R0.cell3
    have rf := R0.frozen
    have rlt := R0.lt
    obtain ⟨e0, e1, e2⟩ := (R0.set3 (.int .i64 0) (.int .i64 0) (.slice none 0 0)).cell3
    go_wp2_with fail
    refine bodyPost_ret (v := .tuple #[.agg #[.int .i64 0, .int .i64 0, .slice none 0 0], .int .i64 1]) (by simp [results, Tryz.results6, go_sem, e0, e1, e2, r0, r1', r2]) rfl ?_
    rw [HN.out.1, HN.out.2.1, HN.out.2.2, HE.out]
    first | exact ⟨none, 0, rfl, OwnS.nil_ _ _ _, W0⟩ | exact ⟨none, 0, rfl, OwnS.nil_ _ _ _, ((W0.setCell (p := ⟨w.heap.size, 0, none⟩) (Nat.le_refl _) _).setCell (p := ⟨w.heap.size, 1, none⟩) (Nat.le_refl _) _).setCell (p := ⟨w.heap.size, 2, none⟩) (Nat.le_refl _) _⟩ | exact ⟨none, ⟨0, rfl⟩, OwnS.nil_ _ _ _, ((W0.setCell (p := ⟨w.heap.size, 0, none⟩) (Nat.le_refl _) _).setCell (p := ⟨w.heap.size, 1, none⟩) (Nat.le_refl _) _).setCell (p := ⟨w.heap.size, 2, none⟩) (Nat.le_refl _) _⟩
  obtain h2 | h2 := (Bool.eq_false_or_eq_true (inB cell 4 200)).symm
  · have hg : foGood s cell = false := by unfold foGood foOk; rw [h2, Bool.and_false]; rfl
    have HE : Hid (foE s cell = 1) := Lib.hid (by unfold foE foOk; rw [h2, Bool.and_false]; rfl)
    have HN := Lib.hid (fo_no hg)
    have H := Lib.hid h
    have HI := Lib.hid h2
    clear h h2 hg
    go_enter Tryz.func6, Tryz.ntmps6
    go_wp2_with fail
    generalize w.alloc (.cells #[.int .i64 0, .int .i64 0, .slice none 0 0] 28) = w0 at R0 W0 ⊢
    refine (impl_ValidCells s _ (by omega)).mono ?_
    rintro e w1 ⟨rfl, hb1⟩
    replace W0 := below_st W0 hb1 (Nat.le_refl _)
    replace R0 := R0.keep hb1
    clear hb1
    rw [H.out]
    go_wp2_with fail
    refine (within_any _ _ _ _).mono ?_
    rintro e w2 ⟨rfl, rfl⟩
    rw [HI.out]
    obtain ⟨r0, r1', r2⟩ := R0.cell3
    have rf := R0.frozen
    have rlt := R0.lt
    obtain ⟨e0, e1, e2⟩ := (R0.set3 (.int .i64 0) (.int .i64 0) (.slice none 0 0)).cell3
    go_wp2_with fail
    refine bodyPost_ret (v := .tuple #[.agg #[.int .i64 0, .int .i64 0, .slice none 0 0], .int .i64 1]) (by simp [results, Tryz.results6, go_sem, e0, e1, e2, r0, r1', r2]) rfl ?_
    rw [HN.out.1, HN.out.2.1, HN.out.2.2, HE.out]
    first | exact ⟨none, 0, rfl, OwnS.nil_ _ _ _, W0⟩ | exact ⟨none, 0, rfl, OwnS.nil_ _ _ _, ((W0.setCell (p := ⟨w.heap.size, 0, none⟩) (Nat.le_refl _) _).setCell (p := ⟨w.heap.size, 1, none⟩) (Nat.le_refl _) _).setCell (p := ⟨w.heap.size, 2, none⟩) (Nat.le_refl _) _⟩ | exact ⟨none, ⟨0, rfl⟩, OwnS.nil_ _ _ _, ((W0.setCell (p := ⟨w.heap.size, 0, none⟩) (Nat.le_refl _) _).setCell (p := ⟨w.heap.size, 1, none⟩) (Nat.le_refl _) _).setCell (p := ⟨w.heap.size, 2, none⟩) (Nat.le_refl _) _⟩
  have hok : foOk s cell = true := by unfold foOk; rw [h, h2]; rfl
  have hcb := inB_iff.1 h2
  have hsz := cellStr_bd'' h
  have H := Lib.hid h
  have HI := Lib.hid h2
  have HG : Hid (foGood s cell = (decide (1 ≤ foN s) && decide (foN s ≤ 4000))) := Lib.hid (by unfold foGood; rw [hok]; rfl)
  have HE0 : Hid (foE s cell = if foN s = 0 then 6 else if 4000 < foN s then 5 else 0) := Lib.hid (by unfold foE; rw [hok]; rfl)
  clear h h2 hok
  have hol := onesL_len s.data.toList s.size
  have hq : cell.tdiv 2 = cell / 2 := Int.tdiv_eq_ediv_of_nonneg (by omega)
  obtain ⟨h2, eh⟩ : ∃ h2, cell / 2 = h2 := ⟨_, rfl⟩
  have hh : 0 ≤ h2 ∧ h2 ≤ 1000 := by omega
  have HH := Lib.hid eh
  rw [eh] at hq
  have hfn : (timesZ s.data.toList cell s.size).length = foN s := timesZ_len _ _ _
  have HFN := Lib.hid hfn
  have hol2 : foN s ≤ s.size := hol
  clear eh hfn hol
  go_enter Tryz.func6, Tryz.ntmps6
  go_wp2_with fail
  generalize w.alloc (.cells #[.int .i64 0, .int .i64 0, .slice none 0 0] 28) = w0 at R0 W0 ⊢
  refine (impl_ValidCells s _ (by omega)).mono ?_
  rintro e w1 ⟨rfl, hb1⟩
  replace W0 := below_st W0 hb1 (Nat.le_refl _)
  replace R0 := R0.keep hb1
  clear hb1
  rw [H.out]
  go_wp2_with fail
  refine (within_any _ _ _ _).mono ?_
  rintro e w2 ⟨rfl, rfl⟩
  rw [HI.out]
  obtain ⟨B, eB⟩ : ∃ B, w1.heap.size = B := ⟨_, rfl⟩
  have hzR := R0.lt
  have hz1 := W0.size
  rw [eB] at hzR hz1
  go_wp2_with fail
  go_loopw [6, 19] (fun v i wr => ∃ k : Nat, k ≤ s.size ∧ i = .int .i64 k ∧ OwnI wr B v (timesZ s.data.toList cell k) ∧ Below B w1 wr) (fun _ i _ => s.size - (intOf i).toNat)
  case atStart => exact ⟨0, by omega, rfl, OwnI.none_ _ _, Below.refl _ _⟩
  case round =>
    obtain ⟨k, hk, rfl, hown, hbel⟩ := hrel
    have hz : B ≤ wr.heap.size := by have := hbel.size; omega
    by_cases hlt : k < s.size
    · have hgd := getD_at hlt
      have hol := onesL_len s.data.toList k
      rw [← timesZ_len s.data.toList cell k] at hol
      by_cases hc1 : ((s[k]'hlt).toNat : Int) = 49
      · have hy := timesZ_yes (l := s.data.toList) (k := k) cell (by rw [hgd]; exact ofNat_49 hc1)
        rw [HH.out] at hy
        obtain ⟨kc, ekc⟩ : ∃ kc, (k : Int) * cell = kc := ⟨_, rfl⟩
        have hkc : 0 ≤ kc ∧ kc ≤ 1048576000 := by
          rw [← ekc]
          refine ⟨Int.mul_nonneg (by omega) (by omega), ?_⟩
          calc (k : Int) * cell ≤ (k : Int) * 1000 := Int.mul_le_mul_of_nonneg_left (by omega) (by omega)
            _ ≤ 1048576000 := by omega
        have q1 : IntKind.i64.wrap ((k : Int) * cell) = kc := by rw [ekc, IntWalk.i64_in _ (by omega)]
        have q2 : IntKind.i64.wrap (kc + h2) = kc + h2 := IntWalk.i64_in _ (by omega)
        have q3 : IntKind.i64.wrap h2 = h2 := IntWalk.i64_in _ (by omega)
        rw [ekc] at hy
        have HY := Lib.hid hy
        clear hy hgd
        go_wp2_with (at_builtin; refine append_int _ rfl (.tmp 26) (.tmp 33) rfl B u6 (timesZ s.data.toList cell k) _ rfl rfl hown (by omega) hz ?_; intro v1 w2 hown1 hbel1)
        rw [← HY.out] at hown1
        go_roundw
        case rel => exact ⟨k + 1, by omega, by go_num, hown1, hbel.trans (hbel1.mono (Nat.le_refl _))⟩
        case measure => simp [intOf]; omega
      · have hno := timesZ_no (l := s.data.toList) (k := k) cell (by rw [hgd]; exact ofNat_not49 hc1)
        have HY := Lib.hid hno
        have hne : (((s[k]'hlt).toNat : Int) == 49) = false := by rw [beq_eq_false_iff_ne]; exact hc1
        clear hno hgd
        go_wp2_with fail
        go_roundw
        case rel => exact ⟨k + 1, by omega, by go_num, by rw [HY.out]; exact hown, hbel⟩
        case measure => simp [intOf]; omega
    · have hk2 : k = s.size := by omega
      subst hk2
      obtain ⟨q, d, rfl, hS⟩ := hown.open_
      obtain ⟨n, hn⟩ : ∃ n, foN s = n := ⟨_, rfl⟩
      have hfn := HFN.out
      rw [hn] at hfn HG HE0 hol2
      rw [hfn]
      replace R0 := R0.below hbel hzR
      have W1 : Below w.heap.size w wr := W0.trans (hbel.mono hz1)
      clear W0
      by_cases h0 : n = 0
      · have hg : foGood s cell = false := by rw [HG.out, h0]; rfl
        have HE : Hid (foE s cell = 6) := Lib.hid (by rw [HE0.out, h0]; rfl)
        have HN := Lib.hid (fo_no hg)
        subst h0
        have W0 := W1
        clear hg HG hfn
        obtain ⟨r0, r1', r2⟩ := R0.cell3
        have rf := R0.frozen
        have rlt := R0.lt
        obtain ⟨e0, e1, e2⟩ := (R0.set3 (.int .i64 0) (.int .i64 0) (.slice none 0 0)).cell3
        go_wp2_with fail
        refine bodyPost_ret (v := .tuple #[.agg #[.int .i64 0, .int .i64 0, .slice none 0 0], .int .i64 6]) (by simp [results, Tryz.results6, go_sem, e0, e1, e2, r0, r1', r2]) rfl ?_
        rw [HN.out.1, HN.out.2.1, HN.out.2.2, HE.out]
        first | exact ⟨none, 0, rfl, OwnS.nil_ _ _ _, W0⟩ | exact ⟨none, 0, rfl, OwnS.nil_ _ _ _, ((W0.setCell (p := ⟨w.heap.size, 0, none⟩) (Nat.le_refl _) _).setCell (p := ⟨w.heap.size, 1, none⟩) (Nat.le_refl _) _).setCell (p := ⟨w.heap.size, 2, none⟩) (Nat.le_refl _) _⟩ | exact ⟨none, ⟨0, rfl⟩, OwnS.nil_ _ _ _, ((W0.setCell (p := ⟨w.heap.size, 0, none⟩) (Nat.le_refl _) _).setCell (p := ⟨w.heap.size, 1, none⟩) (Nat.le_refl _) _).setCell (p := ⟨w.heap.size, 2, none⟩) (Nat.le_refl _) _⟩
      by_cases h4 : 4000 < n
      · have hg : foGood s cell = false := by rw [HG.out, decide_eq_false (by omega : ¬ n ≤ 4000), Bool.and_false]
        have HE : Hid (foE s cell = 5) := Lib.hid (by rw [HE0.out, if_neg h0, if_pos h4])
        have HN := Lib.hid (fo_no hg)
        have d0 : ((n : Int) == 0) = false := by rw [beq_eq_false_iff_ne]; omega
        have d1 : decide ((4000 : Int) < (n : Int)) = true := decide_eq_true (by omega)
        have W0 := W1
        clear hg HG hfn
        obtain ⟨r0, r1', r2⟩ := R0.cell3
        have rf := R0.frozen
        have rlt := R0.lt
        obtain ⟨e0, e1, e2⟩ := (R0.set3 (.int .i64 0) (.int .i64 0) (.slice none 0 0)).cell3
        go_wp2_with fail
        refine bodyPost_ret (v := .tuple #[.agg #[.int .i64 0, .int .i64 0, .slice none 0 0], .int .i64 5]) (by simp [results, Tryz.results6, go_sem, e0, e1, e2, r0, r1', r2]) rfl ?_
        rw [HN.out.1, HN.out.2.1, HN.out.2.2, HE.out]
        first | exact ⟨none, 0, rfl, OwnS.nil_ _ _ _, W0⟩ | exact ⟨none, 0, rfl, OwnS.nil_ _ _ _, ((W0.setCell (p := ⟨w.heap.size, 0, none⟩) (Nat.le_refl _) _).setCell (p := ⟨w.heap.size, 1, none⟩) (Nat.le_refl _) _).setCell (p := ⟨w.heap.size, 2, none⟩) (Nat.le_refl _) _⟩ | exact ⟨none, ⟨0, rfl⟩, OwnS.nil_ _ _ _, ((W0.setCell (p := ⟨w.heap.size, 0, none⟩) (Nat.le_refl _) _).setCell (p := ⟨w.heap.size, 1, none⟩) (Nat.le_refl _) _).setCell (p := ⟨w.heap.size, 2, none⟩) (Nat.le_refl _) _⟩
      have hg : foGood s cell = true := by rw [HG.out, decide_eq_true (by omega : 1 ≤ n), decide_eq_true (by omega : n ≤ 4000)]; rfl
      have HE : Hid (foE s cell = 0) := Lib.hid (by rw [HE0.out, if_neg h0, if_neg h4])
      have HN := Lib.hid (fo_yes hg)
      have d0 : ((n : Int) == 0) = false := by rw [beq_eq_false_iff_ne]; omega
      have d1 : decide ((4000 : Int) < (n : Int)) = false := decide_eq_false (by omega)
      obtain ⟨sc, esc⟩ : ∃ sc, (s.size : Int) * cell = sc := ⟨_, rfl⟩
      have hsc : 0 ≤ sc ∧ sc ≤ 1048576000 := by
        rw [← esc]
        refine ⟨Int.mul_nonneg (by omega) (by omega), ?_⟩
        calc (s.size : Int) * cell ≤ (s.size : Int) * 1000 := Int.mul_le_mul_of_nonneg_left (by omega) (by omega)
          _ ≤ 1048576000 := by omega
      have q1 : IntKind.i64.wrap ((s.size : Int) * cell) = sc := by rw [esc, IntWalk.i64_in _ (by omega)]
      have HSC := Lib.hid esc
      have hcon := fun w' hI => impl_fluxOfTimes q (timesZ s.data.toList cell s.size) d sc cell w' hI (by omega) (by omega)
      rw [hfn] at hcon
      clear hg HG hfn
      go_wp2_with fail
      with_reducible refine (hcon _ hS.ints).mono ?_
      rintro e w5 ⟨q5, d5, rfl, S1, hb5⟩
      have hTE : timesZ s.data.toList cell s.size = foT s cell := rfl
      rw [hTE] at S1 ⊢
      have HSC2 : Hid (gapsT (foT s cell) ((s.size : Int) * cell) = gapsT (foT s cell) sc) := Lib.hid (by rw [HSC.out])
      generalize hfd : (foT s cell).headD 0 = y at *
      generalize hgt : gapsT (foT s cell) sc = G at *
      have hz1' := W1.size
      have hz0' := R0.lt
      replace R0 := R0.keep hb5
      have W0 := below_st W1 hb5 (Nat.le_refl _)
      have hs1 := ((W0.setCell (p := ⟨w.heap.size, 0, none⟩) (Nat.le_refl _) (.int .i64 cell)).setCell (p := ⟨w.heap.size, 1, none⟩) (Nat.le_refl _) (.int .i64 y)).setCell (p := ⟨w.heap.size, 2, none⟩) (Nat.le_refl _) (.slice q5 G.length d5)
      obtain ⟨r0, r1', r2⟩ := R0.cell3
      have rf := R0.frozen
      have rlt := R0.lt
      obtain ⟨e0, e1, e2⟩ := (R0.set3 (.int .i64 cell) (.int .i64 y) (.slice q5 G.length d5)).cell3
      have S5 := ((S1.offS (g' := w.heap.size) hz0' 0 (.int .i64 cell)).offS (g' := w.heap.size) hz0' 1 (.int .i64 y)).offS (g' := w.heap.size) hz0' 2 (.slice q5 G.length d5)
      go_wp2_with fail
      refine bodyPost_ret (v := .tuple #[.agg #[.int .i64 cell, .int .i64 y, .slice q5 G.length d5], .int .i64 0]) (by simp [results, Tryz.results6, go_sem, e0, e1, e2]) rfl ?_
      rw [HN.out.1, HN.out.2.1, HN.out.2.2, HE.out, HSC2.out]
      exact ⟨q5, d5, rfl, S5.mono hz1', hs1⟩
end Go.Proofs.YtfdcainjppljhaaGreatDoor
namespace Go.Proofs.YtfdcainjppljhaaGreatDoor
open Go.RowKit
set_option linter.unusedVariables false
theorem frw {x : Int} (h : -9223372036854775808 ≤ x ∧ x ≤ 9223372036854775807) : IntKind.i64.wrap x = x := IntWalk.i64_in _ h
def mvT (c : Int) (z : List (Nat × Int)) : List Int := z.map fun x => (x.1 : Int) * c + c / 2 + x.2
def mvP (z : List (Nat × Int)) : List Nat := z.map (·.1)
def lastZ (z : List (Nat × Int)) : Nat × Int := z.getLastD (0, 0)
theorem onesL_lt {l : List UInt8} {k i : Nat} (h : i ∈ onesL l k) : i < k := by
  unfold onesL at h
  exact List.mem_range.1 (List.mem_filter.1 h).1
theorem onesL_up (l : List UInt8) (k : Nat) : (onesL l k).Pairwise (· < ·) := List.Pairwise.filter _ List.pairwise_lt_range
theorem gapL_pos : ∀ {p : List Nat}, p.Pairwise (· < ·) → ∀ n ∈ gapL p, 1 ≤ n
  | [], _, n, hn => by simp [gapL] at hn
  | [a], _, n, hn => by simp [gapL] at hn
  | a :: b :: r, h, n, hn => by
    have hab : a < b := List.rel_of_pairwise_cons h (by simp)
    simp only [gapL, List.mem_cons] at hn
    rcases hn with rfl | hn
    · omega
    · exact gapL_pos (List.Pairwise.of_cons h) n hn
theorem gapL_sum : ∀ (p : List Nat) (a : Nat), (gapL (a :: p)).sum = (((a :: p).getLastD 0 : Nat) : Int) - (a : Int)
  | [], a => by simp [gapL]
  | b :: r, a => by
    have := gapL_sum r b
    rw [show gapL (a :: b :: r) = ((b : Int) - (a : Int)) :: gapL (b :: r) from rfl, List.sum_cons, this]
    show _ = (((b :: r).getLastD 0 : Nat) : Int) - (a : Int)
    omega
theorem mvT_last (c : Int) {z : List (Nat × Int)} (h : z ≠ []) : (mvT c z).getLastD 0 = ((lastZ z).1 : Int) * c + c / 2 + (lastZ z).2 := by
  unfold mvT lastZ
  rw [List.getLastD_eq_getLast?, List.getLastD_eq_getLast?, List.getLast?_map, List.getLast?_eq_some_getLast h]
  rfl
theorem mvP_last {z : List (Nat × Int)} (h : z ≠ []) : (mvP z).getLastD 0 = (lastZ z).1 := by
  unfold mvP lastZ
  rw [List.getLastD_eq_getLast?, List.getLastD_eq_getLast?, List.getLast?_map, List.getLast?_eq_some_getLast h]
  rfl
theorem lastZ_mem {z : List (Nat × Int)} (h : z ≠ []) : lastZ z ∈ z := by
  unfold lastZ
  rw [List.getLastD_eq_getLast?, List.getLast?_eq_some_getLast h]
  exact List.getLast_mem h
theorem mul_bd {p : Nat} {c : Int} (hp : (p : Int) ≤ 8000) (hc : 4 ≤ c ∧ c ≤ 200) : 0 ≤ (p : Int) * c ∧ (p : Int) * c ≤ 1600000 := ⟨Int.mul_nonneg (by omega) (by omega), Int.mul_le_mul hp hc.2 (by omega) (by omega)⟩
theorem mv_gaps {c : Int} (hc : 4 ≤ c ∧ c ≤ 200) {N : Nat} (hN : (N : Int) ≤ 8000) {z : List (Nat × Int)} {p : Nat} {d : Int} (hd : ∀ x ∈ (p, d) :: z, -((c - 1) / 2) ≤ x.2 ∧ x.2 ≤ (c - 1) / 2) (h8 : ∀ x ∈ (p, d) :: z, (x.1 : Int) ≤ 8000) :
    gapsT (mvT c ((p, d) :: z)) ((N : Int) * c) = diffW (mvT c ((p, d) :: z)) ++ [((N : Int) - ((lastZ ((p, d) :: z)).1 : Int) + (p : Int)) * c + d - (lastZ ((p, d) :: z)).2] := by
  have hm := lastZ_mem (z := (p, d) :: z) (by simp)
  have a1 := hd _ hm
  have a2 := mul_bd (h8 _ hm) hc
  have a3 := mul_bd (h8 (p, d) (by simp)) hc
  have a4 := hd (p, d) (by simp)
  have a5 := mul_bd hN hc
  simp only at a3 a4
  unfold gapsT
  rw [mvT_last c (by simp), show (mvT c ((p, d) :: z)).headD 0 = (p : Int) * c + c / 2 + d from rfl, Int.add_mul, Int.sub_mul]
  congr 2
  rw [frw (x := (N : Int) * c - (((lastZ ((p, d) :: z)).1 : Int) * c + c / 2 + (lastZ ((p, d) :: z)).2)) (by omega), frw (by omega)]
  omega
theorem sum_ge0 : ∀ {l : List Int}, (∀ y ∈ l, 1 ≤ y) → 0 ≤ l.sum
  | [], _ => by simp
  | a :: l, h => by
    have h1 := h a (by simp)
    have h2 := sum_ge0 fun y hy => h y (List.mem_cons_of_mem _ hy)
    rw [List.sum_cons]
    omega
theorem mem_le_sum : ∀ {l : List Int} {x : Int}, (∀ y ∈ l, 1 ≤ y) → x ∈ l → x ≤ l.sum
  | a :: l, x, h, hx => by
    have hs := sum_ge0 fun y hy => h y (List.mem_cons_of_mem _ hy)
    have h1 := h a (by simp)
    rw [List.sum_cons]
    rcases List.mem_cons.1 hx with rfl | hx
    · omega
    · have := mem_le_sum (fun z hz => h z (List.mem_cons_of_mem _ hz)) hx
      omega
def exZ (l : List Nat) : List (Nat × Int) := l.map fun p => (p, 0)
theorem exZ_P (l : List Nat) : mvP (exZ l) = l := by unfold mvP exZ; rw [List.map_map]; exact (List.map_congr_left (fun _ _ => rfl)).trans (List.map_id l)
theorem exZ_T (s : List UInt8) (c : Int) (k : Nat) : mvT c (exZ (onesL s k)) = timesZ s c k := by
  unfold mvT exZ timesZ
  rw [List.map_map]
  congr 1
  funext p
  simp
theorem diff_ex {c : Int} (hc : 4 ≤ c ∧ c ≤ 200) : ∀ l : List Nat, (∀ x ∈ l, (x : Int) ≤ 8000) → diffW (mvT c (exZ l)) = (gapL l).map (· * c)
  | [], _ => rfl
  | [_], _ => rfl
  | a :: b :: r, h => by
    have q1 := mul_bd (h a (by simp)) hc
    have q2 := mul_bd (h b (by simp)) hc
    have ih := diff_ex hc (b :: r) (fun x hx => h x (List.mem_cons_of_mem _ hx))
    show IntKind.i64.wrap (((b : Int) * c + c / 2 + 0) - ((a : Int) * c + c / 2 + 0)) :: diffW (mvT c (exZ (b :: r))) = ((b : Int) - (a : Int)) * c :: (gapL (b :: r)).map (· * c)
    rw [ih, frw (by omega), Int.sub_mul]
    congr 1
    omega
theorem gaps_ex {c : Int} (hc : 4 ≤ c ∧ c ≤ 200) {N : Nat} (hN : (N : Int) ≤ 8000) {p : Nat} {l : List Nat} (h : ∀ x ∈ p :: l, (x : Int) ≤ 8000) :
    gapsT (mvT c (exZ (p :: l))) ((N : Int) * c) = (gapL (p :: l) ++ [(N : Int) - (((p :: l).getLastD 0 : Nat) : Int) + (p : Int)]).map (· * c) := by
  have hm : ∀ x ∈ exZ (p :: l), x.2 = 0 ∧ (x.1 : Int) ≤ 8000 := fun x hx => by
    unfold exZ at hx
    obtain ⟨y, hy, rfl⟩ := List.mem_map.1 hx
    exact ⟨rfl, h y hy⟩
  have hl := mvP_last (z := exZ (p :: l)) (by simp [exZ])
  have hz := hm _ (lastZ_mem (z := exZ (p :: l)) (by simp [exZ]))
  rw [exZ_P] at hl
  have e := mv_gaps (z := exZ l) (p := p) (d := 0) hc hN (fun x hx => by have := (hm x hx).1; omega) (fun x hx => (hm x hx).2)
  rw [show exZ (p :: l) = (p, 0) :: exZ l from rfl] at *
  rw [e, show (p, 0) :: exZ l = exZ (p :: l) from rfl, diff_ex hc _ h, List.map_append, List.map_cons, List.map_nil]
  rw [show (p, 0) :: exZ l = exZ (p :: l) from rfl] at hl hz
  rw [hz.1, ← hl]
  congr 2
  omega
theorem mulc_sum (c : Int) : ∀ l : List Int, (l.map (· * c)).sum = l.sum * c
  | [] => by simp
  | a :: l => by rw [List.map_cons, List.sum_cons, List.sum_cons, mulc_sum c l, Int.add_mul]
theorem exact_ok {s : ByteArray} {c : Int} (hc : 4 ≤ c ∧ c ≤ 200) (hN : s.size ≤ 8000) (hne : onesL s.data.toList s.size ≠ []) (h4 : (onesL s.data.toList s.size).length ≤ 4000) :
    fluxOk c ((timesZ s.data.toList c s.size).headD 0) (gapsT (timesZ s.data.toList c s.size) ((s.size : Int) * c)) = true ∧
    (gapsT (timesZ s.data.toList c s.size) ((s.size : Int) * c)).sum = (s.size : Int) * c := by
  have hup := onesL_up s.data.toList s.size
  have hlt : ∀ x ∈ onesL s.data.toList s.size, x < s.size := fun x hx => onesL_lt hx
  rw [← exZ_T]
  generalize onesL s.data.toList s.size = l at *
  obtain ⟨p, l, rfl⟩ : ∃ p l', l = p :: l' := by
    cases l with
    | nil => exact absurd rfl hne
    | cons a l => exact ⟨a, l, rfl⟩
  have hpl := hlt p (by simp)
  have h8 : ∀ x ∈ p :: l, (x : Int) ≤ 8000 := fun x hx => by have := hlt x hx; omega
  have hla : (p :: l).getLastD 0 ∈ p :: l := by
    rw [List.getLastD_eq_getLast?, List.getLast?_eq_some_getLast (by simp)]
    exact List.getLast_mem (by simp)
  have hu := hlt _ hla
  rw [gaps_ex hc (by omega) h8]
  have hsum : (gapL (p :: l) ++ [(s.size : Int) - (((p :: l).getLastD 0 : Nat) : Int) + (p : Int)]).sum = (s.size : Int) := by
    rw [List.sum_append, gapL_sum]
    simp only [List.sum_cons, List.sum_nil]
    omega
  have hpos : ∀ n ∈ gapL (p :: l) ++ [(s.size : Int) - (((p :: l).getLastD 0 : Nat) : Int) + (p : Int)], 1 ≤ n := fun n hn => by
    rcases List.mem_append.1 hn with h | h
    · exact gapL_pos hup n h
    · rw [List.mem_singleton] at h
      omega
  have hsum2 := mulc_sum c (gapL (p :: l) ++ [(s.size : Int) - (((p :: l).getLastD 0 : Nat) : Int) + (p : Int)])
  rw [hsum] at hsum2
  refine ⟨?_, hsum2⟩
  have hlen : (gapL (p :: l) ++ [(s.size : Int) - (((p :: l).getLastD 0 : Nat) : Int) + (p : Int)]).length = (p :: l).length := by
    have e := diffW_len (mvT c (exZ (p :: l)))
    rw [diff_ex hc _ h8] at e
    simp only [List.length_map, mvT, exZ] at e
    simp only [List.length_append, List.length_cons, List.length_nil, e]
    omega
  have hbig : ∀ x ∈ (gapL (p :: l) ++ [(s.size : Int) - (((p :: l).getLastD 0 : Nat) : Int) + (p : Int)]).map (· * c), 1 ≤ x := fun x hx => by
    obtain ⟨n, hn, rfl⟩ := List.mem_map.1 hx
    have := Int.mul_le_mul (hpos n hn) hc.1 (by omega) (by have := hpos n hn; omega)
    omega
  have hlast : ((gapL (p :: l) ++ [(s.size : Int) - (((p :: l).getLastD 0 : Nat) : Int) + (p : Int)]).map (· * c)).getLastD 0 = ((s.size : Int) - (((p :: l).getLastD 0 : Nat) : Int) + (p : Int)) * c := by
    rw [List.map_append]
    simp
  have hNc := mul_bd (p := s.size) (c := c) (by omega) hc
  rw [fluxOk_iff, hsum2, hlast, List.length_map, hlen]
  generalize hLL : (gapL (p :: l) ++ [(s.size : Int) - (((p :: l).getLastD 0 : Nat) : Int) + (p : Int)]).map (· * c) = LL at *
  refine ⟨hc, by simp, h4, ?_, by omega, ?_, ?_⟩
  · unfold gapsIn
    rw [List.all_eq_true]
    intro x hx
    have h1 := hbig x hx
    have h2 := mem_le_sum hbig hx
    rw [hsum2] at h2
    exact inB_iff.2 (by omega)
  · show 0 ≤ (p : Int) * c + c / 2 + 0
    have := mul_bd (h8 p (by simp)) hc
    omega
  · show (p : Int) * c + c / 2 + 0 ≤ _
    have h1 : (1 + (p : Int)) * c ≤ ((s.size : Int) - (((p :: l).getLastD 0 : Nat) : Int) + (p : Int)) * c := Int.mul_le_mul_of_nonneg_right (by omega) (by omega)
    rw [Int.add_mul] at h1
    omega
theorem fo_zero {s : ByteArray} {cell : Int} (h : foE s cell = 0) : foGood s cell = true := by
  unfold foE at h
  unfold foGood
  cases h1 : foOk s cell
  · rw [h1] at h; simp at h
  · rw [h1] at h
    simp only [if_true] at h
    by_cases h2 : foN s = 0
    · rw [if_pos h2] at h; omega
    · rw [if_neg h2] at h
      by_cases h3 : 4000 < foN s
      · rw [if_pos h3] at h; omega
      · simp; omega
theorem bits_49 {s : ByteArray} (h : cellsB s = true) : ∀ x ∈ s.data.toList, x = 48 ∨ x = 49 := by
  intro x hx
  unfold cellsB cellStr bitsAll at h
  simp only [Bool.and_eq_true, List.all_eq_true] at h
  have := h.2.2 x hx
  unfold bitB at this
  simpa using this
theorem fo_parts {s : ByteArray} {cell : Int} (h : foGood s cell = true) : (4 ≤ cell ∧ cell ≤ 200) ∧ (∀ x ∈ s.data.toList, x = 48 ∨ x = 49) ∧ s.size ≤ 8000 ∧ onesL s.data.toList s.size ≠ [] ∧ (onesL s.data.toList s.size).length ≤ 4000 := by
  unfold foGood foOk at h
  simp only [Bool.and_eq_true, decide_eq_true_eq] at h
  obtain ⟨⟨h1, h2⟩, h3, h4⟩ := h
  refine ⟨inB_iff.1 h2, bits_49 h1, (cellStr_bd'' h1).2, ?_, h4⟩
  intro e
  unfold foN at h3
  rw [e] at h3
  simp at h3
theorem chg_diff (g : Int) : ∀ (l : List Int) (a : Int), (∀ x ∈ a :: l, 0 ≤ x ∧ x ≤ 100000000) → chgL a (diffW (a :: l) ++ [g]) = a :: l
  | [], a, _ => rfl
  | b :: l, a, h => by
    have h1 := h a (by simp)
    have h2 := h b (by simp)
    show a :: chgL (a + IntKind.i64.wrap (b - a)) (diffW (b :: l) ++ [g]) = _
    rw [frw (by omega), show a + (b - a) = b by omega, chg_diff g l b fun x hx => h x (List.mem_cons_of_mem _ hx)]
theorem chg_gaps {T : List Int} (hne : T ≠ []) (h : ∀ x ∈ T, 0 ≤ x ∧ x ≤ 100000000) (rev : Int) : chgL (T.headD 0) (gapsT T rev) = T := by
  cases T with
  | nil => exact absurd rfl hne
  | cons a l => exact chg_diff _ l a h
theorem times_bd {s : List UInt8} {c : Int} {N : Nat} (hc : 4 ≤ c ∧ c ≤ 200) (hN : N ≤ 8000) : ∀ x ∈ timesZ s c N, 0 ≤ x ∧ x ≤ 100000000 := by
  intro x hx
  unfold timesZ at hx
  obtain ⟨i, hi, rfl⟩ := List.mem_map.1 hx
  have := onesL_lt hi
  have := mul_bd (p := i) (c := c) (by omega) hc
  omega
end Go.Proofs.YtfdcainjppljhaaGreatDoor
namespace Go.Proofs.YtfdcainjppljhaaGreatDoor
open Go.RowKit
set_option linter.unusedVariables false
theorem str_app (a b : List UInt8) : (⟨a.toArray⟩ : ByteArray) ++ ⟨b.toArray⟩ = ⟨(a ++ b).toArray⟩ := by
  apply ByteArray.ext
  simp
theorem str_app' (a : ByteArray) (b : List UInt8) : a ++ (⟨b.toArray⟩ : ByteArray) = ⟨(a.data.toList ++ b).toArray⟩ := by
  apply ByteArray.ext
  simp
theorem str_lit (a : List UInt8) (x : UInt8) : (⟨a.toArray⟩ : ByteArray) ++ ⟨#[x]⟩ = ⟨(a ++ [x]).toArray⟩ := str_app a [x]
/-- 'string([]byte{x})', wherever the row lies. -/
theorem conv_at (w : World) (g : Nat) (n : Int) (hn : 0 ≤ n ∧ n < 256) (h : Blk w g 5 #[.int .u8 n]) :
    (convert 22 9 (.slice (some ⟨g, 0, none⟩) 1 1)).run Tryz.prog w = .ok (.string ⟨#[b8 n]⟩) w := by
  refine run_convert_bytes_back _ _ _ _ ⟨g, 0, none⟩ 1 [b8 n] Tryz.underlying22 Tryz.underlying5 Tryz.underlying9 ?_
  intro j hj
  match j, hj with
  | 0, _ => simp [Addr.add, b8_val hn.1 hn.2, h.cell 0]
theorem Blk_dr {w : World} {g : Nat} {t : TypeId} {cs : Array Value} (h : Blk w g t cs) : Blk w.drew g t cs := h
theorem dig_wrap {r : Nat} (h : r < 10) : IntKind.u8.wrap (48 + (r : Int)) = 48 + (r : Int) := by
  have h1 : ∀ v : Fin 10, IntKind.u8.wrap (48 + (v.val : Int)) = 48 + (v.val : Int) := by decide +kernel
  exact h1 ⟨r, h⟩
theorem dig_small {n : Nat} (h : n < 10) : Lib.decDigits n = [b8 (48 + (n : Int))] := by
  rw [Lib.decDigits, dif_pos h]
  unfold b8
  rw [show (48 + (n : Int)).toNat = 48 + n by omega]
theorem dig_big {n : Nat} (h : ¬ n < 10) : Lib.decDigits n = Lib.decDigits (n / 10) ++ [b8 (48 + ((n % 10 : Nat) : Int))] := by
  rw [Lib.decDigits, dif_neg h]
  unfold b8
  rw [show (48 + ((n % 10 : Nat) : Int)).toNat = 48 + n % 10 by omega]
end Go.Proofs.YtfdcainjppljhaaGreatDoor
namespace Go.Proofs.YtfdcainjppljhaaGreatDoor
open Go.RowKit
set_option linter.unusedVariables false
/-- A row of bytes of the call's own; what is frozen of it, if anything, lies behind its end. -/
def RowM (w : World) (g cap : Nat) (l : List UInt8) : Prop :=
  ∃ (cur : Array Value) (fz : Nat × Nat), w.heap[g]? = some (.cells cur 5 fz) ∧ (fz.2 = 0 ∨ cur.size ≤ fz.1) ∧ cur.size = cap ∧ cap ≤ maxLen ∧ l.length ≤ cap ∧ cur.toList.take l.length = Lib.byteCells l
def OwnM (w : World) (base : Nat) (v : Value) (l : List UInt8) : Prop := ∃ g cap, v = .slice (some ⟨g, 0, none⟩) l.length cap ∧ base ≤ g ∧ RowM w g cap l
theorem RowM.lt {w : World} {g cap : Nat} {l : List UInt8} (h : RowM w g cap l) : g < w.heap.size := by
  obtain ⟨cur, fz, hg, -⟩ := h
  exact (Array.getElem?_eq_some_iff.1 hg).1
theorem OwnM.below {w w' : World} {base : Nat} {v : Value} {l : List UInt8} (h : OwnM w base v l) (hb : Below w.heap.size w w') : OwnM w' base v l := by
  obtain ⟨g, cap, hv, hg, hr⟩ := h
  have hl := hr.lt
  obtain ⟨cur, fz, hh, rest⟩ := hr
  exact ⟨g, cap, hv, hg, cur, fz, (hb.block g hl).trans hh, rest⟩
theorem RowM.cell {w : World} {g cap : Nat} {l : List UInt8} (h : RowM w g cap l) (j : Nat) (u : Value) (hj : (Lib.byteCells l)[j]? = some u) : w.cell? ((⟨g, 0, none⟩ : Addr).add j) = some u := by
  obtain ⟨cur, fz, hh, -, -, -, -, ht⟩ := h
  rw [Addr.add_lit, Nat.zero_add, cell_of_row w g j cur _ fz hh]
  rw [← ht, List.getElem?_take] at hj
  split at hj
  · simpa using hj
  · cases hj
theorem bcells_len (l : List UInt8) : (Lib.byteCells l).length = l.length := by simp [Lib.byteCells]
theorem OwnM.str {w : World} {base : Nat} {v : Value} {l : List UInt8} (h : OwnM w base v l) :
    (convert 22 9 v).run Tryz.prog w = .ok (.string ⟨l.toArray⟩) w := by
  obtain ⟨g, cap, rfl, -, hr⟩ := h
  refine run_convert_bytes_back w _ _ _ ⟨g, 0, none⟩ cap l Tryz.underlying22 Tryz.underlying5 Tryz.underlying9 ?_
  intro j hj
  exact hr.cell j _ (by simp [Lib.byteCells, hj])
theorem OwnM.conv (w : World) (s : ByteArray) (hs : s.size ≤ 1000000000) : OwnM (Lib.bytesWorld w 5 s) w.heap.size (.slice (some ⟨w.heap.size, 0, none⟩) s.size (grownCap w s.size 0 5)) s.data.toList := by
  have hge := grownCap_ge w s.size 0 5
  have hle := grownCap_le_maxLen w s.size 0 5 (by unfold maxLen; omega)
  have hsz : (Lib.bytesCells w 5 s).size = grownCap w s.size 0 5 := by
    unfold Lib.bytesCells
    rw [Array.size_append, Array.size_map, Array.size_replicate]
    show s.size + (grownCap w s.size 0 5 - s.size) = _
    omega
  have hl : s.data.toList.length = s.size := by simp
  refine ⟨_, grownCap w s.size 0 5, by rw [hl], Nat.le_refl _, _, _, Lib.bytesWorld_at_new w _ s, .inr (Nat.le_refl _), hsz, hle, by omega, ?_⟩
  unfold Lib.bytesCells Lib.byteCells
  rw [Array.toList_append, List.take_append_of_le_length (by simp), List.take_of_length_le (by simp)]
  simp
/-- The bytes are laid behind the elements. -/
theorem store_M (g o : Nat) (fz : Nat × Nat) : ∀ (vs : List Value) (i : Nat) (cur : Array Value) (w : World), w.heap[g]? = some (.cells cur 5 fz) → (fz.2 = 0 ∨ cur.size ≤ fz.1) → o + i + vs.length ≤ cur.size → (∀ v ∈ vs, v.oneCell' = true) →
    ∃ cur' : Array Value, (storeCells ⟨g, o, none⟩ vs i).run Tryz.prog w = .ok () (w.setRow g cur') ∧ cur'.size = cur.size ∧ cur'.toList.take (o + i + vs.length) = cur.toList.take (o + i) ++ vs
  | [], i, cur, w, hg, _, _, _ => ⟨cur, by simp only [storeCells]; rw [setRow_self w g cur _ fz hg]; rfl, rfl, by simp⟩
  | v :: rest, i, cur, w, hg, hfz, hl, h1 => by
    have hi : o + i < cur.size := by simp at hl; omega
    have hadd : (⟨g, o, none⟩ : Addr).add i = ⟨g, o + i, none⟩ := by unfold Addr.add; split <;> simp_all
    have hcell : w.cell? ⟨g, o + i, none⟩ = some cur[o + i] := by simp [World.cell?, hg, hi]
    have hfro : w.frozen? ⟨g, o + i, none⟩ = false := by
      obtain ⟨lo, hi'⟩ := fz
      simp only [World.frozen?, hg, Bool.and_eq_false_iff, decide_eq_false_iff_not]
      simp only at hfz
      omega
    have hst : (store ((⟨g, o, none⟩ : Addr).add i) v).run Tryz.prog w = .ok () (w.setRow g (cur.setIfInBounds (o + i) v)) := by
      rw [hadd, run_store Tryz.prog w _ v _ (h1 v (by simp)), hcell]
      simp [hfro, setCell_eq_setRow w g (o + i) cur _ fz v hg]
    obtain ⟨cur', h2, h3, h4⟩ := store_M g o fz rest (i + 1) (cur.setIfInBounds (o + i) v) (w.setRow g (cur.setIfInBounds (o + i) v)) (setRow_heap w g cur _ _ _ hg) (by simpa using hfz) (by simp at hl ⊢; omega) (fun x hx => h1 x (by simp [hx]))
    refine ⟨cur', ?_, by simpa using h3, ?_⟩
    · simp only [storeCells, Sem.run_bind, hst, Result.andThen_ok, h2, setRow_setRow]
    · have e1 : o + i + (v :: rest).length = o + (i + 1) + rest.length := by simp; omega
      rw [e1, h4, show o + (i + 1) = o + i + 1 by omega, Array.toList_setIfInBounds, List.take_succ_eq_append_getElem (by simpa using hi)]
      simp [List.take_set_of_le]
theorem byteCells_app (a b : List UInt8) : Lib.byteCells (a ++ b) = Lib.byteCells a ++ Lib.byteCells b := by simp [Lib.byteCells]
theorem strCells_bytes (s : ByteArray) : Lib.strCells s = Lib.byteCells s.data.toList := by unfold Lib.strCells Lib.byteCells; simp
/-- The row that 'append' has made anew. -/
theorem OwnM.fresh (w : World) (base : Nat) (l m : List UInt8) (cap : Nat) (hbase : base ≤ w.heap.size) (h63 : l.length + m.length ≤ 1000000000) (hsz : (Value.int .u8 0).cells.size = 1) :
    OwnM (w.drew.alloc (.cells ((Lib.byteCells l).toArray ++ (Lib.byteCells m).toArray ++ Builtin.zeroCells (Value.int .u8 0).cells (grownCap w (l.length + m.length) cap 5 - (l.length + m.length))) 5)) base
      (.slice (some ⟨w.heap.size, 0, none⟩) (l.length + m.length) (grownCap w (l.length + m.length) cap 5)) (l ++ m) := by
  have hge := grownCap_ge w (l.length + m.length) cap 5
  have hle := grownCap_le_maxLen w (l.length + m.length) cap 5 (by unfold maxLen; omega)
  refine ⟨w.heap.size, _, by rw [List.length_append], hbase, _, (0, 0), heap_alloc_new w.drew _, .inl rfl, ?_, hle, by rw [List.length_append]; exact hge, ?_⟩
  · simp only [Array.size_append, List.size_toArray, size_zeroCells, hsz, bcells_len]
    omega
  · rw [List.length_append, byteCells_app, Array.toList_append, Array.toList_append]
    rw [List.take_append_of_le_length (by simp [bcells_len]), List.take_of_length_le (by simp [bcells_len])]
theorem below_setRow (w : World) (g base : Nat) (cs : Array Value) (hg : base ≤ g) : Below base w (w.setRow g cs) :=
  ⟨rfl, rfl, rfl, by simp [World.setRow], fun k hk => setRow_other w g k cs (by omega)⟩
theorem below_drewAlloc (w : World) (base : Nat) (o : Obj) (hb : base ≤ w.heap.size) : Below base w (w.drew.alloc o) := ((Below.refl base w).drew).alloc hb o
/-- 'append(b, s...)', s a string. -/
theorem append_strM {ops : Array Oper} {rest : List Oper} {o : Oper} {a : Act} {Q : Exit → Act → World → Prop} (w : World) (hgd : o.guard = none) (sl x : Operand)
    (ho : o.op = .call { callee := .builtin .append, args := #[sl, x], argTypes := #[22, 9] })
    (base : Nat) (v : Value) (l : List UInt8) (s : ByteArray) (hs : a.eval sl = v) (hx : a.eval x = .string s) (hown : OwnM w base v l) (hlen : l.length + s.size ≤ 1000000000) (hbase : base ≤ w.heap.size)
    (h : ∀ v' w', OwnM w' base v' (l ++ s.data.toList) → Below base w w' → wpList Tryz.prog ops Q rest (a.put o.dst v') w') : wpList Tryz.prog ops Q (o :: rest) a w := by
  obtain ⟨i, hi, hz, hsz, hby⟩ := info_parts info_u8
  have hss : s.data.toList.length = s.size := by simp
  have key : ∃ v' w', (Builtin.append_ #[22, 9] o.type #[v, .string s]).run Tryz.prog w = .ok v' w' ∧ OwnM w' base v' (l ++ s.data.toList) ∧ Below base w w' := by
    obtain ⟨g, cap, rfl, hg, hr⟩ := hown
    have hcell := hr.cell
    by_cases hroom : l.length + s.size ≤ cap
    · obtain ⟨cur, fz, hh, hfz, hcs, hcm, hlc, ht⟩ := hr
      have hf := Lib.run_firstCells_string (P := Tryz.prog) w 1 s
      obtain ⟨cur', h2, h3, h4⟩ := store_M g l.length fz (Lib.strCells s) 0 cur w hh hfz (by rw [Lib.strCells_length]; omega) (Lib.strCells_oneCell s)
      refine ⟨.slice (some ⟨g, 0, none⟩) (l.length + s.size) cap, w.setRow g cur', ?_, ⟨g, cap, by rw [List.length_append, hss], hg, cur', fz, setRow_heap w g cur _ _ _ hh, by rw [h3]; exact hfz, by rw [h3]; exact hcs, hcm, by rw [List.length_append, hss]; exact hroom, ?_⟩, below_setRow w g base cur' hg⟩
      · simp [Builtin.append_, run_underlying Tryz.underlying22, run_underlying Tryz.underlying9, sizeOf, typeInfo, hi, hsz, Builtin.lenOf, hroom, hf, Addr.add_lit, h2]
      · rw [List.length_append, hss, byteCells_app, ← strCells_bytes, ← ht]
        rw [Lib.strCells_length] at h4
        exact h4
    · have hr2 := Lib.run_append_grow_string (P := Tryz.prog) w 22 9 o.type 5 i (.int .u8 0) Tryz.underlying22 Tryz.underlying9 hi hz ⟨g, 0, none⟩ l.length cap (Lib.byteCells l) (by rw [hsz, bcells_len, Nat.mul_one]) hcell s (by omega) (by omega) (by rw [hby]; exact growslice_fits (by omega) (by omega))
      refine ⟨_, _, hr2, ?_, below_drewAlloc w base _ hbase⟩
      have hF := OwnM.fresh w base l s.data.toList cap hbase (by omega) rfl
      rw [hss] at hF
      rw [strCells_bytes]
      exact hF
  obtain ⟨v', w', hr, h2, h3⟩ := key
  refine wpList_plain hgd fun K hK => ?_
  unfold Oper.wp execOp
  simp only [ho, resolve, invoke, builtin, Sem.run_bind, Sem.run_pure, Result.andThen_ok, List.map_toArray, List.map_cons, List.map_nil, hs, hx, hr]
  exact hK _ _ (h v' w' h2 h3)
/-- 'append(b, x)', x a byte. -/
theorem append_byteM {ops : Array Oper} {rest : List Oper} {o : Oper} {a : Act} {Q : Exit → Act → World → Prop} (w : World) (hgd : o.guard = none) (sl x : Operand)
    (ho : o.op = .call { callee := .builtin .append, args := #[sl, x], argTypes := #[22, 22] })
    (base : Nat) (v : Value) (l : List UInt8) (n : UInt8) (hs : a.eval sl = v) (hx : a.eval x = .slice (some ⟨w.heap.size, 0, none⟩) 1 1) (hown : OwnM w base v l) (hlen : l.length + 1 ≤ 1000000000) (hbase : base ≤ w.heap.size)
    (h : ∀ v' w', OwnM w' base v' (l ++ [n]) → Below base w w' → wpList Tryz.prog ops Q rest (a.put o.dst v') w') : wpList Tryz.prog ops Q (o :: rest) a (w.alloc (.cells #[.int .u8 n.toNat] 5)) := by
  obtain ⟨i, hi, hz, hsz, hby⟩ := info_parts info_u8
  have hown2 := hown.below ((Below.refl w.heap.size w).alloc (Nat.le_refl _) (.cells #[.int .u8 n.toNat] 5))
  have hbl : Below base w (w.alloc (.cells #[.int .u8 n.toNat] 5)) := (Below.refl base w).alloc hbase _
  have hB := Blk.new w 5 #[.int .u8 n.toNat]
  have hbase2 : base ≤ (w.alloc (.cells #[.int .u8 n.toNat] 5)).heap.size := by simp; omega
  generalize w.alloc (.cells #[.int .u8 n.toNat] 5) = w1 at hown2 hbl hB hbase2 ⊢
  have hnews : ∀ j u, (Lib.byteCells [n])[j]? = some u → w1.cell? ((⟨w.heap.size, 0, none⟩ : Addr).add j) = some u := by
    intro j u hj
    match j, hj with
    | 0, hj => simp [Lib.byteCells] at hj; subst hj; rw [Addr.add_zero']; exact hB.cell 0
  have key : ∃ v' w', (Builtin.append_ #[22, 22] o.type #[v, .slice (some ⟨w.heap.size, 0, none⟩) 1 1]).run Tryz.prog w1 = .ok v' w' ∧ OwnM w' base v' (l ++ [n]) ∧ Below base w1 w' := by
    obtain ⟨g, cap, rfl, hg, hr⟩ := hown2
    have hcell := hr.cell
    by_cases hroom : l.length + 1 ≤ cap
    · obtain ⟨cur, fz, hh, hfz, hcs, hcm, hlc, ht⟩ := hr
      have hf := run_firstCells_some (P := Tryz.prog) w1 1 1 ⟨w.heap.size, 0, none⟩ 1 1 (Lib.byteCells [n]) rfl hnews
      obtain ⟨cur', h2, h3, h4⟩ := store_M g l.length fz (Lib.byteCells [n]) 0 cur w1 hh hfz (by rw [bcells_len]; simp; omega) (by simp [Lib.byteCells]; rfl)
      refine ⟨.slice (some ⟨g, 0, none⟩) (l.length + 1) cap, w1.setRow g cur', ?_, ⟨g, cap, by rw [List.length_append]; rfl, hg, cur', fz, setRow_heap w1 g cur _ _ _ hh, by rw [h3]; exact hfz, by rw [h3]; exact hcs, hcm, by rw [List.length_append]; exact hroom, ?_⟩, below_setRow w1 g base cur' hg⟩
      · simp [Builtin.append_, run_underlying Tryz.underlying22, sizeOf, typeInfo, hi, hsz, Builtin.lenOf, hroom, hf, Addr.add_lit, h2]
      · rw [List.length_append, byteCells_app, ← ht]
        exact h4
    · have hr2 := run_append_grow (P := Tryz.prog) w1 22 o.type 5 i (.int .u8 0) Tryz.underlying22 hi hz ⟨g, 0, none⟩ l.length cap (Lib.byteCells l) (by rw [hsz, bcells_len, Nat.mul_one]) hcell ⟨w.heap.size, 0, none⟩ 1 1 (Lib.byteCells [n]) (by rw [hsz]; rfl) hnews (by omega) (by omega) (by rw [hby]; exact growslice_fits (by omega) (by omega))
      refine ⟨_, _, hr2, ?_, below_drewAlloc w1 base _ hbase2⟩
      exact OwnM.fresh w1 base l [n] cap hbase2 (by simp; omega) rfl
  obtain ⟨v', w', hr, h2, h3⟩ := key
  refine wpList_plain hgd fun K hK => ?_
  unfold Oper.wp execOp
  simp only [ho, resolve, invoke, builtin, Sem.run_bind, Sem.run_pure, Result.andThen_ok, List.map_toArray, List.map_cons, List.map_nil, hs, hx, hr]
  exact hK _ _ (h v' w' h2 (hbl.trans h3))
end Go.Proofs.YtfdcainjppljhaaGreatDoor
namespace Go.Proofs.YtfdcainjppljhaaGreatDoor
open Go.RowKit
set_option linter.unusedVariables false
def decS (x : Int) : List UInt8 := Lib.decDigits x.toNat
def txtL (c f : Int) (l : List Int) : List UInt8 := (decS c ++ 32 :: decS f) ++ l.flatMap (fun x => 32 :: decS x)
theorem decS_len {x : Int} (h : x ≤ 1000000000) : (decS x).length ≤ 20 := by
  unfold decS
  rw [Lib.decDigits_length]
  exact Lib.nDigits_le20 _ (by omega)
theorem flat_len (l : List Int) (h : ∀ x ∈ l, x ≤ 1000000000) : (l.flatMap (fun x => 32 :: decS x)).length ≤ 21 * l.length := by
  induction l with
  | nil => simp
  | cons a l ih =>
    have h1 := decS_len (h a (by simp))
    have h2 := ih (fun x hx => h x (by simp [hx]))
    rw [List.flatMap_cons, List.length_append, List.length_cons, List.length_cons]
    omega
theorem txtL_len {c f : Int} {l : List Int} (hc : c ≤ 1000000000) (hf : f ≤ 1000000000) (h : ∀ x ∈ l, x ≤ 1000000000) : (txtL c f l).length ≤ 41 + 21 * l.length := by
  have h1 := decS_len hc
  have h2 := decS_len hf
  have h3 := flat_len l h
  unfold txtL
  rw [List.length_append, List.length_append, List.length_cons]
  omega
theorem txtL_snoc (c f : Int) {l : List Int} {k : Nat} (hk : k < l.length) : txtL c f (l.take (k + 1)) = (txtL c f (l.take k) ++ [32]) ++ decS l[k] := by
  unfold txtL
  rw [takeI_snoc hk, List.flatMap_append]
  simp
end Go.Proofs.YtfdcainjppljhaaGreatDoor
namespace Go.Proofs.YtfdcainjppljhaaGreatDoor
open Go.RowKit Go.Sort
set_option linter.unusedVariables false
/-- The table of the powers of ten stands. -/
def Tab (w : World) : Prop := Lib.TabIs Tryz.prog w "internal/strconv.uint64pow10" .u64 Lib.pow10Tab
theorem Tab.below {w w' : World} (h : Tab w) (hb : Below w.heap.size w w') : Tab w' := Lib.tabBelow_of_tabIs h w' hb
theorem below_growT (w : World) (n : Nat) (os : Array Obj) : Below w.heap.size w (grow (w.drewN n) os) :=
  ⟨rfl, rfl, rfl, by simp, fun k hk => heap_grow_old (w.drewN n) os hk⟩
theorem impl_decimal (x : Int) (h0 : -9223372036854775808 ≤ x) (h1 : x ≤ 9223372036854775807) (w : World) (hT : Tab w) :
    Calls Tryz.prog 30 #[.int .i64 x] w fun e w' => e = .returned (.string ⟨(Lib.itoa x).toArray⟩) ∧ Below w.heap.size w w' := by
  have c := Tryz.strconv_FormatInt_10 x h0 h1 w hT
  go_enter Tryz.func30, Tryz.ntmps30
  go_wp2_with fail
  refine c.mono ?_
  rintro e w' ⟨rfl, k, os, rfl⟩
  go_wp2_with fail
  go_ret
  exact ⟨rfl, below_growT _ _ _⟩
theorem Blk.setS {w : World} {g : Nat} {t : TypeId} {cs : Array Value} (h : Blk w g t cs) (i : Nat) (v : Value) : Blk (w.setCell ⟨g, i, none⟩ v) g t (cs.setIfInBounds i v) := by
  have hB' : w.heap[g]? = some (.cells cs t (0, 0)) := h
  unfold Blk
  simp [World.setCell, Array.getElem?_modify, hB']
/-- A row of strings that is filled from the left. -/
def fillS (xs : List ByteArray) (k : Nat) : Array Value := ((xs.take k).map Value.string ++ List.replicate (xs.length - k) (Value.string ByteArray.empty)).toArray
theorem fillS_zero (xs : List ByteArray) : fillS xs 0 = madeCells #[.string ByteArray.empty] xs.length := by
  unfold fillS madeCells
  apply Array.ext
  · simp
  · intro i h1 h2
    simp [Nat.mod_one]
theorem fillS_all (xs : List ByteArray) : fillS xs xs.length = (xs.map Value.string).toArray := by
  unfold fillS
  simp
theorem fillS_set {xs : List ByteArray} {k : Nat} (h : k < xs.length) : (fillS xs k).setIfInBounds k (.string xs[k]) = fillS xs (k + 1) := by
  have hl : ((xs.take k).map Value.string).length = k := by simp; omega
  unfold fillS
  rw [List.setIfInBounds_toArray, List.set_append_right _ _ (by omega), hl, Nat.sub_self, show xs.length - k = (xs.length - (k + 1)) + 1 by omega, List.replicate_succ, List.set_cons_zero, List.take_succ_eq_append_getElem h, List.map_append, List.append_assoc]
  rfl
theorem fillS_some {xs : List ByteArray} {k i : Nat} (h : i < xs.length) (hk : k ≤ xs.length) : ∃ s, (fillS xs k)[i]? = some (.string s) := by
  unfold fillS
  rcases Nat.lt_or_ge i k with h1 | h1
  · refine ⟨xs[i], ?_⟩
    simp only [List.getElem?_toArray]
    rw [List.getElem?_append_left (by simp; omega), List.getElem?_map, List.getElem?_take, if_pos h1, List.getElem?_eq_getElem h]
    rfl
  · refine ⟨ByteArray.empty, ?_⟩
    simp only [List.getElem?_toArray]
    rw [List.getElem?_append_right (by simp; omega), List.getElem?_replicate]
    rw [if_pos (by simp; omega)]
theorem info_str : (Tryz.prog.info? 9).map (fun i => (i.zero, i.size, i.bytes)) = some (some (.string ByteArray.empty), 1, 16) := by kernel_rfl
theorem make_strs (n : Nat) (hn : n ≤ 2097152) (w : World) : (Instr.makeSlice 67 (.int .i64 (n : Int)) (.int .i64 (n : Int))).run Tryz.prog w = .ok (.slice (some ⟨w.heap.size, 0, none⟩) n n) (w.alloc (.cells (madeCells #[.string ByteArray.empty] n) 9)) :=
  run_make_row' (P := Tryz.prog) 67 9 (.string ByteArray.empty) 16 Tryz.underlying67 info_str rfl .i64 .i64 n (by omega) (by omega) w
def itoB (x : Int) : ByteArray := ⟨(Lib.itoa x).toArray⟩
theorem itoa_dec {x : Int} (h : 0 ≤ x) : Lib.itoa x = decS x := by
  unfold Lib.itoa decS
  rw [if_neg (by omega)]
theorem join_flat (l : List Int) (h : l ≠ []) (h0 : ∀ x ∈ l, 0 ≤ x) : 32 :: Lib.join ((l.map itoB).map (·.data.toList)) [32] = l.flatMap (fun x => 32 :: decS x) := by
  cases l with
  | nil => exact absurd rfl h
  | cons a r =>
    rw [List.map_cons, List.map_cons, Lib.join_cons, List.flatMap_cons]
    have ha : (itoB a).data.toList = decS a := itoa_dec (h0 a (by simp))
    rw [ha]
    have hr : ∀ r : List Int, (∀ x ∈ r, 0 ≤ x) → Lib.joinTail [32] ((r.map itoB).map (·.data.toList)) = r.flatMap (fun x => 32 :: decS x) := by
      intro r
      induction r with
      | nil => intro _; rfl
      | cons b r ih =>
        intro hb
        have h1 : (itoB b).data.toList = decS b := itoa_dec (hb b (by simp))
        have h2 := ih (fun x hx => hb x (by simp [hx]))
        unfold Lib.joinTail at h2 ⊢
        rw [List.map_cons, List.map_cons, List.map_cons, List.flatten_cons, h1, h2, List.flatMap_cons]
        rfl
    rw [hr r (fun x hx => h0 x (by simp [hx]))]
    rfl
set_option maxHeartbeats 2000000 in
set_option maxRecDepth 20000 in
theorem impl_joinNumbers (p : Option Addr) (l : List Int) (cap : Nat) (w : World) (hI : IntsAt w p l) (hl : 1 ≤ l.length ∧ l.length ≤ 4000) (h0 : ∀ x ∈ l, 1 ≤ x ∧ x ≤ 2000000) (hT : Tab w) :
    Calls Tryz.prog 31 #[.slice p l.length cap, .string ⟨#[32]⟩] w fun e w' => e = .returned (.string ⟨(Lib.join ((l.map itoB).map (·.data.toList)) [32]).toArray⟩) ∧ Below w.heap.size w w' := by
  obtain ⟨xs, exs⟩ : ∃ xs, l.map itoB = xs := ⟨_, rfl⟩
  have hxl : xs.length = l.length := by rw [← exs, List.length_map]
  have hxk : ∀ k (h : k < l.length), ∃ h' : k < xs.length, xs[k] = itoB l[k] := fun k h => ⟨by omega, by subst exs; simp⟩
  have hmk := fun w => make_strs l.length (by omega) w
  have hne : l ≠ [] := by intro e; rw [e] at hl; simp at hl
  have hlen : (Lib.join (xs.map (·.data.toList)) [32]).length ≤ 140737488355328 := by
    have e := join_flat l hne (fun x hx => by have := h0 x hx; omega)
    have e2 := flat_len l (fun x hx => by have := h0 x hx; omega)
    rw [← e, exs, List.length_cons] at e2
    omega
  have B0 : Blk (w.alloc (.cells (madeCells #[.string ByteArray.empty] l.length) 9)) w.heap.size 9 (fillS xs 0) := by
    rw [fillS_zero, hxl]
    exact Blk.new _ _ _
  have W0 : Below w.heap.size w (w.alloc (.cells (madeCells #[.string ByteArray.empty] l.length) 9)) := (Below.refl _ _).alloc (Nat.le_refl _) _
  rw [exs]
  go_enter Tryz.func31, Tryz.ntmps31
  go_wp2_with fail
  go_loopw [13] (fun i wr => ∃ k : Nat, k ≤ l.length ∧ i = .int .i64 k ∧ Blk wr w.heap.size 9 (fillS xs k) ∧ Below w.heap.size w wr) (fun i _ => l.length - (intOf i).toNat)
  case atStart => exact ⟨0, Nat.zero_le _, rfl, B0, W0⟩
  case round =>
    clear B0 W0
    obtain ⟨k, hk, rfl, hB, hbel⟩ := hrel
    by_cases hlt : k < l.length
    · obtain ⟨a, ea, hc⟩ := (hI.below hbel).at_ hlt
      subst ea
      obtain ⟨hk', ek⟩ := hxk k hlt
      have hx := h0 _ (List.getElem_mem hlt)
      have hset := fillS_set hk'
      rw [ek] at hset
      obtain ⟨s0, hs0⟩ := fillS_some (k := k) hk' (by omega)
      have hcg := hB.cell k
      rw [hs0] at hcg
      have hfg := hB.frozen k
      have hcx := impl_decimal l[k] (by omega) (by omega)
      obtain ⟨x, ex⟩ : ∃ x, l[k] = x := ⟨_, rfl⟩
      rw [ex] at hc hx hset hcx
      have hT1 := hT.below hbel
      have HS := Lib.hid hset
      have hzw := hB.lt
      clear hset ek hs0 ex hxk
      go_wp2_with (go_at_call 30; refine (hcx _ hT1).mono ?_; rintro e y ⟨rfl, hby⟩; have hB2 := hB.keep hby; obtain ⟨s0, hs0⟩ := fillS_some (k := k) hk' (by omega); have hcy := hB2.cell k; rw [hs0] at hcy; have hfy := hB2.frozen k; have hbel2 := below_st hbel hby (Nat.le_refl _))
      refine ⟨⟨k + 1, by omega, by go_num, ?_, hbel2.setCell (p := ⟨w.heap.size, k, none⟩) (Nat.le_refl _) _⟩, by simp [intOf]; omega⟩
      rw [← HS.out]
      exact hB2.setS k _
    · obtain rfl : k = l.length := by omega
      rw [← hxl, fillS_all] at hB
      have hjc := Tryz.strings_Join w.heap.size 0 l.length xs ⟨#[32]⟩ wr (fun j x hj => by rw [Nat.zero_add, hB.cell j]; simp [hj]) hB.lt (by omega) (by omega) hlen
      rw [hxl] at hjc
      go_wp2_with fail
      refine hjc.mono ?_
      rintro e w' ⟨rfl, hb⟩
      go_wp2_with fail
      go_ret
      exact ⟨rfl, below_st hbel hb (Nat.le_refl _)⟩
end Go.Proofs.YtfdcainjppljhaaGreatDoor
namespace Go.Proofs.YtfdcainjppljhaaGreatDoor
open Go.RowKit Go.Sort
set_option linter.unusedVariables false
/-- The text of flux; none if it is not valid. -/
def txtV (c f : Int) (l : List Int) : ByteArray := if fluxOk c f l then ⟨(txtL c f l).toArray⟩ else ⟨#[]⟩
theorem txt_join {c f : Int} {l : List Int} (h : fluxOk c f l = true) :
    (⟨(decS c).toArray⟩ : ByteArray) ++ ⟨#[32]⟩ ++ ⟨(decS f).toArray⟩ ++ ⟨#[32]⟩ ++ ⟨(Lib.join ((l.map itoB).map (·.data.toList)) [32]).toArray⟩ = ⟨(txtL c f l).toArray⟩ := by
  obtain ⟨-, hl, hm, -⟩ := fluxOk_bd h
  have hne : l ≠ [] := by intro e; rw [e] at hl; simp at hl
  unfold txtL
  rw [← join_flat l hne (fun x hx => by have := hm x hx; omega)]
  apply ByteArray.ext
  simp
set_option maxHeartbeats 4000000 in
set_option maxRecDepth 20000 in
theorem impl_FluxText (c f : Int) (p : Option Addr) (l : List Int) (cap : Nat) (w : World) (hI : IntsAt w p l) (hl : l.length ≤ 1048576) (hT : Tab w) :
    Calls Tryz.prog 11 #[.agg #[.int .i64 c, .int .i64 f, .slice p l.length cap]] w fun e w' => e = .returned (.string (txtV c f l)) ∧ Below w.heap.size w w' := by
  have B0 := Blk.new w 28 #[.int .i64 c, .int .i64 f, .slice p l.length cap]
  have W0 : Below w.heap.size w (w.alloc (.cells #[.int .i64 c, .int .i64 f, .slice p l.length cap] 28)) := (Below.refl _ _).alloc (Nat.le_refl _) _
  obtain ⟨c0, c1, c2⟩ := B0.cell3
  go_enter Tryz.func11, Tryz.ntmps11
  go_wp2_with fail
  clear c0 c1 c2
  obtain ⟨g, eg⟩ : ∃ g, w.heap.size = g := ⟨_, rfl⟩
  have hI0 := hI.below W0
  have hT0 := hT.below W0
  generalize w.alloc (.cells #[.int .i64 c, .int .i64 f, .slice p l.length cap] 28) = w0 at B0 W0 hI0 hT0 ⊢
  rw [eg] at B0 W0 ⊢
  refine (impl_ValidFlux c f p l cap _ hI0 hl).mono ?_
  rintro e w1 ⟨rfl, hb1⟩
  have hg0 := B0.lt
  have W1 := below_st W0 hb1 (by omega)
  have B1 := B0.keep hb1
  have hI1 := hI0.below hb1
  have hT1 := hT0.below hb1
  clear B0 W0 hI0 hT0 hb1 hg0 hI hT
  cases hok : fluxOk c f l
  · have hv : txtV c f l = ⟨#[]⟩ := by unfold txtV; rw [hok]; rfl
    have HV := Lib.hid hv
    clear hok hv
    go_wp2_with fail
    go_ret
    exact ⟨by rw [HV.out]; rfl, by rw [eg]; exact W1⟩
  · have hv : txtV c f l = ⟨(txtL c f l).toArray⟩ := by unfold txtV; rw [hok]; rfl
    have HV := Lib.hid hv
    have htj := txt_join hok
    obtain ⟨hc, hl4, hm, -, hf, -⟩ := fluxOk_bd hok
    have hlc := decS_len (x := c) (by omega)
    have hlf := decS_len (x := f) (by omega)
    have hjl : (Lib.join ((l.map itoB).map (·.data.toList)) [32]).length ≤ 100000 := by
      have hne : l ≠ [] := by intro e; rw [e] at hl4; simp at hl4
      have e := join_flat l hne (fun x hx => by have := hm x hx; omega)
      have e2 := flat_len l (fun x hx => by have := hm x hx; omega)
      rw [← e, List.length_cons] at e2
      omega
    have CA := fun w h => impl_decimal c (by omega) (by omega) w h
    have CB := fun w h => impl_decimal f (by omega) (by omega) w h
    have CJ := fun w h1 h2 => impl_joinNumbers p l cap w h1 hl4 hm h2
    rw [itoa_dec (by omega)] at CA CB
    obtain ⟨DC, eDC⟩ : ∃ D : ByteArray, (⟨(decS c).toArray⟩ : ByteArray) = D := ⟨_, rfl⟩
    obtain ⟨DF, eDF⟩ : ∃ D : ByteArray, (⟨(decS f).toArray⟩ : ByteArray) = D := ⟨_, rfl⟩
    obtain ⟨DJ, eDJ⟩ : ∃ D : ByteArray, (⟨(Lib.join ((l.map itoB).map (·.data.toList)) [32]).toArray⟩ : ByteArray) = D := ⟨_, rfl⟩
    have sc : DC.size ≤ 20 := by rw [← eDC]; simpa [ByteArray.size] using hlc
    have sf : DF.size ≤ 20 := by rw [← eDF]; simpa [ByteArray.size] using hlf
    have sj : DJ.size ≤ 100000 := by rw [← eDJ]; simpa [ByteArray.size] using hjl
    rw [eDC] at CA htj
    rw [eDF] at CB htj
    rw [eDJ] at CJ htj
    have HTJ := Lib.hid htj
    have hs1 : ¬ (9223372036854775807 < DC.size + 1) := by omega
    have hs2 : ¬ (9223372036854775807 < DC.size + 1 + DF.size) := by omega
    have hs3 : ¬ (9223372036854775807 < DC.size + 1 + DF.size + 1) := by omega
    have hs4 : ¬ (9223372036854775807 < DC.size + 1 + DF.size + 1 + DJ.size) := by omega
    clear htj eDC eDF eDJ hok hv hlc hlf hjl
    have KS : ∀ w' w'' : World, ((w'.cell? ⟨g, 0, none⟩ = some (.int .i64 c) ∧ w'.cell? ⟨g, 1, none⟩ = some (.int .i64 f) ∧ w'.cell? ⟨g, 2, none⟩ = some (.slice p l.length cap)) ∧ Blk w' g 28 #[.int .i64 c, .int .i64 f, .slice p l.length cap] ∧ IntsAt w' p l ∧ Tab w' ∧ Below g w w') → Below w'.heap.size w' w'' → ((w''.cell? ⟨g, 0, none⟩ = some (.int .i64 c) ∧ w''.cell? ⟨g, 1, none⟩ = some (.int .i64 f) ∧ w''.cell? ⟨g, 2, none⟩ = some (.slice p l.length cap)) ∧ Blk w'' g 28 #[.int .i64 c, .int .i64 f, .slice p l.length cap] ∧ IntsAt w'' p l ∧ Tab w'' ∧ Below g w w'') :=
      fun w' w'' h hb => ⟨(h.2.1.keep hb).cell3, h.2.1.keep hb, h.2.2.1.below hb, h.2.2.2.1.below hb, below_st h.2.2.2.2 hb (Nat.le_of_eq eg.symm)⟩
    have S0 : ((w1.drew.cell? ⟨g, 0, none⟩ = some (.int .i64 c) ∧ w1.drew.cell? ⟨g, 1, none⟩ = some (.int .i64 f) ∧ w1.drew.cell? ⟨g, 2, none⟩ = some (.slice p l.length cap)) ∧ Blk w1.drew g 28 #[.int .i64 c, .int .i64 f, .slice p l.length cap] ∧ IntsAt w1.drew p l ∧ Tab w1.drew ∧ Below g w w1.drew) := KS w1 w1.drew ⟨B1.cell3, B1, hI1, hT1, W1⟩ ((Below.refl _ _).drew)
    clear B1 hI1 hT1 W1
    go_wp2_with fail
    go_region_held3 (fun w' => (w'.cell? ⟨g, 0, none⟩ = some (.int .i64 c) ∧ w'.cell? ⟨g, 1, none⟩ = some (.int .i64 f) ∧ w'.cell? ⟨g, 2, none⟩ = some (.slice p l.length cap)) ∧ Blk w' g 28 #[.int .i64 c, .int .i64 f, .slice p l.length cap] ∧ IntsAt w' p l ∧ Tab w' ∧ Below g w w')
      (first | with_reducible exact S0 | with_reducible exact S1 | with_reducible exact S2 | with_reducible exact S3 | go_keep)
      (first | (go_at_call 30; (with_reducible refine (CA _ S0.2.2.2.1).mono ?_); rintro e y1 ⟨rfl, hb1⟩; have S1 := KS _ _ S0 hb1) | (go_at_call 30; (with_reducible refine (CB _ S1.2.2.2.1).mono ?_); rintro e y2 ⟨rfl, hb2⟩; have S2 := KS _ _ S1 hb2) | (go_at_call 31; (with_reducible refine (CJ _ S2.2.2.1 S2.2.2.2.1).mono ?_); rintro e y3 ⟨rfl, hb3⟩; have S3 := KS _ _ S2 hb3))
    all_goals
      go_wp2_with fail
      go_ret
      exact ⟨by rw [HV.out, ← HTJ.out]; rfl, by rw [eg]; exact S3.2.2.2.2⟩
end Go.Proofs.YtfdcainjppljhaaGreatDoor
