/- Slices of spans: where they lie; szSpanS. -/
import Derived.Test.YtfdcainjppljhaaSpanW
import Derived.Test.YtfdcainjppljhaaOpenF
namespace Go.Proofs.Ytfdcainjppljhaa
open Go.RowKit
set_option linter.unusedVariables false
/-- A slice of spans lies at p: three cells a span; its numbers lie where it says. -/
def SpansAt (w : World) (p : Option Addr) (L : List Flx) : Prop := L ≠ [] → ∃ a, p = some a ∧ a.block < w.heap.size ∧ ∀ i (h : i < L.length),
  w.cell? (a.add (i * 3)) = some (.int .i64 L[i].cell) ∧ w.cell? ⟨(a.add (i * 3)).block, (a.add (i * 3)).off + 1, none⟩ = some (.int .i64 L[i].first) ∧ w.cell? ⟨(a.add (i * 3)).block, (a.add (i * 3)).off + 2, none⟩ = some L[i].g.val ∧ IntsAt w L[i].g.p L[i].g.l
theorem SpansAt.at_ {w : World} {p : Option Addr} {L : List Flx} (h : SpansAt w p L) {k : Nat} (hk : k < L.length) : ∃ a, p = some a ∧ a.block < w.heap.size ∧
    w.cell? (a.add (k * 3)) = some (.int .i64 L[k].cell) ∧ w.cell? ⟨(a.add (k * 3)).block, (a.add (k * 3)).off + 1, none⟩ = some (.int .i64 L[k].first) ∧ w.cell? ⟨(a.add (k * 3)).block, (a.add (k * 3)).off + 2, none⟩ = some L[k].g.val ∧ IntsAt w L[k].g.p L[k].g.l := by
  obtain ⟨a, ha, hb, hc⟩ := h (by intro e; rw [e] at hk; simp at hk)
  exact ⟨a, ha, hb, hc k hk⟩
def lensL (L : List Flx) : Nat := (L.map fun s => s.g.l.length).sum
theorem lensL_take (L : List Flx) {k : Nat} (h : k < L.length) : lensL (L.take (k + 1)) = lensL (L.take k) + L[k].g.l.length := by
  unfold lensL
  rw [List.take_succ_eq_append_getElem h, List.map_append, List.sum_append]
  simp
theorem lensL_le (L : List Flx) : ∀ k, lensL (L.take k) ≤ lensL L := fun k => by
  have h : lensL L = lensL (L.take k) + lensL (L.drop k) := by
    unfold lensL
    rw [← List.sum_append, ← List.map_append, List.take_append_drop]
  omega
/-- What is left of a size. -/
def szLs (left : Int) (L : List Flx) : Int := if left < L.length + lensL L then -1 else left - L.length - lensL L
set_option maxHeartbeats 2000000 in
set_option maxRecDepth 20000 in
theorem laws_szSpanS (p : Option Addr) (L : List Flx) (cap : Nat) (left : Int) (w : World) (hI : SpansAt w p L) (hl : L.length ≤ maxLen) (hg : ∀ s ∈ L, s.g.l.length ≤ maxLen) (h : 0 ≤ left ∧ left ≤ 1048576) :
    Calls Try.prog 72 #[.slice p L.length cap, .int .i64 left] w fun e w' => e = .returned (.int .i64 (szLs left L)) ∧ Below w.heap.size w w' := by
  have hm : (L.length : Int) ≤ 9223372036854775807 := by unfold maxLen at hl; omega
  by_cases h1 : left < L.length
  · have HV : Hid (szLs left L = -1) := Lib.hid (by unfold szLs; rw [if_pos (by omega)])
    have q1 : IntKind.i64.wrap (left - L.length) = left - L.length := IntWalk.i64_in _ (by omega)
    have hd : decide (left - (L.length : Int) < 0) = true := decide_eq_true (by omega)
    go_enter Try.func72, Try.ntmps72
    go_wp2_with fail
    go_ret
    exact ⟨ret_int (by rw [HV.out]), Below.refl _ _⟩
  have q1 : IntKind.i64.wrap (left - L.length) = left - L.length := IntWalk.i64_in _ (by omega)
  have hd : decide (left - (L.length : Int) < 0) = false := decide_eq_false (by omega)
  go_enter Try.func72, Try.ntmps72
  go_wp2_with fail
  go_loopw [1, 5] (fun s i wr => ∃ k : Nat, k ≤ L.length ∧ i = .int .i64 k ∧ s = .int .i64 (left - L.length - lensL (L.take k)) ∧ 0 ≤ left - L.length - lensL (L.take k) ∧ Below w.heap.size w wr) (fun _ i _ => L.length - (intOf i).toNat)
  case atStart => exact ⟨0, Nat.zero_le _, rfl, by simp [lensL], by simp [lensL]; omega, Below.refl _ _⟩
  case round =>
    obtain ⟨k, hk, rfl, rfl, hpos, hbel⟩ := hrel
    by_cases hlt : k < L.length
    · obtain ⟨a, rfl, hab, c0, c1, c2, hIk⟩ := hI.at_ hlt
      have hab' : (a.add (k * 3)).block < w.heap.size := by rw [Go.ChangeShapes.block_add]; exact hab
      have d0 := (hbel.cell (p := a.add (k * 3)) hab').trans c0
      have d1 := (hbel.cell (p := ⟨(a.add (k * 3)).block, (a.add (k * 3)).off + 1, none⟩) hab').trans c1
      have d2 := (hbel.cell (p := ⟨(a.add (k * 3)).block, (a.add (k * 3)).off + 2, none⟩) hab').trans c2
      have hs := lensL_take L hlt
      have hgl := hg _ (List.getElem_mem hlt)
      obtain ⟨⟨x, y, ⟨pg, lg, cg⟩⟩, es⟩ : ∃ s, L[k] = s := ⟨_, rfl⟩
      rw [es] at d0 d1 d2 hs hgl hIk
      simp only [Num.val] at d0 d1 d2 hs hgl
      obtain ⟨z, ez⟩ : ∃ z, left - L.length - lensL (L.take k) = z := ⟨_, rfl⟩
      rw [ez] at hpos ⊢
      clear es c0 c1 c2
      have hz : szL z lg.length = (if z < lg.length then -1 else z - lg.length) := rfl
      by_cases hzl : z < lg.length
      · rw [if_pos hzl] at hz
        have HZ := Lib.hid hz
        have hle := lensL_le L (k + 1)
        have HV : Hid (szLs left L = -1) := Lib.hid (by unfold szLs; rw [if_pos (by omega)])
        clear hz
        go_wp2_with fail
        refine (laws_szSpan x y pg lg cg z _ (by simpa using hgl) (by omega)).mono ?_
        rintro e w1 ⟨rfl, hb1⟩
        rw [HZ.out]
        have hbel1 := below_st hbel hb1 (Nat.le_refl _)
        go_wp2_with fail
        go_ret
        exact ⟨ret_int (by rw [HV.out]), hbel1⟩
      · rw [if_neg hzl] at hz
        have HZ := Lib.hid hz
        have hdz : decide (z - (lg.length : Int) < 0) = false := decide_eq_false (by omega)
        clear hz
        go_wp2_with fail
        refine (laws_szSpan x y pg lg cg z _ (by simpa using hgl) (by omega)).mono ?_
        rintro e w1 ⟨rfl, hb1⟩
        rw [HZ.out]
        have hbel1 := below_st hbel hb1 (Nat.le_refl _)
        go_wp2_with fail
        exact ⟨⟨k + 1, by omega, by go_num, by congr 1; omega, by omega, hbel1⟩, by simp [intOf]; omega⟩
    · have hk2 : L.take k = L := List.take_of_length_le (by omega)
      rw [hk2] at hpos ⊢
      have HV : Hid (szLs left L = left - L.length - lensL L) := Lib.hid (by unfold szLs; rw [if_neg (by omega)])
      go_wp2_with fail
      go_ret
      exact ⟨ret_int (by rw [HV.out]), hbel⟩
theorem info_span : (Try.prog.info? 36).map (fun i => (i.zero, i.size, i.bytes)) = some (some (.agg #[.int .i64 0, .int .i64 0, .slice none 0 0]), 3, 40) := by kernel_rfl
theorem make_spans (n : Nat) (hn : n ≤ 1048576) (w : World) : (Instr.makeSlice 51 (.int .i64 (n : Int)) (.int .i64 (n : Int))).run Try.prog w = .ok (.slice (some ⟨w.heap.size, 0, none⟩) n n) (w.alloc (.cells (madeCells #[.int .i64 0, .int .i64 0, .slice none 0 0] (n * 3)) 36)) := by
  obtain ⟨i, hi, hzz⟩ := Option.map_eq_some_iff.1 info_span
  simp only [Prod.mk.injEq] at hzz
  obtain ⟨hz, hs, hb⟩ := hzz
  have h := run_make (P := Try.prog) w 51 36 i _ Try.underlying51 hi hz .i64 .i64 (n : Int) (n : Int) (by omega) (Int.le_refl _) (by rw [hb]; omega) (by omega)
  rw [hs] at h
  simpa [Value.cells] using h
theorem Blk.setI {w : World} {g : Nat} {t : TypeId} {cs : Array Value} (h : Blk w g t cs) (i : Nat) (v : Value) : Blk (w.setCell ⟨g, i, none⟩ v) g t (cs.setIfInBounds i v) := by
  have hB' : w.heap[g]? = some (.cells cs t (0, 0)) := h
  unfold Blk
  simp [World.setCell, Array.getElem?_modify, hB']
/-- The first spans of a row of the call's own: copies of L's, their numbers in rows of the call's own. -/
structure SpRow (w : World) (g n : Nat) (L L' : List Flx) : Prop where
  blk : ∃ cs : Array Value, Blk w g 36 cs ∧ cs.size = n * 3 ∧ ∀ j (h : j < L'.length), cs[j * 3]? = some (.int .i64 L'[j].cell) ∧ cs[j * 3 + 1]? = some (.int .i64 L'[j].first) ∧ cs[j * 3 + 2]? = some L'[j].g.val
  same : ∀ j (h : j < L'.length) (h2 : j < L.length), L'[j].cell = L[j].cell ∧ L'[j].first = L[j].first ∧ L'[j].g.l = L[j].g.l
  own : ∀ j (h : j < L'.length), OwnS w (g + 1) L'[j].g.p L'[j].g.l
  some_ : ∀ j (h : j < L'.length), L'[j].g.p ≠ none
  dis : ∀ i j (hi : i < L'.length) (hj : j < L'.length), i < j → ∀ g', ownOf L'[i].g.p L'[i].g.l = some g' → ownOf L'[j].g.p L'[j].g.l ≠ some g'
theorem SpRow.keep {w w' : World} {g n : Nat} {L L' : List Flx} (h : SpRow w g n L L') (hb : Below w.heap.size w w') : SpRow w' g n L L' := by
  obtain ⟨⟨cs, hB, hs, hc⟩, h2, h3, h4, h5⟩ := h
  exact ⟨⟨cs, hB.keep hb, hs, hc⟩, h2, fun j hj => (h3 j hj).below hb, h4, h5⟩
theorem SpRow.push {w : World} {g n : Nat} {L L' : List Flx} (h : SpRow w g n L L') (hn : L'.length < n) {x y : Int} {gq : Nat} {l : List Int} (hL : L'.length < L.length) (hx : L[L'.length].cell = x) (hy : L[L'.length].first = y) (hl : L[L'.length].g.l = l) (hq : RowI w gq l) (hgq : g < gq) (hfr : ∀ j (h : j < L'.length) (g' : Nat), ownOf L'[j].g.p L'[j].g.l = some g' → g' < gq) :
    SpRow (((w.setCell ⟨g, L'.length * 3, none⟩ (.int .i64 x)).setCell ⟨g, L'.length * 3 + 1, none⟩ (.int .i64 y)).setCell ⟨g, L'.length * 3 + 2, none⟩ (.slice (some ⟨gq, 0, none⟩) l.length l.length)) g n L (L' ++ [⟨x, y, ⟨some ⟨gq, 0, none⟩, l, l.length⟩⟩]) := by
  obtain ⟨⟨cs, hB, hs, hc⟩, h2, h3, h4, h5⟩ := h
  refine ⟨⟨_, ((hB.setI _ _).setI _ _).setI _ _, by simp [hs], fun j hj => ?_⟩, fun j hj hj2 => ?_, fun j hj => ?_, fun j hj => ?_, fun i j hi hj hij g' hg' => ?_⟩
  · simp at hj
    by_cases e : j < L'.length
    · obtain ⟨c0, c1, c2⟩ := hc j e
      rw [List.getElem_append_left e]
      refine ⟨?_, ?_, ?_⟩
      · rw [Array.getElem?_setIfInBounds_ne (by omega), Array.getElem?_setIfInBounds_ne (by omega), Array.getElem?_setIfInBounds_ne (by omega)]; exact c0
      · rw [Array.getElem?_setIfInBounds_ne (by omega), Array.getElem?_setIfInBounds_ne (by omega), Array.getElem?_setIfInBounds_ne (by omega)]; exact c1
      · rw [Array.getElem?_setIfInBounds_ne (by omega), Array.getElem?_setIfInBounds_ne (by omega), Array.getElem?_setIfInBounds_ne (by omega)]; exact c2
    · have e2 : j = L'.length := by omega
      subst e2
      have e3 : (L' ++ [(⟨x, y, ⟨some ⟨gq, 0, none⟩, l, l.length⟩⟩ : Flx)])[L'.length]'(by simp) = ⟨x, y, ⟨some ⟨gq, 0, none⟩, l, l.length⟩⟩ := by simp
      rw [e3]
      refine ⟨?_, ?_, ?_⟩
      · rw [Array.getElem?_setIfInBounds_ne (by omega), Array.getElem?_setIfInBounds_ne (by omega), Array.getElem?_setIfInBounds_self_of_lt (by omega)]
      · rw [Array.getElem?_setIfInBounds_ne (by omega), Array.getElem?_setIfInBounds_self_of_lt (by simp; omega)]
      · rw [Array.getElem?_setIfInBounds_self_of_lt (by simp; omega)]; rfl
  · simp at hj
    by_cases e : j < L'.length
    · rw [List.getElem_append_left e]; exact h2 j e hj2
    · have e2 : j = L'.length := by omega
      subst e2
      simp [hx, hy, hl]
  · have ho : ∀ {p' : Option Addr} {l' : List Int}, OwnS w (g + 1) p' l' → OwnS (((w.setCell ⟨g, L'.length * 3, none⟩ (.int .i64 x)).setCell ⟨g, L'.length * 3 + 1, none⟩ (.int .i64 y)).setCell ⟨g, L'.length * 3 + 2, none⟩ (.slice (some ⟨gq, 0, none⟩) l.length l.length)) (g + 1) p' l' := fun h hl => by
      obtain ⟨g', e, hg, hr⟩ := h hl
      exact ⟨g', e, hg, ((hr.off (by omega) _ _).off (by omega) _ _).off (by omega) _ _⟩
    simp at hj
    by_cases e : j < L'.length
    · rw [List.getElem_append_left e]; exact ho (h3 j e)
    · have e2 : j = L'.length := by omega
      subst e2
      have e3 : (L' ++ [(⟨x, y, ⟨some ⟨gq, 0, none⟩, l, l.length⟩⟩ : Flx)])[L'.length]'(by simp) = ⟨x, y, ⟨some ⟨gq, 0, none⟩, l, l.length⟩⟩ := by simp
      rw [e3]
      exact ho (OwnS.of_row hq (by omega))
  · simp at hj
    by_cases e : j < L'.length
    · rw [List.getElem_append_left e]; exact h4 j e
    · have e2 : j = L'.length := by omega
      subst e2
      have e3 : (L' ++ [(⟨x, y, ⟨some ⟨gq, 0, none⟩, l, l.length⟩⟩ : Flx)])[L'.length]'(by simp) = ⟨x, y, ⟨some ⟨gq, 0, none⟩, l, l.length⟩⟩ := by simp
      rw [e3]
      exact fun h => by cases h
  · simp at hi hj
    have hi2 : i < L'.length := by omega
    rw [List.getElem_append_left hi2] at hg'
    by_cases e : j < L'.length
    · rw [List.getElem_append_left e]; exact h5 i j hi2 e hij g' hg'
    · have e2 : j = L'.length := by omega
      subst e2
      have e3 : (L' ++ [(⟨x, y, ⟨some ⟨gq, 0, none⟩, l, l.length⟩⟩ : Flx)])[L'.length]'(by simp) = ⟨x, y, ⟨some ⟨gq, 0, none⟩, l, l.length⟩⟩ := by simp
      rw [e3]
      have hlt := hfr i hi2 g' hg'
      intro h
      unfold ownOf at h
      split at h
      · cases h
      · simp at h; omega
set_option maxHeartbeats 4000000 in
set_option maxRecDepth 20000 in
theorem laws_toSpanS (p : Option Addr) (L : List Flx) (cap : Nat) (w : World) (hI : SpansAt w p L) (hl : L.length ≤ 1048576) (hg : ∀ s ∈ L, s.g.l.length ≤ 1048576) :
    Calls Try.prog 77 #[.slice p L.length cap] w fun e w' => e = .returned (.slice (some ⟨w.heap.size, 0, none⟩) L.length L.length) ∧ (∃ L' : List Flx, L'.length = L.length ∧ SpRow w' w.heap.size L.length L L') ∧ Below w.heap.size w w' := by
  have hmk := make_spans L.length hl
  have R0 : SpRow (w.alloc (.cells (madeCells #[.int .i64 0, .int .i64 0, .slice none 0 0] (L.length * 3)) 36)) w.heap.size L.length L [] :=
    ⟨⟨_, Blk.new _ _ _, size_madeCells _ _, fun j h => by simp at h⟩, fun j h => by simp at h, fun j h => by simp at h, fun j h => by simp at h, fun i j h => by simp at h⟩
  have W0 := (Below.refl w.heap.size w).alloc (Nat.le_refl _) (.cells (madeCells #[.int .i64 0, .int .i64 0, .slice none 0 0] (L.length * 3)) 36)
  have z0 : w.heap.size < (w.alloc (.cells (madeCells #[.int .i64 0, .int .i64 0, .slice none 0 0] (L.length * 3)) 36)).heap.size := by simp
  go_enter Try.func77, Try.ntmps77
  go_wp2_with fail
  generalize w.alloc (.cells (madeCells #[.int .i64 0, .int .i64 0, .slice none 0 0] (L.length * 3)) 36) = w0 at R0 W0 z0 ⊢
  obtain ⟨g, eg⟩ : ∃ g, w.heap.size = g := ⟨_, rfl⟩
  rw [eg] at R0 z0 ⊢
  go_loopw [4] (fun i wr => ∃ (k : Nat) (L' : List Flx), k ≤ L.length ∧ i = .int .i64 k ∧ L'.length = k ∧ SpRow wr g L.length L L' ∧ Below w.heap.size w wr) (fun i _ => L.length - (intOf i).toNat)
  case atStart => exact ⟨0, [], Nat.zero_le _, rfl, rfl, R0, W0⟩
  case round =>
    obtain ⟨k, L', hk, rfl, hk', hR, hbel⟩ := hrel
    by_cases hlt : k < L.length
    · obtain ⟨a, rfl, hab, c0, c1, c2, hIk⟩ := hI.at_ hlt
      have hab' : (a.add (k * 3)).block < w.heap.size := by rw [Go.ChangeShapes.block_add]; exact hab
      have d0 := (hbel.cell (p := a.add (k * 3)) hab').trans c0
      have d1 := (hbel.cell (p := ⟨(a.add (k * 3)).block, (a.add (k * 3)).off + 1, none⟩) hab').trans c1
      have d2 := (hbel.cell (p := ⟨(a.add (k * 3)).block, (a.add (k * 3)).off + 2, none⟩) hab').trans c2
      have hgl := hg _ (List.getElem_mem hlt)
      have hIk2 := hIk.below hbel
      obtain ⟨⟨x, y, ⟨pg, lg, cg⟩⟩, es⟩ : ∃ s, L[k] = s := ⟨_, rfl⟩
      rw [es] at d0 d1 d2 hgl hIk2
      simp only [Num.val] at d0 d1 d2 hgl hIk2
      have HES := Lib.hid es
      clear es c0 c1 c2 hIk
      go_wp2_with fail
      refine (laws_toSpan x y pg lg cg _ hIk2 hgl).mono ?_
      rintro e w1 ⟨gq, rfl, hgq, hrq, hb1⟩
      have hR1 := hR.keep hb1
      have hfr : ∀ j (h : j < L'.length) (g' : Nat), ownOf L'[j].g.p L'[j].g.l = some g' → g' < gq := fun j h g' hg' => Nat.lt_of_lt_of_le (ownOf_at (hR.own j h) hg').2 hgq
      obtain ⟨cs, hB, hs, -⟩ := hR1.blk
      have hB' := hB
      have hbel1 := below_st hbel hb1 (Nat.le_refl _)
      have i0 : k * 3 < cs.size := by omega
      have i1 : k * 3 + 1 < cs.size := by omega
      have i2 : k * 3 + 2 < cs.size := by omega
      have e0 : w1.cell? ⟨g, k * 3, none⟩ = some cs[k * 3] := by rw [hB.cell]; exact Array.getElem?_eq_getElem i0
      have e1 : w1.cell? ⟨g, k * 3 + 1, none⟩ = some cs[k * 3 + 1] := by rw [hB.cell]; exact Array.getElem?_eq_getElem i1
      have e2 : w1.cell? ⟨g, k * 3 + 2, none⟩ = some cs[k * 3 + 2] := by rw [hB.cell]; exact Array.getElem?_eq_getElem i2
      have ef := hB.frozen
      have el := hB.lt
      have hgg : g < gq := by have := hR.blk.choose_spec.1.lt; omega
      generalize cs[k * 3] = v0 at e0
      generalize cs[k * 3 + 1] = v1 at e1
      generalize cs[k * 3 + 2] = v2 at e2
      have hP := hR1.push (x := x) (y := y) (gq := gq) (l := lg) (by omega) (by omega) (by simp only [hk']; rw [HES.out]) (by simp only [hk']; rw [HES.out]) (by simp only [hk']; rw [HES.out]) hrq hgg hfr
      rw [hk'] at hP
      go_wp2_with fail
      exact ⟨⟨k + 1, _, by omega, by go_num, by simp [hk'], hP, ((hbel1.setCell (p := ⟨g, k * 3, none⟩) (by show w.heap.size ≤ g; omega) _).setCell (p := ⟨g, k * 3 + 1, none⟩) (by show w.heap.size ≤ g; omega) _).setCell (p := ⟨g, k * 3 + 2, none⟩) (by show w.heap.size ≤ g; omega) _⟩, by simp [intOf]; omega⟩
    · subst eg
      go_wp2_with fail
      go_ret
      exact ⟨rfl, ⟨L', by omega, hR⟩, hbel⟩
/-- Such a row, as a slice of spans lies. -/
theorem SpRow.spans {w : World} {g n : Nat} {L L' : List Flx} (h : SpRow w g n L L') : SpansAt w (some ⟨g, 0, none⟩) L' := by
  intro hne
  obtain ⟨cs, hB, hs, hc⟩ := h.blk
  refine ⟨⟨g, 0, none⟩, rfl, hB.lt, fun i hi => ?_⟩
  obtain ⟨c0, c1, c2⟩ := hc i hi
  have ha : (⟨g, 0, none⟩ : Addr).add (i * 3) = ⟨g, i * 3, none⟩ := by unfold Addr.add; split <;> simp_all
  rw [ha]
  exact ⟨(hB.cell _).trans c0, (hB.cell _).trans c1, (hB.cell _).trans c2, (h.own i hi).ints⟩
/-- Spans that read alike. -/
def SameS (L L' : List Flx) : Prop := L'.length = L.length ∧ ∀ j (h : j < L'.length) (h2 : j < L.length), L'[j].cell = L[j].cell ∧ L'[j].first = L[j].first ∧ L'[j].g.l = L[j].g.l
theorem SpansAt.below {w w' : World} {p : Option Addr} {L : List Flx} (h : SpansAt w p L) (hb : Below w.heap.size w w') : SpansAt w' p L := by
  intro hne
  obtain ⟨a, ha, hab, hc⟩ := h hne
  refine ⟨a, ha, Nat.lt_of_lt_of_le hab hb.size, fun i hi => ?_⟩
  obtain ⟨c0, c1, c2, hI⟩ := hc i hi
  have hab' : (a.add (i * 3)).block < w.heap.size := by rw [Go.ChangeShapes.block_add]; exact hab
  exact ⟨(hb.cell (p := a.add (i * 3)) hab').trans c0, (hb.cell (p := ⟨(a.add (i * 3)).block, (a.add (i * 3)).off + 1, none⟩) hab').trans c1, (hb.cell (p := ⟨(a.add (i * 3)).block, (a.add (i * 3)).off + 2, none⟩) hab').trans c2, hI.below hb⟩
set_option maxHeartbeats 4000000 in
set_option maxRecDepth 20000 in
theorem laws_eqSpanS_same (p q : Option Addr) (L M : List Flx) (cap dap : Nat) (w : World) (hI : SpansAt w p L) (hJ : SpansAt w q M) (hs : SameS L M) (hl : L.length ≤ 1048576) (hg : ∀ s ∈ L, s.g.l.length ≤ 1048576) :
    Calls Try.prog 78 #[.slice p L.length cap, .slice q M.length dap] w fun e w' => e = .returned (.bool true) ∧ Below w.heap.size w w' := by
  have hlen := hs.1
  have HS := Lib.hid hs.2
  have hne : ((L.length : Int) != (M.length : Int)) = false := by rw [hlen]; simp
  rw [hlen]
  clear hs hne
  go_enter Try.func78, Try.ntmps78
  go_wp2_with fail
  go_loopw [5] (fun i wr => ∃ k : Nat, k ≤ L.length ∧ i = .int .i64 k ∧ Below w.heap.size w wr) (fun i _ => L.length - (intOf i).toNat)
  case atStart => exact ⟨0, Nat.zero_le _, rfl, Below.refl _ _⟩
  case round =>
    obtain ⟨k, hk, rfl, hbel⟩ := hrel
    by_cases hlt : k < L.length
    · obtain ⟨a, rfl, hab, c0, c1, c2, hIk⟩ := (hI.below hbel).at_ hlt
      obtain ⟨b, rfl, hbb, d0, d1, d2, hJk⟩ := (hJ.below hbel).at_ (k := k) (by omega)
      obtain ⟨s0, s1, s2⟩ := HS.out k (by omega) hlt
      have hgl := hg _ (List.getElem_mem hlt)
      obtain ⟨⟨x, y, ⟨pg, lg, cg⟩⟩, es⟩ : ∃ s, L[k] = s := ⟨_, rfl⟩
      obtain ⟨⟨x', y', ⟨pg', lg', cg'⟩⟩, es'⟩ : ∃ s, M[k]'(by omega) = s := ⟨_, rfl⟩
      rw [es] at c0 c1 c2 hIk hgl s0 s1 s2
      rw [es'] at d0 d1 d2 hJk s0 s1 s2
      simp only [Num.val] at c0 c1 c2 hIk hgl s0 s1 s2 d0 d1 d2 hJk
      subst s0
      subst s1
      subst s2
      clear es es'
      go_wp2_with fail
      go_region_with (go_at_call 24; refine (laws_eqSpan_same _ _ _ _ _ _ _ _ (by exact hIk) (by exact hJk) (by omega)).mono ?_; rintro e w1 ⟨rfl, hb1⟩)
      all_goals
        have hbel1 := below_st hbel.drew hb1 (Nat.le_refl _)
        go_wp2_with fail
        go_roundw
        case rel => exact ⟨k + 1, by omega, by go_num, hbel1⟩
        case measure => simp [intOf]; omega
    · go_wp2_with fail
      go_ret
      exact ⟨rfl, hbel⟩
end Go.Proofs.Ytfdcainjppljhaa
