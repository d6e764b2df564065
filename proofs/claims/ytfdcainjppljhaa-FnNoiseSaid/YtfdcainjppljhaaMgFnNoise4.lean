/- slices.BinarySearch at []int64; l00Has. DropChanges. Printed by dropgen.py. Flux whose index is later; weak areas: what sorting gives, plain. slices.Sort at int64 and modulo: contracts. 'append' of one number to a slice of the call's own: which block the result has. ComW. Printed by conr3.py. -/
import Derived.Test.YtfdcainjppljhaaMgFnNoise1
import Derived.Test.YtfdcainjppljhaaMgFnNoise2
import Derived.Test.YtfdcainjppljhaaMgFnNoise3
import Derived.Deep.RegionHeld3
import Derived.Test.YtfdcainjppljhaaShelf
import Derived.Sort.Grow
import Derived.BigQuiet
import Derived.Deep.DeepCutAuto
import Derived.BigRegion
namespace Go.Proofs.Ytfdcainjppljhaa
open Go.RowKit
set_option linter.unusedVariables false
theorem isNaN_cmp (x : Int) (w : World) : Calls Try.prog 110 #[.int .i64 x] w fun e w' => e = .returned (.bool false) ∧ w = w' := by
  go_enter Try.func110, Try.ntmps110
  go_wp2_with fail
  go_ret
  exact ⟨rfl, rfl⟩
theorem isNaN_slices (x : Int) (w : World) : Calls Try.prog 95 #[.int .i64 x] w fun e w' => e = .returned (.bool false) ∧ w = w' := by
  go_enter Try.func95, Try.ntmps95
  go_wp2_with fail
  go_ret
  exact ⟨rfl, rfl⟩
theorem less_cmp (x y : Int) (w : World) : Calls Try.prog 94 #[.int .i64 x, .int .i64 y] w fun e w' => e = .returned (.bool (decide (x < y))) ∧ w = w' := by
  go_enter Try.func94, Try.ntmps94
  go_wp2_with (go_at_call 110; refine (isNaN_cmp _ _).mono ?_; rintro e w' ⟨rfl, rfl⟩)
  go_ret
  exact ⟨rfl, rfl⟩
theorem bs_end {l : List Int} {t : Int} (hs : l.Pairwise (· ≤ ·)) {i : Nat} (h1 : ∀ x (hx : x < l.length), x < i → l[x] < t) (h2 : ∀ x (hx : x < l.length), i ≤ x → t ≤ l[x]) :
    decide (t ∈ l) = if h : i < l.length then decide (l[i] = t) else false := by
  split
  · rename_i h
    rw [Bool.eq_iff_iff, decide_eq_true_iff, decide_eq_true_iff]
    constructor
    · intro hm
      obtain ⟨x, hx, rfl⟩ := List.getElem_of_mem hm
      have hix : i ≤ x := by
        rcases Nat.lt_or_ge x i with h3 | h3
        · have := h1 x hx h3; omega
        · exact h3
      have h4 := h2 i h (Nat.le_refl _)
      rcases Nat.lt_or_ge i x with h5 | h5
      · have := List.pairwise_iff_getElem.1 hs i x h hx h5
        omega
      · have : i = x := by omega
        subst this; rfl
    · intro e; rw [← e]; exact List.getElem_mem h
  · rename_i h
    rw [decide_eq_false_iff_not]
    intro hm
    obtain ⟨x, hx, rfl⟩ := List.getElem_of_mem hm
    have := h1 x hx (by omega)
    omega
theorem bs_low {l : List Int} {t : Int} (hs : l.Pairwise (· ≤ ·)) {h : Nat} (hh : h < l.length) (hlt : l[h] < t) : ∀ x (hx : x < l.length), x < h + 1 → l[x] < t := by
  intro x hx hxh
  rcases Nat.lt_or_ge x h with h5 | h5
  · have := List.pairwise_iff_getElem.1 hs x h hx hh h5
    omega
  · have : x = h := by omega
    subst this; exact hlt
theorem bs_high {l : List Int} {t : Int} (hs : l.Pairwise (· ≤ ·)) {h : Nat} (hh : h < l.length) (hge : t ≤ l[h]) : ∀ x (hx : x < l.length), h ≤ x → t ≤ l[x] := by
  intro x hx hxh
  rcases Nat.lt_or_ge h x with h5 | h5
  · have := List.pairwise_iff_getElem.1 hs h x hh hx h5
    omega
  · have : x = h := by omega
    subst this; exact hge
set_option maxHeartbeats 2000000 in
set_option maxRecDepth 20000 in
theorem slices_BinarySearch (p : Option Addr) (l : List Int) (cap : Nat) (t : Int) (w : World) (hI : IntsAt w p l) (hl : l.length ≤ 1048576) (hs : l.Pairwise (· ≤ ·)) :
    Calls Try.prog 71 #[.slice p l.length cap, .int .i64 t] w fun e w' => ∃ x, e = .returned (.tuple #[.int .i64 x, .bool (decide (t ∈ l))]) ∧ w = w' := by
  have HS := Lib.hid hs
  clear hs
  go_enter Try.func71, Try.ntmps71
  go_wp2_with fail
  go_loopw [7, 8] (fun iv jv wr => ∃ i j : Nat, i ≤ j ∧ j ≤ l.length ∧ iv = .int .i64 i ∧ jv = .int .i64 j ∧ Hid (∀ x (hx : x < l.length), x < i → l[x] < t) ∧ Hid (∀ x (hx : x < l.length), j ≤ x → t ≤ l[x]) ∧ wr = w) (fun iv jv _ => (intOf jv - intOf iv).toNat)
  case atStart => exact ⟨0, l.length, Nat.zero_le _, Nat.le_refl _, rfl, rfl, fun x _ h => absurd h (Nat.not_lt_zero _), fun x hx h => absurd hx (by omega), rfl⟩
  case round =>
    obtain ⟨i, j, hij, hj, rfl, rfl, H1, H2, rfl⟩ := hrel
    by_cases hlt : i < j
    · obtain ⟨s, hsum⟩ : ∃ s, i + j = s := ⟨_, rfl⟩
      obtain ⟨h, hh⟩ : ∃ h, s / 2 = h := ⟨_, rfl⟩
      have q1 : IntKind.i64.wrap ((i : Int) + (j : Int)) = (s : Int) := by rw [IntWalk.i64_in _ (by omega)]; omega
      have q2 : (i : Int) + (j : Int) = (s : Int) := by omega
      have q3 : (s : Int) / 2 = (h : Int) := by omega
      have q4 : (s : Int).tdiv 2 = (h : Int) := by rw [Int.tdiv_eq_ediv_of_nonneg (by omega)]; omega
      have hhl : h < l.length := by omega
      obtain ⟨a, rfl, hx⟩ := hI.at_ hhl
      have b1 := @bs_low l t HS.out h hhl
      have b2 := @bs_high l t HS.out h hhl
      obtain ⟨x, ex⟩ : ∃ x, l[h] = x := ⟨_, rfl⟩
      rw [ex] at hx b1 b2
      have i1 : (h : Int) < (l.length : Int) := by omega
      clear ex
      by_cases hxt : x < t
      · have HB := Lib.hid (b1 hxt)
        have hd : decide (x < t) = true := decide_eq_true hxt
        clear b1 b2
        go_wp2_with (go_at_call 94; refine (less_cmp _ _ _).mono ?_; rintro e w' ⟨rfl, rfl⟩)
        go_roundw
        case rel => exact ⟨h + 1, j, by omega, hj, by go_num, rfl, HB, H2, trivial⟩
        case measure => simp [intOf]; omega
      · have HB := Lib.hid (b2 (by omega))
        have hd : decide (x < t) = false := decide_eq_false hxt
        clear b1 b2
        go_wp2_with (go_at_call 94; refine (less_cmp _ _ _).mono ?_; rintro e w' ⟨rfl, rfl⟩)
        go_roundw
        case rel => exact ⟨i, h, by omega, by omega, rfl, by go_num, H1, HB, trivial⟩
        case measure => simp [intOf]; omega
    · have hij2 : i = j := by omega
      subst hij2
      have hend := Lib.hid (bs_end HS.out H1.out H2.out)
      by_cases hil : i < l.length
      · obtain ⟨a, rfl, hx⟩ := hI.at_ hil
        have he2 : Hid (decide (t ∈ l) = decide (l[i] = t)) := Lib.hid (by rw [hend.out, dif_pos hil])
        obtain ⟨x, ex⟩ : ∃ x, l[i] = x := ⟨_, rfl⟩
        rw [ex] at hx
        have EX := Lib.hid ex
        clear ex
        by_cases hxt : x = t
        · subst hxt
          go_wp2_with (go_at_call 95; refine (isNaN_slices _ _).mono ?_; rintro e w' ⟨rfl, rfl⟩)
          go_ret2
          exact ⟨_, ret_int_bool rfl (by rw [he2.out, EX.out]; simp), rfl⟩
        · have hne : (x == t) = false := by rw [beq_eq_false_iff_ne]; exact hxt
          go_wp2_with (go_at_call 95; refine (isNaN_slices _ _).mono ?_; rintro e w' ⟨rfl, rfl⟩)
          go_ret2
          exact ⟨_, ret_int_bool rfl (by rw [he2.out, EX.out, decide_eq_false hxt]), rfl⟩
      · have he2 : Hid (decide (t ∈ l) = false) := Lib.hid (by rw [hend.out, dif_neg hil])
        go_wp2_with fail
        go_ret2
        exact ⟨_, ret_int_bool rfl (by rw [he2.out]), rfl⟩
theorem has_no {l : List Int} {t : Int} (h : ∀ x (hx : x < l.length), l[x] ≠ t) : decide (t ∈ l) = false := by
  rw [decide_eq_false_iff_not]
  intro hm
  obtain ⟨x, hx, e⟩ := List.getElem_of_mem hm
  exact h x hx e
set_option maxHeartbeats 1000000 in
theorem spec_l00Has (p : Option Addr) (l : List Int) (cap : Nat) (t : Int) (w : World) (hI : IntsAt w p l) (hl : l.length ≤ 1048576) :
    Calls Try.prog 99 #[.slice p l.length cap, .int .i64 t] w fun e w' => e = .returned (.bool (decide (t ∈ l))) ∧ w = w' := by
  go_enter Try.func99, Try.ntmps99
  go_wp2_with fail
  go_loopw [5] (fun iv wr => ∃ i : Nat, i ≤ l.length ∧ iv = .int .i64 i ∧ Hid (∀ x (hx : x < l.length), x < i → l[x] ≠ t) ∧ wr = w) (fun iv _ => l.length - (intOf iv).toNat)
  case atStart => exact ⟨0, Nat.zero_le _, rfl, fun x _ h => absurd h (Nat.not_lt_zero _), rfl⟩
  case round =>
    obtain ⟨i, hi, rfl, H1, rfl⟩ := hrel
    by_cases hlt : i < l.length
    · obtain ⟨a, rfl, hx⟩ := hI.at_ hlt
      by_cases hxt : l[i] = t
      · have he : Hid (decide (t ∈ l) = true) := Lib.hid (by rw [← hxt]; exact decide_eq_true (List.getElem_mem hlt))
        rw [hxt] at hx
        go_wp2_with fail
        go_ret
        exact ⟨ret_bool (by rw [he.out]), rfl⟩
      · have HN : Hid (∀ x (hx : x < l.length), x < i + 1 → l[x] ≠ t) := Lib.hid fun x hx h => by
          by_cases e : x = i
          · subst e; exact hxt
          · exact H1.out x hx (by omega)
        obtain ⟨x, ex⟩ : ∃ x, l[i] = x := ⟨_, rfl⟩
        rw [ex] at hx hxt
        have hne : (x == t) = false := by rw [beq_eq_false_iff_ne]; exact hxt
        clear ex
        go_wp2_with fail
        go_roundw
        case rel => exact ⟨i + 1, by omega, by go_num, HN, trivial⟩
        case measure => simp [intOf]; omega
    · have he := Lib.hid (has_no fun x hx => H1.out x hx (by omega))
      go_wp2_with fail
      go_ret
      exact ⟨ret_bool (by rw [he.out]), rfl⟩
end Go.Proofs.Ytfdcainjppljhaa
namespace Go.Proofs.Ytfdcainjppljhaa
open Go.RowKit
set_option linter.unusedVariables false
/-- What is left of the first k times. -/
def keepL (x js : List Int) (k : Nat) : List Int := ((List.range k).filter fun (i : Nat) => !decide ((i : Int) ∈ js)).map fun (i : Nat) => x.getD i 0
theorem keepL_yes {x js : List Int} {k : Nat} (hk : k < x.length) (h : decide ((k : Int) ∈ js) = false) : keepL x js (k + 1) = keepL x js k ++ [x[k]] := by
  unfold keepL
  rw [List.range_succ, List.filter_append, List.filter_cons, if_pos (by rw [h]; rfl)]
  simp [hk]
theorem keepL_no {x js : List Int} {k : Nat} (h : decide ((k : Int) ∈ js) = true) : keepL x js (k + 1) = keepL x js k := by
  unfold keepL
  rw [List.range_succ, List.filter_append, List.filter_cons, if_neg (by rw [h]; decide)]
  simp
theorem keepL_len (x js : List Int) (k : Nat) : (keepL x js k).length ≤ k := by
  unfold keepL
  rw [List.length_map]
  have := List.length_filter_le (fun i : Nat => !decide ((i : Int) ∈ js)) (List.range k)
  rw [List.length_range] at this
  exact this
def drOk (c f : Int) (l js : List Int) : Bool := fluxOk c f l && risesB js 0 3999
def drIn (l js : List Int) : Bool := risesB js 0 ((l.length : Int) - 1)
def drV (c f : Int) (l js : List Int) : Bool := drOk c f l js && drIn l js
def drT (f : Int) (l js : List Int) : List Int := keepL (chgL f l) js l.length
def drE (c f : Int) (l js : List Int) : Int := if drOk c f l js then (if drIn l js then tmE 2 (drT f l js) l.sum c else 2) else 1
theorem drT_len (f : Int) (l js : List Int) : (drT f l js).length ≤ l.length := keepL_len _ _ _
theorem rises_pw {js : List Int} {lo hi : Int} (h : risesB js lo hi = true) : js.Pairwise (· ≤ ·) := by
  unfold risesB at h
  rw [Bool.and_eq_true, decide_eq_true_eq] at h
  exact h.2.imp fun h => by omega
/-- The bound of rising numbers is the last one's. -/
theorem rises_last {js : List Int} {n : Nat} (h : risesB js 0 3999 = true) (hn : n ≤ 4000) (hj : 0 < js.length) : risesB js 0 ((n : Int) - 1) = decide (js[js.length - 1]'(by omega) < (n : Int)) := by
  have hs := rises_pw h
  unfold risesB at h ⊢
  rw [Bool.and_eq_true] at h
  rw [h.2, Bool.and_true, Bool.eq_iff_iff, List.all_eq_true, decide_eq_true_iff]
  have h1 := List.all_eq_true.1 h.1
  constructor
  · intro ha
    have := inB_iff.1 (ha _ (List.getElem_mem (by omega : js.length - 1 < js.length)))
    omega
  · intro hl x hx
    obtain ⟨i, hi, rfl⟩ := List.getElem_of_mem hx
    have h2 := inB_iff.1 (h1 _ (List.getElem_mem hi))
    have h3 : js[i] ≤ js[js.length - 1] := by
      rcases Nat.lt_or_ge i (js.length - 1) with h4 | h4
      · exact List.pairwise_iff_getElem.1 hs i (js.length - 1) hi (by omega) h4
      · have : i = js.length - 1 := by omega
        subst this; exact Int.le_refl _
    exact inB_iff.2 ⟨h2.1, by omega⟩
theorem rises_nil (lo hi : Int) : risesB [] lo hi = true := rfl
theorem Blk.drewN {w : World} {g : Nat} {t : TypeId} {cs : Array Value} (h : Blk w g t cs) (n : Nat) : Blk (w.drewN n) g t cs := h
theorem OwnS.drewN' {w : World} {base : Nat} {p : Option Addr} {l : List Int} (h : OwnS w base p l) (n : Nat) : OwnS (w.drewN n) base p l := h
theorem impl_size (p : Option Addr) (n cap : Nat) (w : World) :
    Calls Try.prog 70 #[.slice p n cap] w fun e w' => e = .returned (.int .i64 (n : Int)) ∧ w' = w := by
  go_enter Try.func70, Try.ntmps70
  go_wp2_with fail
  go_ret
  exact ⟨rfl, rfl⟩
set_option maxHeartbeats 4000000 in
set_option maxRecDepth 20000 in
theorem impl_DropChanges (c f : Int) (p : Option Addr) (l : List Int) (cap : Nat) (pj : Option Addr) (js : List Int) (capj : Nat) (w : World) (hI : IntsAt w p l) (hl : l.length ≤ 1048576) (hJ : IntsAt w pj js) (hjl : js.length ≤ 1048576) :
    Calls Try.prog 33 #[.agg #[.int .i64 c, .int .i64 f, .slice p l.length cap], .slice pj js.length capj] w fun e w' => ∃ (q : Option Addr) (dq : Nat), e = .returned (.tuple #[.agg #[.int .i64 (fxC (drV c f l js) (drT f l js) l.sum c), .int .i64 (fxF (drV c f l js) (drT f l js) l.sum c), .slice q (fxL (drV c f l js) (drT f l js) l.sum c).length dq], .int .i64 (drE c f l js)]) ∧ OwnS w' w.heap.size q (fxL (drV c f l js) (drT f l js) l.sum c) ∧ Below w.heap.size w w' := by
  have BF0 := (Blk.new w 26 #[.int .i64 c, .int .i64 f, .slice p l.length cap]).alloc' (.cells #[.int .i64 0, .int .i64 0, .slice none 0 0] 26)
  have R0 := Blk.new (w.alloc (.cells #[.int .i64 c, .int .i64 f, .slice p l.length cap] 26)) 26 #[.int .i64 0, .int .i64 0, .slice none 0 0]
  have esz : (w.alloc (.cells #[.int .i64 c, .int .i64 f, .slice p l.length cap] 26)).heap.size = w.heap.size + 1 := by simp
  rw [esz] at R0
  have W0 : Below w.heap.size w ((w.alloc (.cells #[.int .i64 c, .int .i64 f, .slice p l.length cap] 26)).alloc (.cells #[.int .i64 0, .int .i64 0, .slice none 0 0] 26)) := ((Below.refl _ _).alloc (Nat.le_refl _) _).alloc (by simp) _
  clear esz
  obtain ⟨f0, f1, f2⟩ := BF0.cell3
  obtain h1 | h1 := (Bool.eq_false_or_eq_true (fluxOk c f l)).symm
  · have hv : drV c f l js = false := by unfold drV drOk; rw [h1]; rfl
    have HE : Hid (drE c f l js = 1) := Lib.hid (by unfold drE drOk; rw [h1]; rfl)
    have HN : Hid (fxC (drV c f l js) (drT f l js) l.sum c = 0 ∧ fxF (drV c f l js) (drT f l js) l.sum c = 0 ∧ fxL (drV c f l js) (drT f l js) l.sum c = []) := Lib.hid (by unfold fxC fxF fxL; rw [hv]; exact ⟨rfl, rfl, rfl⟩)
    have H := Lib.hid h1
    clear h1 hv
    go_enter Try.func33, Try.ntmps33
    go_wp2_with fail
    generalize (w.alloc (.cells #[.int .i64 c, .int .i64 f, .slice p l.length cap] 26)).alloc (.cells #[.int .i64 0, .int .i64 0, .slice none 0 0] 26) = w0 at BF0 R0 W0 f0 f1 f2 ⊢
    refine (impl_ValidFlux c f p l cap _ (hI.below W0) hl).mono ?_
    rintro e w1 ⟨rfl, hb1⟩
    rw [H.out]
    have R1 := R0.keep hb1
    have BF1 := BF0.keep hb1
    have W1 := below_st W0 hb1 (Nat.le_refl _)
    obtain ⟨r0, r1', r2⟩ := R1.cell3
    have rf := R1.frozen
    have rlt := R1.lt
    obtain ⟨e0, e1, e2⟩ := (R1.set3 (.int .i64 0) (.int .i64 0) (.slice none 0 0)).cell3
    go_wp2_with fail
    refine bodyPost_ret (v := .tuple #[.agg #[.int .i64 0, .int .i64 0, .slice none 0 0], .int .i64 1]) (by simp [results, Try.results33, go_sem, e0, e1, e2]) rfl ?_
    rw [HN.out.1, HN.out.2.1, HN.out.2.2, HE.out]
    have W9 := ((W1.setCell (p := ⟨w.heap.size + 1, 0, none⟩) (Nat.le_succ _) (.int .i64 0)).setCell (p := ⟨w.heap.size + 1, 1, none⟩) (Nat.le_succ _) (.int .i64 0)).setCell (p := ⟨w.heap.size + 1, 2, none⟩) (Nat.le_succ _) (.slice none 0 0)
    first | exact ⟨none, 0, rfl, OwnS.nil_ _ _ _, W9⟩ | exact ⟨none, ⟨0, rfl⟩, OwnS.nil_ _ _ _, W9⟩
  obtain h2 | h2 := (Bool.eq_false_or_eq_true (risesB js 0 3999)).symm
  · have hv : drV c f l js = false := by unfold drV drOk; rw [h2, Bool.and_false]; rfl
    have HE : Hid (drE c f l js = 1) := Lib.hid (by unfold drE drOk; rw [h2, Bool.and_false]; rfl)
    have HN : Hid (fxC (drV c f l js) (drT f l js) l.sum c = 0 ∧ fxF (drV c f l js) (drT f l js) l.sum c = 0 ∧ fxL (drV c f l js) (drT f l js) l.sum c = []) := Lib.hid (by unfold fxC fxF fxL; rw [hv]; exact ⟨rfl, rfl, rfl⟩)
    have H := Lib.hid h1
    have H2 := Lib.hid h2
    clear h1 h2 hv
    go_enter Try.func33, Try.ntmps33
    go_wp2_with fail
    generalize (w.alloc (.cells #[.int .i64 c, .int .i64 f, .slice p l.length cap] 26)).alloc (.cells #[.int .i64 0, .int .i64 0, .slice none 0 0] 26) = w0 at BF0 R0 W0 f0 f1 f2 ⊢
    refine (impl_ValidFlux c f p l cap _ (hI.below W0) hl).mono ?_
    rintro e w1 ⟨rfl, hb1⟩
    rw [H.out]
    have R1 := R0.keep hb1
    have BF1 := BF0.keep hb1
    have W1 := below_st W0 hb1 (Nat.le_refl _)
    clear f0 f1 f2
    obtain ⟨f0, f1, f2⟩ := BF1.cell3
    go_wp2_with fail
    refine (impl_validDrops pj js capj _ (hJ.below W1) hjl).mono ?_
    rintro e w2 ⟨rfl, hb2⟩
    rw [H2.out]
    have R2 := R1.keep hb2
    have BF2 := BF1.keep hb2
    have W2 := below_st W1 hb2 (Nat.le_refl _)
    obtain ⟨r0, r1', r2⟩ := R2.cell3
    have rf := R2.frozen
    have rlt := R2.lt
    obtain ⟨e0, e1, e2⟩ := (R2.set3 (.int .i64 0) (.int .i64 0) (.slice none 0 0)).cell3
    go_wp2_with fail
    refine bodyPost_ret (v := .tuple #[.agg #[.int .i64 0, .int .i64 0, .slice none 0 0], .int .i64 1]) (by simp [results, Try.results33, go_sem, e0, e1, e2]) rfl ?_
    rw [HN.out.1, HN.out.2.1, HN.out.2.2, HE.out]
    have W9 := ((W2.setCell (p := ⟨w.heap.size + 1, 0, none⟩) (Nat.le_succ _) (.int .i64 0)).setCell (p := ⟨w.heap.size + 1, 1, none⟩) (Nat.le_succ _) (.int .i64 0)).setCell (p := ⟨w.heap.size + 1, 2, none⟩) (Nat.le_succ _) (.slice none 0 0)
    first | exact ⟨none, 0, rfl, OwnS.nil_ _ _ _, W9⟩ | exact ⟨none, ⟨0, rfl⟩, OwnS.nil_ _ _ _, W9⟩
  obtain ⟨-, hlen, hgm, hpre, hf0, hsum⟩ := fluxOk_bd h1
  have hsums := fluxOk_sums h1
  have hcb := chg_bd h1
  have hok : drOk c f l js = true := by unfold drOk; rw [h1, h2]; rfl
  have HS := Lib.hid hsums
  have HPW := Lib.hid (rises_pw h2)
  have hlast := @rises_last js l.length h2 hlen.2
  have H := Lib.hid h1
  have H2 := Lib.hid h2
  have hcl := chgL_len f l
  have HOK := Lib.hid hok
  clear h1 h2 hok hsums hcb hgm hpre
  obtain h3 | h3 := (Bool.eq_false_or_eq_true (drIn l js)).symm
  · have hv : drV c f l js = false := by unfold drV; rw [h3, Bool.and_false]
    have HE : Hid (drE c f l js = 2) := Lib.hid (by unfold drE; rw [HOK.out, h3]; rfl)
    have HN : Hid (fxC (drV c f l js) (drT f l js) l.sum c = 0 ∧ fxF (drV c f l js) (drT f l js) l.sum c = 0 ∧ fxL (drV c f l js) (drT f l js) l.sum c = []) := Lib.hid (by unfold fxC fxF fxL; rw [hv]; exact ⟨rfl, rfl, rfl⟩)
    have hj0 : 0 < js.length := by rcases Nat.eq_zero_or_pos js.length with h | h; exact absurd h3 (by unfold drIn; rw [List.length_eq_zero_iff.1 h, rises_nil]; decide); exact h
    have hd := hlast hj0
    have h3' : risesB js 0 ((l.length : Int) - 1) = false := h3
    rw [h3'] at hd
    have hge : (l.length : Int) ≤ js[js.length - 1]'(by omega) := by have := of_decide_eq_false hd.symm; omega
    clear h3 h3' hv hd hlast
    go_enter Try.func33, Try.ntmps33
    go_wp2_with fail
    generalize (w.alloc (.cells #[.int .i64 c, .int .i64 f, .slice p l.length cap] 26)).alloc (.cells #[.int .i64 0, .int .i64 0, .slice none 0 0] 26) = w0 at BF0 R0 W0 f0 f1 f2 ⊢
    refine (impl_ValidFlux c f p l cap _ (hI.below W0) hl).mono ?_
    rintro e w1 ⟨rfl, hb1⟩
    rw [H.out]
    have R1 := R0.keep hb1
    have BF1 := BF0.keep hb1
    have W1 := below_st W0 hb1 (Nat.le_refl _)
    clear f0 f1 f2
    obtain ⟨f0, f1, f2⟩ := BF1.cell3
    go_wp2_with fail
    refine (impl_validDrops pj js capj _ (hJ.below W1) hjl).mono ?_
    rintro e w2 ⟨rfl, hb2⟩
    rw [H2.out]
    have R2 := R1.keep hb2
    have BF2 := BF1.keep hb2
    have W2 := below_st W1 hb2 (Nat.le_refl _)
    clear f0 f1 f2
    obtain ⟨f0, f1, f2⟩ := BF2.cell3
    go_wp2_with fail
    refine (impl_changes c f p l cap _ (hI.below W2) hl HS.out.2).mono ?_
    rintro e w3 ⟨q, dq, rfl, S3, hb3⟩
    have R3 := R2.keep hb3
    have BF3 := BF2.keep hb3
    have W3 := below_st W2 hb3 (Nat.le_refl _)
    obtain ⟨aj, rfl, hjc⟩ := (hJ.below W3).at_ (k := js.length - 1) (by omega)
    obtain ⟨z, ez⟩ : ∃ z, js[js.length - 1]'(by omega) = z := ⟨_, rfl⟩
    rw [ez] at hge hjc
    obtain ⟨jm, ejm⟩ : ∃ jm, js.length - 1 = jm := ⟨_, rfl⟩
    rw [ejm] at hjc
    have q0 : IntKind.i64.wrap ((js.length : Int) - 1) = (jm : Int) := by rw [IntWalk.i64_in _ (by omega)]; omega
    have q0' : (js.length : Int) - 1 = (jm : Int) := by omega
    have d0 : decide (0 < (js.length : Int)) = true := decide_eq_true (by omega)
    have d1 : decide (z < (l.length : Int)) = false := decide_eq_false (by omega)
    have i0 : (jm : Int) < (js.length : Int) := by omega
    rw [hcl]
    clear f0 f1 f2 ez
    go_wp2_with fail
    go_cut [36] (fun v36 wx => v36 = .bool true ∧ ∃ n, wx = w3.drewN n)
    case first =>
      go_quiet (exact Calls.quiet_of_same (impl_size _ _ _ _))
      go_wp2_with fail
      go_meet
      exact ⟨rfl, _, rfl⟩
    case rest =>
      obtain ⟨rfl, n, rfl⟩ := hcut
      have W4 := below_drewN W3 n
      have R4 := Blk.drewN R3 n
      obtain ⟨r0, r1', r2⟩ := R4.cell3
      have rf := R4.frozen
      have rlt := R4.lt
      obtain ⟨e0, e1, e2⟩ := (R4.set3 (.int .i64 0) (.int .i64 0) (.slice none 0 0)).cell3
      go_wp2_with fail
      refine bodyPost_ret (v := .tuple #[.agg #[.int .i64 0, .int .i64 0, .slice none 0 0], .int .i64 2]) (by simp [results, Try.results33, go_sem, e0, e1, e2]) rfl ?_
      rw [HN.out.1, HN.out.2.1, HN.out.2.2, HE.out]
      have W9 := ((W4.setCell (p := ⟨w.heap.size + 1, 0, none⟩) (Nat.le_succ _) (.int .i64 0)).setCell (p := ⟨w.heap.size + 1, 1, none⟩) (Nat.le_succ _) (.int .i64 0)).setCell (p := ⟨w.heap.size + 1, 2, none⟩) (Nat.le_succ _) (.slice none 0 0)
      first | exact ⟨none, 0, rfl, OwnS.nil_ _ _ _, W9⟩ | exact ⟨none, ⟨0, rfl⟩, OwnS.nil_ _ _ _, W9⟩
  have hv : drV c f l js = true := by unfold drV; rw [HOK.out, h3]; rfl
  have HC : Hid (fxC (drV c f l js) (drT f l js) l.sum c = tmC (drT f l js) l.sum c) := Lib.hid (by unfold fxC; rw [hv]; rfl)
  have HF : Hid (fxF (drV c f l js) (drT f l js) l.sum c = tmF (drT f l js) l.sum c) := Lib.hid (by unfold fxF; rw [hv]; rfl)
  have HL : Hid (fxL (drV c f l js) (drT f l js) l.sum c = tmL (drT f l js) l.sum c) := Lib.hid (by unfold fxL; rw [hv]; rfl)
  have HE : Hid (drE c f l js = tmE 2 (drT f l js) l.sum c) := Lib.hid (by unfold drE; rw [HOK.out, h3]; rfl)
  have hlt : ∀ hj : 0 < js.length, js[js.length - 1]'(by omega) < (l.length : Int) := fun hj => by have hd := hlast hj; rw [show risesB js 0 ((l.length : Int) - 1) = true from h3] at hd; exact of_decide_eq_true hd.symm
  clear h3 hv hlast
  go_enter Try.func33, Try.ntmps33
  go_wp2_with fail
  generalize (w.alloc (.cells #[.int .i64 c, .int .i64 f, .slice p l.length cap] 26)).alloc (.cells #[.int .i64 0, .int .i64 0, .slice none 0 0] 26) = w0 at BF0 R0 W0 f0 f1 f2 ⊢
  refine (impl_ValidFlux c f p l cap _ (hI.below W0) hl).mono ?_
  rintro e w1 ⟨rfl, hb1⟩
  rw [H.out]
  have R1 := R0.keep hb1
  have BF1 := BF0.keep hb1
  have W1 := below_st W0 hb1 (Nat.le_refl _)
  clear f0 f1 f2
  obtain ⟨f0, f1, f2⟩ := BF1.cell3
  go_wp2_with fail
  refine (impl_validDrops pj js capj _ (hJ.below W1) hjl).mono ?_
  rintro e w2 ⟨rfl, hb2⟩
  rw [H2.out]
  have R2 := R1.keep hb2
  have BF2 := BF1.keep hb2
  have W2 := below_st W1 hb2 (Nat.le_refl _)
  clear f0 f1 f2
  obtain ⟨f0, f1, f2⟩ := BF2.cell3
  go_wp2_with fail
  refine (impl_changes c f p l cap _ (hI.below W2) hl HS.out.2).mono ?_
  rintro e w3 ⟨q, dq, rfl, S3, hb3⟩
  have R3 := R2.keep hb3
  have BF3 := BF2.keep hb3
  have W3 := below_st W2 hb3 (Nat.le_refl _)
  have hzB := R2.lt
  have hzF := BF2.lt
  have hz3 := hb3.size
  obtain ⟨B, eB⟩ : ∃ B, w2.heap.size = B := ⟨_, rfl⟩
  rw [eB] at S3 hzB hzF hz3
  rw [hcl]
  clear f0 f1 f2
  go_wp2_with fail
  go_cut [36] (fun v36 wx => v36 = .bool false ∧ ∃ n, wx = w3.drewN n)
  case first =>
    by_cases hj0 : js.length = 0
    · obtain rfl : js = [] := List.length_eq_zero_iff.1 hj0
      go_quiet (exact Calls.quiet_of_same (impl_size _ _ _ _))
      go_wp2_with fail
      go_meet
      exact ⟨rfl, _, rfl⟩
    · obtain ⟨aj, rfl, hjc⟩ := (hJ.below W3).at_ (k := js.length - 1) (by omega)
      have hlt := hlt (by omega)
      have hj1 : 0 < js.length := by omega
      obtain ⟨z, ez⟩ : ∃ z, js[js.length - 1]'(by omega) = z := ⟨_, rfl⟩
      rw [ez] at hlt hjc
      obtain ⟨jm, ejm⟩ : ∃ jm, js.length - 1 = jm := ⟨_, rfl⟩
      rw [ejm] at hjc
      have q0 : IntKind.i64.wrap ((js.length : Int) - 1) = (jm : Int) := by rw [IntWalk.i64_in _ (by omega)]; omega
      have q0' : (js.length : Int) - 1 = (jm : Int) := by omega
      have d0 : decide (0 < (js.length : Int)) = true := decide_eq_true (by omega)
      have d1 : decide ((l.length : Int) ≤ z) = false := decide_eq_false (by omega)
      have i0 : (jm : Int) < (js.length : Int) := by omega
      clear ez
      go_quiet (exact Calls.quiet_of_same (impl_size _ _ _ _))
      go_wp2_with fail
      go_meet
      exact ⟨rfl, _, rfl⟩
  case rest =>
    obtain ⟨rfl, n, rfl⟩ := hcut
    have R4 := Blk.drewN R3 n
    have BF4 := Blk.drewN BF3 n
    have W4 := below_drewN W3 n
    have S4 := S3.drewN' n
    have hz4 : B ≤ (w3.drewN n).heap.size := hz3
    clear S3 R3 BF3 W3 hz3 hb3 hlt
    generalize w3.drewN n = w4 at *
    have I4 := S4.ints
    have hTl := drT_len f l js
    have hTE : keepL (chgL f l) js l.length = drT f l js := rfl
    generalize chgL f l = X at *
    generalize hTD : drT f l js = T at *
    have HT := Lib.hid hTE
    clear hTE
    obtain ⟨B2, eB2⟩ : ∃ B2, w4.heap.size = B2 := ⟨_, rfl⟩
    have hzR := R4.lt
    have hzF2 := BF4.lt
    have hzW := W4.size
    rw [eB2] at hzR hzF2 hzW hz4
    go_wp2_with fail
    go_loopw [7, 40] (fun v i wr => ∃ k : Nat, k ≤ l.length ∧ i = .int .i64 k ∧ OwnI wr B2 v (keepL X js k) ∧ Below B2 w4 wr) (fun _ i _ => l.length - (intOf i).toNat)
    case atStart => exact ⟨0, Nat.zero_le _, rfl, OwnI.none_ _ _, Below.refl _ _⟩
    case round =>
      obtain ⟨k, hk, rfl, hown, hbel⟩ := hrel
      have hz : B2 ≤ wr.heap.size := by have := hbel.size; omega
      have hWr : Below w.heap.size w wr := W4.trans (hbel.mono hzW)
      by_cases hlt : k < l.length
      · have hkX : k < X.length := by omega
        obtain ⟨a, rfl, hx⟩ := (I4.below (by rw [eB2]; exact hbel)).at_ hkX
        have hJr := hJ.below hWr
        have hkl := keepL_len X js k
        have hy := @keepL_yes X js k hkX
        have hn := @keepL_no X js k
        obtain ⟨x, ex⟩ : ∃ x, X[k] = x := ⟨_, rfl⟩
        rw [ex] at hx hy
        clear ex
        have hcon := fun w' hI => slices_BinarySearch pj js capj (k : Int) w' hI hjl HPW.out
        obtain hd | hd := (Bool.eq_false_or_eq_true (decide ((k : Int) ∈ js))).symm
        · have HK := Lib.hid (hy hd)
          rw [hd] at hcon
          clear hy hn hd
          go_wp2_with (first | (go_at_call 71; with_reducible refine (hcon _ (by exact hJr)).mono ?_; rintro e w9 ⟨ix, rfl, rfl⟩) | (at_builtin; refine append_int _ rfl (.tmp 53) (.tmp 55) rfl B2 u7 (keepL X js k) _ rfl rfl hown (by omega) hz ?_; intro v1 w2 hown1 hbel1))
          rw [← HK.out] at hown1
          exact ⟨⟨k + 1, by omega, by go_num, hown1, hbel.trans (hbel1.mono (Nat.le_refl _))⟩, by simp [intOf]; omega⟩
        · have HK := Lib.hid (hn hd)
          rw [hd] at hcon
          clear hy hn hd
          go_wp2_with (go_at_call 71; with_reducible refine (hcon _ (by exact hJr)).mono ?_; rintro e w9 ⟨ix, rfl, rfl⟩)
          exact ⟨⟨k + 1, by omega, by go_num, by rw [HK.out]; exact hown, hbel⟩, by simp [intOf]; omega⟩
      · have hk2 : k = l.length := by omega
        subst hk2
        rw [HT.out] at hown
        obtain ⟨q6, d6, rfl, ST⟩ := hown.open_
        have Rr := R4.below hbel hzR
        have BFr := BF4.below hbel hzF2
        obtain ⟨f0, f1, f2⟩ := BFr.cell3
        have hrb : -9223372036854775808 ≤ l.sum ∧ l.sum ≤ 9223372036854775807 := by omega
        have Rd := Rr.drew
        have Bd := BFr.drew
        have hwd := hWr.drew
        have hzr' := Rr.lt
        have CD := fun (w5 : World) (h : IntsAt w5 q6 T) => impl_changed q6 T d6 l.sum c w5 h (by omega) hrb
        go_wp2_with fail
        have keepS : ∀ y1 y2 : World, ((w.heap.size < y1.heap.size ∧ y1.cell? ⟨w.heap.size, 0, none⟩ = some (.int .i64 c) ∧ y1.cell? ⟨w.heap.size, 1, none⟩ = some (.int .i64 f) ∧ y1.cell? ⟨w.heap.size, 2, none⟩ = some (.slice p l.length cap)) ∧ OwnS y1 B2 q6 T ∧ Below w.heap.size w y1) → Below y1.heap.size y1 y2 → ((w.heap.size < y2.heap.size ∧ y2.cell? ⟨w.heap.size, 0, none⟩ = some (.int .i64 c) ∧ y2.cell? ⟨w.heap.size, 1, none⟩ = some (.int .i64 f) ∧ y2.cell? ⟨w.heap.size, 2, none⟩ = some (.slice p l.length cap)) ∧ OwnS y2 B2 q6 T ∧ Below w.heap.size w y2) := by
          rintro y1 y2 ⟨⟨s0, s1, s2, s3⟩, s4, s5⟩ hb
          obtain ⟨hc, -⟩ := bcell hb
          have := hb.size
          exact ⟨⟨by omega, (hc _ _ s0).trans s1, (hc _ _ s0).trans s2, (hc _ _ s0).trans s3⟩, s4.below hb, below_st s5 hb (Nat.le_refl _)⟩
        have keepW : ∀ (y : World) (i : Nat) (v : Value), ((w.heap.size < y.heap.size ∧ y.cell? ⟨w.heap.size, 0, none⟩ = some (.int .i64 c) ∧ y.cell? ⟨w.heap.size, 1, none⟩ = some (.int .i64 f) ∧ y.cell? ⟨w.heap.size, 2, none⟩ = some (.slice p l.length cap)) ∧ OwnS y B2 q6 T ∧ Below w.heap.size w y) → ((w.heap.size < (y.setCell ⟨w.heap.size + 1, i, none⟩ v).heap.size ∧ (y.setCell ⟨w.heap.size + 1, i, none⟩ v).cell? ⟨w.heap.size, 0, none⟩ = some (.int .i64 c) ∧ (y.setCell ⟨w.heap.size + 1, i, none⟩ v).cell? ⟨w.heap.size, 1, none⟩ = some (.int .i64 f) ∧ (y.setCell ⟨w.heap.size + 1, i, none⟩ v).cell? ⟨w.heap.size, 2, none⟩ = some (.slice p l.length cap)) ∧ OwnS (y.setCell ⟨w.heap.size + 1, i, none⟩ v) B2 q6 T ∧ Below w.heap.size w (y.setCell ⟨w.heap.size + 1, i, none⟩ v)) := by
          rintro y i v ⟨⟨s0, s1, s2, s3⟩, s4, s5⟩
          have ho : ∀ j, (y.setCell ⟨w.heap.size + 1, i, none⟩ v).cell? ⟨w.heap.size, j, none⟩ = y.cell? ⟨w.heap.size, j, none⟩ := fun j => World.cell?_setCell_other _ _ _ _ (by intro h'; injection h' with h2; omega)
          exact ⟨⟨by simpa [World.setCell] using s0, (ho 0).trans s1, (ho 1).trans s2, (ho 2).trans s3⟩, s4.offS (g' := w.heap.size + 1) hzR i v, s5.setCell (p := ⟨w.heap.size + 1, i, none⟩) (Nat.le_succ _) _⟩
        have S0 : (w.heap.size < wr.drew.heap.size ∧ wr.drew.cell? ⟨w.heap.size, 0, none⟩ = some (.int .i64 c) ∧ wr.drew.cell? ⟨w.heap.size, 1, none⟩ = some (.int .i64 f) ∧ wr.drew.cell? ⟨w.heap.size, 2, none⟩ = some (.slice p l.length cap)) ∧ OwnS wr.drew B2 q6 T ∧ Below w.heap.size w wr.drew := ⟨⟨Bd.lt, Bd.cell3.1, Bd.cell3.2.1, Bd.cell3.2.2⟩, ST.below (Below.refl _ _).drew, hwd⟩
        go_region_held3 (fun w' => (w.heap.size < w'.heap.size ∧ w'.cell? ⟨w.heap.size, 0, none⟩ = some (.int .i64 c) ∧ w'.cell? ⟨w.heap.size, 1, none⟩ = some (.int .i64 f) ∧ w'.cell? ⟨w.heap.size, 2, none⟩ = some (.slice p l.length cap)) ∧ OwnS w' B2 q6 T ∧ Below w.heap.size w w')
          (first | with_reducible exact S0 | (with_reducible refine keepS _ _ S0 ?_; assumption) | (with_reducible refine keepW _ _ _ (keepW _ _ _ (keepW _ _ _ ?_)); exact keepS _ _ S0 hb5))
          (first | (go_at_call 61; refine (CD _ (by exact S0.2.1.ints)).mono ?_; rintro e w5 ⟨q5, d5, rfl, S5, hb5⟩; have R5 := Rd.keep hb5; obtain ⟨r0, r1', r2⟩ := R5.cell3; have rf := R5.frozen) | (go_at_call 47; refine (impl_total p l cap _ (by exact hI.below hwd) hl HS.out.1).mono ?_; rintro e w' ⟨rfl, rfl⟩))
        all_goals
          have hw5 := below_st hwd hb5 (Nat.le_refl _)
          obtain ⟨e0, e1, e2⟩ := (R5.set3 (.int .i64 (tmC T l.sum c)) (.int .i64 (tmF T l.sum c)) (.slice q5 (tmL T l.sum c).length d5)).cell3
          have S6 := ((S5.offS (g' := w.heap.size + 1) hzr' 0 (.int .i64 (tmC T l.sum c))).offS (g' := w.heap.size + 1) hzr' 1 (.int .i64 (tmF T l.sum c))).offS (g' := w.heap.size + 1) hzr' 2 (.slice q5 (tmL T l.sum c).length d5)
          go_wp2_with fail
          refine bodyPost_ret (v := .tuple #[.agg #[.int .i64 (tmC T l.sum c), .int .i64 (tmF T l.sum c), .slice q5 (tmL T l.sum c).length d5], .int .i64 (tmE 2 T l.sum c)]) (by simp [results, Try.results33, go_sem, e0, e1, e2]) rfl ?_
          rw [hTD, HC.out, HF.out, HL.out, HE.out]
          exact ⟨q5, d5, rfl, S6.mono (by have := hWr.size; exact this), ((hw5.setCell (p := ⟨w.heap.size + 1, 0, none⟩) (Nat.le_succ _) _).setCell (p := ⟨w.heap.size + 1, 1, none⟩) (Nat.le_succ _) _).setCell (p := ⟨w.heap.size + 1, 2, none⟩) (Nat.le_succ _) _⟩
set_option maxHeartbeats 4000000 in
set_option maxRecDepth 20000 in
theorem spec_DropChanges (c f : Int) (p : Option Addr) (l : List Int) (cap : Nat) (pj : Option Addr) (js : List Int) (capj : Nat) (w : World) (hI : IntsAt w p l) (hl : l.length ≤ 1048576) (hJ : IntsAt w pj js) (hjl : js.length ≤ 1048576) :
    Calls Try.prog 76 #[.agg #[.int .i64 c, .int .i64 f, .slice p l.length cap], .slice pj js.length capj] w fun e w' => ∃ (q : Option Addr) (dq : Nat), e = .returned (.tuple #[.agg #[.int .i64 (fxC (drV c f l js) (drT f l js) l.sum c), .int .i64 (fxF (drV c f l js) (drT f l js) l.sum c), .slice q (fxL (drV c f l js) (drT f l js) l.sum c).length dq], .int .i64 (drE c f l js)]) ∧ OwnS w' w.heap.size q (fxL (drV c f l js) (drT f l js) l.sum c) ∧ Below w.heap.size w w' := by
  have BF0 := (Blk.new w 26 #[.int .i64 c, .int .i64 f, .slice p l.length cap]).alloc' (.cells #[.int .i64 0, .int .i64 0, .slice none 0 0] 26)
  have R0 := Blk.new (w.alloc (.cells #[.int .i64 c, .int .i64 f, .slice p l.length cap] 26)) 26 #[.int .i64 0, .int .i64 0, .slice none 0 0]
  have esz : (w.alloc (.cells #[.int .i64 c, .int .i64 f, .slice p l.length cap] 26)).heap.size = w.heap.size + 1 := by simp
  rw [esz] at R0
  have W0 : Below w.heap.size w ((w.alloc (.cells #[.int .i64 c, .int .i64 f, .slice p l.length cap] 26)).alloc (.cells #[.int .i64 0, .int .i64 0, .slice none 0 0] 26)) := ((Below.refl _ _).alloc (Nat.le_refl _) _).alloc (by simp) _
  clear esz
  obtain ⟨f0, f1, f2⟩ := BF0.cell3
  obtain h1 | h1 := (Bool.eq_false_or_eq_true (fluxOk c f l)).symm
  · have hv : drV c f l js = false := by unfold drV drOk; rw [h1]; rfl
    have HE : Hid (drE c f l js = 1) := Lib.hid (by unfold drE drOk; rw [h1]; rfl)
    have HN : Hid (fxC (drV c f l js) (drT f l js) l.sum c = 0 ∧ fxF (drV c f l js) (drT f l js) l.sum c = 0 ∧ fxL (drV c f l js) (drT f l js) l.sum c = []) := Lib.hid (by unfold fxC fxF fxL; rw [hv]; exact ⟨rfl, rfl, rfl⟩)
    have H := Lib.hid h1
    clear h1 hv
    go_enter Try.func76, Try.ntmps76
    go_wp2_with fail
    generalize (w.alloc (.cells #[.int .i64 c, .int .i64 f, .slice p l.length cap] 26)).alloc (.cells #[.int .i64 0, .int .i64 0, .slice none 0 0] 26) = w0 at BF0 R0 W0 f0 f1 f2 ⊢
    refine (spec_l02Ok c f p l cap _ _ (hI.below W0) hl BF0).mono ?_
    rintro e w1 ⟨rfl, hb1⟩
    rw [H.out]
    have R1 := R0.keep hb1
    have BF1 := BF0.keep hb1
    have W1 := below_st W0 hb1 (Nat.le_refl _)
    obtain ⟨r0, r1', r2⟩ := R1.cell3
    have rf := R1.frozen
    have rlt := R1.lt
    obtain ⟨e0, e1, e2⟩ := (R1.set3 (.int .i64 0) (.int .i64 0) (.slice none 0 0)).cell3
    go_wp2_with fail
    refine bodyPost_ret (v := .tuple #[.agg #[.int .i64 0, .int .i64 0, .slice none 0 0], .int .i64 1]) (by simp [results, Try.results76, go_sem, e0, e1, e2]) rfl ?_
    rw [HN.out.1, HN.out.2.1, HN.out.2.2, HE.out]
    have W9 := ((W1.setCell (p := ⟨w.heap.size + 1, 0, none⟩) (Nat.le_succ _) (.int .i64 0)).setCell (p := ⟨w.heap.size + 1, 1, none⟩) (Nat.le_succ _) (.int .i64 0)).setCell (p := ⟨w.heap.size + 1, 2, none⟩) (Nat.le_succ _) (.slice none 0 0)
    first | exact ⟨none, 0, rfl, OwnS.nil_ _ _ _, W9⟩ | exact ⟨none, ⟨0, rfl⟩, OwnS.nil_ _ _ _, W9⟩
  obtain h2 | h2 := (Bool.eq_false_or_eq_true (risesB js 0 3999)).symm
  · have hv : drV c f l js = false := by unfold drV drOk; rw [h2, Bool.and_false]; rfl
    have HE : Hid (drE c f l js = 1) := Lib.hid (by unfold drE drOk; rw [h2, Bool.and_false]; rfl)
    have HN : Hid (fxC (drV c f l js) (drT f l js) l.sum c = 0 ∧ fxF (drV c f l js) (drT f l js) l.sum c = 0 ∧ fxL (drV c f l js) (drT f l js) l.sum c = []) := Lib.hid (by unfold fxC fxF fxL; rw [hv]; exact ⟨rfl, rfl, rfl⟩)
    have H := Lib.hid h1
    have H2 := Lib.hid h2
    clear h1 h2 hv
    go_enter Try.func76, Try.ntmps76
    go_wp2_with fail
    generalize (w.alloc (.cells #[.int .i64 c, .int .i64 f, .slice p l.length cap] 26)).alloc (.cells #[.int .i64 0, .int .i64 0, .slice none 0 0] 26) = w0 at BF0 R0 W0 f0 f1 f2 ⊢
    refine (spec_l02Ok c f p l cap _ _ (hI.below W0) hl BF0).mono ?_
    rintro e w1 ⟨rfl, hb1⟩
    rw [H.out]
    have R1 := R0.keep hb1
    have BF1 := BF0.keep hb1
    have W1 := below_st W0 hb1 (Nat.le_refl _)
    clear f0 f1 f2
    obtain ⟨f0, f1, f2⟩ := BF1.cell3
    go_wp2_with fail
    refine (spec_l04Drops pj js capj _ (hJ.below W1) hjl).mono ?_
    rintro e w2 ⟨rfl, hb2⟩
    rw [H2.out]
    have R2 := R1.keep hb2
    have BF2 := BF1.keep hb2
    have W2 := below_st W1 hb2 (Nat.le_refl _)
    obtain ⟨r0, r1', r2⟩ := R2.cell3
    have rf := R2.frozen
    have rlt := R2.lt
    obtain ⟨e0, e1, e2⟩ := (R2.set3 (.int .i64 0) (.int .i64 0) (.slice none 0 0)).cell3
    go_wp2_with fail
    refine bodyPost_ret (v := .tuple #[.agg #[.int .i64 0, .int .i64 0, .slice none 0 0], .int .i64 1]) (by simp [results, Try.results76, go_sem, e0, e1, e2]) rfl ?_
    rw [HN.out.1, HN.out.2.1, HN.out.2.2, HE.out]
    have W9 := ((W2.setCell (p := ⟨w.heap.size + 1, 0, none⟩) (Nat.le_succ _) (.int .i64 0)).setCell (p := ⟨w.heap.size + 1, 1, none⟩) (Nat.le_succ _) (.int .i64 0)).setCell (p := ⟨w.heap.size + 1, 2, none⟩) (Nat.le_succ _) (.slice none 0 0)
    first | exact ⟨none, 0, rfl, OwnS.nil_ _ _ _, W9⟩ | exact ⟨none, ⟨0, rfl⟩, OwnS.nil_ _ _ _, W9⟩
  obtain ⟨-, hlen, hgm, hpre, hf0, hsum⟩ := fluxOk_bd h1
  have hsums := fluxOk_sums h1
  have hcb := chg_bd h1
  have hok : drOk c f l js = true := by unfold drOk; rw [h1, h2]; rfl
  have HS := Lib.hid hsums
  have HPW := Lib.hid (rises_pw h2)
  have hlast := @rises_last js l.length h2 hlen.2
  have H := Lib.hid h1
  have H2 := Lib.hid h2
  have hcl := chgL_len f l
  have HOK := Lib.hid hok
  clear h1 h2 hok hsums hcb hgm hpre
  have q0 : IntKind.i64.wrap ((l.length : Int) - 1) = (l.length : Int) - 1 := IntWalk.i64_in _ (by omega)
  obtain h3 | h3 := (Bool.eq_false_or_eq_true (drIn l js)).symm
  · have hv : drV c f l js = false := by unfold drV; rw [h3, Bool.and_false]
    have HE : Hid (drE c f l js = 2) := Lib.hid (by unfold drE; rw [HOK.out, h3]; rfl)
    have HN : Hid (fxC (drV c f l js) (drT f l js) l.sum c = 0 ∧ fxF (drV c f l js) (drT f l js) l.sum c = 0 ∧ fxL (drV c f l js) (drT f l js) l.sum c = []) := Lib.hid (by unfold fxC fxF fxL; rw [hv]; exact ⟨rfl, rfl, rfl⟩)
    have H3 : Hid (risesB js 0 ((l.length : Int) - 1) = false) := Lib.hid h3
    clear h3 hv
    go_enter Try.func76, Try.ntmps76
    go_wp2_with fail
    generalize (w.alloc (.cells #[.int .i64 c, .int .i64 f, .slice p l.length cap] 26)).alloc (.cells #[.int .i64 0, .int .i64 0, .slice none 0 0] 26) = w0 at BF0 R0 W0 f0 f1 f2 ⊢
    refine (spec_l02Ok c f p l cap _ _ (hI.below W0) hl BF0).mono ?_
    rintro e w1 ⟨rfl, hb1⟩
    rw [H.out]
    have R1 := R0.keep hb1
    have BF1 := BF0.keep hb1
    have W1 := below_st W0 hb1 (Nat.le_refl _)
    clear f0 f1 f2
    obtain ⟨f0, f1, f2⟩ := BF1.cell3
    go_wp2_with fail
    refine (spec_l04Drops pj js capj _ (hJ.below W1) hjl).mono ?_
    rintro e w2 ⟨rfl, hb2⟩
    rw [H2.out]
    have R2 := R1.keep hb2
    have BF2 := BF1.keep hb2
    have W2 := below_st W1 hb2 (Nat.le_refl _)
    clear f0 f1 f2
    obtain ⟨f0, f1, f2⟩ := BF2.cell3
    go_wp2_with fail
    refine (spec_l00Rises pj js capj 0 ((l.length : Int) - 1) _ (hJ.below W2) hjl).mono ?_
    rintro e w3 ⟨rfl, hb3⟩
    rw [H3.out]
    have R3 := R2.keep hb3
    have BF3 := BF2.keep hb3
    have W3 := below_st W2 hb3 (Nat.le_refl _)
    obtain ⟨r0, r1', r2⟩ := R3.cell3
    have rf := R3.frozen
    have rlt := R3.lt
    obtain ⟨e0, e1, e2⟩ := (R3.set3 (.int .i64 0) (.int .i64 0) (.slice none 0 0)).cell3
    go_wp2_with fail
    refine bodyPost_ret (v := .tuple #[.agg #[.int .i64 0, .int .i64 0, .slice none 0 0], .int .i64 2]) (by simp [results, Try.results76, go_sem, e0, e1, e2]) rfl ?_
    rw [HN.out.1, HN.out.2.1, HN.out.2.2, HE.out]
    have W9 := ((W3.setCell (p := ⟨w.heap.size + 1, 0, none⟩) (Nat.le_succ _) (.int .i64 0)).setCell (p := ⟨w.heap.size + 1, 1, none⟩) (Nat.le_succ _) (.int .i64 0)).setCell (p := ⟨w.heap.size + 1, 2, none⟩) (Nat.le_succ _) (.slice none 0 0)
    first | exact ⟨none, 0, rfl, OwnS.nil_ _ _ _, W9⟩ | exact ⟨none, ⟨0, rfl⟩, OwnS.nil_ _ _ _, W9⟩
  have H3 : Hid (risesB js 0 ((l.length : Int) - 1) = true) := Lib.hid h3
  have hv : drV c f l js = true := by unfold drV; rw [HOK.out, h3]; rfl
  have HC : Hid (fxC (drV c f l js) (drT f l js) l.sum c = tmC (drT f l js) l.sum c) := Lib.hid (by unfold fxC; rw [hv]; rfl)
  have HF : Hid (fxF (drV c f l js) (drT f l js) l.sum c = tmF (drT f l js) l.sum c) := Lib.hid (by unfold fxF; rw [hv]; rfl)
  have HL : Hid (fxL (drV c f l js) (drT f l js) l.sum c = tmL (drT f l js) l.sum c) := Lib.hid (by unfold fxL; rw [hv]; rfl)
  have HE : Hid (drE c f l js = tmE 2 (drT f l js) l.sum c) := Lib.hid (by unfold drE; rw [HOK.out, h3]; rfl)
  clear h3 hv hlast
  go_enter Try.func76, Try.ntmps76
  go_wp2_with fail
  generalize (w.alloc (.cells #[.int .i64 c, .int .i64 f, .slice p l.length cap] 26)).alloc (.cells #[.int .i64 0, .int .i64 0, .slice none 0 0] 26) = w0 at BF0 R0 W0 f0 f1 f2 ⊢
  refine (spec_l02Ok c f p l cap _ _ (hI.below W0) hl BF0).mono ?_
  rintro e w1 ⟨rfl, hb1⟩
  rw [H.out]
  have R1 := R0.keep hb1
  have BF1 := BF0.keep hb1
  have W1 := below_st W0 hb1 (Nat.le_refl _)
  clear f0 f1 f2
  obtain ⟨f0, f1, f2⟩ := BF1.cell3
  go_wp2_with fail
  refine (spec_l04Drops pj js capj _ (hJ.below W1) hjl).mono ?_
  rintro e w2 ⟨rfl, hb2⟩
  rw [H2.out]
  have R2 := R1.keep hb2
  have BF2 := BF1.keep hb2
  have W2 := below_st W1 hb2 (Nat.le_refl _)
  clear f0 f1 f2
  obtain ⟨f0, f1, f2⟩ := BF2.cell3
  go_wp2_with fail
  refine (spec_l00Rises pj js capj 0 ((l.length : Int) - 1) _ (hJ.below W2) hjl).mono ?_
  rintro e w3 ⟨rfl, hb3⟩
  rw [H3.out]
  have R3 := R2.keep hb3
  have BF3 := BF2.keep hb3
  have W3 := below_st W2 hb3 (Nat.le_refl _)
  clear f0 f1 f2
  obtain ⟨f0, f1, f2⟩ := BF3.cell3
  go_wp2_with fail
  refine (spec_l02Changes c f p l cap _ _ (hI.below W3) hl HS.out.2 BF3).mono ?_
  rintro e w4 ⟨q, dq, rfl, S4, hb4⟩
  have R4 := R3.keep hb4
  have BF4 := BF3.keep hb4
  have W4 := below_st W3 hb4 (Nat.le_refl _)
  have hzB := R3.lt
  have hzF := BF3.lt
  have hz4 := hb4.size
  obtain ⟨B, eB⟩ : ∃ B, w3.heap.size = B := ⟨_, rfl⟩
  rw [eB] at S4 hzB hzF hz4
  have I4 := S4.ints
  have hTl := drT_len f l js
  have hTE : keepL (chgL f l) js l.length = drT f l js := rfl
  generalize chgL f l = X at *
  generalize hTD : drT f l js = T at *
  have HT := Lib.hid hTE
  clear hTE
  obtain ⟨B2, eB2⟩ : ∃ B2, w4.heap.size = B2 := ⟨_, rfl⟩
  have hzR := R4.lt
  have hzF2 := BF4.lt
  have hzW := W4.size
  rw [eB2] at hzR hzF2 hzW hz4
  rw [hcl]
  clear f0 f1 f2
  obtain ⟨f0, f1, f2⟩ := BF4.cell3
  go_wp2_with fail
  go_loopw [7, 8] (fun v i wr => ∃ k : Nat, k ≤ l.length ∧ i = .int .i64 k ∧ OwnI wr B2 v (keepL X js k) ∧ Below B2 w4 wr) (fun _ i _ => l.length - (intOf i).toNat)
  case atStart => exact ⟨0, Nat.zero_le _, rfl, by have h := OwnI.nil0 w4; rw [eB2] at h; exact h, (Below.refl _ _).alloc (by omega) _⟩
  case round =>
    obtain ⟨k, hk, rfl, hown, hbel⟩ := hrel
    have hz : B2 ≤ wr.heap.size := by have := hbel.size; omega
    have hWr : Below w.heap.size w wr := W4.trans (hbel.mono hzW)
    by_cases hlt : k < l.length
    · have hkX : k < X.length := by omega
      obtain ⟨a, rfl, hx⟩ := (I4.below (by rw [eB2]; exact hbel)).at_ hkX
      have hJr := hJ.below hWr
      have hkl := keepL_len X js k
      have hy := @keepL_yes X js k hkX
      have hn := @keepL_no X js k
      obtain ⟨x, ex⟩ : ∃ x, X[k] = x := ⟨_, rfl⟩
      rw [ex] at hx hy
      clear ex
      have hcon := fun w' hI => spec_l00Has pj js capj (k : Int) w' hI hjl
      obtain hd | hd := (Bool.eq_false_or_eq_true (decide ((k : Int) ∈ js))).symm
      · have HK := Lib.hid (hy hd)
        rw [hd] at hcon
        clear hy hn hd
        go_wp2_with (first | (go_at_call 99; with_reducible refine (hcon _ (by exact hJr)).mono ?_; rintro e w9 ⟨rfl, rfl⟩) | (at_builtin; refine append_int _ rfl (.tmp 37) (.tmp 42) rfl B2 u7 (keepL X js k) _ rfl rfl hown (by omega) hz ?_; intro v1 w2 hown1 hbel1))
        rw [← HK.out] at hown1
        exact ⟨⟨k + 1, by omega, by go_num, hown1, hbel.trans (hbel1.mono (Nat.le_refl _))⟩, by simp [intOf]; omega⟩
      · have HK := Lib.hid (hn hd)
        rw [hd] at hcon
        clear hy hn hd
        go_wp2_with (go_at_call 99; with_reducible refine (hcon _ (by exact hJr)).mono ?_; rintro e w9 ⟨rfl, rfl⟩)
        exact ⟨⟨k + 1, by omega, by go_num, by rw [HK.out]; exact hown, hbel⟩, by simp [intOf]; omega⟩
    · have hk2 : k = l.length := by omega
      subst hk2
      rw [HT.out] at hown
      obtain ⟨q6, d6, rfl, ST⟩ := hown.open_
      have Rr := R4.below hbel hzR
      have BFr := BF4.below hbel hzF2
      obtain ⟨f0, f1, f2⟩ := BFr.cell3
      have hrb : -9223372036854775808 ≤ l.sum ∧ l.sum ≤ 9223372036854775807 := by omega
      have Rd := Rr.drew
      have Bd := BFr.drew
      have hwd := hWr.drew
      have hzr' := Rr.lt
      have CD := fun (w5 : World) (h : IntsAt w5 q6 T) => spec_l04Done q6 T d6 l.sum c w5 h (by omega) hrb
      go_wp2_with fail
      have keepS : ∀ y1 y2 : World, ((w.heap.size < y1.heap.size ∧ y1.cell? ⟨w.heap.size, 0, none⟩ = some (.int .i64 c) ∧ y1.cell? ⟨w.heap.size, 1, none⟩ = some (.int .i64 f) ∧ y1.cell? ⟨w.heap.size, 2, none⟩ = some (.slice p l.length cap)) ∧ OwnS y1 B2 q6 T ∧ Below w.heap.size w y1) → Below y1.heap.size y1 y2 → ((w.heap.size < y2.heap.size ∧ y2.cell? ⟨w.heap.size, 0, none⟩ = some (.int .i64 c) ∧ y2.cell? ⟨w.heap.size, 1, none⟩ = some (.int .i64 f) ∧ y2.cell? ⟨w.heap.size, 2, none⟩ = some (.slice p l.length cap)) ∧ OwnS y2 B2 q6 T ∧ Below w.heap.size w y2) := by
        rintro y1 y2 ⟨⟨s0, s1, s2, s3⟩, s4, s5⟩ hb
        obtain ⟨hc, -⟩ := bcell hb
        have := hb.size
        exact ⟨⟨by omega, (hc _ _ s0).trans s1, (hc _ _ s0).trans s2, (hc _ _ s0).trans s3⟩, s4.below hb, below_st s5 hb (Nat.le_refl _)⟩
      have keepW : ∀ (y : World) (i : Nat) (v : Value), ((w.heap.size < y.heap.size ∧ y.cell? ⟨w.heap.size, 0, none⟩ = some (.int .i64 c) ∧ y.cell? ⟨w.heap.size, 1, none⟩ = some (.int .i64 f) ∧ y.cell? ⟨w.heap.size, 2, none⟩ = some (.slice p l.length cap)) ∧ OwnS y B2 q6 T ∧ Below w.heap.size w y) → ((w.heap.size < (y.setCell ⟨w.heap.size + 1, i, none⟩ v).heap.size ∧ (y.setCell ⟨w.heap.size + 1, i, none⟩ v).cell? ⟨w.heap.size, 0, none⟩ = some (.int .i64 c) ∧ (y.setCell ⟨w.heap.size + 1, i, none⟩ v).cell? ⟨w.heap.size, 1, none⟩ = some (.int .i64 f) ∧ (y.setCell ⟨w.heap.size + 1, i, none⟩ v).cell? ⟨w.heap.size, 2, none⟩ = some (.slice p l.length cap)) ∧ OwnS (y.setCell ⟨w.heap.size + 1, i, none⟩ v) B2 q6 T ∧ Below w.heap.size w (y.setCell ⟨w.heap.size + 1, i, none⟩ v)) := by
        rintro y i v ⟨⟨s0, s1, s2, s3⟩, s4, s5⟩
        have ho : ∀ j, (y.setCell ⟨w.heap.size + 1, i, none⟩ v).cell? ⟨w.heap.size, j, none⟩ = y.cell? ⟨w.heap.size, j, none⟩ := fun j => World.cell?_setCell_other _ _ _ _ (by intro h'; injection h' with h2; omega)
        exact ⟨⟨by simpa [World.setCell] using s0, (ho 0).trans s1, (ho 1).trans s2, (ho 2).trans s3⟩, s4.offS (g' := w.heap.size + 1) hzR i v, s5.setCell (p := ⟨w.heap.size + 1, i, none⟩) (Nat.le_succ _) _⟩
      have S0 : (w.heap.size < wr.drew.heap.size ∧ wr.drew.cell? ⟨w.heap.size, 0, none⟩ = some (.int .i64 c) ∧ wr.drew.cell? ⟨w.heap.size, 1, none⟩ = some (.int .i64 f) ∧ wr.drew.cell? ⟨w.heap.size, 2, none⟩ = some (.slice p l.length cap)) ∧ OwnS wr.drew B2 q6 T ∧ Below w.heap.size w wr.drew := ⟨⟨Bd.lt, Bd.cell3.1, Bd.cell3.2.1, Bd.cell3.2.2⟩, ST.below (Below.refl _ _).drew, hwd⟩
      go_region_held3 (fun w' => (w.heap.size < w'.heap.size ∧ w'.cell? ⟨w.heap.size, 0, none⟩ = some (.int .i64 c) ∧ w'.cell? ⟨w.heap.size, 1, none⟩ = some (.int .i64 f) ∧ w'.cell? ⟨w.heap.size, 2, none⟩ = some (.slice p l.length cap)) ∧ OwnS w' B2 q6 T ∧ Below w.heap.size w w')
        (first | with_reducible exact S0 | (with_reducible refine keepS _ _ S0 ?_; assumption) | (with_reducible refine keepW _ _ _ (keepW _ _ _ (keepW _ _ _ ?_)); exact keepS _ _ S0 hb5))
        (first | (go_at_call 63; refine (CD _ (by exact S0.2.1.ints)).mono ?_; rintro e w5 ⟨q5, d5, rfl, S5, hb5⟩; have R5 := Rd.keep hb5; obtain ⟨r0, r1', r2⟩ := R5.cell3; have rf := R5.frozen) | (go_at_call 41; refine (spec_l02Revolution c f p l cap _ _ (by exact hI.below hwd) hl HS.out.1 (by exact Bd)).mono ?_; rintro e w' ⟨rfl, rfl⟩))
      all_goals
        have hw5 := below_st hwd hb5 (Nat.le_refl _)
        obtain ⟨e0, e1, e2⟩ := (R5.set3 (.int .i64 (tmC T l.sum c)) (.int .i64 (tmF T l.sum c)) (.slice q5 (tmL T l.sum c).length d5)).cell3
        have S6 := ((S5.offS (g' := w.heap.size + 1) hzr' 0 (.int .i64 (tmC T l.sum c))).offS (g' := w.heap.size + 1) hzr' 1 (.int .i64 (tmF T l.sum c))).offS (g' := w.heap.size + 1) hzr' 2 (.slice q5 (tmL T l.sum c).length d5)
        go_wp2_with fail
        refine bodyPost_ret (v := .tuple #[.agg #[.int .i64 (tmC T l.sum c), .int .i64 (tmF T l.sum c), .slice q5 (tmL T l.sum c).length d5], .int .i64 (tmE 2 T l.sum c)]) (by simp [results, Try.results76, go_sem, e0, e1, e2]) rfl ?_
        rw [hTD, HC.out, HF.out, HL.out, HE.out]
        exact ⟨q5, d5, rfl, S6.mono (by have := hWr.size; exact this), ((hw5.setCell (p := ⟨w.heap.size + 1, 0, none⟩) (Nat.le_succ _) _).setCell (p := ⟨w.heap.size + 1, 1, none⟩) (Nat.le_succ _) _).setCell (p := ⟨w.heap.size + 1, 2, none⟩) (Nat.le_succ _) _⟩
end Go.Proofs.Ytfdcainjppljhaa
namespace Go.Proofs.Ytfdcainjppljhaa
theorem sort_is {l l' : List Int} (h : l.Perm l') (hs : l'.Pairwise (· < ·)) : (l.mergeSort fun x y => decide (x ≤ y)) = l' := by
  have tr : ∀ a b c : Int, (decide (a ≤ b)) = true → (decide (b ≤ c)) = true → (decide (a ≤ c)) = true := fun a b c h1 h2 => by simp only [decide_eq_true_eq] at *; omega
  have tot : ∀ a b : Int, ((decide (a ≤ b)) || (decide (b ≤ a))) = true := fun a b => by simp only [Bool.or_eq_true, decide_eq_true_eq]; omega
  refine List.Perm.eq_of_pairwise (le := fun a b => decide (a ≤ b) = true) (fun a b _ _ h1 h2 => ?_) (List.pairwise_mergeSort tr tot l) (hs.imp fun {a b} h => ?_) ((List.mergeSort_perm l _).trans h)
  · simp only [decide_eq_true_eq] at h1 h2
    omega
  · simp only [decide_eq_true_eq]; omega
/-- The times seen from a later index. -/
def rotT (b rev : Int) (l : List Int) : List Int := (l.filter fun t => decide (b ≤ t)).map (fun t => t - b) ++ (l.filter fun t => decide (t < b)).map (fun t => t - b + rev)
def rotM (b rev : Int) (l : List Int) : List Int := l.map fun t => (t - b) % rev
theorem rot_mod {b rev t : Int} (hb : 0 ≤ b ∧ b ≤ rev - 1) (ht : 0 ≤ t ∧ t ≤ rev - 1) : (t - b) % rev = if b ≤ t then t - b else t - b + rev := by
  split
  · exact Int.emod_eq_of_lt (by omega) (by omega)
  · rw [← Int.add_emod_right]
    exact Int.emod_eq_of_lt (by omega) (by omega)
theorem rot_perm {b rev : Int} (hb : 0 ≤ b ∧ b ≤ rev - 1) : ∀ {l : List Int}, (∀ t ∈ l, 0 ≤ t ∧ t ≤ rev - 1) → (rotM b rev l).Perm (rotT b rev l)
  | [], _ => .refl _
  | t :: l, h => by
    have ht := h t (by simp)
    have ih := rot_perm hb (l := l) fun x hx => h x (List.mem_cons_of_mem _ hx)
    unfold rotM rotT at ih ⊢
    rw [List.map_cons, rot_mod hb ht]
    by_cases hc : b ≤ t
    · rw [if_pos hc, List.filter_cons, if_pos (decide_eq_true hc), List.filter_cons, if_neg (by simp; omega), List.map_cons, List.cons_append]
      exact ih.cons _
    · rw [if_neg hc, List.filter_cons, if_neg (by simp; omega), List.filter_cons, if_pos (by simp; omega), List.map_cons]
      exact (ih.cons _).trans List.perm_middle.symm
theorem rot_up {b rev : Int} (hb : 0 ≤ b ∧ b ≤ rev - 1) {l : List Int} (h : ∀ t ∈ l, 0 ≤ t ∧ t ≤ rev - 1) (hs : l.Pairwise (· < ·)) : (rotT b rev l).Pairwise (· < ·) := by
  unfold rotT
  rw [List.pairwise_append]
  refine ⟨?_, ?_, ?_⟩
  · rw [List.pairwise_map]
    exact (hs.filter _).imp fun h => by omega
  · rw [List.pairwise_map]
    exact (hs.filter _).imp fun h => by omega
  · intro x hx y hy
    obtain ⟨u, hu, rfl⟩ := List.mem_map.1 hx
    obtain ⟨v, hv, rfl⟩ := List.mem_map.1 hy
    have h1 := h u (List.mem_filter.1 hu).1
    have h2 := h v (List.mem_filter.1 hv).1
    omega
theorem rot_sort {b rev : Int} (hb : 0 ≤ b ∧ b ≤ rev - 1) {l : List Int} (h : ∀ t ∈ l, 0 ≤ t ∧ t ≤ rev - 1) (hs : l.Pairwise (· < ·)) : ((rotM b rev l).mergeSort fun x y => decide (x ≤ y)) = rotT b rev l := sort_is (rot_perm hb h) (rot_up hb h hs)
theorem filter_split {l : List Int} {k : Nat} {b : Int} (hs : l.Pairwise (· < ·)) (h1 : ∀ j (h : j < l.length), j < k → l[j] < b) (h2 : ∀ h : k < l.length, b ≤ l[k]) :
    (l.filter fun t => decide (b ≤ t)) = l.drop k ∧ (l.filter fun t => decide (t < b)) = l.take k := by
  have ha : ∀ x ∈ l.take k, x < b := fun x hx => by
    obtain ⟨i, hi, rfl⟩ := List.getElem_of_mem hx
    rw [List.length_take] at hi
    rw [List.getElem_take]
    exact h1 i (by omega) (by omega)
  have hb : ∀ x ∈ l.drop k, b ≤ x := fun x hx => by
    obtain ⟨i, hi, rfl⟩ := List.getElem_of_mem hx
    rw [List.length_drop] at hi
    rw [List.getElem_drop]
    have h3 := h2 (by omega)
    rcases Nat.eq_zero_or_pos i with e | e
    · subst e; simpa using h3
    · have := List.pairwise_iff_getElem.1 hs k (k + i) (by omega) (by omega) (by omega)
      omega
  have e := List.take_append_drop k l
  constructor
  · conv => lhs; rw [← e]
    rw [List.filter_append, List.filter_eq_nil_iff.2 (fun x hx => by have := ha x hx; simp; omega), List.filter_eq_self.2 (fun x hx => by have := hb x hx; simpa using this), List.nil_append]
  · conv => lhs; rw [← e]
    rw [List.filter_append, List.filter_eq_self.2 (fun x hx => by have := ha x hx; simpa using this), List.filter_eq_nil_iff.2 (fun x hx => by have := hb x hx; simp; omega), List.append_nil]
theorem rotT_at {l : List Int} {k : Nat} {b rev : Int} (hk : k ≤ l.length) (hs : l.Pairwise (· < ·)) (h1 : ∀ j (h : j < l.length), j < k → l[j] < b) (h2 : ∀ h : k < l.length, b ≤ l[k]) (i : Nat) (hi : i < l.length)
    (hm : (k + i) % l.length < l.length := Nat.mod_lt _ (by omega)) :
    (rotT b rev l).length = l.length ∧ (rotT b rev l)[i]? = some (if l[(k + i) % l.length] - b < 0 then l[(k + i) % l.length] - b + rev else l[(k + i) % l.length] - b) := by
  obtain ⟨e1, e2⟩ := filter_split hs h1 h2
  unfold rotT
  rw [e1, e2]
  refine ⟨by simp; omega, ?_⟩
  by_cases hlt : k + i < l.length
  · have e : (k + i) % l.length = k + i := Nat.mod_eq_of_lt hlt
    rw [List.getElem?_append_left (by simp; omega), List.getElem?_map, List.getElem?_drop, List.getElem?_eq_getElem hlt]
    simp only [e, Option.map_some]
    have hge : b ≤ l[k + i] := by
      rcases Nat.eq_zero_or_pos i with e | e
      · subst e; exact h2 hlt
      · have := List.pairwise_iff_getElem.1 hs k (k + i) (by omega) hlt (by omega)
        have := h2 (by omega)
        omega
    rw [if_neg (by omega)]
  · have e : (k + i) % l.length = k + i - l.length := by
      rw [Nat.mod_eq_sub_mod (by omega)]
      exact Nat.mod_eq_of_lt (by omega)
    have hj : k + i - l.length < k := by omega
    have hl : k + i - l.length < l.length := by omega
    rw [List.getElem?_append_right (by simp; omega), List.getElem?_map, List.length_map, List.length_drop, show i - (l.length - k) = k + i - l.length by omega, List.getElem?_take_of_lt hj, List.getElem?_eq_getElem hl]
    simp only [e, Option.map_some]
    have := h1 _ hl hj
    rw [if_pos (by omega)]
theorem rotT_len {l : List Int} (b rev : Int) : (rotT b rev l).length = l.length := by
  unfold rotT
  rw [List.length_append, List.length_map, List.length_map]
  induction l with
  | nil => rfl
  | cons t l ih =>
    rw [List.filter_cons, List.filter_cons]
    by_cases hc : b ≤ t
    · rw [if_pos (decide_eq_true hc), if_neg (by simp; omega), List.length_cons, List.length_cons]; omega
    · rw [if_neg (by simp; omega), if_pos (by simp; omega), List.length_cons, List.length_cons]; omega
/-- Times with a weak area. -/
def weakT (a b : Int) (t l : List Int) : List Int := (l.filter fun x => decide (x < a)) ++ t ++ (l.filter fun x => decide (b ≤ x))
def weakM (a b : Int) (t l : List Int) : List Int := t ++ l.filter fun x => decide (x < a) || decide (b ≤ x)
theorem weak_perm {a b : Int} (hab : a ≤ b) (t : List Int) : ∀ l : List Int, (weakM a b t l).Perm (weakT a b t l)
  | [] => by simp [weakM, weakT]
  | x :: l => by
    have ih := weak_perm hab t l
    unfold weakM weakT at ih ⊢
    rw [List.filter_cons, List.filter_cons, List.filter_cons]
    by_cases h1 : x < a
    · rw [if_pos (by simp; omega), if_pos (by simpa using h1), if_neg (by simp; omega)]
      exact List.perm_middle.trans (ih.cons _)
    · by_cases h2 : b ≤ x
      · rw [if_pos (by simp; omega), if_neg (by simpa using h1), if_pos (by simpa using h2)]
        exact (List.perm_middle.trans (ih.cons _)).trans List.perm_middle.symm
      · rw [if_neg (by simp; omega), if_neg (by simpa using h1), if_neg (by simpa using h2)]
        exact ih
theorem weak_up {a b : Int} (hab : a ≤ b) {t l : List Int} (ht : risesB t a (b - 1) = true) (hs : l.Pairwise (· < ·)) : (weakT a b t l).Pairwise (· < ·) := by
  have hm := risesB_mem ht
  unfold risesB at ht
  rw [Bool.and_eq_true, decide_eq_true_eq] at ht
  unfold weakT
  rw [List.append_assoc, List.pairwise_append, List.pairwise_append]
  refine ⟨hs.filter _, ⟨ht.2, hs.filter _, ?_⟩, ?_⟩
  · intro x hx y hy
    have h1 := hm x hx
    have h2 := (List.mem_filter.1 hy).2
    simp at h2
    omega
  · intro x hx y hy
    have h1 := (List.mem_filter.1 hx).2
    simp at h1
    rcases List.mem_append.1 hy with h | h
    · have := hm y h; omega
    · have h2 := (List.mem_filter.1 h).2
      simp at h2
      omega
theorem weak_sort {a b : Int} (hab : a ≤ b) {t l : List Int} (ht : risesB t a (b - 1) = true) (hs : l.Pairwise (· < ·)) : ((weakM a b t l).mergeSort fun x y => decide (x ≤ y)) = weakT a b t l := sort_is (weak_perm hab t l) (weak_up hab ht hs)
end Go.Proofs.Ytfdcainjppljhaa
namespace Go.Proofs.Ytfdcainjppljhaa
open Go.RowKit Go.Sort
set_option linter.unusedVariables false
theorem sort_row {w : World} {g : Nat} {l : List Int} (cap : Nat) (h : RowI w g l) (hl : l.length ≤ 1048576) :
    Calls Try.prog 51 #[.slice (some ⟨g, 0, none⟩) l.length cap] w fun e w' => e = .returned (.tuple #[]) ∧ RowI w' g (l.mergeSort fun x y => decide (x ≤ y)) ∧ Aside (some g) w w' := by
  have hH : Holds (Value.int .i64) w g 0 l.toArray := fun j hj => by
    have hj' : j < l.length := by simpa using hj
    obtain ⟨h1, h2⟩ := h.2 j hj'
    rw [Nat.zero_add]
    exact ⟨by rw [h1]; simp [hj'], h2⟩
  have hsz : (l.mergeSort fun x y => decide (x ≤ y)).toArray.size = l.toArray.size := by simp
  refine (Try.slices_Sort_int g 0 cap l w hH h.1 (by omega)).mono ?_
  rintro e w' ⟨rfl, n, os, rfl⟩
  have hH2 : Holds (Value.int .i64) (Sort.ahead w n) g 0 l.toArray := hH
  refine ⟨rfl, ⟨by have := h.1; simp; show g < w.heap.size + _; omega, fun j hj => ?_⟩, ⟨rfl, rfl, rfl, by simp, fun k hk hne => ?_⟩⟩
  · have hj2 : j < (l.mergeSort fun x y => decide (x ≤ y)).toArray.size := by simpa using hj
    have hc := cell?_putRow (Value.int .i64) (Sort.ahead w n) g 0 l.toArray (l.mergeSort fun x y => decide (x ≤ y)).toArray hH2 hsz j hj2
    rw [Nat.zero_add] at hc
    have hf : (putRow (Value.int .i64) (Sort.ahead w n) g 0 (l.mergeSort fun x y => decide (x ≤ y)).toArray).frozen? ⟨g, j, none⟩ = w.frozen? ⟨g, j, none⟩ := frozen?_putRow _ _ _ _ _ _
    have hl' : j < l.length := by simpa using hj
    refine ⟨?_, ?_⟩
    · rw [cell?_grow _ _ _ (by simpa using h.1), hc]
      simp [hl']
    · rw [frozen?_grow _ _ _ (by simpa using h.1), hf]
      exact (h.2 j hl').2
  · rw [heap_grow_old _ _ (by simpa using hk)]
    have : g ≠ k := fun e => hne (by rw [e])
    simp [putRow, mapBlock, Sort.ahead, Array.getElem?_modify, this]
theorem sort_row' {w : World} {g : Nat} {l : List Int} (cap : Nat) (h : RowI w g l) (hl : l.length ≤ 2200000) :
    Calls Try.prog 51 #[.slice (some ⟨g, 0, none⟩) l.length cap] w fun e w' => e = .returned (.tuple #[]) ∧ RowI w' g (l.mergeSort fun x y => decide (x ≤ y)) ∧ Aside (some g) w w' := by
  have hH : Holds (Value.int .i64) w g 0 l.toArray := fun j hj => by
    have hj' : j < l.length := by simpa using hj
    obtain ⟨h1, h2⟩ := h.2 j hj'
    rw [Nat.zero_add]
    exact ⟨by rw [h1]; simp [hj'], h2⟩
  have hsz : (l.mergeSort fun x y => decide (x ≤ y)).toArray.size = l.toArray.size := by simp
  refine (Try.slices_Sort_int g 0 cap l w hH h.1 (by omega)).mono ?_
  rintro e w' ⟨rfl, n, os, rfl⟩
  have hH2 : Holds (Value.int .i64) (Sort.ahead w n) g 0 l.toArray := hH
  refine ⟨rfl, ⟨by have := h.1; simp; show g < w.heap.size + _; omega, fun j hj => ?_⟩, ⟨rfl, rfl, rfl, by simp, fun k hk hne => ?_⟩⟩
  · have hj2 : j < (l.mergeSort fun x y => decide (x ≤ y)).toArray.size := by simpa using hj
    have hc := cell?_putRow (Value.int .i64) (Sort.ahead w n) g 0 l.toArray (l.mergeSort fun x y => decide (x ≤ y)).toArray hH2 hsz j hj2
    rw [Nat.zero_add] at hc
    have hf : (putRow (Value.int .i64) (Sort.ahead w n) g 0 (l.mergeSort fun x y => decide (x ≤ y)).toArray).frozen? ⟨g, j, none⟩ = w.frozen? ⟨g, j, none⟩ := frozen?_putRow _ _ _ _ _ _
    have hl' : j < l.length := by simpa using hj
    refine ⟨?_, ?_⟩
    · rw [cell?_grow _ _ _ (by simpa using h.1), hc]
      simp [hl']
    · rw [frozen?_grow _ _ _ (by simpa using h.1), hf]
      exact (h.2 j hl').2
  · rw [heap_grow_old _ _ (by simpa using hk)]
    have : g ≠ k := fun e => hne (by rw [e])
    simp [putRow, mapBlock, Sort.ahead, Array.getElem?_modify, this]
theorem rot_num (x n : Int) (hn : 0 < n) : (x.tmod n + n).tmod n = x % n := by
  have h1 := Int.tmod_lt_of_pos x hn
  have h2 : -n < x.tmod n := by
    have := Int.lt_tmod_of_pos x hn
    omega
  rw [Int.tmod_eq_emod_of_nonneg (by omega), Int.add_emod_right]
  rw [Int.emod_eq_emod_iff_emod_sub_eq_zero]
  have h3 := Int.tmod_add_mul_tdiv x n
  have : x.tmod n - x = n * (-(x.tdiv n)) := by rw [Int.mul_neg]; omega
  rw [this]
  exact Int.mul_emod_right _ _
theorem modulo_any (x n : Int) (w : World) (hn : 0 < n ∧ n ≤ 4000000000000000000) (hx : -9223372036854775808 ≤ x ∧ x ≤ 9223372036854775807) :
    Calls Try.prog 50 #[.int .i64 x, .int .i64 n] w fun e w' => e = .returned (.int .i64 (x % n)) ∧ w = w' := by
  have h1 := Int.tmod_lt_of_pos x hn.1
  have h2 := Int.lt_tmod_of_pos x hn.1
  have hr := rot_num x n hn.1
  have h3 := Int.emod_nonneg x (show n ≠ 0 by omega)
  have h4 := Int.emod_lt_of_pos x hn.1
  obtain ⟨k, hk⟩ : ∃ k : Int, x % n = k := ⟨_, rfl⟩
  rw [hk] at hr h3 h4
  have HK := Lib.hid hk
  clear hk
  have q0 : ¬ (n = 0) := by omega
  have q1 : IntKind.i64.wrap (x.tmod n) = x.tmod n := IntWalk.i64_in _ (by omega)
  have q2 : IntKind.i64.wrap (x.tmod n + n) = x.tmod n + n := IntWalk.i64_in _ (by omega)
  have q4 : wrap64 (x.tmod n + n) = x.tmod n + n := wrap64_of (by omega) (by omega)
  have q3 : IntKind.i64.wrap k = k := IntWalk.i64_in _ (by omega)
  go_enter Try.func50, Try.ntmps50
  go_wp2_with fail
  go_ret
  exact ⟨ret_int (by rw [HK.out]), rfl⟩
end Go.Proofs.Ytfdcainjppljhaa
namespace Go.Proofs.Ytfdcainjppljhaa
open Go.RowKit
set_option linter.unusedVariables false
theorem run_append_where (ty : TypeId) (w : World) (base : Nat) (v : Value) (l : List Int) (n : Int) (g0 : Nat) (hown : OwnI w base v l) (hc : w.cell? ⟨g0, 0, none⟩ = some (.int .i64 n)) (hlen : l.length < 10000000) (hbase : base ≤ w.heap.size) :
    ∃ v' w', (Builtin.append_ #[22, 22] ty #[v, .slice (some ⟨g0, 0, none⟩) 1 1]).run Try.prog w = .ok v' w' ∧ OwnI w' base v' (l ++ [n]) ∧ w.grownBy w' v.ownBlock ∧ ∀ g, v'.ownBlock = some g → v.ownBlock = some g ∨ w.heap.size ≤ g := by
  obtain ⟨i, hi, hz, hsz, hby⟩ := info_parts info_i64
  have hnews : ∀ j u, ([Value.int .i64 n] : List Value)[j]? = some u → w.cell? ((⟨g0, 0, none⟩ : Addr).add j) = some u := fun j u hj => by
    match j, hj with
    | 0, hj => simp at hj; subst hj; rw [Addr.add_zero']; exact hc
  have h1 : ∀ u ∈ [Value.int .i64 n], u.oneCell' = true := fun u hu => by simp at hu; subst hu; rfl
  obtain ⟨v', w', hr, h2, h3, h4⟩ := run_append_own (P := Try.prog) w base 22 ty 2 i (.int .i64 0) 1 8 Try.underlying22 hi hz hsz hby rfl (by decide) v l.length (l.map (Value.int .i64)) hown
    ⟨g0, 0, none⟩ 1 1 [.int .i64 n] rfl hnews h1 (by unfold maxLen; omega) (by omega) hbase
  refine ⟨v', w', hr, ?_, h3, ?_⟩
  · unfold OwnI
    rw [List.map_append, List.length_append]
    exact h2
  · rcases hown.2 with ⟨rfl, h0⟩ | ⟨g, cap, cur, rfl, hbg, hg, hnc, hcm, hcs, htake⟩
    · have hr' := run_append_nil (P := Try.prog) w 22 ty 2 i (.int .i64 0) Try.underlying22 hi hz ⟨g0, 0, none⟩ 1 1 [.int .i64 n] (by rw [hsz]; rfl) hnews (by omega) (by omega) (by rw [hby]; omega)
      rw [hr] at hr'
      injection hr' with e1 e2
      subst e1
      intro g hg
      simp [Value.ownBlock] at hg
      exact .inr (by omega)
    · by_cases hroom : l.length + 1 ≤ cap
      · have hr' := run_append_room (P := Try.prog) w 22 ty 2 i Try.underlying22 hi g l.length cap cur hg ⟨g0, 0, none⟩ 1 1 [.int .i64 n] (by rw [hsz]; rfl) hnews h1 hroom (by rw [hsz]; simp; omega)
        rw [hr] at hr'
        injection hr' with e1 e2
        subst e1
        intro g' hg'
        exact .inl hg'
      · have holds : ∀ j u, (l.map (Value.int .i64))[j]? = some u → w.cell? ((⟨g, 0, none⟩ : Addr).add j) = some u := World.ownsRow.cells hown (g := g) rfl
        have hr' := run_append_grow (P := Try.prog) w 22 ty 2 i (.int .i64 0) Try.underlying22 hi hz ⟨g, 0, none⟩ l.length cap (l.map (Value.int .i64)) (by rw [hsz]; simp) holds ⟨g0, 0, none⟩ 1 1 [.int .i64 n] (by rw [hsz]; rfl) hnews (by omega) (by omega) (growslice_fits (by omega) (by rw [hby]; omega))
        rw [hr] at hr'
        injection hr' with e1 e2
        subst e1
        intro g' hg'
        simp [Value.ownBlock] at hg'
        exact .inr (by omega)
/-- 'append(s, x)' in a walk: the block that the result has; all else stays. -/
theorem append_where {ops : Array Oper} {rest : List Oper} {o : Oper} {a : Act} {Q : Exit → Act → World → Prop} (w : World) (hgd : o.guard = none) (s x : Operand)
    (ho : o.op = .call { callee := .builtin .append, args := #[s, x], argTypes := #[22, 22] })
    (base : Nat) (v : Value) (l : List Int) (n : Int) (hs : a.eval s = v) (hx : a.eval x = .slice (some ⟨w.heap.size, 0, none⟩) 1 1)
    (hown : OwnI w base v l) (hlen : l.length < 10000000) (hbase : base ≤ w.heap.size)
    (h : ∀ v' w', OwnI w' base v' (l ++ [n]) → Aside v.ownBlock w w' → (∀ g, v'.ownBlock = some g → v.ownBlock = some g ∨ w.heap.size ≤ g) → wpList Try.prog ops Q rest (a.put o.dst v') w') :
    wpList Try.prog ops Q (o :: rest) a (w.alloc (.cells #[.int .i64 n] 2)) := by
  obtain ⟨v', w', hr, h2, h3, h4⟩ := run_append_where o.type (w.alloc (.cells #[.int .i64 n] 2)) base v l n w.heap.size (hown.alloc _) (by simp) hlen (by simp; omega)
  refine wpList_plain hgd fun _ hK => ?_
  unfold Oper.wp execOp
  simp only [ho, resolve, invoke, builtin, Sem.run_bind, Sem.run_pure, Result.andThen_ok, List.map_toArray, List.map_cons, List.map_nil, hs, hx, hr]
  refine hK _ _ (h v' w' h2 ?_ fun g hg => ?_)
  · have hal : Aside v.ownBlock w (w.alloc (.cells #[.int .i64 n] 2)) := Aside.of_below ((Below.refl _ _).alloc (Nat.le_refl _) _)
    exact hal.trans ⟨h3.1, h3.2, h3.3, h3.4, fun k hk hne => h3.5 k hk (fun e => hne e.symm)⟩
  · rcases h4 g hg with h5 | h5
    · exact .inl h5
    · exact .inr (by simp at h5; omega)
end Go.Proofs.Ytfdcainjppljhaa
namespace Go.Proofs.Ytfdcainjppljhaa
open Go.RowKit
set_option linter.unusedVariables false
/-- How many of the first k numbers of a list another has. -/
def comP (x y : List Int) (k : Nat) : Int := (((x.take k).filter fun a => decide (a ∈ y)).length : Nat)
theorem comP_yes {x y : List Int} {k : Nat} (hx : k < x.length) (h : decide (x[k] ∈ y) = true) : comP x y (k + 1) = comP x y k + 1 := by
  unfold comP
  rw [takeI_snoc hx, List.filter_append, List.filter_cons, if_pos h]
  simp
theorem comP_no {x y : List Int} {k : Nat} (hx : k < x.length) (h : decide (x[k] ∈ y) = false) : comP x y (k + 1) = comP x y k := by
  unfold comP
  rw [takeI_snoc hx, List.filter_append, List.filter_cons, if_neg (by rw [h]; decide)]
  simp
theorem comP_bd (x y : List Int) (k : Nat) : 0 ≤ comP x y k ∧ comP x y k ≤ k := by
  unfold comP
  have h1 := List.length_filter_le (fun a => decide (a ∈ y)) (x.take k)
  have h2 := List.length_take_le k x
  omega
def comV (ca fa : Int) (la : List Int) (cb fb : Int) (lb : List Int) : Int := if fluxOk ca fa la && fluxOk cb fb lb then comP (chgL fa la) (chgL fb lb) la.length else 0
theorem chg_rises {c f : Int} {l : List Int} (h : fluxOk c f l = true) : (chgL f l).Pairwise (· < ·) := by
  obtain ⟨-, -, hm, -⟩ := fluxOk_bd h
  rw [List.pairwise_iff_getElem]
  intro i j hi hj hij
  have hl := chgL_len f l
  rw [chgL_at, chgL_at]
  have key : ∀ d, i + d + 1 ≤ l.length → (l.take i).sum < (l.take (i + d + 1)).sum := by
    intro d
    induction d with
    | zero =>
      intro hd
      have h1 := takeI_snoc (l := l) (k := i) (by omega)
      have h2 := hm l[i] (List.getElem_mem _)
      rw [Nat.add_zero, h1, List.sum_append]
      simp
      omega
    | succ d ih =>
      intro hd
      have h1 := takeI_snoc (l := l) (k := i + d + 1) (by omega)
      have h2 := hm l[i + d + 1] (List.getElem_mem _)
      have h3 := ih (by omega)
      rw [show i + (d + 1) + 1 = i + d + 1 + 1 by omega, h1, List.sum_append]
      simp
      omega
  have := key (j - i - 1) (by omega)
  rw [show i + (j - i - 1) + 1 = j by omega] at this
  omega
theorem rises_le {l : List Int} (h : l.Pairwise (· < ·)) : l.Pairwise (· ≤ ·) := h.imp fun h => by omega
end Go.Proofs.Ytfdcainjppljhaa
