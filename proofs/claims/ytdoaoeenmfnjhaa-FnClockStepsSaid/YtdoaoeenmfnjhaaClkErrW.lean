/- ClockErrors, GapCounts. -/
import Derived.Test.YtdoaoeenmfnjhaaRunW
import Derived.Test.YtdoaoeenmfnjhaaRun2W
namespace Go.Proofs.Ytdoaoeenmfnjhaa
open Go.RowKit
set_option maxHeartbeats 1000000 in
set_option maxRecDepth 20000 in
theorem impl_ClockErrors (c : Clk) (cf f : Int) (p : Option Addr) (l : List Int) (cap : Nat) (w : World) (hI : IntsAt w p l) (hl : l.length ≤ 1048576) :
    Calls Try.prog 45 #[.agg #[.int .i64 cf, .int .i64 f, .slice p l.length cap], c.val] w fun e w' => ∃ q dq, e = .returned (.tuple #[.slice q (cEs c cf f l).length dq, .int .i64 (runCode c cf f l)]) ∧ OwnS w' w.heap.size q (cEs c cf f l) ∧ Below w.heap.size w w' := by
  have hrun := impl_runClock c cf f p l cap
  unfold Clk.val at hrun ⊢
  go_enter Try.func45, Try.ntmps45
  go_wp2_with fail
  refine (hrun _ ((hI.alloc _).alloc _) hl).mono ?_
  rintro e w1 ⟨q, dq, r, dr, rfl, h1, h2, hb⟩
  have hz := hb.size
  simp at hz
  go_wp2_with fail
  go_returns
  refine ⟨r, dr, rfl, h2.mono (by simp; omega), ((Below.refl _ _).alloc (Nat.le_refl _) _).trans ((((Below.refl _ _).alloc (Nat.le_refl _) _).trans (hb.mono (by simp))).mono (by simp))⟩
set_option maxHeartbeats 1000000 in
set_option maxRecDepth 20000 in
theorem spec_ClockErrors (c : Clk) (cf f : Int) (p : Option Addr) (l : List Int) (cap : Nat) (w : World) (hI : IntsAt w p l) (hl : l.length ≤ 1048576) :
    Calls Try.prog 44 #[.agg #[.int .i64 cf, .int .i64 f, .slice p l.length cap], c.val] w fun e w' => ∃ q dq, e = .returned (.tuple #[.slice q (cEs c cf f l).length dq, .int .i64 (runCode c cf f l)]) ∧ OwnS w' w.heap.size q (cEs c cf f l) ∧ Below w.heap.size w w' := by
  have hv : Hid (c.valid = Clk.valid ⟨c.cell, c.low, c.high, c.phase, c.speed⟩) := Lib.hid rfl
  have W0 : Below w.heap.size w ((w.alloc (.cells #[.int .i64 cf, .int .i64 f, .slice p l.length cap] 46)).alloc (.cells #[.int .i64 c.cell, .int .i64 c.low, .int .i64 c.high, .int .i64 c.phase, .int .i64 c.speed] 23)) := ((Below.refl _ _).alloc (Nat.le_refl _) _).alloc (by simp) _
  have BF0 := (Blk.new w 46 #[.int .i64 cf, .int .i64 f, .slice p l.length cap]).keep ((Below.refl _ (w.alloc (.cells #[.int .i64 cf, .int .i64 f, .slice p l.length cap] 46))).alloc (Nat.le_refl _) (.cells #[.int .i64 c.cell, .int .i64 c.low, .int .i64 c.high, .int .i64 c.phase, .int .i64 c.speed] 23))
  have BC0 := Blk.new (w.alloc (.cells #[.int .i64 cf, .int .i64 f, .slice p l.length cap] 46)) 23 #[.int .i64 c.cell, .int .i64 c.low, .int .i64 c.high, .int .i64 c.phase, .int .i64 c.speed]
  have esz : (w.alloc (.cells #[.int .i64 cf, .int .i64 f, .slice p l.length cap] 46)).heap.size = w.heap.size + 1 := by simp
  rw [esz] at BC0
  clear esz
  cases h1 : fluxOk cf f l
  · have H := Lib.hid h1
    have RN : Hid (cEs c cf f l = []) := Lib.hid (by unfold cEs; rw [h1]; rfl)
    have RC : Hid (runCode c cf f l = 1) := Lib.hid (by unfold runCode; rw [h1]; rfl)
    clear h1
    unfold Clk.val
    go_enter Try.func44, Try.ntmps44
    go_wp2_with fail
    generalize (w.alloc (.cells #[.int .i64 cf, .int .i64 f, .slice p l.length cap] 46)).alloc (.cells #[.int .i64 c.cell, .int .i64 c.low, .int .i64 c.high, .int .i64 c.phase, .int .i64 c.speed] 23) = w0 at W0 BF0 BC0 ⊢
    refine (spec_l02Ok cf f p l cap _ _ (hI.below W0) hl BF0).mono ?_
    rintro e w1 ⟨rfl, hb1⟩
    rw [H.out]
    have hw1 := below_st W0 hb1 (Nat.le_refl _)
    go_wp2_with fail
    go_returns
    exact ⟨_, 0, by rw [RN.out, RC.out]; rfl, by rw [RN.out]; exact OwnS.nil_ _ _ _, hw1.alloc hw1.size _⟩
  cases h2 : c.valid
  · have H := Lib.hid h1
    have H2 : Hid (Clk.valid ⟨c.cell, c.low, c.high, c.phase, c.speed⟩ = false) := Lib.hid h2
    have RN : Hid (cEs c cf f l = []) := Lib.hid (by unfold cEs; rw [h1, h2]; rfl)
    have RC : Hid (runCode c cf f l = 1) := Lib.hid (by unfold runCode; rw [h1, h2]; rfl)
    clear h1 h2
    unfold Clk.val
    go_enter Try.func44, Try.ntmps44
    go_wp2_with fail
    generalize (w.alloc (.cells #[.int .i64 cf, .int .i64 f, .slice p l.length cap] 46)).alloc (.cells #[.int .i64 c.cell, .int .i64 c.low, .int .i64 c.high, .int .i64 c.phase, .int .i64 c.speed] 23) = w0 at W0 BF0 BC0 ⊢
    refine (spec_l02Ok cf f p l cap _ _ (hI.below W0) hl BF0).mono ?_
    rintro e w1 ⟨rfl, hb1⟩
    rw [H.out]
    have hw1 := below_st W0 hb1 (Nat.le_refl _)
    obtain ⟨d0, d1, d2, d3, d4⟩ := (BC0.keep hb1).cell5
    go_wp2_with fail
    refine (spec_l03Ok _ _ _ _ _ _).mono ?_
    rintro e w2 ⟨rfl, hb2⟩
    rw [H2.out]
    have hw2 := below_st hw1 hb2 (Nat.le_refl _)
    go_wp2_with fail
    go_returns
    exact ⟨_, 0, by rw [RN.out, RC.out]; rfl, by rw [RN.out]; exact OwnS.nil_ _ _ _, hw2.alloc hw2.size _⟩
  have H := Lib.hid h1
  have H2 : Hid (Clk.valid ⟨c.cell, c.low, c.high, c.phase, c.speed⟩ = true) := Lib.hid h2
  have hall := fun w g hI hB => spec_l03All c cf f p l cap g w hI h1 h2 hB
  unfold Clk.val at hall ⊢
  cases hr : runOk c f l
  all_goals
    have HR := Lib.hid hr
  · have RN : Hid (cEs c cf f l = []) := Lib.hid (by unfold cEs runEs; rw [h1, h2, hr]; rfl)
    have RC : Hid (runCode c cf f l = 10) := Lib.hid (by unfold runCode; rw [h1, h2, hr]; rfl)
    clear h1 h2 hr
    go_enter Try.func44, Try.ntmps44
    go_wp2_with fail
    generalize (w.alloc (.cells #[.int .i64 cf, .int .i64 f, .slice p l.length cap] 46)).alloc (.cells #[.int .i64 c.cell, .int .i64 c.low, .int .i64 c.high, .int .i64 c.phase, .int .i64 c.speed] 23) = w0 at W0 BF0 BC0 ⊢
    refine (spec_l02Ok cf f p l cap _ _ (hI.below W0) hl BF0).mono ?_
    rintro e w1 ⟨rfl, hb1⟩
    rw [H.out]
    have hw1 := below_st W0 hb1 (Nat.le_refl _)
    have BF1 := BF0.keep hb1
    have BC1 := BC0.keep hb1
    obtain ⟨d0, d1, d2, d3, d4⟩ := BC1.cell5
    go_wp2_with fail
    refine (spec_l03Ok _ _ _ _ _ _).mono ?_
    rintro e w2 ⟨rfl, hb2⟩
    rw [H2.out]
    have hw2 := below_st hw1 hb2 (Nat.le_refl _)
    have BF2 := BF1.keep hb2
    clear d0 d1 d2 d3 d4
    obtain ⟨d0, d1, d2, d3, d4⟩ := (BC1.keep hb2).cell5
    go_wp2_with fail
    refine (hall _ _ (hI.below hw2) BF2).mono ?_
    rintro e w3 ⟨q, dq, r, dr, rfl, S1, S2, hb3⟩
    have hw3 := below_st hw2 hb3 (Nat.le_refl _)
    rw [HR.out]
    go_wp2_with fail
    go_returns
    exact ⟨_, 0, by rw [RN.out, RC.out]; rfl, by rw [RN.out]; exact OwnS.nil_ _ _ _, hw3.alloc hw3.size _⟩
  · have RN : Hid (cEs c cf f l = runEs c f l) := Lib.hid (by unfold cEs; rw [h1, h2]; rfl)
    have RC : Hid (runCode c cf f l = 0) := Lib.hid (by unfold runCode; rw [h1, h2, hr]; rfl)
    clear h1 h2 hr
    go_enter Try.func44, Try.ntmps44
    go_wp2_with fail
    generalize (w.alloc (.cells #[.int .i64 cf, .int .i64 f, .slice p l.length cap] 46)).alloc (.cells #[.int .i64 c.cell, .int .i64 c.low, .int .i64 c.high, .int .i64 c.phase, .int .i64 c.speed] 23) = w0 at W0 BF0 BC0 ⊢
    refine (spec_l02Ok cf f p l cap _ _ (hI.below W0) hl BF0).mono ?_
    rintro e w1 ⟨rfl, hb1⟩
    rw [H.out]
    have hw1 := below_st W0 hb1 (Nat.le_refl _)
    have BF1 := BF0.keep hb1
    have BC1 := BC0.keep hb1
    obtain ⟨d0, d1, d2, d3, d4⟩ := BC1.cell5
    go_wp2_with fail
    refine (spec_l03Ok _ _ _ _ _ _).mono ?_
    rintro e w2 ⟨rfl, hb2⟩
    rw [H2.out]
    have hw2 := below_st hw1 hb2 (Nat.le_refl _)
    have BF2 := BF1.keep hb2
    clear d0 d1 d2 d3 d4
    obtain ⟨d0, d1, d2, d3, d4⟩ := (BC1.keep hb2).cell5
    go_wp2_with fail
    refine (hall _ _ (hI.below hw2) BF2).mono ?_
    rintro e w3 ⟨q, dq, r, dr, rfl, S1, S2, hb3⟩
    have hw3 := below_st hw2 hb3 (Nat.le_refl _)
    rw [HR.out]
    go_wp2_with fail
    go_returns
    exact ⟨r, dr, by rw [RN.out, RC.out]; rfl, by rw [RN.out]; exact S2.mono hw2.size, hw3⟩
/-- One more in its bin. -/
def bumpL (r : List Int) (n : Int) : List Int := r.set (if 8 < n then 0 else n.toNat) (r.getD (if 8 < n then 0 else n.toNat) 0 + 1)
def binL (l : List Int) : List Int := l.foldl bumpL (List.replicate 9 0)
theorem binL_snoc (l : List Int) (n : Int) : binL (l ++ [n]) = bumpL (binL l) n := by simp [binL]
theorem foldB_len (l : List Int) (r : List Int) : (l.foldl bumpL r).length = r.length := by
  induction l generalizing r with
  | nil => rfl
  | cons a l ih => rw [List.foldl_cons, ih]; simp [bumpL]
theorem binL_len (l : List Int) : (binL l).length = 9 := by unfold binL; rw [foldB_len]; rfl
theorem foldB_bd (l : List Int) : ∀ (r : List Int) (B : Int), (∀ i, 0 ≤ r.getD i 0 ∧ r.getD i 0 ≤ B) → ∀ i, 0 ≤ (l.foldl bumpL r).getD i 0 ∧ (l.foldl bumpL r).getD i 0 ≤ B + l.length := by
  induction l with
  | nil => intro r B h i; simpa using h i
  | cons a l ih =>
    intro r B h i
    rw [List.foldl_cons, List.length_cons]
    have := ih (bumpL r a) (B + 1) (fun j => by
      unfold bumpL
      have hj := h j
      have hk := h (if 8 < a then 0 else a.toNat)
      generalize (if 8 < a then 0 else a.toNat) = k at hk ⊢
      simp only [List.getD_eq_getElem?_getD] at hj hk ⊢
      rw [List.getElem?_set]
      split
      · split
        · simp; omega
        · simp; omega
      · omega) i
    omega
theorem binL_bd (l : List Int) (i : Nat) : 0 ≤ (binL l).getD i 0 ∧ (binL l).getD i 0 ≤ l.length := by
  have := foldB_bd l (List.replicate 9 0) 0 (fun j => by
    rw [List.getD_eq_getElem?_getD, List.getElem?_replicate]
    split <;> simp) i
  unfold binL
  omega
theorem runN_bd {c : Clk} (hc : c.valid = true) : ∀ (l : List Int) (P O : Int), (c.low * 64 ≤ P ∧ P ≤ c.high * 64) → (-P ≤ O ∧ O ≤ P) → (∀ x ∈ l, 1 ≤ x ∧ x ≤ 2000000) → ∀ n ∈ runN c P O l, 1 ≤ n := by
  intro l
  induction l with
  | nil => intro P O _ _ _ n hn; simp [runN] at hn
  | cons g l ih =>
    intro P O hP hO hl n hn
    have hb := Clk.valid_bd hc
    rw [runN, List.mem_cons] at hn
    rcases hn with rfl | hn
    · exact (stN_bd (P := P) (O := O) (gap := g) (by omega) hO (hl g (by simp))).1.1
    · have h1 := stP_bd (O := O) (gap := g) hc hP
      exact ih _ _ h1 (clampI_bd (by omega)) (fun x hx => hl x (by simp [hx])) n hn
theorem runNs_bd {c : Clk} {cf f : Int} {l : List Int} (hok : fluxOk cf f l = true) (hc : c.valid = true) : ∀ n ∈ runNs c f l, 1 ≤ n ∧ n ≤ 100 := by
  intro n hn
  unfold runNs at hn
  split at hn
  · rename_i hr
    have hb := Clk.valid_bd hc
    refine ⟨runN_bd hc l _ _ ?_ (off0_bd hc f) (fluxOk_bd hok).2.2.1 n hn, ?_⟩
    · omega
    · have := List.all_eq_true.1 hr n hn
      simpa using this
  · simp at hn
/-- What GapCounts answers. -/
def gapV (c : Clk) (cf f : Int) (l : List Int) : List Int := if fluxOk cf f l && c.valid then (if runOk c f l then binL (runNs c f l) else []) else []
theorem gapV_len (c : Clk) (cf f : Int) (l : List Int) : (gapV c cf f l).length ≤ 9 := by unfold gapV; split <;> (try split) <;> simp [binL_len]
theorem make9 (w : World) : (Instr.makeSlice 41 (.int .i64 9) (.int .i64 9)).run Try.prog w = .ok (.slice (some ⟨w.heap.size, 0, none⟩) 9 9) (w.alloc (.cells (madeCells #[.int .i64 0] 9) 2)) := make_ints 9 (by omega) w
theorem bump_set {l : List Int} {n : Int} {i : Nat} (hi : (if 8 < n then 0 else n.toNat) = i) (hlt : i < (binL l).length) : (binL l).set i ((binL l)[i] + 1) = binL (l ++ [n]) := by
  rw [binL_snoc, bumpL, hi, List.getD_eq_getElem?_getD, List.getElem?_eq_getElem hlt, Option.getD_some]
set_option maxHeartbeats 1000000 in
set_option maxRecDepth 20000 in
theorem spec_GapCounts (c : Clk) (cf f : Int) (p : Option Addr) (l : List Int) (cap : Nat) (w : World) (hI : IntsAt w p l) (hl : l.length ≤ 1048576) :
    Calls Try.prog 46 #[.agg #[.int .i64 cf, .int .i64 f, .slice p l.length cap], c.val] w fun e w' => ∃ q dq, e = .returned (.tuple #[.slice q (gapV c cf f l).length dq, .int .i64 (runCode c cf f l)]) ∧ OwnS w' w.heap.size q (gapV c cf f l) ∧ Below w.heap.size w w' := by
  have hv : Hid (c.valid = Clk.valid ⟨c.cell, c.low, c.high, c.phase, c.speed⟩) := Lib.hid rfl
  have W0 : Below w.heap.size w ((w.alloc (.cells #[.int .i64 cf, .int .i64 f, .slice p l.length cap] 46)).alloc (.cells #[.int .i64 c.cell, .int .i64 c.low, .int .i64 c.high, .int .i64 c.phase, .int .i64 c.speed] 23)) := ((Below.refl _ _).alloc (Nat.le_refl _) _).alloc (by simp) _
  have BF0 := (Blk.new w 46 #[.int .i64 cf, .int .i64 f, .slice p l.length cap]).keep ((Below.refl _ (w.alloc (.cells #[.int .i64 cf, .int .i64 f, .slice p l.length cap] 46))).alloc (Nat.le_refl _) (.cells #[.int .i64 c.cell, .int .i64 c.low, .int .i64 c.high, .int .i64 c.phase, .int .i64 c.speed] 23))
  have BC0 := Blk.new (w.alloc (.cells #[.int .i64 cf, .int .i64 f, .slice p l.length cap] 46)) 23 #[.int .i64 c.cell, .int .i64 c.low, .int .i64 c.high, .int .i64 c.phase, .int .i64 c.speed]
  have esz : (w.alloc (.cells #[.int .i64 cf, .int .i64 f, .slice p l.length cap] 46)).heap.size = w.heap.size + 1 := by simp
  rw [esz] at BC0
  clear esz
  cases h1 : fluxOk cf f l
  · have H := Lib.hid h1
    have RN : Hid (gapV c cf f l = []) := Lib.hid (by unfold gapV; rw [h1]; rfl)
    have RC : Hid (runCode c cf f l = 1) := Lib.hid (by unfold runCode; rw [h1]; rfl)
    clear h1
    unfold Clk.val
    go_enter Try.func46, Try.ntmps46
    go_wp2_with fail
    generalize (w.alloc (.cells #[.int .i64 cf, .int .i64 f, .slice p l.length cap] 46)).alloc (.cells #[.int .i64 c.cell, .int .i64 c.low, .int .i64 c.high, .int .i64 c.phase, .int .i64 c.speed] 23) = w0 at W0 BF0 BC0 ⊢
    refine (spec_l02Ok cf f p l cap _ _ (hI.below W0) hl BF0).mono ?_
    rintro e w1 ⟨rfl, hb1⟩
    rw [H.out]
    have hw1 := below_st W0 hb1 (Nat.le_refl _)
    go_wp2_with fail
    go_returns
    exact ⟨_, 0, by rw [RN.out, RC.out]; rfl, by rw [RN.out]; exact OwnS.nil_ _ _ _, hw1.alloc hw1.size _⟩
  cases h2 : c.valid
  · have H := Lib.hid h1
    have H2 : Hid (Clk.valid ⟨c.cell, c.low, c.high, c.phase, c.speed⟩ = false) := Lib.hid h2
    have RN : Hid (gapV c cf f l = []) := Lib.hid (by unfold gapV; rw [h1, h2]; rfl)
    have RC : Hid (runCode c cf f l = 1) := Lib.hid (by unfold runCode; rw [h1, h2]; rfl)
    clear h1 h2
    unfold Clk.val
    go_enter Try.func46, Try.ntmps46
    go_wp2_with fail
    generalize (w.alloc (.cells #[.int .i64 cf, .int .i64 f, .slice p l.length cap] 46)).alloc (.cells #[.int .i64 c.cell, .int .i64 c.low, .int .i64 c.high, .int .i64 c.phase, .int .i64 c.speed] 23) = w0 at W0 BF0 BC0 ⊢
    refine (spec_l02Ok cf f p l cap _ _ (hI.below W0) hl BF0).mono ?_
    rintro e w1 ⟨rfl, hb1⟩
    rw [H.out]
    have hw1 := below_st W0 hb1 (Nat.le_refl _)
    obtain ⟨d0, d1, d2, d3, d4⟩ := (BC0.keep hb1).cell5
    go_wp2_with fail
    refine (spec_l03Ok _ _ _ _ _ _).mono ?_
    rintro e w2 ⟨rfl, hb2⟩
    rw [H2.out]
    have hw2 := below_st hw1 hb2 (Nat.le_refl _)
    go_wp2_with fail
    go_returns
    exact ⟨_, 0, by rw [RN.out, RC.out]; rfl, by rw [RN.out]; exact OwnS.nil_ _ _ _, hw2.alloc hw2.size _⟩
  have H := Lib.hid h1
  have H2 : Hid (Clk.valid ⟨c.cell, c.low, c.high, c.phase, c.speed⟩ = true) := Lib.hid h2
  have hall := fun w g hI hB => spec_l03All c cf f p l cap g w hI h1 h2 hB
  unfold Clk.val at hall ⊢
  cases hr : runOk c f l
  all_goals
    have HR := Lib.hid hr
  · have RN : Hid (gapV c cf f l = []) := Lib.hid (by unfold gapV; rw [h1, h2, hr]; rfl)
    have RC : Hid (runCode c cf f l = 10) := Lib.hid (by unfold runCode; rw [h1, h2, hr]; rfl)
    clear h1 h2 hr
    go_enter Try.func46, Try.ntmps46
    go_wp2_with fail
    generalize (w.alloc (.cells #[.int .i64 cf, .int .i64 f, .slice p l.length cap] 46)).alloc (.cells #[.int .i64 c.cell, .int .i64 c.low, .int .i64 c.high, .int .i64 c.phase, .int .i64 c.speed] 23) = w0 at W0 BF0 BC0 ⊢
    refine (spec_l02Ok cf f p l cap _ _ (hI.below W0) hl BF0).mono ?_
    rintro e w1 ⟨rfl, hb1⟩
    rw [H.out]
    have hw1 := below_st W0 hb1 (Nat.le_refl _)
    have BF1 := BF0.keep hb1
    have BC1 := BC0.keep hb1
    obtain ⟨d0, d1, d2, d3, d4⟩ := BC1.cell5
    go_wp2_with fail
    refine (spec_l03Ok _ _ _ _ _ _).mono ?_
    rintro e w2 ⟨rfl, hb2⟩
    rw [H2.out]
    have hw2 := below_st hw1 hb2 (Nat.le_refl _)
    have BF2 := BF1.keep hb2
    clear d0 d1 d2 d3 d4
    obtain ⟨d0, d1, d2, d3, d4⟩ := (BC1.keep hb2).cell5
    go_wp2_with fail
    refine (hall _ _ (hI.below hw2) BF2).mono ?_
    rintro e w3 ⟨q, dq, r, dr, rfl, S1, S2, hb3⟩
    have hw3 := below_st hw2 hb3 (Nat.le_refl _)
    rw [HR.out]
    go_wp2_with fail
    go_returns
    exact ⟨_, 0, by rw [RN.out, RC.out]; rfl, by rw [RN.out]; exact OwnS.nil_ _ _ _, hw3.alloc hw3.size _⟩
  · have RN : Hid (gapV c cf f l = binL (runNs c f l)) := Lib.hid (by unfold gapV; rw [h1, h2, hr]; rfl)
    have RC : Hid (runCode c cf f l = 0) := Lib.hid (by unfold runCode; rw [h1, h2, hr]; rfl)
    have NB := Lib.hid (runNs_bd (c := c) h1 h2)
    have NL : Hid ((runNs c f l).length ≤ 4000) := Lib.hid (Nat.le_trans (runNs_len c f l) (fluxOk_bd h1).2.1.2)
    clear h1 h2 hr
    go_enter Try.func46, Try.ntmps46
    go_wp2_with fail
    generalize (w.alloc (.cells #[.int .i64 cf, .int .i64 f, .slice p l.length cap] 46)).alloc (.cells #[.int .i64 c.cell, .int .i64 c.low, .int .i64 c.high, .int .i64 c.phase, .int .i64 c.speed] 23) = w0 at W0 BF0 BC0 ⊢
    refine (spec_l02Ok cf f p l cap _ _ (hI.below W0) hl BF0).mono ?_
    rintro e w1 ⟨rfl, hb1⟩
    rw [H.out]
    have hw1 := below_st W0 hb1 (Nat.le_refl _)
    have BF1 := BF0.keep hb1
    have BC1 := BC0.keep hb1
    obtain ⟨d0, d1, d2, d3, d4⟩ := BC1.cell5
    go_wp2_with fail
    refine (spec_l03Ok _ _ _ _ _ _).mono ?_
    rintro e w2 ⟨rfl, hb2⟩
    rw [H2.out]
    have hw2 := below_st hw1 hb2 (Nat.le_refl _)
    have BF2 := BF1.keep hb2
    clear d0 d1 d2 d3 d4
    obtain ⟨d0, d1, d2, d3, d4⟩ := (BC1.keep hb2).cell5
    go_wp2_with fail
    refine (hall _ _ (hI.below hw2) BF2).mono ?_
    rintro e w3 ⟨q, dq, r, dr, rfl, S1, S2, hb3⟩
    have hw3 := below_st hw2 hb3 (Nat.le_refl _)
    rw [HR.out]
    have hI3 := S1.ints
    have hN := NB.out
    have hNl := NL.out
    generalize runNs c f l = N at *
    have hmk := make9 w3
    have G0 := RowI.made w3 9
    have hg0 : Below w3.heap.size w3 (w3.alloc (.cells (madeCells #[.int .i64 0] 9) 2)) := (Below.refl _ _).alloc (Nat.le_refl _) _
    go_wp2_with fail
    clear hmk
    generalize w3.alloc (.cells (madeCells #[.int .i64 0] 9) 2) = w4 at G0 hg0 ⊢
    go_loopw [10] (fun i wr => ∃ k : Nat, k ≤ N.length ∧ i = .int .i64 k ∧ RowI wr w3.heap.size (binL (N.take k)) ∧ Below w3.heap.size w3 wr) (fun i _ => N.length - (intOf i).toNat)
    case atStart => exact ⟨0, Nat.zero_le _, rfl, G0, hg0⟩
    case round =>
      obtain ⟨k, hk, rfl, hrow, hbel⟩ := hrel
      by_cases hlt : k < N.length
      · obtain ⟨a, rfl, hx⟩ := (hI3.below hbel).at_ hlt
        have hb := hN _ (List.getElem_mem hlt)
        have hlen9 := binL_len (N.take k)
        obtain ⟨x, ex⟩ : ∃ x, N[k] = x := ⟨_, rfl⟩
        have htk := takeI_snoc hlt
        rw [ex] at hx hb htk
        have HTK := Lib.hid htk
        clear ex htk
        by_cases h8 : 8 < x
        · have hd : decide (8 < x) = true := by simp [h8]
          have hbu := @bump_set (N.take k) x 0 (by rw [if_pos h8]) (by omega)
          obtain ⟨hc, hf⟩ := hrow.cell (k := 0) (by omega)
          have hbd := binL_bd (N.take k) 0
          rw [List.getD_eq_getElem?_getD, List.getElem?_eq_getElem (by omega), Option.getD_some] at hbd
          have hn := hrow.set_ 0 ((binL (N.take k))[0]'(by omega) + 1)
          rw [hbu, ← HTK.out] at hn
          have hbd2 : (N.take k).length ≤ 4000 := by simp; omega
          obtain ⟨y, ey⟩ : ∃ y, (binL (N.take k))[0]'(by omega) = y := ⟨_, rfl⟩
          rw [ey] at hc hbd hn
          clear ey hbu
          go_wp2_with fail
          refine ⟨⟨k + 1, by omega, by go_num, hn, hbel.setCell (p := ⟨w3.heap.size, 0, none⟩) (Nat.le_refl _) _⟩, by simp [intOf]; omega⟩
        · have hd : decide (8 < x) = false := by simp; omega
          obtain ⟨xn, rfl⟩ : ∃ xn : Nat, x = (xn : Int) := ⟨x.toNat, by omega⟩
          have hbu := @bump_set (N.take k) xn xn (by rw [if_neg h8]; simp) (by omega)
          obtain ⟨hc, hf⟩ := hrow.cell (k := xn) (by omega)
          have hbd := binL_bd (N.take k) xn
          rw [List.getD_eq_getElem?_getD, List.getElem?_eq_getElem (by omega), Option.getD_some] at hbd
          have hn := hrow.set_ xn ((binL (N.take k))[xn]'(by omega) + 1)
          rw [hbu, ← HTK.out] at hn
          have hbd2 : (N.take k).length ≤ 4000 := by simp; omega
          have hx9 : (xn : Int) < 9 := by omega
          have hx9' : xn < 9 := by omega
          obtain ⟨y, ey⟩ : ∃ y, (binL (N.take k))[xn]'(by omega) = y := ⟨_, rfl⟩
          rw [ey] at hc hbd hn
          clear ey hbu
          go_wp2_with fail
          refine ⟨⟨k + 1, by omega, by go_num, hn, hbel.setCell (p := ⟨w3.heap.size, xn, none⟩) (Nat.le_refl _) _⟩, by simp [intOf]; omega⟩
      · rw [List.take_of_length_le (by omega)] at hrow
        go_wp2_with fail
        go_returns
        have hl9 := binL_len N
        exact ⟨some ⟨w3.heap.size, 0, none⟩, 9, by rw [RN.out, RC.out, hl9]; rfl, by rw [RN.out]; exact OwnS.of_row hrow hw3.size, below_st hw3 hbel (Nat.le_refl _)⟩
set_option maxHeartbeats 1000000 in
set_option maxRecDepth 20000 in
theorem impl_GapCounts (c : Clk) (cf f : Int) (p : Option Addr) (l : List Int) (cap : Nat) (w : World) (hI : IntsAt w p l) (hl : l.length ≤ 1048576) :
    Calls Try.prog 47 #[.agg #[.int .i64 cf, .int .i64 f, .slice p l.length cap], c.val] w fun e w' => ∃ q dq, e = .returned (.tuple #[.slice q (gapV c cf f l).length dq, .int .i64 (runCode c cf f l)]) ∧ OwnS w' w.heap.size q (gapV c cf f l) ∧ Below w.heap.size w w' := by
  have hrun := impl_runClock c cf f p l cap
  unfold Clk.val at hrun ⊢
  by_cases h1 : (fluxOk cf f l && c.valid) = true ∧ runOk c f l = true
  · obtain ⟨h1, hr⟩ := h1
    have RN : Hid (gapV c cf f l = binL (runNs c f l)) := Lib.hid (by unfold gapV; rw [h1, hr]; rfl)
    have RC : Hid (runCode c cf f l = 0) := Lib.hid (by unfold runCode; rw [h1, hr]; rfl)
    have EN : Hid (cNs c cf f l = runNs c f l) := Lib.hid (by unfold cNs; rw [h1]; rfl)
    rw [Bool.and_eq_true] at h1
    have NB := Lib.hid (runNs_bd (c := c) h1.1 h1.2)
    have NL : Hid ((runNs c f l).length ≤ 4000) := Lib.hid (Nat.le_trans (runNs_len c f l) (fluxOk_bd h1.1).2.1.2)
    clear h1 hr
    go_enter Try.func47, Try.ntmps47
    go_wp2_with fail
    refine (hrun _ ((hI.alloc _).alloc _) hl).mono ?_
    rintro e w3 ⟨q, dq, r, dr, rfl, S1, S2, hb⟩
    have hw3 : Below w.heap.size w w3 := ((Below.refl _ _).alloc (Nat.le_refl _) _).trans ((((Below.refl _ _).alloc (Nat.le_refl _) _).trans (hb.mono (by simp))).mono (by simp))
    rw [EN.out] at S1
    rw [EN.out, RC.out]
    have hI3 := S1.ints
    have hN := NB.out
    have hNl := NL.out
    generalize runNs c f l = N at *
    have hmk := make9 w3
    have G0 := RowI.made w3 9
    have hg0 : Below w3.heap.size w3 (w3.alloc (.cells (madeCells #[.int .i64 0] 9) 2)) := (Below.refl _ _).alloc (Nat.le_refl _) _
    go_wp2_with fail
    clear hmk
    generalize w3.alloc (.cells (madeCells #[.int .i64 0] 9) 2) = w4 at G0 hg0 ⊢
    go_loopw [25] (fun i wr => ∃ k : Nat, k ≤ N.length ∧ i = .int .i64 k ∧ RowI wr w3.heap.size (binL (N.take k)) ∧ Below w3.heap.size w3 wr) (fun i _ => N.length - (intOf i).toNat)
    case atStart => exact ⟨0, Nat.zero_le _, rfl, G0, hg0⟩
    case round =>
      obtain ⟨k, hk, rfl, hrow, hbel⟩ := hrel
      by_cases hlt : k < N.length
      · obtain ⟨a, rfl, hx⟩ := (hI3.below hbel).at_ hlt
        have hb := hN _ (List.getElem_mem hlt)
        have hlen9 := binL_len (N.take k)
        obtain ⟨x, ex⟩ : ∃ x, N[k] = x := ⟨_, rfl⟩
        have htk := takeI_snoc hlt
        rw [ex] at hx hb htk
        have HTK := Lib.hid htk
        clear ex htk
        by_cases h8 : 8 < x
        · have hd : decide (8 < x) = true := by simp [h8]
          have hbu := @bump_set (N.take k) x 0 (by rw [if_pos h8]) (by omega)
          obtain ⟨hc, hf⟩ := hrow.cell (k := 0) (by omega)
          have hbd := binL_bd (N.take k) 0
          rw [List.getD_eq_getElem?_getD, List.getElem?_eq_getElem (by omega), Option.getD_some] at hbd
          have hn := hrow.set_ 0 ((binL (N.take k))[0]'(by omega) + 1)
          rw [hbu, ← HTK.out] at hn
          have hbd2 : (N.take k).length ≤ 4000 := by simp; omega
          obtain ⟨y, ey⟩ : ∃ y, (binL (N.take k))[0]'(by omega) = y := ⟨_, rfl⟩
          rw [ey] at hc hbd hn
          clear ey hbu
          go_wp2_with fail
          refine ⟨⟨k + 1, by omega, by go_num, hn, hbel.setCell (p := ⟨w3.heap.size, 0, none⟩) (Nat.le_refl _) _⟩, by simp [intOf]; omega⟩
        · have hd : decide (8 < x) = false := by simp; omega
          obtain ⟨xn, rfl⟩ : ∃ xn : Nat, x = (xn : Int) := ⟨x.toNat, by omega⟩
          have hbu := @bump_set (N.take k) xn xn (by rw [if_neg h8]; simp) (by omega)
          obtain ⟨hc, hf⟩ := hrow.cell (k := xn) (by omega)
          have hbd := binL_bd (N.take k) xn
          rw [List.getD_eq_getElem?_getD, List.getElem?_eq_getElem (by omega), Option.getD_some] at hbd
          have hn := hrow.set_ xn ((binL (N.take k))[xn]'(by omega) + 1)
          rw [hbu, ← HTK.out] at hn
          have hbd2 : (N.take k).length ≤ 4000 := by simp; omega
          have hx9 : (xn : Int) < 9 := by omega
          have hx9' : xn < 9 := by omega
          obtain ⟨y, ey⟩ : ∃ y, (binL (N.take k))[xn]'(by omega) = y := ⟨_, rfl⟩
          rw [ey] at hc hbd hn
          clear ey hbu
          go_wp2_with fail
          refine ⟨⟨k + 1, by omega, by go_num, hn, hbel.setCell (p := ⟨w3.heap.size, xn, none⟩) (Nat.le_refl _) _⟩, by simp [intOf]; omega⟩
      · rw [List.take_of_length_le (by omega)] at hrow
        go_wp2_with fail
        go_returns
        have hl9 := binL_len N
        exact ⟨some ⟨w3.heap.size, 0, none⟩, 9, by rw [RN.out, RC.out, hl9]; rfl, by rw [RN.out]; exact OwnS.of_row hrow hw3.size, below_st hw3 hbel (Nat.le_refl _)⟩
  · have hcode : runCode c cf f l = 1 ∨ runCode c cf f l = 10 := by
      unfold runCode
      cases h2 : (fluxOk cf f l && c.valid)
      · exact .inl rfl
      · cases h3 : runOk c f l
        · exact .inr rfl
        · exact absurd ⟨h2, h3⟩ h1
    have RN : Hid (gapV c cf f l = []) := by
      apply Lib.hid
      unfold gapV
      cases h2 : (fluxOk cf f l && c.valid)
      · rfl
      · cases h3 : runOk c f l
        · rfl
        · exact absurd ⟨h2, h3⟩ h1
    clear h1
    obtain ⟨x, ex⟩ : ∃ x, runCode c cf f l = x := ⟨_, rfl⟩
    have EX := Lib.hid ex
    rw [ex] at hcode
    have hd : (x != 0) = true := by simp; omega
    clear ex
    go_enter Try.func47, Try.ntmps47
    go_wp2_with fail
    refine (hrun _ ((hI.alloc _).alloc _) hl).mono ?_
    rintro e w3 ⟨q, dq, r, dr, rfl, S1, S2, hb⟩
    have hw3 : Below w.heap.size w w3 := ((Below.refl _ _).alloc (Nat.le_refl _) _).trans ((((Below.refl _ _).alloc (Nat.le_refl _) _).trans (hb.mono (by simp))).mono (by simp))
    rw [EX.out]
    go_wp2_with fail
    go_returns
    exact ⟨none, 0, by rw [RN.out, EX.out]; rfl, by rw [RN.out]; exact OwnS.nil_ _ _ _, hw3⟩
end Go.Proofs.Ytdoaoeenmfnjhaa
