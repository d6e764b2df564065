/- Weak areas: plain; a2Same; the draw. -/
import Derived.Test.YtfdcainjppljhaaWeakW
import Derived.Test.YtfdcainjppljhaaDrSpW
import Derived.Test.YtfdcainjppljhaaA2W
namespace Go.Proofs.Ytfdcainjppljhaa
open Go.RowKit
set_option linter.unusedVariables false
theorem we_zero {c f : Int} {l : List Int} {a b : Int} {t : List Int} (h : weE c f l a b t = 0) : fluxOk c f l = true ∧ spanOk a b t = true ∧ weV c f l a b t = true ∧ weT f l a b t ≠ [] ∧ timesOk (weT f l a b t) l.sum c = true := by
  unfold weE at h
  cases h1 : weOk c f l a b t
  · rw [h1] at h; simp at h
  · rw [h1] at h
    cases h2 : weIn l b
    · rw [h2] at h; simp at h
    · rw [h2] at h
      simp only [if_true] at h
      unfold tmE at h
      cases h3 : (weT f l a b t).isEmpty
      · rw [h3] at h
        cases h4 : timesOk (weT f l a b t) l.sum c
        · rw [h4] at h; simp at h
        · have hw := h1
          unfold weOk at hw
          rw [Bool.and_eq_true] at hw
          refine ⟨hw.1, hw.2, by unfold weV; rw [h1, h2]; rfl, fun e => by rw [e] at h3; simp at h3, rfl⟩
      · rw [h3] at h; simp at h
theorem we_flux {c f : Int} {l : List Int} {a b : Int} {t : List Int} (h : weE c f l a b t = 0) : fxC (weV c f l a b t) (weT f l a b t) l.sum c = c ∧ fxF (weV c f l a b t) (weT f l a b t) l.sum c = (weT f l a b t).headD 0 ∧ fxL (weV c f l a b t) (weT f l a b t) l.sum c = gapsT (weT f l a b t) l.sum := by
  obtain ⟨-, -, hv, hne, ht⟩ := we_zero h
  have hb : tmB (weT f l a b t) l.sum c = true := by
    unfold tmB
    rw [ht]
    cases e : (weT f l a b t).isEmpty
    · rfl
    · rw [List.isEmpty_iff] at e; exact absurd e hne
  unfold fxC fxF fxL tmC tmF tmL
  rw [hv, hb]
  exact ⟨rfl, rfl, rfl⟩
theorem chg_diff6 (g : Int) : ∀ (l : List Int) (a : Int), (∀ x ∈ a :: l, 0 ≤ x ∧ x ≤ 100000000) → chgL a (diffW (a :: l) ++ [g]) = a :: l
  | [], a, _ => rfl
  | b :: l, a, h => by
    have h1 := h a (by simp)
    have h2 := h b (by simp)
    show a :: chgL (a + IntKind.i64.wrap (b - a)) (diffW (b :: l) ++ [g]) = _
    rw [show IntKind.i64.wrap (b - a) = b - a from IntWalk.i64_in _ (by omega), show a + (b - a) = b by omega, chg_diff6 g l b fun x hx => h x (List.mem_cons_of_mem _ hx)]
theorem times_flux {T : List Int} {rev c : Int} (hne : T ≠ []) (h : timesOk T rev c = true) : fluxOk c (T.headD 0) (gapsT T rev) = true ∧ (gapsT T rev).sum = rev ∧ chgL (T.headD 0) (gapsT T rev) = T := by
  unfold timesOk at h
  simp only [Bool.and_eq_true] at h
  obtain ⟨h1, h2, h3⟩ := h
  have hr := inB_iff.1 h1
  have hm := risesB_mem h2
  have hh := hm _ (headD_mem hne)
  have hl := hm _ (getLastD_mem' hne)
  refine ⟨h3, ?_, ?_⟩
  · unfold gapsT
    rw [List.sum_append, diffW_sum T hne (fun x hx => by have := hm x hx; omega)]
    rw [show IntKind.i64.wrap (rev - T.getLastD 0) = rev - T.getLastD 0 from IntWalk.i64_in _ (by omega), show IntKind.i64.wrap (rev - T.getLastD 0 + T.headD 0) = rev - T.getLastD 0 + T.headD 0 from IntWalk.i64_in _ (by omega)]
    simp only [List.sum_cons, List.sum_nil]
    omega
  · cases T with
    | nil => exact absurd rfl hne
    | cons a l => exact chg_diff6 _ l a (fun x hx => by have := hm x hx; omega)
set_option maxHeartbeats 400000 in
theorem laws_a2Same (p q : Option Addr) (l m : List Int) (cap dap : Nat) (w : World) (hI : IntsAt w p l) (hJ : IntsAt w q m) (hl : l.length ≤ 9000000) :
    Calls Try.prog 19 #[.slice p l.length cap, .slice q m.length dap] w fun e w' => e = .returned (.bool (decide (l = m))) ∧ Below w.heap.size w w' := by
  by_cases hlen : l.length = m.length
  · go_enter Try.func19, Try.ntmps19
    go_wp2
    go_loopw [5] (fun i wr => ∃ k : Nat, k ≤ l.length ∧ i = .int .i64 k ∧ l.take k = m.take k ∧ Below w.heap.size w wr) (fun i _ => l.length - (intOf i).toNat)
    case atStart => exact ⟨0, Nat.zero_le _, rfl, rfl, Below.refl _ _⟩
    case round =>
      obtain ⟨k, hk, rfl, heq, hbel⟩ := hrel
      by_cases hlt : k < l.length
      · have hlm : k < m.length := by omega
        obtain ⟨a, rfl, hc⟩ := (hI.below hbel).at_ hlt
        obtain ⟨b, rfl, hd⟩ := (hJ.below hbel).at_ hlm
        have H := Lib.hid hlen
        clear hlen
        by_cases hxy : l[k] = m[k]
        · have hb : (l[k] != m[k]) = false := by simp [hxy]
          have H2 := Lib.hid hxy
          clear hxy
          go_wp2
          go_region
          go_wp2
          have hstep : l.take (k + 1) = m.take (k + 1) := by rw [takeI_snoc hlt, takeI_snoc hlm, heq, H2.out]
          exact ⟨⟨k + 1, by omega, by go_num, hstep, hbel.drew⟩, by simp [intOf]; omega⟩
        · have hb : (l[k] != m[k]) = true := by simp [hxy]
          have H2 := Lib.hid hxy
          clear hxy
          go_wp2
          go_region
          go_wp2
          go_ret
          refine ⟨ret_bool (Eq.symm (decide_eq_false fun e => H2.out (by simp only [e]))), hbel.drew⟩
      · rw [List.take_of_length_le (by omega), List.take_of_length_le (by omega)] at heq
        have H := Lib.hid heq
        clear heq
        go_wp2
        go_ret
        exact ⟨ret_bool (by simp [H.out]), hbel⟩
  · have hd : (l.length : Int) ≠ (m.length : Int) := by omega
    have hd2 : ((l.length : Int) != (m.length : Int)) = true := by simp [hd]
    have H := Lib.hid hlen
    clear hlen hd
    go_enter Try.func19, Try.ntmps19
    go_wp2
    go_ret
    exact ⟨ret_bool (Eq.symm (decide_eq_false fun e => H.out (by rw [e]))), Below.refl _ _⟩
set_option maxHeartbeats 4000000 in
set_option maxRecDepth 20000 in
theorem spec_DrawWeakenFlux (p : Option Addr) (l : List UInt8) (cap : Nat) (w : World) (hI : BytesAt w p l) (hl : l.length ≤ 1048576) :
    Calls Try.prog 16 #[.slice p l.length cap] w fun e w' => ∃ (cf f : Int) (q : Option Addr) (m : List Int) (d : Nat) (x y : Int) (qt : Option Addr) (t : List Int) (dt : Nat), e = .returned (.tuple #[.agg #[.int .i64 cf, .int .i64 f, .slice q m.length d], .agg #[.int .i64 x, .int .i64 y, .slice qt t.length dt]]) ∧ m.length ≤ 84 ∧ t.length ≤ 10 ∧ (qt = none → dt = 0) ∧ OwnS w' w.heap.size q m ∧ OwnS w' w.heap.size qt t ∧ Below w.heap.size w w' := by
  have R0 := (Blk.new w 26 #[.int .i64 0, .int .i64 0, .slice none 0 0]).alloc' (.cells #[.int .i64 0, .int .i64 0, .slice none 0 0] 36)
  have P0 := Blk.new (w.alloc (.cells #[.int .i64 0, .int .i64 0, .slice none 0 0] 26)) 36 #[.int .i64 0, .int .i64 0, .slice none 0 0]
  have esz : (w.alloc (.cells #[.int .i64 0, .int .i64 0, .slice none 0 0] 26)).heap.size = w.heap.size + 1 := by simp
  rw [esz] at P0
  have W0 : Below w.heap.size w ((w.alloc (.cells #[.int .i64 0, .int .i64 0, .slice none 0 0] 26)).alloc (.cells #[.int .i64 0, .int .i64 0, .slice none 0 0] 36)) := ((Below.refl _ _).alloc (Nat.le_refl _) _).alloc (by simp) _
  have z0 : w.heap.size + 2 ≤ ((w.alloc (.cells #[.int .i64 0, .int .i64 0, .slice none 0 0] 26)).alloc (.cells #[.int .i64 0, .int .i64 0, .slice none 0 0] 36)).heap.size := by simp
  clear esz
  go_enter Try.func16, Try.ntmps16
  go_wp2_with fail
  generalize (w.alloc (.cells #[.int .i64 0, .int .i64 0, .slice none 0 0] 26)).alloc (.cells #[.int .i64 0, .int .i64 0, .slice none 0 0] 36) = w0 at R0 P0 W0 z0 ⊢
  refine (spec_l00From p l cap _ (hI.below W0) hl).mono ?_
  rintro e w1 ⟨rfl, hS1, hb1⟩
  have z1 := hb1.size
  replace R0 := R0.keep hb1
  replace P0 := P0.keep hb1
  replace W0 := below_st W0 hb1 (Nat.le_refl _)
  go_wp2_with fail
  obtain ⟨bb, ebb⟩ : ∃ bb, w0.heap.size = bb := ⟨_, rfl⟩
  rw [ebb] at hS1 z0 z1 ⊢
  have hbl := hS1.lt
  refine (src_l02DrawFlux bb 0 _ hS1 (by omega)).mono ?_
  rintro e w2 ⟨cf, f, q, m, d, rfl, hq, hm, hS2, ha2⟩
  have z2 := ha2.size
  replace R0 := R0.asides ha2 (fun e => by injection e with e; omega)
  replace P0 := P0.asides ha2 (fun e => by injection e with e; omega)
  replace W0 : Below w.heap.size w w2 := W0.trans (ha2.below (by omega) (fun g e => by injection e with e; omega))
  have BF := Blk.new w2 26 #[.int .i64 cf, .int .i64 f, .slice q m.length d]
  replace R0 := R0.alloc' (.cells #[.int .i64 cf, .int .i64 f, .slice q m.length d] 26)
  replace P0 := P0.alloc' (.cells #[.int .i64 cf, .int .i64 f, .slice q m.length d] 26)
  replace hq := hq.below ((Below.refl _ w2).alloc (Nat.le_refl _) (.cells #[.int .i64 cf, .int .i64 f, .slice q m.length d] 26))
  replace hS2 := hS2.below ((Below.refl _ w2).alloc (Nat.le_refl _) (.cells #[.int .i64 cf, .int .i64 f, .slice q m.length d] 26))
  replace W0 := W0.alloc W0.size (.cells #[.int .i64 cf, .int .i64 f, .slice q m.length d] 26)
  go_wp2_with fail
  obtain ⟨bf, ebf⟩ : ∃ bf, w2.heap.size = bf := ⟨_, rfl⟩
  generalize w2.alloc (.cells #[.int .i64 cf, .int .i64 f, .slice q m.length d] 26) = w3 at R0 P0 BF hq hS2 W0 ⊢
  rw [ebf] at BF z2 ⊢
  obtain ⟨f0, f1, f2⟩ := BF.cell3
  have fl := BF.lt
  have zw3 := W0.size
  go_region_with (go_at_call 58; refine (src_l04DrawSpan bb (0 + 3000) 0 _ (by exact hS2) (by omega) (by omega)).mono ?_; rintro e w4 ⟨x, y, qt, t, dt, rfl, hqt, hqd, htl, hS4, ha4⟩; have BF4 : Blk w4 bf 26 #[.int .i64 cf, .int .i64 f, .slice q m.length d] := Blk.asides (w := w3.drew) (by exact BF) ha4 (fun e => by injection e with e; omega); have R4 : Blk w4 w.heap.size 26 #[.int .i64 0, .int .i64 0, .slice none 0 0] := Blk.asides (w := w3.drew) (by exact R0) ha4 (fun e => by injection e with e; omega); have P4 : Blk w4 (w.heap.size + 1) 36 #[.int .i64 0, .int .i64 0, .slice none 0 0] := Blk.asides (w := w3.drew) (by exact P0) ha4 (fun e => by injection e with e; omega); obtain ⟨g0, g1, g2⟩ := BF4.cell3; obtain ⟨r0, r1, r2⟩ := R4.cell3; obtain ⟨p0, p1, p2⟩ := P4.cell3; have rf := R4.frozen; have pf := P4.frozen; have rl := R4.lt; have pl := P4.lt)
  all_goals
    have W4 : Below w.heap.size w w4 := W0.drew.trans (ha4.below (by exact zw3) (fun g e => by injection e with e; omega))
    have hq4 : OwnS w4 w1.heap.size q m := OwnS.asides (w := w3.drew) (by exact hq) ha4 (fun hl g hp e => by injection e with e; have := (hq.lt hl hp).1; omega)
    have R5 := R4.set3 (.int .i64 cf) (.int .i64 f) (.slice q m.length d)
    have P5 := ((P4.off (g' := w.heap.size) (by omega) 0 (.int .i64 cf)).off (g' := w.heap.size) (by omega) 1 (.int .i64 f)).off (g' := w.heap.size) (by omega) 2 (.slice q m.length d)
    have P6 := P5.set3 (.int .i64 x) (.int .i64 y) (.slice qt t.length dt)
    have R6 := ((R5.off (g' := w.heap.size + 1) (by omega) 0 (.int .i64 x)).off (g' := w.heap.size + 1) (by omega) 1 (.int .i64 y)).off (g' := w.heap.size + 1) (by omega) 2 (.slice qt t.length dt)
    obtain ⟨e0, e1, e2⟩ := R6.cell3
    obtain ⟨h0, h1, h2⟩ := P6.cell3
    obtain ⟨i0, i1, i2⟩ := P5.cell3
    have pf5 := P5.frozen
    have hz4 := ha4.size
    go_wp2_with fail
    refine bodyPost_ret (v := .tuple #[.agg #[.int .i64 cf, .int .i64 f, .slice q m.length d], .agg #[.int .i64 x, .int .i64 y, .slice qt t.length dt]]) (by simp [results, Try.results16, go_sem, e0, e1, e2, h0, h1, h2]) rfl ?_
    have b1 : w.heap.size < w1.heap.size := by omega
    have b2 : w.heap.size + 1 < w1.heap.size := by omega
    have b3 : w.heap.size < w3.drew.heap.size := by show w.heap.size < w3.heap.size; omega
    have b4 : w.heap.size + 1 < w3.drew.heap.size := by show w.heap.size + 1 < w3.heap.size; omega
    exact ⟨cf, f, q, m, d, x, y, qt, t, dt, rfl, hm, htl, hqd, ((((((hq4.offS (g' := w.heap.size) b1 0 _).offS (g' := w.heap.size) b1 1 _).offS (g' := w.heap.size) b1 2 _).offS (g' := w.heap.size + 1) b2 0 _).offS (g' := w.heap.size + 1) b2 1 _).offS (g' := w.heap.size + 1) b2 2 _).mono (by omega), ((((((hqt.offS (g' := w.heap.size) b3 0 _).offS (g' := w.heap.size) b3 1 _).offS (g' := w.heap.size) b3 2 _).offS (g' := w.heap.size + 1) b4 0 _).offS (g' := w.heap.size + 1) b4 1 _).offS (g' := w.heap.size + 1) b4 2 _).mono (by omega),
      ((((((W4.setCell (p := ⟨w.heap.size, 0, none⟩) (Nat.le_refl _) _).setCell (p := ⟨w.heap.size, 1, none⟩) (Nat.le_refl _) _).setCell (p := ⟨w.heap.size, 2, none⟩) (Nat.le_refl _) _).setCell (p := ⟨w.heap.size + 1, 0, none⟩) (Nat.le_succ _) _).setCell (p := ⟨w.heap.size + 1, 1, none⟩) (Nat.le_succ _) _).setCell (p := ⟨w.heap.size + 1, 2, none⟩) (Nat.le_succ _) _)⟩
end Go.Proofs.Ytfdcainjppljhaa
