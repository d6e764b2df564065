/- ValidNoise: contracts. -/
import Derived.Test.YtfdcainjppljhaaVsW
import Derived.Shelf.SlSortCmp.QuietGrown
namespace Go.Proofs.Ytfdcainjppljhaa
open Go.RowKit Go.Sort
set_option linter.unusedVariables false
set_option maxHeartbeats 1000000 in
set_option maxRecDepth 20000 in
theorem impl_risesX (p : Option Addr) (l : List Int) (cap : Nat) (lo hi : Int) (w : World) (hI : IntsAt w p l) (hl : l.length ≤ 1048576) :
    Calls Try.prog 88 #[.slice p l.length cap, .int .i64 lo, .int .i64 hi] w fun e w' => e = .returned (.bool (risesB l lo hi)) ∧ w' = w := by
  go_enter Try.func88, Try.ntmps88
  go_wp2_with fail
  go_loopw [11] (fun i wr => ∃ k : Nat, k ≤ l.length ∧ i = .int .i64 k ∧ risesK l lo hi k ∧ wr = w) (fun i _ => l.length - (intOf i).toNat)
  case atStart => exact ⟨0, Nat.zero_le _, rfl, fun i _ h => absurd h (Nat.not_lt_zero _), rfl⟩
  case round =>
    obtain ⟨k, hk, rfl, hr, rfl⟩ := hrel
    by_cases hlt : k < l.length
    · obtain ⟨a, rfl, hx⟩ := hI.at_ hlt
      have hno := @risesB_no l lo hi k hlt
      have HR := Lib.hid hr
      clear hr
      obtain ⟨x, ex⟩ : ∃ x, l[k] = x := ⟨_, rfl⟩
      rw [ex] at hx hno
      have EX := Lib.hid ex
      have HN := Lib.hid hno
      clear ex hno
      cases hin : inB x lo hi
      · have HI := Lib.hid hin
        clear hin
        go_wp2_with (go_at_call 48; refine (within_any _ _ _ _).mono ?_; rintro e w' ⟨rfl, rfl⟩; try rw [HI.out])
        go_ret
        exact ⟨ret_bool (HN.out (.inl HI.out)).symm, rfl⟩
      · have HI := Lib.hid hin
        clear hin
        by_cases h0 : k = 0
        · subst h0
          have hx0 : wr.cell? a = some (.int .i64 x) := by rw [Addr.add_zero'] at hx; exact hx
          go_wp2_with (go_at_call 48; refine (within_any _ _ _ _).mono ?_; rintro e w' ⟨rfl, rfl⟩; try rw [HI.out])
          refine ⟨⟨1, by omega, rfl, ?_, trivial⟩, by simp [intOf]; omega⟩
          intro i h hi1
          have : i = 0 := by omega
          subst this
          exact ⟨by rw [EX.out]; exact HI.out, fun h => absurd h (by omega)⟩
        · obtain ⟨a', ha', hy⟩ := hI.at_ (k := k - 1) (by omega)
          cases ha'
          obtain ⟨y, ey⟩ : ∃ y, l[k - 1]'(by omega) = y := ⟨_, rfl⟩
          rw [ey] at hy
          have EY := Lib.hid ey
          clear ey
          have g0 : decide (0 < (k : Int)) = true := by simp; omega
          have g1 : decide (0 < k) = true := by simp; omega
          have i0 : 1 ≤ (k : Int) := by omega
          have i1 : 0 ≤ (k : Int) - 1 := by omega
          have i2 : (k : Int) - 1 < (l.length : Int) := by omega
          have q1 : IntKind.i64.wrap ((k : Int) - 1) = (k : Int) - 1 := IntWalk.i64_in _ (by omega)
          by_cases hyx : x ≤ y
          · have hd : decide (x ≤ y) = true := by simp [hyx]
            go_wp2_with (go_at_call 48; refine (within_any _ _ _ _).mono ?_; rintro e w' ⟨rfl, rfl⟩; try rw [HI.out])
            go_ret
            exact ⟨ret_bool (HN.out (.inr ⟨by omega, by rw [EY.out]; omega⟩)).symm, rfl⟩
          · have hd : decide (x ≤ y) = false := by simp; omega
            go_wp2_with (go_at_call 48; refine (within_any _ _ _ _).mono ?_; rintro e w' ⟨rfl, rfl⟩; try rw [HI.out])
            refine ⟨⟨k + 1, by omega, by go_num, ?_, trivial⟩, by simp [intOf]; omega⟩
            intro i h hi1
            by_cases e : i = k
            · subst e
              exact ⟨by rw [EX.out]; exact HI.out, fun _ => by rw [EX.out, EY.out]; omega⟩
            · exact HR.out i h (by omega)
    · have e : k = l.length := by omega
      subst e
      have HR := Lib.hid hr
      clear hr
      go_wp2_with fail
      go_ret
      exact ⟨ret_bool (risesK_all.2 HR.out).symm, rfl⟩
set_option maxHeartbeats 1000000 in
theorem impl_validSpanX (a b : Int) (p : Option Addr) (t : List Int) (cap : Nat) (w : World) (hI : IntsAt w p t) (hl : t.length ≤ 1048576) :
    Calls Try.prog 59 #[.agg #[.int .i64 a, .int .i64 b, .slice p t.length cap]] w fun e w' => e = .returned (.bool (spanOk a b t)) ∧ w' = w.alloc (.cells #[.int .i64 a, .int .i64 b, .slice p t.length cap] 36) := by
  have hA := (Below.refl w.heap.size w).alloc (Nat.le_refl _) (.cells #[.int .i64 a, .int .i64 b, .slice p t.length cap] 36)
  obtain h1 | h1 := (Bool.eq_false_or_eq_true (inB a 0 b)).symm
  · have H1 := Lib.hid h1
    have HV : Hid (spanOk a b t = false) := Lib.hid (by unfold spanOk; rw [h1]; rfl)
    clear h1
    go_enter Try.func59, Try.ntmps59
    go_wp2_with (go_at_call 48; refine (within_any _ _ _ _).mono ?_; rintro e w' ⟨rfl, rfl⟩; rw [H1.out])
    go_ret
    exact ⟨ret_bool (by rw [HV.out]), rfl⟩
  have hb := inB_iff.1 h1
  by_cases h2 : b ≤ 2000000
  · have q1 : IntKind.i64.wrap (b - 1) = b - 1 := IntWalk.i64_in _ (by omega)
    have H1 := Lib.hid h1
    have HV : Hid (spanOk a b t = risesB t a (b - 1)) := Lib.hid (by unfold spanOk; rw [h1, decide_eq_true h2]; rfl)
    clear h1
    go_enter Try.func59, Try.ntmps59
    go_wp2_with (first | (go_at_call 48; refine (within_any _ _ _ _).mono ?_; rintro e w' ⟨rfl, rfl⟩; rw [H1.out]) | (go_at_call 88; refine (impl_risesX p t cap a (b - 1) _ (hI.below hA) hl).mono ?_; rintro e w1 ⟨rfl, rfl⟩))
    go_ret
    exact ⟨ret_bool (by rw [HV.out]), rfl⟩
  · have H1 := Lib.hid h1
    have HV : Hid (spanOk a b t = false) := Lib.hid (by unfold spanOk; rw [h1, decide_eq_false h2]; rfl)
    clear h1
    go_enter Try.func59, Try.ntmps59
    go_wp2_with (go_at_call 48; refine (within_any _ _ _ _).mono ?_; rintro e w' ⟨rfl, rfl⟩; rw [H1.out])
    go_ret
    exact ⟨ret_bool (by rw [HV.out]), rfl⟩
theorem below_grow (w : World) (n : Nat) (os : Array Obj) : Below w.heap.size w (grow (w.drewN n) os) :=
  ⟨rfl, rfl, rfl, by simp, fun k hk => heap_grow_old (w.drewN n) os hk⟩
set_option maxHeartbeats 4000000 in
set_option maxRecDepth 20000 in
theorem impl_ValidNoise (d : Int) (pj pd ps : Option Addr) (j e : List Int) (L : List Flx) (cj cd cs : Nat) (w : World) (h1 : IntsAt w pj j) (h2 : IntsAt w pd e) (h3 : SpansAt w ps L) (hj : j.length ≤ 1048576) (he : e.length ≤ 1048576) (hl : L.length ≤ 1048576) (hg : ∀ s ∈ L, s.g.l.length ≤ 1048576) :
    Calls Try.prog 64 #[.agg #[.int .i64 d, .slice pj j.length cj, .slice pd e.length cd, .slice ps L.length cs]] w fun e' w' => e' = .returned (.bool (nzB d j e L)) ∧ Below w.heap.size w w' := by
  have B0 := Blk.new w 53 #[.int .i64 d, .slice pj j.length cj, .slice pd e.length cd, .slice ps L.length cs]
  have W0 := (Below.refl w.heap.size w).alloc (Nat.le_refl _) (.cells #[.int .i64 d, .slice pj j.length cj, .slice pd e.length cd, .slice ps L.length cs] 53)
  obtain k1 | k1 := (Bool.eq_false_or_eq_true (inB d (-100) 100)).symm
  · have H1 := Lib.hid k1
    have HV : Hid (nzB d j e L = false) := Lib.hid (by unfold nzB; rw [k1]; rfl)
    clear k1
    go_enter Try.func64, Try.ntmps64
    go_wp2_with fail
    refine (impl_validDrift d _).mono ?_
    rintro e' w1 ⟨rfl, hb1⟩
    rw [H1.out]
    have W1 := below_st W0 hb1 (Nat.le_refl _)
    go_wp2_with fail
    go_ret
    exact ⟨ret_bool (by rw [HV.out]), W1⟩
  obtain k2 | k2 := (Bool.eq_false_or_eq_true (jitOk j)).symm
  · have H1 := Lib.hid k1
    have H2 := Lib.hid k2
    have HV : Hid (nzB d j e L = false) := Lib.hid (by unfold nzB; rw [k1, k2]; rfl)
    clear k1 k2
    go_enter Try.func64, Try.ntmps64
    go_wp2_with fail
    generalize w.alloc (.cells #[.int .i64 d, .slice pj j.length cj, .slice pd e.length cd, .slice ps L.length cs] 53) = w0 at B0 W0 ⊢
    refine (impl_validDrift d _).mono ?_
    rintro e' w1 ⟨rfl, hb1⟩
    rw [H1.out]
    have B1 := B0.keep hb1
    have W1 := below_st W0 hb1 (Nat.le_refl _)
    obtain ⟨c0, c1, c2, c3⟩ := B1.cell4
    go_wp2_with fail
    refine (impl_validJitter _ _ _ _ (h1.below W1) hj).mono ?_
    rintro e' w2 ⟨rfl, hb2⟩
    rw [H2.out]
    have W2 := below_st W1 hb2 (Nat.le_refl _)
    go_wp2_with fail
    go_ret
    exact ⟨ret_bool (by rw [HV.out]), W2⟩
  have H1 := Lib.hid k1
  have H2 := Lib.hid k2
  obtain k3 | k3 := (Bool.eq_false_or_eq_true (risesB e 0 3999)).symm
  · have H3 := Lib.hid k3
    have HV : Hid (nzB d j e L = false) := Lib.hid (by unfold nzB; rw [k1, k2, k3]; rfl)
    clear k1 k2 k3
    go_enter Try.func64, Try.ntmps64
    go_wp2_with fail
    generalize w.alloc (.cells #[.int .i64 d, .slice pj j.length cj, .slice pd e.length cd, .slice ps L.length cs] 53) = w0 at B0 W0 ⊢
    refine (impl_validDrift d _).mono ?_
    rintro e' w1 ⟨rfl, hb1⟩
    rw [H1.out]
    have B1 := B0.keep hb1
    have W1 := below_st W0 hb1 (Nat.le_refl _)
    obtain ⟨c0, c1, c2, c3⟩ := B1.cell4
    go_wp2_with fail
    refine (impl_validJitter _ _ _ _ (h1.below W1) hj).mono ?_
    rintro e' w2 ⟨rfl, hb2⟩
    rw [H2.out]
    have B2 := B1.keep hb2
    have W2 := below_st W1 hb2 (Nat.le_refl _)
    clear c0 c1 c2 c3
    obtain ⟨c0, c1, c2, c3⟩ := B2.cell4
    go_wp2_with fail
    refine (impl_validDrops _ _ _ _ (h2.below W2) he).mono ?_
    rintro e' w3 ⟨rfl, hb3⟩
    rw [H3.out]
    have W3 := below_st W2 hb3 (Nat.le_refl _)
    go_wp2_with fail
    go_ret
    exact ⟨ret_bool (by rw [HV.out]), W3⟩
  have H3 := Lib.hid k3
  have HN : Hid (nzB d j e L = (decide (L.length ≤ 8) && spsB L)) := Lib.hid (by unfold nzB; rw [k1, k2, k3]; rfl)
  clear k1 k2 k3
  go_enter Try.func64, Try.ntmps64
  go_wp2_with fail
  generalize w.alloc (.cells #[.int .i64 d, .slice pj j.length cj, .slice pd e.length cd, .slice ps L.length cs] 53) = w0 at B0 W0 ⊢
  refine (impl_validDrift d _).mono ?_
  rintro e' w1 ⟨rfl, hb1⟩
  rw [H1.out]
  have B1 := B0.keep hb1
  have W1 := below_st W0 hb1 (Nat.le_refl _)
  obtain ⟨c0, c1, c2, c3⟩ := B1.cell4
  go_wp2_with fail
  refine (impl_validJitter _ _ _ _ (h1.below W1) hj).mono ?_
  rintro e' w2 ⟨rfl, hb2⟩
  rw [H2.out]
  have B2 := B1.keep hb2
  have W2 := below_st W1 hb2 (Nat.le_refl _)
  clear c0 c1 c2 c3
  obtain ⟨c0, c1, c2, c3⟩ := B2.cell4
  go_wp2_with fail
  refine (impl_validDrops _ _ _ _ (h2.below W2) he).mono ?_
  rintro e' w3 ⟨rfl, hb3⟩
  rw [H3.out]
  have B3 := B2.keep hb3
  have W3 := below_st W2 hb3 (Nat.le_refl _)
  clear c0 c1 c2 c3 hb1 hb2 hb3 B0 B1 B2 W0 W1 W2
  obtain ⟨c0, c1, c2, c3⟩ := B3.cell4
  by_cases h8 : L.length ≤ 8
  rotate_left
  · have hd : decide ((8 : Int) < (L.length : Int)) = true := decide_eq_true (by omega)
    go_wp2_with fail
    go_ret
    exact ⟨ret_bool (by rw [HN.out, decide_eq_false h8]; rfl), W3⟩
  have hd : decide ((8 : Int) < (L.length : Int)) = false := decide_eq_false (by omega)
  have HN2 : Hid (nzB d j e L = spsB L) := Lib.hid (by rw [HN.out, decide_eq_true h8]; rfl)
  go_wp2_with fail
  go_loopw [30] (fun i wr => ∃ k : Nat, k ≤ L.length ∧ i = .int .i64 k ∧ Hid (∀ m, m < k → spsG L m = true) ∧ Below w.heap.size w wr ∧ Blk wr w.heap.size 53 #[.int .i64 d, .slice pj j.length cj, .slice pd e.length cd, .slice ps L.length cs]) (fun i _ => L.length - (intOf i).toNat)
  case atStart => exact ⟨0, Nat.zero_le _, rfl, fun m h => absurd h (Nat.not_lt_zero _), W3, B3⟩
  case round =>
    clear c0 c1 c2 c3
    obtain ⟨k, hk, rfl, HA, hbel, hB⟩ := hrel
    by_cases hlt : k < L.length
    · obtain ⟨a, hpa, hab, c0, c1, c2, hIk⟩ := (h3.below hbel).at_ hlt
      have hgl := hg _ (List.getElem_mem hlt)
      have hG : spsG L k = (spanB L[k] && (k == 0 || decide ((L.getD (k - 1) flx0).first ≤ L[k].cell))) := by unfold spsG; rw [getD_flx hlt]
      have hprev : k = 0 ∨ ∃ z, (0 < k ∧ (L.getD (k - 1) flx0).first = z ∧ wr.cell? ⟨(a.add ((k - 1) * 3)).block, (a.add ((k - 1) * 3)).off + 1, none⟩ = some (.int .i64 z)) := by
        rcases Nat.eq_zero_or_pos k with h | h
        · exact .inl h
        · obtain ⟨a', ha', -, -, e1, -⟩ := (h3.below hbel).at_ (k := k - 1) (by omega)
          rw [hpa] at ha'
          injection ha' with ha'
          subst ha'
          exact .inr ⟨_, h, by rw [getD_flx (show k - 1 < L.length by omega)], e1⟩
      subst hpa
      obtain ⟨⟨x, y, ⟨pg, lg, cg⟩⟩, es⟩ : ∃ s, L[k] = s := ⟨_, rfl⟩
      rw [es] at c0 c1 c2 hIk hgl hG
      simp only [Num.val] at c0 c1 c2 hIk hgl
      have HG0 : Hid (spsG L k = (spanOk x y lg && (k == 0 || decide ((L.getD (k - 1) flx0).first ≤ x)))) := Lib.hid hG
      clear hG es
      obtain ⟨b0, b1, b2, b3⟩ := hB.cell4
      have W5 := hbel.alloc hbel.size (.cells #[.int .i64 x, .int .i64 y, .slice pg lg.length cg] 36)
      have B5 := hB.alloc' (.cells #[.int .i64 x, .int .i64 y, .slice pg lg.length cg] 36)
      have V5 := Blk.new wr 36 #[.int .i64 x, .int .i64 y, .slice pg lg.length cg]
      have I5 := hIk.alloc (.cells #[.int .i64 x, .int .i64 y, .slice pg lg.length cg] 36)
      have habw : a.block < wr.heap.size := hab
      have P5 := hprev.imp id fun ⟨z, hz0, hz1, hz2⟩ => (⟨z, hz0, hz1, ((Below.refl wr.heap.size wr).alloc (Nat.le_refl _) (.cells #[.int .i64 x, .int .i64 y, .slice pg lg.length cg] 36)).cell (p := ⟨(a.add ((k - 1) * 3)).block, (a.add ((k - 1) * 3)).off + 1, none⟩) (by show (a.add ((k - 1) * 3)).block < wr.heap.size; rw [Go.ChangeShapes.block_add]; exact hab) |>.trans hz2⟩ : ∃ z, 0 < k ∧ (L.getD (k - 1) flx0).first = z ∧ (wr.alloc (.cells #[.int .i64 x, .int .i64 y, .slice pg lg.length cg] 36)).cell? ⟨(a.add ((k - 1) * 3)).block, (a.add ((k - 1) * 3)).off + 1, none⟩ = some (Value.int .i64 z))
      have ha5 : a.block < (wr.alloc (.cells #[.int .i64 x, .int .i64 y, .slice pg lg.length cg] 36)).heap.size := by simp; omega
      clear hprev
      go_wp2_with fail
      obtain ⟨bw, ebw⟩ : ∃ bw, wr.heap.size = bw := ⟨_, rfl⟩
      generalize wr.alloc (.cells #[.int .i64 x, .int .i64 y, .slice pg lg.length cg] 36) = w5 at W5 B5 V5 I5 P5 ha5 ⊢
      rw [ebw] at V5 ⊢
      clear b0 b1 b2 b3 c0 c1 c2 hIk habw hab ebw
      have hq : ∀ n os, Calls Try.prog 59 #[.agg #[.int .i64 x, .int .i64 y, .slice pg lg.length cg]] (grow (w5.drewN n) os) fun e w'' => e = .returned (.bool (spanOk x y lg)) ∧ ∃ p : GrownBy, w'' = grow (w5.drewN p.n) p.os := fun n os =>
        Calls.grown_of ((impl_validSpanX x y pg lg cg _ (I5.below (below_grow w5 n os)) hgl).mono fun e w' ⟨h, hw⟩ => ⟨h, 0, #[.cells #[.int .i64 x, .int .i64 y, .slice pg lg.length cg] 36], by rw [hw, alloc_eq_grow]; rfl⟩)
      obtain ⟨v0, v1, v2⟩ := V5.cell3
      obtain ⟨n0, n1, n2, n3⟩ := B5.cell4
      have f0 := fun n os => cell_grown (a := ⟨bw, 0, none⟩) V5.lt v0 n os
      have f1 := fun n os => cell_grown (a := ⟨bw, 1, none⟩) V5.lt v1 n os
      have f2 := fun n os => cell_grown (a := ⟨bw, 2, none⟩) V5.lt v2 n os
      have f3 := fun n os => cell_grown (a := ⟨w.heap.size, 3, none⟩) B5.lt n3 n os
      clear v0 v1 v2 n0 n1 n2 n3
      obtain hs | hs := (Bool.eq_false_or_eq_true (spanOk x y lg)).symm
      · have HV : Hid (spsB L = false) := Lib.hid (spsB_no hlt (by rw [HG0.out, hs]; rfl))
        simp only [hs] at hq
        clear hs
        have hmx : Try.prog.follows .mixedOrders = true := by kernel_rfl
        refine wp_region_quiet_grown hmx (by kernel_rfl) ?_
        with_reducible refine wpQuiet_step (fun K hK => ?_)
        go_simp
        with_reducible refine hK _ ?_
        clear hK K
        with_reducible refine wpQuiet_step (fun K hK => ?_)
        go_simp
        apply Exists.intro
        with_reducible refine ⟨fun _ => ?_, hK _ ?_⟩
        with_reducible exact hq _ _
        clear hK K
        repeat ((with_reducible refine wpQuiet_step (fun K hK => ?_)); go_simp; (first | with_reducible refine hK _ ?_ | (rw [if_neg]; rotate_left; exact fun h => nomatch h; with_reducible refine hK _ ?_)); clear hK K)
        with_reducible refine wpQuiet_nil ?_
        intro _ hw'
        obtain ⟨⟨nq, osq⟩, hw''⟩ := hw'
        subst hw''
        have W6 := W5.trans ((below_grow w5 nq osq).mono W5.size)
        go_wp2_with fail
        go_ret
        exact ⟨ret_bool (by rw [HN2.out, HV.out]), W6⟩
      · simp only [hs] at hq
        rcases P5 with hk0 | ⟨z, hkp, hzf, hzc⟩
        · have HN1 : Hid (spsG L k = true) := Lib.hid (by rw [HG0.out, hs, hk0]; rfl)
          subst hk0
          clear hs
          have hmx : Try.prog.follows .mixedOrders = true := by kernel_rfl
          refine wp_region_quiet_grown hmx (by kernel_rfl) ?_
          with_reducible refine wpQuiet_step (fun K hK => ?_)
          go_simp
          with_reducible refine hK _ ?_
          clear hK K
          with_reducible refine wpQuiet_step (fun K hK => ?_)
          go_simp
          apply Exists.intro
          with_reducible refine ⟨fun _ => ?_, hK _ ?_⟩
          with_reducible exact hq _ _
          clear hK K
          repeat ((with_reducible refine wpQuiet_step (fun K hK => ?_)); go_simp; (first | with_reducible refine hK _ ?_ | (rw [if_neg]; rotate_left; exact fun h => nomatch h; with_reducible refine hK _ ?_)); clear hK K)
          with_reducible refine wpQuiet_nil ?_
          intro _ hw'
          obtain ⟨⟨nq, osq⟩, hw''⟩ := hw'
          subst hw''
          have W6 := W5.trans ((below_grow w5 nq osq).mono W5.size)
          have B6 := B5.keep (below_grow w5 nq osq)
          go_wp2_with fail
          exact ⟨⟨1, by omega, by go_num, fun m hm => by rw [show m = 0 by omega]; exact HN1.out, W6, B6⟩, by simp [intOf]; omega⟩
        · have f4 := fun n os => cell_grown (w := w5) (a := ⟨(a.add ((k - 1) * 3)).block, (a.add ((k - 1) * 3)).off + 1, none⟩) (by show (a.add ((k - 1) * 3)).block < w5.heap.size; rw [Go.ChangeShapes.block_add]; exact ha5) hzc n os
          have d0 : decide ((0 : Int) < (k : Int)) = true := decide_eq_true (by omega)
          have i0 : 0 ≤ (k : Int) - 1 := by omega
          have i2 : 1 ≤ (k : Int) := by omega
          have i1 : (k : Int) - 1 < (L.length : Int) := by omega
          have qk : IntKind.i64.wrap ((k : Int) - 1) = (k : Int) - 1 := IntWalk.i64_in _ (by omega)
          have hk1 : (k == 0) = false := by simp; omega
          clear hzc
          by_cases hxz : x < z
          · have HV : Hid (spsB L = false) := Lib.hid (spsB_no hlt (by rw [HG0.out, hs, hk1, hzf, decide_eq_false (by omega : ¬ z ≤ x)]; rfl))
            have d1 : decide (x < z) = true := decide_eq_true hxz
            clear hs hzf hk1
            have hmx : Try.prog.follows .mixedOrders = true := by kernel_rfl
            refine wp_region_quiet_grown hmx (by kernel_rfl) ?_
            with_reducible refine wpQuiet_step (fun K hK => ?_)
            go_simp
            with_reducible refine hK _ ?_
            clear hK K
            with_reducible refine wpQuiet_step (fun K hK => ?_)
            go_simp
            apply Exists.intro
            with_reducible refine ⟨fun _ => ?_, hK _ ?_⟩
            with_reducible exact hq _ _
            clear hK K
            repeat ((with_reducible refine wpQuiet_step (fun K hK => ?_)); go_simp; (first | with_reducible refine hK _ ?_ | (rw [if_neg]; rotate_left; exact fun h => nomatch h; with_reducible refine hK _ ?_)); clear hK K)
            with_reducible refine wpQuiet_nil ?_
            intro _ hw'
            obtain ⟨⟨nq, osq⟩, hw''⟩ := hw'
            subst hw''
            have W6 := W5.trans ((below_grow w5 nq osq).mono W5.size)
            go_wp2_with fail
            go_ret
            exact ⟨ret_bool (by rw [HN2.out, HV.out]), W6⟩
          · have HN1 : Hid (spsG L k = true) := Lib.hid (by rw [HG0.out, hs, hk1, hzf, decide_eq_true (by omega : z ≤ x)]; rfl)
            have d1 : decide (x < z) = false := decide_eq_false hxz
            clear hs hzf hk1
            have hmx : Try.prog.follows .mixedOrders = true := by kernel_rfl
            refine wp_region_quiet_grown hmx (by kernel_rfl) ?_
            with_reducible refine wpQuiet_step (fun K hK => ?_)
            go_simp
            with_reducible refine hK _ ?_
            clear hK K
            with_reducible refine wpQuiet_step (fun K hK => ?_)
            go_simp
            apply Exists.intro
            with_reducible refine ⟨fun _ => ?_, hK _ ?_⟩
            with_reducible exact hq _ _
            clear hK K
            repeat ((with_reducible refine wpQuiet_step (fun K hK => ?_)); go_simp; (first | with_reducible refine hK _ ?_ | (rw [if_neg]; rotate_left; exact fun h => nomatch h; with_reducible refine hK _ ?_)); clear hK K)
            with_reducible refine wpQuiet_nil ?_
            intro _ hw'
            obtain ⟨⟨nq, osq⟩, hw''⟩ := hw'
            subst hw''
            have W6 := W5.trans ((below_grow w5 nq osq).mono W5.size)
            have B6 := B5.keep (below_grow w5 nq osq)
            go_wp2_with fail
            exact ⟨⟨k + 1, by omega, by go_num, fun m hm => by rcases Nat.lt_or_ge m k with h | h; exact HA.out m h; rw [show m = k by omega]; exact HN1.out, W6, B6⟩, by simp [intOf]; omega⟩
    · have HV : Hid (spsB L = true) := Lib.hid (spsB_yes fun m hm => HA.out m (by omega))
      go_wp2_with fail
      go_ret
      exact ⟨ret_bool (by rw [HN2.out, HV.out]), hbel⟩
end Go.Proofs.Ytfdcainjppljhaa
