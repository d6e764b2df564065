/- b10Moved: flux whose changes are moved. -/
import Derived.Test.YtmjmhdjfaamgkaaB10W
import Derived.Test.YtmjmhdjfaamgkaaRevW
import Derived.Test.YtmjmhdjfaamgkaaTimes2W
import Derived.StillTailTactics
import Derived.BigQuiet
import Derived.Deep.QuietTactic
import Derived.Deep.RegionHeld3
import Derived.Deep.DeepCutAuto
namespace Go.Proofs.Ytmjmhdjfaamgkaa
open Go.RowKit
set_option linter.unusedVariables false
def mvOk (c f : Int) (l : List Int) (c' f' : Int) (L : List Int) : Prop := c' = c ∧ fluxOk c f' L = true ∧ ∃ T : List Int, T.length = l.length ∧ (∀ i (h : i < T.length) (h2 : i < (chgL f l).length), -((c - 1) / 2) ≤ T[i] - (chgL f l)[i] ∧ T[i] - (chgL f l)[i] ≤ (c - 1) / 2) ∧ f' = T.headD 0 ∧ L = gapsT T l.sum
theorem mid_at {T X : List Int} {k : Nat} (h : T.length = k) (hk : k < X.length) {h2 : k < (T ++ X.drop k).length} : (T ++ X.drop k)[k] = X[k] := by
  subst h
  rw [List.getElem_append_right (Nat.le_refl _)]
  simp
theorem mid_set {T X : List Int} {k : Nat} (h : T.length = k) (hk : k < X.length) (y : Int) : (T ++ X.drop k).set k y = (T ++ [y]) ++ X.drop (k + 1) := by
  subst h
  rw [List.set_append_right _ _ (Nat.le_refl _), Nat.sub_self, List.drop_eq_getElem_cons hk, List.set_cons_zero, List.append_assoc]
  rfl
set_option maxHeartbeats 8000000 in
set_option maxRecDepth 20000 in
theorem laws_b10Moved (c f : Int) (p : Option Addr) (l : List Int) (cap : Nat) (pm : Option Addr) (lm : List UInt8) (capm : Nat) (w : World) (hI : IntsAt w p l) (hl : l.length ≤ 1048576) (hM : BytesAt w pm lm) (hlm : lm.length ≤ 1048576) (hok : fluxOk c f l = true) :
    Calls Try.prog 51 #[.agg #[.int .i64 c, .int .i64 f, .slice p l.length cap], .slice pm lm.length capm] w fun e w' => ∃ (c' f' : Int) (q : Option Addr) (L : List Int) (dq : Nat) (v : Bool), e = .returned (.tuple #[.agg #[.int .i64 c', .int .i64 f', .slice q L.length dq], .bool v]) ∧ (v = true → mvOk c f l c' f' L) ∧ L.length ≤ l.length ∧ OwnS w' w.heap.size q L ∧ Below w.heap.size w w' := by
  have BF0 := (Blk.new w 24 #[.int .i64 c, .int .i64 f, .slice p l.length cap]).alloc' (.cells #[.int .i64 0, .int .i64 0, .slice none 0 0] 24)
  have R0 := Blk.new (w.alloc (.cells #[.int .i64 c, .int .i64 f, .slice p l.length cap] 24)) 24 #[.int .i64 0, .int .i64 0, .slice none 0 0]
  have esz : (w.alloc (.cells #[.int .i64 c, .int .i64 f, .slice p l.length cap] 24)).heap.size = w.heap.size + 1 := by simp
  rw [esz] at R0
  have W0 : Below w.heap.size w ((w.alloc (.cells #[.int .i64 c, .int .i64 f, .slice p l.length cap] 24)).alloc (.cells #[.int .i64 0, .int .i64 0, .slice none 0 0] 24)) := ((Below.refl _ _).alloc (Nat.le_refl _) _).alloc (by simp) _
  clear esz
  obtain ⟨f0, f1, f2⟩ := BF0.cell3
  obtain ⟨hc4, hlen, hgm, hpre, hf0, hsum⟩ := fluxOk_bd hok
  have hcb : ∀ k (h : k < (chgL f l).length), 0 ≤ (chgL f l)[k] ∧ (chgL f l)[k] ≤ 4000000 := fun k h => by
    rw [chgL_at]
    have := hpre k
    omega
  have HCB := Lib.hid hcb
  have hcl := chgL_len f l
  have HCH : Hid (chV c f l = chgL f l ∧ revV c f l = l.sum) := Lib.hid (by unfold chV revV; rw [hok]; exact ⟨rfl, rfl⟩)
  have HMV : Hid (∀ c' f' L, mvOk c f l c' f' L ↔ (c' = c ∧ fluxOk c f' L = true ∧ ∃ T : List Int, T.length = l.length ∧ (∀ i (h : i < T.length) (h2 : i < (chgL f l).length), -((c - 1) / 2) ≤ T[i] - (chgL f l)[i] ∧ T[i] - (chgL f l)[i] ≤ (c - 1) / 2) ∧ f' = T.headD 0 ∧ L = gapsT T l.sum)) := Lib.hid (fun _ _ _ => Iff.rfl)
  clear hcb hgm hpre hok
  go_enter Try.func51, Try.ntmps51
  go_wp2_with fail
  generalize (w.alloc (.cells #[.int .i64 c, .int .i64 f, .slice p l.length cap] 24)).alloc (.cells #[.int .i64 0, .int .i64 0, .slice none 0 0] 24) = w0 at BF0 R0 W0 f0 f1 f2 ⊢
  refine (spec_ChangesOf c f p l cap _ (hI.below W0) hl).mono ?_
  rintro e w3 ⟨q, dq, rfl, S3, hb3⟩
  rw [HCH.out.1, hcl]
  rw [HCH.out.1] at S3
  have R3 := R0.keep hb3
  have BF3 := BF0.keep hb3
  have W3 := below_st W0 hb3 (Nat.le_refl _)
  have hz3 := hb3.size
  have hzR := R0.lt
  obtain ⟨g, rfl, hg, hrow0⟩ := S3 (by intro e; rw [e] at hcl; simp at hcl; omega)
  clear hb3 S3 f0 f1 f2
  obtain ⟨f0, f1, f2⟩ := BF3.cell3
  go_wp2_with fail
  refine (spec_RevolutionOf c f p l cap _ (hI.below W3) hl).mono ?_
  rintro e w4 ⟨rfl, hb4⟩
  rw [HCH.out.2]
  have R4 := R3.keep hb4
  have BF4 := BF3.keep hb4
  have W4 := below_st W3 hb4 (Nat.le_refl _)
  have hz4 := hb4.size
  have hrow4 := hrow0.below hb4
  clear hb4 hrow0 f0 f1 f2
  obtain ⟨f0, f1, f2⟩ := BF4.cell3
  generalize chgL f l = X at *
  obtain ⟨B, eB⟩ : ∃ B, w0.heap.size = B := ⟨_, rfl⟩
  rw [eB] at hg hz3 hzR
  have q1 : IntKind.i64.wrap (c - 1) = c - 1 := IntWalk.i64_in _ (by omega)
  have q2 : (c - 1).tdiv 2 = (c - 1) / 2 := Int.tdiv_eq_ediv_of_nonneg (by omega)
  obtain ⟨h2, eh2⟩ : ∃ h2, (c - 1) / 2 = h2 := ⟨_, rfl⟩
  have hh : 0 ≤ h2 ∧ h2 ≤ 100 := by omega
  rw [eh2] at q2 HMV
  have q3 : IntKind.i64.wrap h2 = h2 := IntWalk.i64_in _ (by omega)
  have q4 : IntKind.i64.wrap (2 * h2) = 2 * h2 := IntWalk.i64_in _ (by omega)
  have q5 : IntKind.i64.wrap (2 * h2 + 1) = 2 * h2 + 1 := IntWalk.i64_in _ (by omega)
  clear eh2
  go_wp2_with fail
  go_loopw [9] (fun i wr => ∃ (k : Nat) (T : List Int), k ≤ l.length ∧ i = .int .i64 k ∧ T.length = k ∧ RowI wr g (T ++ X.drop k) ∧ Hid (∀ j (h : j < T.length) (h' : j < X.length), -h2 ≤ T[j] - X[j] ∧ T[j] - X[j] ≤ h2) ∧ Below B w4 wr) (fun i _ => l.length - (intOf i).toNat)
  case atStart => exact ⟨0, [], Nat.zero_le _, rfl, rfl, by simpa using hrow4, fun j h => absurd h (Nat.not_lt_zero _), Below.refl _ _⟩
  case round =>
    obtain ⟨k, T, hk, rfl, hTk, hrow, HB, hbel⟩ := hrel
    by_cases hlt : k < l.length
    · have hkX : k < X.length := by omega
      have hwr : Below w.heap.size w wr := W4.trans (hbel.mono (by have := W0.size; omega))
      have hxb := HCB.out k hkX
      have hxd : ∃ x, X[k] = x := ⟨_, rfl⟩
      obtain ⟨x, ex⟩ := hxd
      rw [ex] at hxb
      have hzb := b10V_bd lm (i := (k : Int)) (m := 2 * h2 + 1) (by omega) (by omega)
      have hat := fun w' (hw' : Below w.heap.size w w') => laws_b10AtV pm lm capm (k : Int) (2 * h2 + 1) w' (hM.below hw') (by omega) (by omega)
      obtain ⟨z, ez⟩ : ∃ z, b10V lm (k : Int) (2 * h2 + 1) = z := ⟨_, rfl⟩
      rw [ez] at hzb
      simp only [ez] at hat
      have qa : IntKind.i64.wrap (z - h2) = z - h2 := IntWalk.i64_in _ (by omega)
      have qb : IntKind.i64.wrap (x + (z - h2)) = x + (z - h2) := IntWalk.i64_in _ (by omega)
      have HAT := Lib.hid hat
      clear hat ez
      go_wp2_with fail
      refine still_tail2 13 (by kernel_rfl) (by kernel_rfl) ?_
      intro wq hbq hzq hcq hfq
      have hwq := hwr.trans (hbq.mono hwr.size)
      have hrowq := hrow.below hbq
      have hbelq : Below B w4 wq := below_st hbel hbq (by omega)
      obtain ⟨hcw, hfw⟩ := hrowq.cell (k := k) (by simp; omega)
      rw [mid_at hTk hkX, ex] at hcw
      have hsetq := hrowq.set_ k (x + (z - h2))
      rw [mid_set hTk hkX] at hsetq
      have HSQ := Lib.hid hsetq
      clear hcq hfq hsetq hrow hrowq
      simp only [List.take_succ_cons, List.take_zero, List.drop_succ_cons, List.drop_zero]
      repeat still_step
      still_call (HAT.out wq hwq)
      repeat still_step
      refine wpStill_nil ?_
      go_wp2_with fail
      obtain ⟨y0, ey0⟩ : ∃ y0, x + (z - h2) = y0 := ⟨_, rfl⟩
      have hw6 : Below w.heap.size w (wq.setCell ⟨g, k, none⟩ (.int .i64 y0)) := hwq.setCell (p := ⟨g, k, none⟩) (by have := W0.size; show w.heap.size ≤ g; omega) _
      have hb6 : Below B w4 (wq.setCell ⟨g, k, none⟩ (.int .i64 y0)) := hbelq.setCell (p := ⟨g, k, none⟩) hg _
      have hrow6 := HSQ.out
      rw [ey0] at hrow6 ⊢
      have hB2 : Hid (∀ j (h : j < (T ++ [y0]).length) (h' : j < X.length), -h2 ≤ (T ++ [y0])[j] - X[j] ∧ (T ++ [y0])[j] - X[j] ≤ h2) := Lib.hid fun j h h' => by
        by_cases e : j < T.length
        · rw [List.getElem_append_left e]
          exact HB.out j e h'
        · have e2 : j = k := by simp at h; omega
          subst e2
          have e3 : (T ++ [y0])[j] = y0 := by rw [List.getElem_append_right (by omega)]; simp [hTk]
          rw [e3, ex]
          omega
      have hTn : Hid ((T ++ [y0]).length = k + 1) := Lib.hid (by simp [hTk])
      clear ex ey0 HSQ hcw hfw hbelq hwq hbq hzq
      generalize wq.setCell ⟨g, k, none⟩ (.int .i64 y0) = w6 at hw6 hb6 hrow6 ⊢
      rcases Nat.eq_zero_or_pos k with hk0 | hk0
      · subst hk0
        go_quiet (fail)
        generalize hw7 : w6.drewN _ = w7
        replace hrow6 : RowI w7 g ((T ++ [y0]) ++ X.drop (0 + 1)) := by rw [← hw7]; exact hrow6
        replace hb6 : Below B w4 w7 := by rw [← hw7]; exact below_drewN hb6 _
        clear hw7
        go_wp2_with fail
        exact ⟨⟨1, T ++ [y0], by omega, by go_num, hTn.out, hrow6, hB2, hb6⟩, by simp [intOf]; omega⟩
      · have hd : decide ((0 : Int) < (k : Int)) = true := decide_eq_true (by omega)
        obtain ⟨hck, -⟩ := hrow6.cell (k := k) (by simp; omega)
        obtain ⟨hcj, -⟩ := hrow6.cell (k := k - 1) (by simp; omega)
        have e1 : ((T ++ [y0]) ++ X.drop (k + 1))[k]'(by simp; omega) = y0 := by
          rw [List.getElem_append_left (by simp; omega), List.getElem_append_right (by omega)]; simp [hTk]
        rw [e1] at hck
        obtain ⟨yj, eyj⟩ : ∃ yj, ((T ++ [y0]) ++ X.drop (k + 1))[k - 1]'(by simp; omega) = yj := ⟨_, rfl⟩
        rw [eyj] at hcj
        clear e1 eyj
        have i1 : 0 ≤ (k : Int) - 1 := by omega
        have i2 : (k : Int) - 1 < (l.length : Int) := by omega
        have i3 : (k : Int) < (l.length : Int) := by omega
        have qk : IntKind.i64.wrap ((k : Int) - 1) = (k : Int) - 1 := IntWalk.i64_in _ (by omega)
        have HR6 := Lib.hid hrow6
        clear hrow6
        by_cases hle : y0 ≤ yj
        · go_quiet (fail)
          generalize hw7 : w6.drewN _ = w7
          replace hb6 : Below B w4 w7 := by rw [← hw7]; exact below_drewN hb6 _
          replace hw6 : Below w.heap.size w w7 := by rw [← hw7]; exact below_drewN hw6 _
          clear hw7 hck hcj
          have R7 := R4.below hb6 (by omega)
          obtain ⟨r0, r1', r2⟩ := R7.cell3
          have rf := R7.frozen
          have rlt := R7.lt
          obtain ⟨e0, e1, e2⟩ := (R7.set3 (.int .i64 0) (.int .i64 0) (.slice none 0 0)).cell3
          go_wp2_with fail
          refine bodyPost_ret (v := .tuple #[.agg #[.int .i64 0, .int .i64 0, .slice none 0 0], .bool false]) (by simp [results, Try.results51, go_sem, e0, e1, e2]) rfl ?_
          exact ⟨0, 0, none, [], 0, false, rfl, (fun h => by cases h), Nat.zero_le _, OwnS.nil_ _ _ _, ((hw6.setCell (p := ⟨w.heap.size + 1, 0, none⟩) (Nat.le_succ _) (.int .i64 0)).setCell (p := ⟨w.heap.size + 1, 1, none⟩) (Nat.le_succ _) (.int .i64 0)).setCell (p := ⟨w.heap.size + 1, 2, none⟩) (Nat.le_succ _) (.slice none 0 0)⟩
        · go_quiet (fail)
          generalize hw7 : w6.drewN _ = w7
          have hrow7 : RowI w7 g ((T ++ [y0]) ++ X.drop (k + 1)) := by rw [← hw7]; exact HR6.out
          replace hb6 : Below B w4 w7 := by rw [← hw7]; exact below_drewN hb6 _
          clear hw7
          go_wp2_with fail
          exact ⟨⟨k + 1, T ++ [y0], by omega, by go_num, hTn.out, hrow7, hB2, hb6⟩, by simp [intOf]; omega⟩
    · have hkn : k = l.length := by omega
      subst hkn
      have hT0 : T ++ X.drop l.length = T := by rw [List.drop_of_length_le (by omega), List.append_nil]
      rw [hT0] at hrow
      have hzB : B ≤ wr.heap.size := by have := hbel.size; omega
      have BFr := BF4.below hbel (by have := BF0.lt; omega)
      have Rr := R4.below hbel (by omega)
      have hwr : Below w.heap.size w wr := W4.trans (hbel.mono (by have := W0.size; omega))
      have h1T : 1 ≤ T.length := by omega
      have hh := headD_at (l := T) (by omega)
      have hlast := lastD_at (l := T) (n := T.length - 1) (by omega)
      obtain ⟨hx0, -⟩ := hrow.cell (k := 0) (by omega)
      rw [hh] at hx0
      obtain ⟨t0, et0⟩ : ∃ t0, T.headD 0 = t0 := ⟨_, rfl⟩
      rw [et0] at hx0
      have HG : Hid (gapsT T l.sum = diffW T ++ [IntKind.i64.wrap (IntKind.i64.wrap (l.sum - T.getLastD 0) + t0)]) := Lib.hid (by unfold gapsT; rw [et0])
      have HT := Lib.hid et0
      have HL := Lib.hid hlast
      have i00 : (0 : Int) < (l.length : Int) := by omega
      have i000 : 0 < l.length := by omega
      have hTL := Lib.hid hTk
      clear f0 f1 f2 hh hlast et0 hT0
      obtain ⟨f0, f1, f2⟩ := BFr.cell3
      have hgl := hrow.lt
      have hfl := BFr.lt
      go_wp2_with fail
      go_cut [10] (fun v10 wx => ∃ Bz, v10 = .pointer (some ⟨Bz, 0, none⟩) ∧ wr.heap.size ≤ Bz ∧ Blk wx Bz 24 #[.int .i64 c, .int .i64 t0, .slice none 0 0] ∧ Below wr.heap.size wr wx)
      case first =>
        go_region
        all_goals
          go_wp2_with fail
          go_meet
          first | exact ⟨_, rfl, Nat.le_refl _, Blk.new _ _ _, ((Below.refl _ _).alloc (Nat.le_refl _) _).drew⟩ | exact ⟨_, rfl, Nat.le_refl _, Blk.new _ _ _, (Below.refl _ _).drew.alloc (Nat.le_refl _) _⟩
      case rest =>
        obtain ⟨Bz, rfl, hzBz, F5, hb5⟩ := hcut
        obtain ⟨w5, hwc⟩ : ∃ w5, w5 = wc := ⟨_, rfl⟩
        subst hwc
        have R5 := Rr.keep hb5
        have hrow5 := hrow.below hb5
        have hw5 := below_st hwr hb5 (Nat.le_refl _)
        have hrlt := Rr.lt
        have hgB : g < Bz := by omega
        clear Rr BFr BF4 R4 W4 hrow hb5 f0 f1 f2 hbel hwr hrow4 hgl hfl
        have hI5 := hrow5.ints
        obtain ⟨B5, eB5⟩ : ∃ B5, Bz + 1 = B5 := ⟨_, rfl⟩
        have hF5l := F5.lt
        go_wp2_with fail
        go_loopw [11] (fun i wr => ∃ (k : Nat) (v : Value), 1 ≤ k ∧ k ≤ l.length ∧ i = .int .i64 k ∧ OwnI wr B5 v (diffW (T.take k)) ∧ Blk wr Bz 24 #[.int .i64 c, .int .i64 t0, v] ∧ Below Bz w5 wr) (fun i _ => l.length - (intOf i).toNat)
        case atStart => exact ⟨1, .slice none 0 0, Nat.le_refl _, by omega, rfl, by rw [diffW_one]; exact OwnI.none_ _ _, F5, Below.refl _ _⟩
        case round =>
          obtain ⟨k, v, hk1, hk, rfl, hown, hF, hbel2⟩ := hrel
          have hzr : B5 ≤ wr.heap.size := by have := hF.lt; omega
          obtain ⟨f0, f1, f2⟩ := hF.cell3
          have ff := hF.frozen
          have hfl := hF.lt
          have hrowr := hrow5.aside hgB hbel2
          have hgr := hrowr.lt
          by_cases hlt : k < l.length
          · obtain ⟨hx, -⟩ := hrowr.cell (k := k) (by omega)
            obtain ⟨hy, -⟩ := hrowr.cell (k := k - 1) (by omega)
            have hd := diffW_take hk1 (l := T) (by omega : k < T.length)
            have hdl : (diffW (T.take k)).length ≤ 1048576 := by rw [diffW_len]; simp; omega
            obtain ⟨x, ex⟩ : ∃ x, T[k]'(by omega) = x := ⟨_, rfl⟩
            obtain ⟨y, ey⟩ : ∃ y, T[k - 1]'(by omega) = y := ⟨_, rfl⟩
            rw [ex] at hx hd
            rw [ey] at hy hd
            obtain ⟨z, ez⟩ : ∃ z, IntKind.i64.wrap (x - y) = z := ⟨_, rfl⟩
            rw [ez] at hd
            have HD := Lib.hid hd
            clear hd ex ey
            have i0 : 1 ≤ (k : Int) := by omega
            have i1 : 0 ≤ (k : Int) - 1 := by omega
            have i2 : (k : Int) - 1 < (l.length : Int) := by omega
            have qk : IntKind.i64.wrap ((k : Int) - 1) = (k : Int) - 1 := IntWalk.i64_in _ (by omega)
            go_wp2_with fail
            go_region_law (refine step_append_int rfl _ _ rfl B5 v (diffW (T.take k)) z _ rfl rfl (by first | exact hown.alloc _ | exact (hown.alloc _).drew) (by simp) (by omega) (by first | omega | (simp; omega)) ?_; intro v1 w1 hown1 hb1; obtain ⟨q1, c1, rfl, hs1⟩ := hown1.open_; have F1 := Blk.below (by exact hF.alloc' _) hb1 (by omega); obtain ⟨p0, p1, p2⟩ := F1.cell3; have pf := F1.frozen; have hz1 := hb1.size; simp at hz1)
            all_goals
              have hown2 : OwnI w1 B5 (.slice q1 ((diffW (T.take k)).length + 1) c1) (diffW (T.take (k + 1))) := by
                rw [HD.out]
                simpa using hown1
              have hbn : Below Bz w5 w1 := by first | exact (hbel2.alloc (by omega) (.cells #[.int .i64 z] 2)).drew.trans (hb1.mono (B' := Bz) (by omega)) | exact (hbel2.alloc (by omega) (.cells #[.int .i64 z] 2)).trans (hb1.mono (B' := Bz) (by omega))
              go_wp2_with fail
              go_roundw
              case rel => exact ⟨k + 1, _, by omega, by omega, by go_num, hown2.off (g' := Bz) (by omega) 2 _, F1.set32 _, hbn.setCell (p := ⟨Bz, 2, none⟩) (Nat.le_refl _) _⟩
              case measure => simp [intOf]; omega
          · have ek : k = l.length := by omega
            subst ek
            rw [List.take_of_length_le (by omega)] at hown
            obtain ⟨hy, -⟩ := hrowr.cell (k := l.length - 1) (by omega)
            obtain ⟨hx0, -⟩ := hrowr.cell (k := 0) (by omega)
            have hlast' : T[l.length - 1]'(by omega) = T.getLastD 0 := by have := HL.out; simp only [hTk] at this; exact this
            have hx0' : T[0]'(by omega) = t0 := by rw [headD_at (by omega)]; exact HT.out
            rw [hlast'] at hy
            rw [hx0'] at hx0
            have hdl : (diffW T).length ≤ 1048576 := by rw [diffW_len]; omega
            obtain ⟨y, ey⟩ : ∃ y, T.getLastD 0 = y := ⟨_, rfl⟩
            have hg := HG.out
            rw [ey] at hy hg
            obtain ⟨z1, ez1⟩ : ∃ z1, IntKind.i64.wrap (l.sum - y) = z1 := ⟨_, rfl⟩
            rw [ez1] at hg
            obtain ⟨z, ez⟩ : ∃ z, IntKind.i64.wrap (z1 + t0) = z := ⟨_, rfl⟩
            rw [ez] at hg
            have HGG := Lib.hid hg
            have hGlen : (gapsT T l.sum).length = l.length := by rw [gapsT_len _ _ (by omega), hTk]
            clear hg ey HL hlast' hx0'
            have i0 : 1 ≤ (l.length : Int) := by omega
            have i1 : 0 ≤ (l.length : Int) - 1 := by omega
            have i2 : (l.length : Int) - 1 < (l.length : Int) := by omega
            have qk : IntKind.i64.wrap ((l.length : Int) - 1) = (l.length : Int) - 1 := IntWalk.i64_in _ (by omega)
            go_wp2_with fail
            go_cut [10] (fun v10 wx => v10 = .pointer (some ⟨Bz, 0, none⟩) ∧ ∃ q1 c1, OwnI wx B5 (.slice q1 ((diffW T).length + 1) c1) (gapsT T l.sum) ∧ Blk wx Bz 24 #[.int .i64 c, .int .i64 t0, .slice q1 ((diffW T).length + 1) c1] ∧ Below Bz w5 wx)
            case first =>
              go_region_law (refine step_append_int rfl _ _ rfl B5 v (diffW T) z _ rfl rfl (by first | exact hown.alloc _ | exact (hown.alloc _).drew) (by simp) (by omega) (by first | omega | (simp; omega)) ?_; intro v1 w1 hown1 hb1; obtain ⟨q1, c1, rfl, hs1⟩ := hown1.open_; have F1 := Blk.below (by exact hF.alloc' _) hb1 (by omega); obtain ⟨p0, p1, p2⟩ := F1.cell3; have pf := F1.frozen; have hz1 := hb1.size; simp at hz1)
              all_goals
                have hown2 : OwnI w1 B5 (.slice q1 ((diffW T).length + 1) c1) (gapsT T l.sum) := by
                  rw [HGG.out]
                  simpa using hown1
                have hbn : Below Bz w5 w1 := by first | exact (hbel2.alloc (by omega) (.cells #[.int .i64 z] 2)).drew.trans (hb1.mono (B' := Bz) (by omega)) | exact (hbel2.alloc (by omega) (.cells #[.int .i64 z] 2)).trans (hb1.mono (B' := Bz) (by omega))
                go_wp2_with fail
                go_meet
                exact ⟨rfl, _, _, hown2.off (g' := Bz) (by omega) 2 _, F1.set32 _, hbn.setCell (p := ⟨Bz, 2, none⟩) (Nat.le_refl _) _⟩
            case rest =>
              obtain ⟨rfl, q1, c1, hown2, F2, hbn2⟩ := hcut
              obtain ⟨w8, hwc⟩ : ∃ w8, w8 = wc := ⟨_, rfl⟩
              subst hwc
              have hgl : (gapsT T l.sum).length = (diffW T).length + 1 := by rw [HGG.out]; simp
              obtain ⟨qq, dd, hqq, hS⟩ := hown2.open_
              injection hqq with h3 h4 h5
              subst h3
              subst h5
              clear h4
              rw [← hgl] at F2
              have HGE := Lib.hid (Eq.refl (gapsT T l.sum))
              obtain ⟨G, eG⟩ : ∃ G, gapsT T l.sum = G := ⟨_, rfl⟩
              have HEG := Lib.hid eG
              rw [eG] at hS F2 hGlen
              have HGL := Lib.hid hGlen
              clear hGlen
              have R6 := R5.below hbn2 (by omega)
              have hw6 : Below w.heap.size w w8 := hw5.trans (hbn2.mono (by omega))
              clear hgl eG hown2 hown hF hbel2 f0 f1 f2 ff hfl hrowr hgr hx0 hy
              obtain ⟨f0, f1, f2⟩ := F2.cell3
              have hzR' : w.heap.size + 1 < B5 := by omega
              have Rd := R6.drew
              have Fd := F2.drew
              have hwd := hw6.drew
              have hzr' := R6.lt
              have hzw := hw6.size
              go_wp2_with fail
              have keepS : ∀ y1 y2 : World, ((Bz < y1.heap.size ∧ y1.cell? ⟨Bz, 0, none⟩ = some (.int .i64 c) ∧ y1.cell? ⟨Bz, 1, none⟩ = some (.int .i64 t0) ∧ y1.cell? ⟨Bz, 2, none⟩ = some (.slice q1 G.length c1)) ∧ OwnS y1 B5 q1 G ∧ Below w.heap.size w y1) → Below y1.heap.size y1 y2 → ((Bz < y2.heap.size ∧ y2.cell? ⟨Bz, 0, none⟩ = some (.int .i64 c) ∧ y2.cell? ⟨Bz, 1, none⟩ = some (.int .i64 t0) ∧ y2.cell? ⟨Bz, 2, none⟩ = some (.slice q1 G.length c1)) ∧ OwnS y2 B5 q1 G ∧ Below w.heap.size w y2) := by
                rintro y1 y2 ⟨⟨s0, s1, s2, s3⟩, s4, s5⟩ hb
                obtain ⟨hc, -⟩ := bcell hb
                have := hb.size
                exact ⟨⟨by omega, (hc _ _ s0).trans s1, (hc _ _ s0).trans s2, (hc _ _ s0).trans s3⟩, s4.below hb, below_st s5 hb (Nat.le_refl _)⟩
              have keepW : ∀ (y : World) (i : Nat) (v : Value), ((Bz < y.heap.size ∧ y.cell? ⟨Bz, 0, none⟩ = some (.int .i64 c) ∧ y.cell? ⟨Bz, 1, none⟩ = some (.int .i64 t0) ∧ y.cell? ⟨Bz, 2, none⟩ = some (.slice q1 G.length c1)) ∧ OwnS y B5 q1 G ∧ Below w.heap.size w y) → ((Bz < (y.setCell ⟨w.heap.size + 1, i, none⟩ v).heap.size ∧ (y.setCell ⟨w.heap.size + 1, i, none⟩ v).cell? ⟨Bz, 0, none⟩ = some (.int .i64 c) ∧ (y.setCell ⟨w.heap.size + 1, i, none⟩ v).cell? ⟨Bz, 1, none⟩ = some (.int .i64 t0) ∧ (y.setCell ⟨w.heap.size + 1, i, none⟩ v).cell? ⟨Bz, 2, none⟩ = some (.slice q1 G.length c1)) ∧ OwnS (y.setCell ⟨w.heap.size + 1, i, none⟩ v) B5 q1 G ∧ Below w.heap.size w (y.setCell ⟨w.heap.size + 1, i, none⟩ v)) := by
                rintro y i v ⟨⟨s0, s1, s2, s3⟩, s4, s5⟩
                have ho : ∀ j, (y.setCell ⟨w.heap.size + 1, i, none⟩ v).cell? ⟨Bz, j, none⟩ = y.cell? ⟨Bz, j, none⟩ := fun j => World.cell?_setCell_other _ _ _ _ (by intro h'; injection h' with h2; omega)
                exact ⟨⟨by simpa [World.setCell] using s0, (ho 0).trans s1, (ho 1).trans s2, (ho 2).trans s3⟩, s4.offS (g' := w.heap.size + 1) hzR' i v, s5.setCell (p := ⟨w.heap.size + 1, i, none⟩) (Nat.le_succ _) _⟩
              have S0 : (Bz < w8.drew.heap.size ∧ w8.drew.cell? ⟨Bz, 0, none⟩ = some (.int .i64 c) ∧ w8.drew.cell? ⟨Bz, 1, none⟩ = some (.int .i64 t0) ∧ w8.drew.cell? ⟨Bz, 2, none⟩ = some (.slice q1 G.length c1)) ∧ OwnS w8.drew B5 q1 G ∧ Below w.heap.size w w8.drew := ⟨⟨Fd.lt, Fd.cell3.1, Fd.cell3.2.1, Fd.cell3.2.2⟩, hS.below (Below.refl _ _).drew, hwd⟩
              go_region_held3 (fun w' => (Bz < w'.heap.size ∧ w'.cell? ⟨Bz, 0, none⟩ = some (.int .i64 c) ∧ w'.cell? ⟨Bz, 1, none⟩ = some (.int .i64 t0) ∧ w'.cell? ⟨Bz, 2, none⟩ = some (.slice q1 G.length c1)) ∧ OwnS w' B5 q1 G ∧ Below w.heap.size w w')
                (first | with_reducible exact S0 | (with_reducible refine keepS _ _ S0 ?_; assumption) | (with_reducible refine keepW _ _ _ (keepW _ _ _ (keepW _ _ _ ?_)); first | exact S0 | exact keepS _ _ S0 hb9))
                (first | (go_at_call 102; refine (spec_ValidFlux c t0 q1 G c1 _ (by exact S0.2.1.ints) (by have := HGL.out; omega)).mono ?_; rintro e w9 ⟨rfl, hb9⟩; have R9 := Rd.keep hb9; obtain ⟨r0, r1', r2⟩ := R9.cell3; have rf := R9.frozen))
              all_goals
                have hw9 := below_st hwd hb9 (Nat.le_refl _)
                obtain ⟨e0, e1, e2⟩ := (R9.set3 (.int .i64 c) (.int .i64 t0) (.slice q1 G.length c1)).cell3
                have S9 := (((hS.below (Below.refl _ _).drew).below hb9).offS (g' := w.heap.size + 1) hzR' 0 (.int .i64 c)).offS (g' := w.heap.size + 1) hzR' 1 (.int .i64 t0) |>.offS (g' := w.heap.size + 1) hzR' 2 (.slice q1 G.length c1)
                go_wp2_with fail
                refine bodyPost_ret (v := .tuple #[.agg #[.int .i64 c, .int .i64 t0, .slice q1 G.length c1], .bool (fluxOk c t0 G)]) (by simp [results, Try.results51, go_sem, e0, e1, e2]) rfl ?_
                exact ⟨c, t0, q1, G, c1, fluxOk c t0 G, rfl, fun h => (HMV.out _ _ _).2 ⟨rfl, h, T, hTk, HB.out, HT.out.symm, HEG.out.symm⟩, by have := HGL.out; omega, S9.mono (by omega), ((hw9.setCell (p := ⟨w.heap.size + 1, 0, none⟩) (Nat.le_succ _) _).setCell (p := ⟨w.heap.size + 1, 1, none⟩) (Nat.le_succ _) _).setCell (p := ⟨w.heap.size + 1, 2, none⟩) (Nat.le_succ _) _⟩
end Go.Proofs.Ytmjmhdjfaamgkaa
