/- ReadFlux, the model's. -/
import Derived.Test.YtfdcainjppljhaaDoorRf2W
namespace Go.Proofs.YtfdcainjppljhaaDoor
open Go.RowKit Go.Sort
set_option linter.unusedVariables false
theorem numL_take {ps : List (List UInt8)} {k : Nat} (h2 : 2 ≤ k) (h : k < ps.length) : ((numL ps).drop 2).take (k + 1 - 2) = ((numL ps).drop 2).take (k - 2) ++ [numV ps[k]] := by
  rw [show k + 1 - 2 = (k - 2) + 1 by omega, List.take_succ_eq_append_getElem (by rw [List.length_drop]; unfold numL; rw [List.length_map]; omega)]
  congr 2
  rw [List.getElem_drop]
  unfold numL
  rw [List.getElem_map]
  simp only [show 2 + (k - 2) = k by omega]
theorem rf_push {w5 wr w6 : World} {bf : Nat} {a b v v1 : Value} {l1 : List Int} (hB : Blk wr bf 27 #[a, b, v]) (ho : OwnI w6 (bf + 1) v1 l1) (hb : Below (bf + 1) wr w6) (hbel : Below bf w5 wr) :
    Blk (w6.setCell ⟨bf, 2, none⟩ v1) bf 27 #[a, b, v1] ∧ OwnI (w6.setCell ⟨bf, 2, none⟩ v1) (bf + 1) v1 l1 ∧ Below bf w5 (w6.setCell ⟨bf, 2, none⟩ v1) := by
  refine ⟨by simpa using (hB.below hb (Nat.lt_succ_self _)).setS 2 v1, ho.asides (Aside.setCell bf 2 v1) (fun g hg e => ?_), hbel.trans ((hb.mono (Nat.le_succ bf)).setCell (p := ⟨bf, 2, none⟩) (Nat.le_refl _) v1)⟩
  have := (ho.blk hg).1
  injection e with e
  omega
set_option maxHeartbeats 2000000 in
set_option maxRecDepth 20000 in
theorem spec_ReadFlux (s : ByteArray) (w : World) (hs : s.size ≤ 1048576) :
    Calls Tryd.prog 10 #[.string s] w fun e w' => ∃ (q : Option Addr) (d : Nat), e = .returned (.tuple #[.agg #[.int .i64 (rfC s), .int .i64 (rfF s), .slice q (rfL s).length d], .bool (rfB s.data.toList)]) ∧ OwnS w' w.heap.size q (rfL s) ∧ Below w.heap.size w w' := by
  have R0 := Blk.new w 27 #[.int .i64 0, .int .i64 0, .slice none 0 0]
  have W0 : Below w.heap.size w (w.alloc (.cells #[.int .i64 0, .int .i64 0, .slice none 0 0] 27)) := (Below.refl _ _).alloc (Nat.le_refl _) _
  have hcl := cut_le s.data.toList
  have hLs : s.data.toList.length = s.size := rfl
  have hbl := cutB_len s
  by_cases hbig : 32016 < s.size
  · have hd : decide ((32016 : Int) < (s.size : Int)) = true := decide_eq_true (by omega)
    have hno : rfB s.data.toList = false := by unfold rfB; rw [decide_eq_false (by omega)]; rfl
    have HN := Lib.hid (show rfC s = 0 ∧ rfF s = 0 ∧ rfL s = [] ∧ rfB s.data.toList = false from ⟨(rf_no hno).1, (rf_no hno).2.1, (rf_no hno).2.2, hno⟩)
    clear hno
    go_enter Tryd.func10, Tryd.ntmps10
    go_wp2_with fail
    refine bodyPost_ret (v := .tuple #[.agg #[.int .i64 0, .int .i64 0, .slice none 0 0], .bool false]) (by simp [results, Tryd.results10, go_sem]) rfl ?_
    rw [HN.out.1, HN.out.2.1, HN.out.2.2.1, HN.out.2.2.2]
    exact ⟨none, 0, rfl, OwnS.nil_ _ _ _, W0⟩
  have hd : decide ((32016 : Int) < (s.size : Int)) = false := decide_eq_false (by omega)
  have hrb : rfB s.data.toList = (decide (3 ≤ (cutL s.data.toList).length) && fluxOk ((numL (cutL s.data.toList)).getD 0 0) ((numL (cutL s.data.toList)).getD 1 0) ((numL (cutL s.data.toList)).drop 2)) := by
    unfold rfB
    rw [decide_eq_true (show s.data.toList.length ≤ 32016 by omega)]
    simp
  have HRB := Lib.hid hrb
  clear hrb
  go_enter Tryd.func10, Tryd.ntmps10
  go_wp2_with fail
  generalize w.alloc (.cells #[.int .i64 0, .int .i64 0, .slice none 0 0] 27) = w0 at R0 W0 ⊢
  refine (spec_l01Split s w0 hs).mono ?_
  rintro e w1 ⟨q, d, rfl, T1, hb1⟩
  have R1 := R0.keep hb1
  have W1 := below_st W0 hb1 (Nat.le_refl _)
  clear R0 W0 hb1
  obtain ⟨r0, r1', r2⟩ := R1.cell3
  have rf := R1.frozen
  have rl := R1.lt
  by_cases h3 : 3 ≤ (cutL s.data.toList).length
  rotate_left
  · have hno : rfB s.data.toList = false := by rw [HRB.out, decide_eq_false h3]; rfl
    have HN := Lib.hid (show rfC s = 0 ∧ rfF s = 0 ∧ rfL s = [] ∧ rfB s.data.toList = false from ⟨(rf_no hno).1, (rf_no hno).2.1, (rf_no hno).2.2, hno⟩)
    have d1 : decide (((cutB s).length : Int) < 3) = true := decide_eq_true (by omega)
    obtain ⟨e0, e1, e2⟩ := (R1.ret3 (.int .i64 0) (.int .i64 0) (.slice none 0 0)).cell3
    have W2 := below_ret3 W1 (Nat.le_refl _) (.int .i64 0) (.int .i64 0) (.slice none 0 0)
    obtain ⟨N, eN⟩ : ∃ N, (cutB s).length = N := ⟨_, rfl⟩
    rw [eN] at d1 ⊢
    clear hno h3 hbl
    go_wp2_with fail
    refine bodyPost_ret (v := .tuple #[.agg #[.int .i64 0, .int .i64 0, .slice none 0 0], .bool false]) (by simp [results, Tryd.results10, go_sem, e0, e1, e2]) rfl ?_
    rw [HN.out.1, HN.out.2.1, HN.out.2.2.1, HN.out.2.2.2]
    exact ⟨none, 0, rfl, OwnS.nil_ _ _ _, W2⟩
  have hxd := cutB_data s
  have hnl : (numL (cutL s.data.toList)).length = (cutL s.data.toList).length := by unfold numL; rw [List.length_map]
  have hrb2 : Hid (rfB s.data.toList = fluxOk ((numL (cutL s.data.toList)).getD 0 0) ((numL (cutL s.data.toList)).getD 1 0) ((numL (cutL s.data.toList)).drop 2)) := Lib.hid (by rw [HRB.out, decide_eq_true h3]; simp)
  have hrf2 : Hid (rfB s.data.toList = true → rfC s = (numL (cutL s.data.toList)).getD 0 0 ∧ rfF s = (numL (cutL s.data.toList)).getD 1 0 ∧ rfL s = (numL (cutL s.data.toList)).drop 2) := Lib.hid (fun h => rf_yes h)
  clear HRB
  have hsz : ∀ x ∈ cutB s, x.size ≤ 1048576 := fun x hx => by
    have h1 : x.data.toList ∈ cutL s.data.toList := by rw [← hxd]; exact List.mem_map_of_mem hx
    have h2 := piece_le h1
    have h3 : x.data.toList.length = x.size := rfl
    omega
  have hxk : ∀ k (h : k < (cutB s).length) (h2 : k < (cutL s.data.toList).length), (cutB s)[k].data.toList = (cutL s.data.toList)[k] := fun k h h2 => by
    have : ((cutB s).map (·.data.toList))[k]'(by simpa using h) = (cutL s.data.toList)[k] := by congr 1
    rw [← this, List.getElem_map]
  generalize cutB s = xs at *
  generalize cutL s.data.toList = ps at *
  have hc0 : (numL ps).getD 0 0 = numV (ps[0]'(by omega)) := by unfold numL; simp [show 0 < ps.length by omega]
  have hc1 : (numL ps).getD 1 0 = numV (ps[1]'(by omega)) := by unfold numL; simp [show 1 < ps.length by omega]
  obtain ⟨g, rfl, hgl, hcw⟩ := T1 (by intro e; rw [e] at hbl; simp at hbl; omega)
  have hn0 := fun wy => spec_l01Number (xs[0]'(by omega)) wy (hsz _ (List.getElem_mem _))
  have hn1 := fun wy => spec_l01Number (xs[1]'(by omega)) wy (hsz _ (List.getElem_mem _))
  rw [hxk 0 (by omega) (by omega), ← hc0] at hn0
  rw [hxk 1 (by omega) (by omega), ← hc1] at hn1
  have cw0 : w1.cell? ⟨g, 0, none⟩ = some (.string (xs[0]'(by omega))) := hcw 0 _ (by simp [show 0 < xs.length by omega])
  have cw1 : w1.cell? ⟨g, 1, none⟩ = some (.string (xs[1]'(by omega))) := hcw 1 _ (by simp [show 1 < xs.length by omega])
  obtain ⟨x0, ex0⟩ : ∃ x0, xs[0]'(by omega) = x0 := ⟨_, rfl⟩
  obtain ⟨x1, ex1⟩ : ∃ x1, xs[1]'(by omega) = x1 := ⟨_, rfl⟩
  rw [ex0] at hn0 cw0
  rw [ex1] at hn1 cw1
  obtain ⟨a, ea⟩ : ∃ a, (numL ps).getD 0 0 = a := ⟨_, rfl⟩
  obtain ⟨b, eb⟩ : ∃ b, (numL ps).getD 1 0 = b := ⟨_, rfl⟩
  rw [ea] at hn0 hrb2 hrf2
  rw [eb] at hn1 hrb2 hrf2
  have hN : xs.length = ps.length := hbl
  have d1 : decide ((xs.length : Int) < 3) = false := decide_eq_false (by omega)
  have hi0 : (0 : Int) < (xs.length : Int) := by omega
  have hi1 : (1 : Int) < (xs.length : Int) := by omega
  have hi2 : 0 < xs.length := by omega
  have hi3 : 1 < xs.length := by omega
  have HN0 := Lib.hid hn0
  have HN1 := Lib.hid hn1
  have HSZ := Lib.hid hsz
  have HXK := Lib.hid hxk
  have HCW := Lib.hid hcw
  clear hn0 hn1 hsz hxk hcw ea eb ex0 ex1 hc0 hc1 hxd T1
  have hbq : Hid (xs.length = ps.length) := Lib.hid hbl
  obtain ⟨N, eN⟩ : ∃ N, xs.length = N := ⟨_, rfl⟩
  rw [eN] at d1 hi0 hi1 hi2 hi3 hbl hN ⊢
  have hNq := Lib.hid eN
  clear eN
  have hcl0 : Hid (ps.length ≤ 1048577) := Lib.hid (by omega)
  have h3q := Lib.hid h3
  have hnlq := Lib.hid hnl
  clear hbl h3 hnl hN hcl
  go_upto_region 6 with (fail)
  go_cut [5] (fun pv wx => ∃ (bb : Nat), pv = .pointer (some ⟨bb, 0, none⟩) ∧ w1.heap.size ≤ bb ∧ Blk wx bb 27 #[.int .i64 a, .int .i64 b, .slice none 0 0] ∧ Below w1.heap.size w1 wx)
  case first =>
    have KS : ∀ w' : World, Below w1.heap.size w1 w' → (w'.cell? ⟨g, 0, none⟩ = some (.string x0) ∧ w'.cell? ⟨g, 1, none⟩ = some (.string x1)) ∧ Below w1.heap.size w1 w' := fun w' hb => ⟨⟨(hb.cell (p := ⟨g, 0, none⟩) hgl).trans cw0, (hb.cell (p := ⟨g, 1, none⟩) hgl).trans cw1⟩, hb⟩
    have S0 : (w1.drew.cell? ⟨g, 0, none⟩ = some (.string x0) ∧ w1.drew.cell? ⟨g, 1, none⟩ = some (.string x1)) ∧ Below w1.heap.size w1 w1.drew := KS _ (Below.refl _ _).drew
    have SA : ((w1.alloc (.cells #[.int .i64 0, .int .i64 0, .slice none 0 0] 27)).drew.cell? ⟨g, 0, none⟩ = some (.string x0) ∧ (w1.alloc (.cells #[.int .i64 0, .int .i64 0, .slice none 0 0] 27)).drew.cell? ⟨g, 1, none⟩ = some (.string x1)) ∧ Below w1.heap.size w1 (w1.alloc (.cells #[.int .i64 0, .int .i64 0, .slice none 0 0] 27)).drew := KS _ ((Below.refl _ _).alloc (Nat.le_refl _) _).drew
    have SB : ((w1.alloc (.cells #[.int .i64 a, .int .i64 b, .slice none 0 0] 27)).drew.cell? ⟨g, 0, none⟩ = some (.string x0) ∧ (w1.alloc (.cells #[.int .i64 a, .int .i64 b, .slice none 0 0] 27)).drew.cell? ⟨g, 1, none⟩ = some (.string x1)) ∧ Below w1.heap.size w1 (w1.alloc (.cells #[.int .i64 a, .int .i64 b, .slice none 0 0] 27)).drew := KS _ ((Below.refl _ _).alloc (Nat.le_refl _) _).drew
    have BA := Blk.new w1 27 #[.int .i64 0, .int .i64 0, .slice none 0 0]
    have BB := Blk.new w1 27 #[.int .i64 a, .int .i64 b, .slice none 0 0]
    go_region_held3 (fun w' => (w'.cell? ⟨g, 0, none⟩ = some (.string x0) ∧ w'.cell? ⟨g, 1, none⟩ = some (.string x1)) ∧ Below w1.heap.size w1 w')
      (first | with_reducible exact S0 | with_reducible exact SA | with_reducible exact SB | go_keep)
      (first | (go_at_call 23; (with_reducible refine (HN0.out _).mono ?_); rintro e y ⟨rfl, rfl⟩) | (go_at_call 23; (with_reducible refine (HN1.out _).mono ?_); rintro e y ⟨rfl, rfl⟩))
    all_goals
      go_wp2_with fail
      go_meet
      exact ⟨w1.heap.size, rfl, Nat.le_refl _, BB, SB.2⟩
  case rest =>
    obtain ⟨bf, rfl, hbf, BF, W5⟩ := hcut
    obtain ⟨w5, hwc⟩ : ∃ w5, w5 = wc := ⟨_, rfl⟩
    subst hwc
    have R5 := R1.keep W5
    have W6 := below_st W1 W5 (Nat.le_refl _)
    have hwz : w.heap.size < w1.heap.size := rl
    have HWD : Hid (∀ (wy : World) (j : Nat) (h : j < xs.length), Below bf w5 wy → wy.cell? ⟨g, j, none⟩ = some (.string xs[j])) := Lib.hid (fun wy j h hb =>
      ((W5.trans (hb.mono hbf)).cell (p := ⟨g, j, none⟩) hgl).trans (HCW.out j _ (by simp [h])))
    have hn5 : OwnI w5 (bf + 1) (.slice none 0 0) [] := OwnI.none_ _ _
    clear r0 r1' r2 rf rl cw0 cw1 hi0 hi1 hi2 hi3 HN0 HN1 HCW R1 W1 W5 d1
    go_wp2_with fail
    go_loopw [6] (fun iv wr => ∃ (k : Nat) (v : Value), 2 ≤ k ∧ k ≤ N ∧ iv = .int .i64 k ∧ Blk wr bf 27 #[.int .i64 a, .int .i64 b, v] ∧ OwnI wr (bf + 1) v (((numL ps).drop 2).take (k - 2)) ∧ Below bf w5 wr) (fun iv _ => N - (intOf iv).toNat)
    case atStart => exact ⟨2, _, Nat.le_refl _, by have := h3q.out; have := hbq.out; have := hNq.out; omega, rfl, BF, by simpa using hn5, Below.refl _ _⟩
    case round =>
      clear hn5
      obtain ⟨k, v, hk2, hk, rfl, hB, hown, hbel⟩ := hrel
      have hNp : N = ps.length := by rw [← hNq.out]; exact hbq.out
      have hnl2 : (((numL ps).drop 2).take (k - 2)).length ≤ 1048576 := by
        rw [List.length_take, List.length_drop, hnlq.out]
        have := hcl0.out
        omega
      have hpb := hcl0.out
      obtain ⟨c0, c1, c2⟩ := hB.cell3
      have cf := hB.frozen
      have hz := hB.lt
      by_cases hlt : k < N
      · have hkx : k < xs.length := by rw [hNq.out]; exact hlt
        have hcw := HWD.out wr k hkx hbel
        have hnum := fun wy => spec_l01Number (xs[k]'hkx) wy (HSZ.out _ (List.getElem_mem _))
        rw [HXK.out k hkx (by omega)] at hnum
        have hst := numL_take (ps := ps) hk2 (by omega)
        obtain ⟨x, ex⟩ : ∃ x, xs[k]'hkx = x := ⟨_, rfl⟩
        rw [ex] at hcw hnum
        obtain ⟨z, ez⟩ : ∃ z, numV (ps[k]'(by omega)) = z := ⟨_, rfl⟩
        rw [ez] at hnum hst
        obtain ⟨T, eT⟩ : ∃ T, ((numL ps).drop 2).take (k - 2) = T := ⟨_, rfl⟩
        rw [eT] at hown hst hnl2
        have HST := Lib.hid hst
        have HNM := Lib.hid hnum
        obtain ⟨qv, dv, rfl, -, -⟩ := hown.open2
        have hi0 : (k : Int) < (N : Int) := by omega
        have hi1 : (0 : Int) ≤ (k : Int) := by omega
        have q1 : IntKind.i64.wrap ((k : Int) + 1) = (k : Int) + 1 := IntWalk.i64_in _ (by omega)
        have hk9 : k ≤ 2000000 := by omega
        clear hst hnum ex ez eT hNp hpb
        go_wp2_with fail
        go_region_law (first | (refine step_append_int rfl _ _ rfl (bf + 1) (.slice qv T.length dv) T z _ rfl rfl (by first | exact hown.alloc _ | exact (hown.alloc _).drew) (by simp) (by omega) (by first | omega | (simp; omega)) ?_; intro v1 w6 hown1 hb6'; have hb6 : Below (bf + 1) wr w6 := (by first | exact ((Below.refl (bf + 1) wr).alloc hz _).drew.trans hb6' | exact ((Below.refl (bf + 1) wr).alloc hz _).trans hb6'); have B6 := hB.below hb6 (Nat.lt_succ_self _); obtain ⟨j0, j1, j2⟩ := B6.cell3; have jf := B6.frozen; have jl := B6.lt; obtain ⟨q1', e1, hv1, -⟩ := hown1.open_; have D6 := rf_push hB hown1 hb6 hbel; subst hv1) | (go_simp; go_wp2_with (go_at_call 23; (refine (HNM.out _).mono ?_); rintro e y ⟨rfl, rfl⟩)))
        all_goals
          rw [show (T ++ [z]).length = T.length + 1 by simp] at D6
          go_wp2_with fail
          exact ⟨⟨k + 1, _, by omega, by omega, by go_num, D6.1, by rw [HST.out]; exact D6.2.1, D6.2.2⟩, by simp [intOf]; omega⟩
      · have hke : ((numL ps).drop 2).take (k - 2) = (numL ps).drop 2 := List.take_of_length_le (by rw [List.length_drop, hnlq.out]; omega)
        rw [hke] at hown hnl2
        have d2 : decide ((k : Int) < (N : Int)) = false := decide_eq_false (by omega)
        obtain ⟨r, er⟩ : ∃ r, (numL ps).drop 2 = r := ⟨_, rfl⟩
        rw [er] at hown hnl2
        have hrb3 : Hid (rfB s.data.toList = fluxOk a b r) := Lib.hid (by rw [hrb2.out, er])
        have hrf3 : Hid (rfB s.data.toList = true → rfC s = a ∧ rfF s = b ∧ rfL s = r) := Lib.hid (fun h => by have := hrf2.out h; rw [er] at this; exact this)
        obtain ⟨q2, d2', rfl, hS, -⟩ := hown.open2
        have Rr := R5.below hbel (by omega)
        have Wr := W6.trans (hbel.mono (by omega))
        clear hke er hrf2 hrb2 c0 c1 c2 cf hNp
        go_wp2_with fail
        refine (spec_l02Ok a b q2 r d2' bf _ hS.ints (by omega) hB).mono ?_
        rintro e w7 ⟨rfl, hb7⟩
        have R7 := Rr.keep hb7
        have W7 := below_st Wr hb7 (Nat.le_refl _)
        have B7 := hB.keep hb7
        have S7 := hS.below hb7
        obtain ⟨c0, c1, c2⟩ := B7.cell3
        obtain ⟨r0, r1', r2⟩ := R7.cell3
        have rf := R7.frozen
        have rl := R7.lt
        have bl := B7.lt
        cases hfx : fluxOk a b r
        · have hno : rfB s.data.toList = false := by rw [hrb3.out, hfx]
          have HN := Lib.hid (show rfC s = 0 ∧ rfF s = 0 ∧ rfL s = [] ∧ rfB s.data.toList = false from ⟨(rf_no hno).1, (rf_no hno).2.1, (rf_no hno).2.2, hno⟩)
          obtain ⟨e0, e1, e2⟩ := (R7.ret3 (.int .i64 0) (.int .i64 0) (.slice none 0 0)).cell3
          have W8 := below_ret3 W7 (Nat.le_refl _) (.int .i64 0) (.int .i64 0) (.slice none 0 0)
          clear hno hfx
          go_wp2_with fail
          refine bodyPost_ret (v := .tuple #[.agg #[.int .i64 0, .int .i64 0, .slice none 0 0], .bool false]) (by simp [results, Tryd.results10, go_sem, e0, e1, e2]) rfl ?_
          rw [HN.out.1, HN.out.2.1, HN.out.2.2.1, HN.out.2.2.2]
          exact ⟨none, 0, rfl, OwnS.nil_ _ _ _, W8⟩
        · have hyes : rfB s.data.toList = true := by rw [hrb3.out, hfx]
          have hv := hrf3.out hyes
          have HN := Lib.hid (show rfC s = a ∧ rfF s = b ∧ rfL s = r ∧ rfB s.data.toList = true from ⟨hv.1, hv.2.1, hv.2.2, hyes⟩)
          obtain ⟨e0, e1, e2⟩ := (R7.ret3 (.int .i64 a) (.int .i64 b) (.slice q2 r.length d2')).cell3
          have W8 := below_ret3 W7 (Nat.le_refl _) (.int .i64 a) (.int .i64 b) (.slice q2 r.length d2')
          have S8 := own_ret3 S7 (show w.heap.size < bf + 1 by omega) (.int .i64 a) (.int .i64 b) (.slice q2 r.length d2')
          clear hyes hv hfx
          go_wp2_with fail
          refine bodyPost_ret (v := .tuple #[.agg #[.int .i64 a, .int .i64 b, .slice q2 r.length d2'], .bool true]) (by simp [results, Tryd.results10, go_sem, e0, e1, e2]) rfl ?_
          rw [HN.out.1, HN.out.2.1, HN.out.2.2.1, HN.out.2.2.2]
          exact ⟨q2, d2', rfl, S8.mono (by omega), W8⟩
theorem rfL_len (s : ByteArray) : (rfL s).length ≤ 4000 := by
  cases h : rfB s.data.toList
  · rw [(rf_no h).2.2]; simp
  · rw [(rf_yes h).2.2]
    unfold rfB at h
    simp only [Bool.and_eq_true] at h
    exact (fluxOk_bd h.2.2).2.1.2
end Go.Proofs.YtfdcainjppljhaaDoor
