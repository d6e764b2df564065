/- The law's walk: FnWeakAreas. -/
import Derived.Test.YtfdcainjppljhaaWaP
import Derived.Test.YtfdcainjppljhaaOpenB
import Derived.Test.YtfdcainjppljhaaLawAid
import Derived.Deep.RegionHeld3
namespace Go.Proofs.Ytfdcainjppljhaa
open Go.RowKit
set_option linter.unusedVariables false
set_option maxHeartbeats 8000000 in
set_option maxRecDepth 20000 in
theorem walk_FnWeakAreas (x y : Byt) (w : World) (hx : x.ok w) (hy : y.ok w) :
    Calls Try.prog 4 #[x.val, y.val] w fun e w' => e = .returned (.bool true) ∧ Below w.heap.size w w' := by
  obtain ⟨p, cs, cap⟩ := x
  obtain ⟨pm, ms, capm⟩ := y
  obtain ⟨hI, -⟩ := hx
  obtain ⟨hM, -⟩ := hy
  simp only [Byt.val] at hI hM ⊢
  have hlong := laws_a2Long p pm cs ms cap capm w
  by_cases hl : cs.length ≤ 3000 ∧ ms.length ≤ 3000
  rotate_left
  · have hd : (decide (3000 < (cs.length : Int)) || decide (3000 < (ms.length : Int))) = true := by simp; omega
    rw [hd] at hlong
    go_enter Try.func4, Try.ntmps4
    go_wp2_with fail
    refine hlong.mono ?_
    rintro e w0 ⟨rfl, hww⟩
    rw [hww]
    clear hww w0
    go_wp2_with fail
    go_ret
    exact ⟨rfl, Below.refl _ _⟩
  have hd : (decide (3000 < (cs.length : Int)) || decide (3000 < (ms.length : Int))) = false := by simp; omega
  rw [hd] at hlong
  go_enter Try.func4, Try.ntmps4
  go_wp2_with fail
  refine hlong.mono ?_
  rintro e w0 ⟨rfl, hww⟩
  rw [hww]
  clear hww w0 hd
  go_wp2_with fail
  refine (spec_DrawWeakenFlux p cs cap _ hI (by omega)).mono ?_
  rintro e w1 ⟨c, f, q, l, dq, a, b, pt, t, capt, rfl, hm, htl, hcap, S1, T1, W1⟩
  have BF := (Blk.new w1 26 #[.int .i64 c, .int .i64 f, .slice q l.length dq]).alloc' (.cells #[.int .i64 a, .int .i64 b, .slice pt t.length capt] 36)
  have BS := Blk.new (w1.alloc (.cells #[.int .i64 c, .int .i64 f, .slice q l.length dq] 26)) 36 #[.int .i64 a, .int .i64 b, .slice pt t.length capt]
  have esz : (w1.alloc (.cells #[.int .i64 c, .int .i64 f, .slice q l.length dq] 26)).heap.size = w1.heap.size + 1 := by simp
  rw [esz] at BS
  replace S1 := (S1.below ((Below.refl _ w1).alloc (Nat.le_refl _) (.cells #[.int .i64 c, .int .i64 f, .slice q l.length dq] 26))).below ((Below.refl _ _).alloc (Nat.le_refl _) (.cells #[.int .i64 a, .int .i64 b, .slice pt t.length capt] 36))
  replace T1 := (T1.below ((Below.refl _ w1).alloc (Nat.le_refl _) (.cells #[.int .i64 c, .int .i64 f, .slice q l.length dq] 26))).below ((Below.refl _ _).alloc (Nat.le_refl _) (.cells #[.int .i64 a, .int .i64 b, .slice pt t.length capt] 36))
  have W2 : Below w.heap.size w ((w1.alloc (.cells #[.int .i64 c, .int .i64 f, .slice q l.length dq] 26)).alloc (.cells #[.int .i64 a, .int .i64 b, .slice pt t.length capt] 36)) := (W1.alloc W1.size _).alloc (by have := W1.size; simp; omega) _
  have zb := W1.size
  clear esz W1
  obtain ⟨f0, f1, f2⟩ := BF.cell3
  obtain ⟨s0, s1, s2⟩ := BS.cell3
  go_wp2_with fail
  obtain ⟨bf, ebf⟩ : ∃ bf, w1.heap.size = bf := ⟨_, rfl⟩
  generalize (w1.alloc (.cells #[.int .i64 c, .int .i64 f, .slice q l.length dq] 26)).alloc (.cells #[.int .i64 a, .int .i64 b, .slice pt t.length capt] 36) = w2 at BF BS S1 T1 W2 ⊢
  rw [ebf] at BF BS zb ⊢
  refine (impl_WeakenFlux c f q l dq a b pt t capt _ S1.ints T1.ints (by omega) hcap).mono ?_
  rintro e w3 ⟨q2, d2, rfl, S3, hb3⟩
  clear f0 f1 f2 s0 s1 s2
  have hz3 := hb3.size
  have hbs := BS.lt
  by_cases hE : weE c f l a b t = 0
  rotate_left
  · have W3 := below_st W2 hb3 (Nat.le_refl _)
    generalize fxC (weV c f l a b t) (weT f l a b t) l.sum c = C0 at *
    generalize fxF (weV c f l a b t) (weT f l a b t) l.sum c = F0 at *
    generalize fxL (weV c f l a b t) (weT f l a b t) l.sum c = L0 at *
    generalize weE c f l a b t = E0 at *
    have hd : (E0 == 0) = false := by simpa using hE
    have W4 := W3.alloc W3.size (.cells #[.int .i64 C0, .int .i64 F0, .slice q2 L0.length d2] 26)
    go_wp2_with fail
    go_ret
    exact ⟨rfl, W4⟩
  obtain ⟨hok, hsp, -, hTne, htm⟩ := we_zero hE
  obtain ⟨eC, eF, eL⟩ := we_flux hE
  rw [hE, eC, eF, eL]
  rw [eL] at S3
  obtain ⟨hok2, hsum2, hchg2⟩ := times_flux hTne htm
  obtain ⟨-, hlen, -, -, -, hsum⟩ := fluxOk_bd hok
  obtain ⟨-, hlen2, -⟩ := fluxOk_bd hok2
  obtain ⟨-, hab, -, hris⟩ := spanOk_bd hsp
  have hrv1 : revV c f l = l.sum := by unfold revV; rw [hok]; rfl
  have hch1 : chV c f l = chgL f l := by unfold chV; rw [hok]; rfl
  have hrv2 : revV c ((weT f l a b t).headD 0) (gapsT (weT f l a b t) l.sum) = l.sum := by unfold revV; rw [hok2]; exact hsum2
  have hch2 : chV c ((weT f l a b t).headD 0) (gapsT (weT f l a b t) l.sum) = weT f l a b t := by unfold chV; rw [hok2]; exact hchg2
  have hWT : weT f l a b t = (((chgL f l).filter fun x => decide (x < a)) ++ t) ++ ((chgL f l).filter fun x => decide (b ≤ x)) := rfl
  have hGT := gapsT_len (weT f l a b t) l.sum (by have : 0 < (weT f l a b t).length := List.length_pos_iff.2 hTne; omega)
  have hXl := chgL_len f l
  obtain ⟨t0, et0⟩ : ∃ t0, (weT f l a b t).headD 0 = t0 := ⟨_, rfl⟩
  obtain ⟨GL, eGL⟩ : ∃ GL, gapsT (weT f l a b t) l.sum = GL := ⟨_, rfl⟩
  rw [et0, eGL] at hrv2 hch2
  rw [eGL] at S3 hGT hlen2
  rw [et0, eGL]
  generalize weT f l a b t = T at *
  generalize chgL f l = X at *
  have HWT := Lib.hid hWT
  have hTl : T.length ≤ 100000 := by omega
  clear hGT hWT eC eF eL hok2 hsum2 hchg2 et0 eGL hTne htm hE hok hsp hris
  have BG := Blk.new w3 26 #[.int .i64 c, .int .i64 t0, .slice q2 GL.length d2]
  have BFw := BF.keep hb3
  have BF3 := BFw.alloc' (.cells #[.int .i64 c, .int .i64 t0, .slice q2 GL.length d2] 26)
  have BS3 := (BS.keep hb3).alloc' (.cells #[.int .i64 c, .int .i64 t0, .slice q2 GL.length d2] 26)
  have S4 := (S1.below hb3).below ((Below.refl _ w3).alloc (Nat.le_refl _) (.cells #[.int .i64 c, .int .i64 t0, .slice q2 GL.length d2] 26))
  have T4 := (T1.below hb3).below ((Below.refl _ w3).alloc (Nat.le_refl _) (.cells #[.int .i64 c, .int .i64 t0, .slice q2 GL.length d2] 26))
  replace S3 := S3.below ((Below.refl _ w3).alloc (Nat.le_refl _) (.cells #[.int .i64 c, .int .i64 t0, .slice q2 GL.length d2] 26))
  have W4 := (below_st W2 hb3 (Nat.le_refl _)).alloc (below_st W2 hb3 (Nat.le_refl _)).size (.cells #[.int .i64 c, .int .i64 t0, .slice q2 GL.length d2] 26)
  clear BF BS S1 T1 W2 hb3
  obtain ⟨f0, f1, f2⟩ := BFw.cell3
  have hfl := BFw.lt
  go_wp2_with fail
  obtain ⟨bg, ebg⟩ : ∃ bg, w3.heap.size = bg := ⟨_, rfl⟩
  have hbg : bf + 1 < bg := by omega
  clear f0 f1 f2 hfl BFw
  generalize w3.alloc (.cells #[.int .i64 c, .int .i64 t0, .slice q2 GL.length d2] 26) = w4 at BG BF3 BS3 S3 S4 T4 W4 ⊢
  rw [ebg] at BG ⊢
  refine (impl_ChangesOf c f q l dq _ S4.ints (by omega)).mono ?_
  rintro e w5 ⟨q4, d4, rfl, X5, hb5⟩
  rw [hch1, hXl]
  rw [hch1] at X5
  have BG5 := BG.keep hb5
  have BF5 := BF3.keep hb5
  have BS5 := BS3.keep hb5
  have S5 := S4.below hb5
  have T5 := T4.below hb5
  have G5 := S3.below hb5
  have W5 := below_st W4 hb5 (Nat.le_refl _)
  clear BG BF3 BS3 S4 T4 S3 W4 hb5
  obtain ⟨g0, g1, g2⟩ := BG5.cell3
  go_wp2_with fail
  refine (impl_ChangesOf c t0 q2 GL d2 _ G5.ints (by omega)).mono ?_
  rintro e w6 ⟨q5, d5, rfl, T6, hb6⟩
  rw [hch2]
  rw [hch2] at T6
  have BG6 := BG5.keep hb6
  have BF6 := BF5.keep hb6
  have BS6 := BS5.keep hb6
  have S6 := S5.below hb6
  have U6 := T5.below hb6
  have G6 := G5.below hb6
  have X6 := X5.below hb6
  have W6 := below_st W5 hb6 (Nat.le_refl _)
  clear BG5 BF5 BS5 S5 T5 G5 X5 W5 hb6 g0 g1 g2
  obtain ⟨g, rfl, -, hrow0⟩ := X6 (by intro e; rw [e] at hXl; simp at hXl; omega)
  obtain ⟨B2, eB2⟩ : ∃ B2, w6.heap.size = B2 := ⟨_, rfl⟩
  have hgB := hrow0.lt
  have hzF := BF6.lt
  have hzS := BS6.lt
  have hzG := BG6.lt
  have hzW := W6.size
  rw [eB2] at hgB hzF hzS hzG hzW
  go_wp2_with fail
  go_loopw [11, 12] (fun v i wr => ∃ k : Nat, k ≤ l.length ∧ i = .int .i64 k ∧ OwnI wr B2 v ((X.take k).filter (fun x => decide (x < a))) ∧ Below B2 w6 wr) (fun _ i _ => l.length - (intOf i).toNat)
  case atStart => exact ⟨0, Nat.zero_le _, rfl, by have h := OwnI.nil0 w6; rw [eB2] at h; simpa using h, (Below.refl _ _).alloc (by omega) _⟩
  case round =>
    obtain ⟨j, hj, rfl, hown, hbel⟩ := hrel
    have hz : B2 ≤ wr.heap.size := by have := hbel.size; omega
    have BSr := BS6.below hbel hzS
    obtain ⟨s0, s1, s2⟩ := BSr.cell3
    have hrow := hrow0.aside hgB hbel
    by_cases hlj : j < l.length
    · have hjX : j < X.length := by omega
      obtain ⟨hc, -⟩ := hrow.cell hjX
      have hsn := filt_snoc (fun x => decide (x < a)) hjX
      have hll : ((X.take j).filter (fun x => decide (x < a))).length ≤ 5000 := by have := List.length_filter_le (fun x => decide (x < a)) (X.take j); rw [List.length_take] at this; omega
      obtain ⟨x, ex⟩ : ∃ x, X[j] = x := ⟨_, rfl⟩
      rw [ex] at hc hsn
      clear ex
      have HSN := Lib.hid hsn
      clear hsn
      have d0 : (j : Int) < (l.length : Int) := by omega
      by_cases hxb : x < a
      · have d2 : decide (x < a) = true := decide_eq_true hxb
        go_wp2_with fail
        go_quiet (fail)
        generalize hw5 : wr.drewN _ = w5
        replace hown : OwnI w5 B2 u11 ((X.take j).filter (fun x => decide (x < a))) := by rw [← hw5]; exact hown.drewN _
        have hc5 : w5.cell? ⟨g, j, none⟩ = some (.int .i64 x) := by rw [← hw5]; exact hc
        replace hz : B2 ≤ w5.heap.size := by rw [← hw5]; exact hz
        replace hbel : Below B2 w6 w5 := by rw [← hw5]; exact below_drewN hbel _
        clear hw5 hc hrow BSr s0 s1 s2
        go_wp2_with (at_builtin; refine append_int _ rfl (.tmp 48) (.tmp 53) rfl B2 u11 ((X.take j).filter (fun x => decide (x < a))) x rfl rfl hown (by omega) hz ?_; intro v1 w6 hown1 hbel1)
        exact ⟨⟨j + 1, by omega, by go_num, by rw [HSN.out, if_pos d2]; exact hown1, hbel.trans hbel1⟩, by simp [intOf]; omega⟩
      · have d2 : decide (x < a) = false := decide_eq_false hxb
        go_wp2_with fail
        go_quiet (fail)
        generalize hw5 : wr.drewN _ = w5
        replace hown : OwnI w5 B2 u11 ((X.take j).filter (fun x => decide (x < a))) := by rw [← hw5]; exact hown.drewN _
        replace hbel : Below B2 w6 w5 := by rw [← hw5]; exact below_drewN hbel _
        clear hw5 hc hrow BSr s0 s1 s2
        go_wp2_with fail
        exact ⟨⟨j + 1, by omega, by go_num, by rw [HSN.out, if_neg (by rw [d2]; simp)]; exact hown, hbel⟩, by simp [intOf]; omega⟩
    · have hXj : X.take j = X := List.take_of_length_le (by omega)
      rw [hXj] at hown
      obtain ⟨Y, eY⟩ : ∃ Y, X.filter (fun x => decide (x < a)) = Y := ⟨_, rfl⟩
      have hYl : Y.length ≤ 5000 := by rw [← eY]; have := List.length_filter_le (fun x => decide (x < a)) X; omega
      rw [eY] at hown
      have HY := Lib.hid eY
      clear eY hXj hrow
      have hT5 := (U6.ints).below (hbel.mono (by omega) : Below w6.heap.size w6 wr)
      go_wp2_with (at_builtin; refine append_src _ rfl (.tmp 55) (.tmp 57) rfl B2 u11 Y t pt capt rfl rfl hcap hT5 hown (by omega) hz ?_; intro v1 w7 hown1 hbel1)
      replace hbel := hbel.trans hbel1
      clear BSr s0 s1 s2 hT5 hown hbel1 hz
      go_loopw [11, 13] (fun v i wq => ∃ j : Nat, j ≤ l.length ∧ i = .int .i64 j ∧ OwnI wq B2 v ((Y ++ t) ++ (X.take j).filter (fun x => decide (b ≤ x))) ∧ Below B2 w6 wq) (fun _ i _ => l.length - (intOf i).toNat)
      case atStart => exact ⟨0, Nat.zero_le _, rfl, by simpa using hown1, hbel⟩
      case round =>
        clear hbel hown1
        obtain ⟨j, hj, rfl, hown, hbel⟩ := hrel
        have hz : B2 ≤ wr.heap.size := by have := hbel.size; omega
        have BSr := BS6.below hbel hzS
        obtain ⟨s0, s1, s2⟩ := BSr.cell3
        have hrow := hrow0.aside hgB hbel
        by_cases hlj : j < l.length
        · have hjX : j < X.length := by omega
          obtain ⟨hc, -⟩ := hrow.cell hjX
          have hsn := filt_snoc (fun x => decide (b ≤ x)) hjX
          have hll : ((Y ++ t) ++ (X.take j).filter (fun x => decide (b ≤ x))).length ≤ 20000 := by rw [List.length_append, List.length_append]; have := List.length_filter_le (fun x => decide (b ≤ x)) (X.take j); rw [List.length_take] at this; omega
          obtain ⟨x, ex⟩ : ∃ x, X[j] = x := ⟨_, rfl⟩
          rw [ex] at hc hsn
          clear ex
          have HSN := Lib.hid hsn
          clear hsn
          have d0 : (j : Int) < (l.length : Int) := by omega
          by_cases hxb : b ≤ x
          · have d2 : decide (b ≤ x) = true := decide_eq_true hxb
            go_wp2_with fail
            go_quiet (fail)
            generalize hw5 : wr.drewN _ = w5
            replace hown : OwnI w5 B2 u11 ((Y ++ t) ++ (X.take j).filter (fun x => decide (b ≤ x))) := by rw [← hw5]; exact hown.drewN _
            have hc5 : w5.cell? ⟨g, j, none⟩ = some (.int .i64 x) := by rw [← hw5]; exact hc
            replace hz : B2 ≤ w5.heap.size := by rw [← hw5]; exact hz
            replace hbel : Below B2 w6 w5 := by rw [← hw5]; exact below_drewN hbel _
            clear hw5 hc hrow BSr s0 s1 s2
            go_wp2_with (at_builtin; refine append_int _ rfl (.tmp 72) (.tmp 77) rfl B2 u11 ((Y ++ t) ++ (X.take j).filter (fun x => decide (b ≤ x))) x rfl rfl hown (by omega) hz ?_; intro v1 w6 hown1 hbel1)
            exact ⟨⟨j + 1, by omega, by go_num, by rw [HSN.out, if_pos d2, ← List.append_assoc]; exact hown1, hbel.trans hbel1⟩, by simp [intOf]; omega⟩
          · have d2 : decide (b ≤ x) = false := decide_eq_false hxb
            go_wp2_with fail
            go_quiet (fail)
            generalize hw5 : wr.drewN _ = w5
            replace hown : OwnI w5 B2 u11 ((Y ++ t) ++ (X.take j).filter (fun x => decide (b ≤ x))) := by rw [← hw5]; exact hown.drewN _
            replace hbel : Below B2 w6 w5 := by rw [← hw5]; exact below_drewN hbel _
            clear hw5 hc hrow BSr s0 s1 s2
            go_wp2_with fail
            exact ⟨⟨j + 1, by omega, by go_num, by rw [HSN.out, if_neg (by rw [d2]; simp)]; exact hown, hbel⟩, by simp [intOf]; omega⟩
        · have hXj : X.take j = X := List.take_of_length_le (by omega)
          rw [hXj, ← HY.out, ← HWT.out] at hown
          obtain ⟨q6, d6, rfl, ST⟩ := hown.open_
          have hm6 : Below w6.heap.size w6 wr := hbel.mono (by omega)
          have BFr := BF6.keep hm6
          have BGr := BG6.keep hm6
          have Sr := S6.below hm6
          have Gr := G6.below hm6
          have Tr := T6.below hm6
          have Wr := below_st W6 hm6 (Nat.le_refl _)
          clear BSr s0 s1 s2 hrow
          obtain ⟨f0, f1, f2⟩ := BFr.cell3
          obtain ⟨g0, g1, g2⟩ := BGr.cell3
          have RA := fun w' hI' => impl_RevolutionOf c f q l dq w' hI' (by omega)
          have RB := fun w' hI' => impl_RevolutionOf c t0 q2 GL d2 w' hI' (by omega)
          rw [hrv1] at RA
          rw [hrv2] at RB
          have HRA := Lib.hid RA
          have HRB := Lib.hid RB
          clear RA RB hrv1 hrv2 hch1 hch2
          go_wp2_with fail
          have Sr' : OwnS wr 0 q l := Sr.mono (Nat.zero_le _)
          have Gr' : OwnS wr 0 q2 GL := Gr.mono (Nat.zero_le _)
          go_region_with (first | (go_at_call 19; refine (laws_a2Same q5 q6 T T d5 d6 _ (by exact Tr.ints) (by exact ST.ints) (by omega)).mono ?_; rintro e y1 ⟨rfl, hb1⟩; rw [decide_eq_true rfl]; have BF1 : Blk y1 bf 26 #[.int .i64 c, .int .i64 f, .slice q l.length dq] := Blk.keep (w := wr.drew) (by exact BFr) hb1; have BG1 : Blk y1 bg 26 #[.int .i64 c, .int .i64 t0, .slice q2 GL.length d2] := Blk.keep (w := wr.drew) (by exact BGr) hb1; have S1' : OwnS y1 0 q l := OwnS.below (w := wr.drew) (by exact Sr') hb1; have G1' : OwnS y1 0 q2 GL := OwnS.below (w := wr.drew) (by exact Gr') hb1; have W1' := below_st Wr.drew hb1 (Nat.le_refl _); obtain ⟨f10, f11, f12⟩ := BF1.cell3; obtain ⟨g10, g11, g12⟩ := BG1.cell3) | (go_at_call 20; refine (HRA.out _ (by exact S1'.ints)).mono ?_; rintro e y2 ⟨rfl, hb2⟩; have BG2 := BG1.keep hb2; have G2' := G1'.below hb2; have W2' := below_st W1' hb2 (Nat.le_refl _); obtain ⟨g20, g21, g22⟩ := BG2.cell3) | (go_at_call 20; refine (HRB.out _ (by exact G2'.ints)).mono ?_; rintro e y3 ⟨rfl, hb3⟩; have W3' := below_st W2' hb3 (Nat.le_refl _)))
          all_goals
            go_wp2_with fail
            go_ret
            exact ⟨rfl, W3'⟩
end Go.Proofs.Ytfdcainjppljhaa
