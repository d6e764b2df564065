/- RunsOf, ClockFaults. -/
import Derived.Test.YtkbhdlhkfeaejaaDoorRunsP
import Derived.Test.YtkbhdlhkfeaejaaDoorInts
import Derived.Test.YtkbhdlhkfeaejaaDoorShelf
namespace Go.Proofs.YtkbhdlhkfeaejaaDoor
open Go.RowKit
set_option linter.unusedVariables false
theorem strings_IndexOne (s : ByteArray) (w : World) :
    Calls Tryd.prog 39 #[.string s, .int .u8 49] w fun e w' => e = .returned (.int .i64 (Lib.indexByte s.data.toList 49)) ∧ w = w' :=
  (Tryd.strings_IndexByte s 49 w).mono fun e w' h => ⟨h.1, h.2.symm⟩
set_option maxHeartbeats 2000000 in
set_option maxRecDepth 20000 in
theorem impl_RunsOf (s : ByteArray) (w : World) (hs : s.size ≤ 1048576) :
    Calls Tryd.prog 15 #[.string s] w fun e w' => ∃ q d, e = .returned (.slice q (runsL s).length d) ∧ OwnS w' w.heap.size q (runsL s) ∧ Below w.heap.size w w' := by
  obtain h | h := (Bool.eq_false_or_eq_true (cellStr s)).symm
  · have hr : runsL s = [] := by unfold runsL; rw [h]; rfl
    have H := Lib.hid h
    rw [hr]
    clear h hr
    go_enter Tryd.func15, Tryd.ntmps15
    go_wp2_with (go_at_call 38; refine (impl_isCellString s _ (by omega)).mono ?_; rintro e w1 ⟨rfl, hb⟩; rw [H.out])
    go_ret
    exact ⟨none, 0, rfl, OwnS.nil_ _ _ _, hb⟩
  obtain ⟨l, hl⟩ : ∃ l, runsL s = l := ⟨_, rfl⟩
  have h8 := (cellStr_bd h).1
  have HL : Hid (l = gapL (onesL s.data.toList s.size)) := Lib.hid (by rw [← hl]; unfold runsL; rw [h]; rfl)
  rw [hl]
  have H := Lib.hid h
  clear h hl
  have hsl : s.data.toList.length = s.size := rfl
  go_enter Tryd.func15, Tryd.ntmps15
  go_wp2_with (first | (go_at_call 38; refine (impl_isCellString s _ (by omega)).mono ?_; rintro e w1 ⟨rfl, hb⟩; rw [H.out]) | (go_at_call 39; refine (strings_IndexOne _ _).mono ?_; rintro e w2 ⟨rfl, rfl⟩))
  have hfin : ∀ (wr : World) (v : Value), OwnI wr w.heap.size v l → ∃ q d, v = .slice q l.length d ∧ OwnS wr w.heap.size q l := fun wr v ho => by
    obtain ⟨p, cap, hv, hown⟩ := ho.open_
    exact ⟨p, cap, hv, hown⟩
  go_loopw [3, 4] (fun v av wr => ((av = .int .i64 (-1) ∧ OwnI wr w.heap.size v l) ∨ (∃ a : Nat, a < s.size ∧ av = .int .i64 a ∧ Hid (∃ p, onesL s.data.toList (a + 1) = p ++ [a]) ∧ OwnI wr w.heap.size v (gapL (onesL s.data.toList (a + 1))))) ∧ Below w.heap.size w wr) (fun _ av _ => s.size - (intOf av).toNat)
  case atStart =>
    refine ⟨?_, hb⟩
    rcases indexByte_is 49 s.data.toList with ⟨e, ha⟩ | ⟨n, e, hn, hc, ha⟩
    · rw [e]
      refine .inl ⟨rfl, ?_⟩
      have h0 : onesL s.data.toList (0 + s.size) = onesL s.data.toList 0 := onesL_skip _ fun i hi => by rw [Nat.zero_add]; exact ha i (by omega)
      rw [Nat.zero_add] at h0
      rw [HL.out, h0]
      exact OwnI.none_ _ _
    · rw [e]
      have h0 : onesL s.data.toList (0 + n) = onesL s.data.toList 0 := onesL_skip _ fun i hi => by rw [Nat.zero_add]; exact ha i hi
      rw [Nat.zero_add] at h0
      have h1 : onesL s.data.toList (n + 1) = [] ++ [n] := by rw [onesL_yes hc, h0]; rfl
      refine .inr ⟨n, by omega, rfl, Lib.hid ⟨[], h1⟩, ?_⟩
      rw [h1]
      exact OwnI.none_ _ _
  case round =>
    obtain ⟨hcase, hbel⟩ := hrel
    have hz := hbel.size
    rcases hcase with ⟨rfl, hown⟩ | ⟨a, ha, rfl, HP, hown⟩
    · obtain ⟨q, d, rfl, hS⟩ := hfin _ _ hown
      go_wp2_with fail
      go_ret
      exact ⟨q, d, rfl, hS, hbel⟩
    · have hd0 : decide ((a : Int) < 0) = false := decide_eq_false (by omega)
      obtain ⟨b, hab⟩ : ∃ b, a + 1 = b := ⟨_, rfl⟩
      rw [hab] at HP hown
      have q1 : IntKind.i64.wrap ((a : Int) + 1) = (b : Int) := by rw [IntWalk.i64_in _ (by omega)]; omega
      have q2 : (a : Int) + 1 = (b : Int) := by omega
      have i1 : b ≤ s.size := by omega
      have i2 : (b : Int) ≤ (s.size : Int) := by omega
      have hX := indexByte_is 49 (s.extract (b) s.size).data.toList
      have hxl : (s.extract (b) s.size).data.toList.length = s.size - (b) := by
        show (s.extract (b) s.size).size = _
        rw [ByteArray.size_extract]; omega
      rcases hX with ⟨e, hno⟩ | ⟨n, e, hn, hc, hno⟩
      · have hsk : onesL s.data.toList (b + (s.size - (b))) = onesL s.data.toList (b) := onesL_skip _ fun i hi => by
          have h1 := hno i (by rw [hxl]; exact hi)
          rw [getD_ext (by omega)] at h1
          exact h1
        rw [show b + (s.size - (b)) = s.size by omega] at hsk
        rw [← hsk, ← HL.out] at hown
        obtain ⟨q, d, rfl, hS⟩ := hfin _ _ hown
        have HE := Lib.hid e
        clear e hno hsk
        go_wp2_with (go_at_call 39; refine (strings_IndexOne _ _).mono ?_; rintro e w2 ⟨rfl, rfl⟩; rw [HE.out])
        go_ret
        exact ⟨q, d, rfl, hS, hbel⟩
      · obtain ⟨c, hbc⟩ : ∃ c, b + n = c := ⟨_, rfl⟩
        have hsk : onesL s.data.toList (b + n) = onesL s.data.toList (b) := onesL_skip _ fun i hi => by
          have h1 := hno i hi
          rw [getD_ext (by omega)] at h1
          exact h1
        have hat : s.data.toList.getD (b + n) 0 = 49 := by rw [← getD_ext (by omega)]; exact hc
        rw [hbc] at hsk hat
        have hnew := onesL_yes hat
        rw [hsk] at hnew
        obtain ⟨p, hp⟩ := HP.out
        have hgl : (gapL (onesL s.data.toList (b))).length ≤ 8000 := by
          have h1 := gapL_len (onesL s.data.toList (b))
          have h2 := onesL_len s.data.toList (b)
          omega
        have hg := gapL_snoc a (c) p
        rw [← hp, ← hnew] at hg
        have hgn : ((c : Nat) : Int) - (a : Int) = (n : Int) + 1 := by omega
        rw [hgn] at hg
        have HG := Lib.hid hg
        have HQ : Hid (∃ p, onesL s.data.toList (c + 1) = p ++ [c]) := Lib.hid ⟨_, hnew⟩
        have HE := Lib.hid e
        have hn2 : n < s.size - (b) := by omega
        have hd1 : decide ((n : Int) < 0) = false := decide_eq_false (by omega)
        have q3 : IntKind.i64.wrap ((n : Int) + 1) = (n : Int) + 1 := IntWalk.i64_in _ (by omega)
        have q4 : IntKind.i64.wrap ((a : Int) + ((n : Int) + 1)) = (c : Int) := by rw [IntWalk.i64_in _ (by omega)]; omega
        have q5 : (a : Int) + ((n : Int) + 1) = (c : Int) := by omega
        clear e hno hsk hat hnew hp hg hc hn hxl
        go_wp2_with (first | (go_at_call 39; refine (strings_IndexOne _ _).mono ?_; rintro e w2 ⟨rfl, rfl⟩; rw [HE.out]) | (at_builtin; refine append_int _ rfl (.tmp 20) (.tmp 23) rfl w.heap.size u3 (gapL (onesL s.data.toList (b))) _ rfl rfl hown (by omega) hz ?_; intro v1 w1 hown1 hbel1))
        rw [← HG.out] at hown1
        go_roundw
        case rel => exact ⟨.inr ⟨c, by omega, by go_num, HQ, hown1⟩, hbel.trans (hbel1.mono (Nat.le_refl _))⟩
        case measure => simp [intOf]; omega
set_option maxHeartbeats 2000000 in
set_option maxRecDepth 20000 in
theorem spec_RunsOf (s : ByteArray) (w : World) (hs : s.size ≤ 1048576) :
    Calls Tryd.prog 14 #[.string s] w fun e w' => ∃ q d, e = .returned (.slice q (runsL s).length d) ∧ OwnS w' w.heap.size q (runsL s) ∧ Below w.heap.size w w' := by
  obtain h | h := (Bool.eq_false_or_eq_true (cellStr s)).symm
  · have hr : runsL s = [] := by unfold runsL; rw [h]; rfl
    have H := Lib.hid h
    rw [hr]
    clear h hr
    go_enter Tryd.func14, Tryd.ntmps14
    go_wp2_with (go_at_call 37; refine (spec_l05Cells s _ (by omega)).mono ?_; rintro e w1 ⟨rfl, rfl⟩; rw [H.out])
    go_ret
    exact ⟨none, 0, rfl, OwnS.nil_ _ _ _, Below.refl _ _⟩
  obtain ⟨l, hl⟩ : ∃ l, runsL s = l := ⟨_, rfl⟩
  have h8 := (cellStr_bd h).1
  have HL : Hid (l = gapL (onesL s.data.toList s.size)) := Lib.hid (by rw [← hl]; unfold runsL; rw [h]; rfl)
  rw [hl]
  have H := Lib.hid h
  clear h hl
  go_enter Tryd.func14, Tryd.ntmps14
  go_wp2_with (go_at_call 37; refine (spec_l05Cells s _ (by omega)).mono ?_; rintro e w1 ⟨rfl, rfl⟩; rw [H.out])
  go_loopw [3, 4, 5] (fun v bv i wr => ∃ k : Nat, k ≤ s.size ∧ i = .int .i64 k ∧ ((bv = .int .i64 (-1) ∧ Hid (onesL s.data.toList k = [])) ∨ (∃ b : Nat, b < k ∧ bv = .int .i64 b ∧ Hid (∃ p, onesL s.data.toList k = p ++ [b]))) ∧ OwnI wr w.heap.size v (gapL (onesL s.data.toList k)) ∧ Below w.heap.size w wr) (fun _ _ i _ => s.size - (intOf i).toNat)
  case atStart => exact ⟨0, by omega, rfl, .inl ⟨rfl, rfl⟩, OwnI.nil0 _, (Below.refl _ _).alloc (Nat.le_refl _) _⟩
  case round =>
    obtain ⟨k, hk, rfl, hcase, hown, hbel⟩ := hrel
    have hz := hbel.size
    by_cases hlt : k < s.size
    · have hgl : (gapL (onesL s.data.toList k)).length ≤ 8000 := by
        have h1 := gapL_len (onesL s.data.toList k)
        have h2 := onesL_len s.data.toList k
        omega
      have hgd := getD_at hlt
      by_cases hc : ((s[k]'hlt).toNat : Int) = 49
      · have h49 : s.data.toList.getD k 0 = 49 := by rw [hgd]; exact ofNat_49 hc
        have hy := onesL_yes h49
        have hne : (((s[k]'hlt).toNat : Int) != 49) = false := by rw [hc]; rfl
        rcases hcase with ⟨rfl, H0⟩ | ⟨b, hb, rfl, HP⟩
        · have hy2 : onesL s.data.toList (k + 1) = [] ++ [k] := by rw [hy, H0.out]
          have hg2 : gapL (onesL s.data.toList (k + 1)) = gapL (onesL s.data.toList k) := by rw [hy2, H0.out]; rfl
          have HY := Lib.hid hy2
          have HG := Lib.hid hg2
          clear hy hy2 hg2 h49 hgd
          go_wp2_with fail
          go_roundw
          case rel => exact ⟨k + 1, by omega, by go_num, .inr ⟨k, by omega, rfl, Lib.hid ⟨[], HY.out⟩⟩, by rw [HG.out]; exact hown, hbel⟩
          case measure => simp [intOf]; omega
        · obtain ⟨p, hp⟩ := HP.out
          have hg := gapL_snoc b k p
          have hy2 : onesL s.data.toList (k + 1) = p ++ [b] ++ [k] := by rw [hy, hp]
          rw [← hp, show onesL s.data.toList k ++ [k] = onesL s.data.toList (k + 1) from hy.symm] at hg
          have HY := Lib.hid hy2
          have HG := Lib.hid hg
          have hd : decide ((b : Int) < 0) = false := decide_eq_false (by omega)
          have q1 : IntKind.i64.wrap ((k : Int) - (b : Int)) = (k : Int) - (b : Int) := IntWalk.i64_in _ (by omega)
          clear hy hy2 hg h49 hgd hp
          go_wp2_with (at_builtin; refine append_int _ rfl (.tmp 22) (.tmp 26) rfl w.heap.size u3 (gapL (onesL s.data.toList k)) _ rfl rfl hown (by omega) hz ?_; intro v1 w1 hown1 hbel1)
          rw [← HG.out] at hown1
          go_roundw
          case rel => exact ⟨k + 1, by omega, by go_num, .inr ⟨k, by omega, rfl, Lib.hid ⟨_, HY.out⟩⟩, hown1, hbel.trans (hbel1.mono (Nat.le_refl _))⟩
          case measure => simp [intOf]; omega
      · have h49 : s.data.toList.getD k 0 ≠ 49 := by rw [hgd]; exact ofNat_not49 hc
        have hne : (((s[k]'hlt).toNat : Int) != 49) = true := by rw [bne_iff_ne]; exact hc
        have HN := Lib.hid (onesL_no h49)
        clear h49 hgd
        go_wp2_with fail
        go_roundw
        case rel =>
          refine ⟨k + 1, by omega, by go_num, ?_, by rw [HN.out]; exact hown, hbel⟩
          rcases hcase with ⟨e, H0⟩ | ⟨b, hb, e, HP⟩
          · exact .inl ⟨e, by rw [HN.out]; exact H0⟩
          · exact .inr ⟨b, by omega, e, by rw [HN.out]; exact HP⟩
        case measure => simp [intOf]; omega
    · have hk2 : k = s.size := by omega
      subst hk2
      rw [← HL.out] at hown
      obtain ⟨q, d, rfl, hS⟩ := hown.open_
      go_wp2_with fail
      go_ret
      exact ⟨q, d, rfl, hS, hbel⟩
end Go.Proofs.YtkbhdlhkfeaejaaDoor
