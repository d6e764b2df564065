/- Flux of cells: l02Ones, l02Flux. -/
import Derived.Test.YtfdcainjppljhaaOnesP
import Derived.Test.YtfdcainjppljhaaTimes2W
import Derived.Test.YtfdcainjppljhaaMakeW
namespace Go.Proofs.Ytfdcainjppljhaa
open Go.RowKit
set_option linter.unusedVariables false
/-- The times of the changes of the first k cells. -/
def timesZ (l : List UInt8) (cell : Int) (k : Nat) : List Int := (onesL l k).map fun (i : Nat) => (i : Int) * cell + cell / 2
theorem timesZ_len (l : List UInt8) (cell : Int) (k : Nat) : (timesZ l cell k).length = (onesL l k).length := by simp [timesZ]
theorem timesZ_yes {l : List UInt8} {k : Nat} (cell : Int) (h : l.getD k 0 = 49) : timesZ l cell (k + 1) = timesZ l cell k ++ [(k : Int) * cell + cell / 2] := by
  unfold timesZ
  rw [onesL_yes h]
  simp
theorem timesZ_no {l : List UInt8} {k : Nat} (cell : Int) (h : l.getD k 0 ≠ 49) : timesZ l cell (k + 1) = timesZ l cell k := by
  unfold timesZ
  rw [onesL_no h]
set_option maxHeartbeats 1000000 in
theorem spec_l02Ones (s : ByteArray) (w : World) (hs : s.size ≤ 1048576) :
    Calls Try.prog 83 #[.string s] w fun e w' => e = .returned (.int .i64 ((onesL s.data.toList s.size).length : Int)) ∧ w = w' := by
  go_enter Try.func83, Try.ntmps83
  go_wp2_with fail
  go_loopw [3, 4] (fun v i wr => ∃ k : Nat, k ≤ s.size ∧ i = .int .i64 k ∧ v = .int .i64 ((onesL s.data.toList k).length : Int) ∧ wr = w) (fun _ i _ => s.size - (intOf i).toNat)
  case atStart => exact ⟨0, by omega, rfl, rfl, rfl⟩
  case round =>
    obtain ⟨k, hk, rfl, rfl, rfl⟩ := hrel
    by_cases hlt : k < s.size
    · have hgd := getD_at hlt
      have hol := onesL_len s.data.toList k
      by_cases hc : ((s[k]'hlt).toNat : Int) = 49
      · have hy := onesL_yes (l := s.data.toList) (k := k) (by rw [hgd]; exact ofNat_49 hc)
        have HY : Hid ((onesL s.data.toList (k + 1)).length = (onesL s.data.toList k).length + 1) := Lib.hid (by rw [hy]; simp)
        clear hy hgd
        generalize (onesL s.data.toList k).length = n at *
        go_wp2_with fail
        go_roundw
        case rel => exact ⟨k + 1, by omega, by go_num, by rw [HY.out]; go_num, trivial⟩
        case measure => simp [intOf]; omega
      · have hno := onesL_no (l := s.data.toList) (k := k) (by rw [hgd]; exact ofNat_not49 hc)
        have HY : Hid ((onesL s.data.toList (k + 1)).length = (onesL s.data.toList k).length) := Lib.hid (by rw [hno])
        have hne : (((s[k]'hlt).toNat : Int) == 49) = false := by rw [beq_eq_false_iff_ne]; exact hc
        clear hno hgd
        go_wp2_with fail
        go_roundw
        case rel => exact ⟨k + 1, by omega, by go_num, by rw [HY.out], trivial⟩
        case measure => simp [intOf]; omega
    · have hk2 : k = s.size := by omega
      subst hk2
      go_wp2_with fail
      go_ret
      exact ⟨rfl, rfl⟩
set_option maxHeartbeats 2000000 in
set_option maxRecDepth 20000 in
theorem spec_l02Flux (s : ByteArray) (cell : Int) (w : World) (hs : s.size ≤ 1048576) (hc : 0 ≤ cell ∧ cell ≤ 1000) (h1 : 1 ≤ (onesL s.data.toList s.size).length) :
    Calls Try.prog 84 #[.string s, .int .i64 cell] w fun e w' => ∃ q dq, e = .returned (.agg #[.int .i64 cell, .int .i64 ((timesZ s.data.toList cell s.size).headD 0), .slice q (gapsT (timesZ s.data.toList cell s.size) ((s.size : Int) * cell)).length dq]) ∧ OwnS w' w.heap.size q (gapsT (timesZ s.data.toList cell s.size) ((s.size : Int) * cell)) ∧ Below w.heap.size w w' := by
  have hq : cell.tdiv 2 = cell / 2 := Int.tdiv_eq_ediv_of_nonneg (by omega)
  obtain ⟨h2, eh⟩ : ∃ h2, cell / 2 = h2 := ⟨_, rfl⟩
  have hh : 0 ≤ h2 ∧ h2 ≤ 1000 := by omega
  have HH := Lib.hid eh
  rw [eh] at hq
  clear eh
  have R0 := Blk.new w 26 #[.int .i64 0, .int .i64 0, .slice none 0 0]
  have W0 : Below w.heap.size w (w.alloc (.cells #[.int .i64 0, .int .i64 0, .slice none 0 0] 26)) := (Below.refl _ _).alloc (Nat.le_refl _) _
  have z0 : (w.alloc (.cells #[.int .i64 0, .int .i64 0, .slice none 0 0] 26)).heap.size = w.heap.size + 1 := by simp
  go_enter Try.func84, Try.ntmps84
  go_wp2_with fail
  generalize w.alloc (.cells #[.int .i64 0, .int .i64 0, .slice none 0 0] 26) = w0 at R0 W0 z0 ⊢
  go_loopw [5, 6] (fun v i wr => ∃ k : Nat, k ≤ s.size ∧ i = .int .i64 k ∧ OwnI wr (w.heap.size + 1) v (timesZ s.data.toList cell k) ∧ Blk wr w.heap.size 26 #[.int .i64 0, .int .i64 0, .slice none 0 0] ∧ Below (w.heap.size + 1) w0 wr) (fun _ i _ => s.size - (intOf i).toNat)
  case atStart => exact ⟨0, by omega, rfl, by have := OwnI.nil0 w0; rw [z0] at this; exact this, R0.alloc' _, (Below.refl _ _).alloc (by omega) _⟩
  case round =>
    obtain ⟨k, hk, rfl, hown, hR, hbel⟩ := hrel
    have hz : w.heap.size + 1 ≤ wr.heap.size := by have := hbel.size; omega
    by_cases hlt : k < s.size
    · have hgd := getD_at hlt
      have hol := onesL_len s.data.toList k
      rw [← timesZ_len s.data.toList cell k] at hol
      by_cases hc1 : ((s[k]'hlt).toNat : Int) = 49
      · have hy := timesZ_yes (l := s.data.toList) (k := k) cell (by rw [hgd]; exact ofNat_49 hc1)
        rw [HH.out] at hy
        have HY := Lib.hid hy
        obtain ⟨kc, ekc⟩ : ∃ kc, (k : Int) * cell = kc := ⟨_, rfl⟩
        have hkc : 0 ≤ kc ∧ kc ≤ 1048576000 := by
          rw [← ekc]
          refine ⟨Int.mul_nonneg (by omega) hc.1, ?_⟩
          calc (k : Int) * cell ≤ (k : Int) * 1000 := Int.mul_le_mul_of_nonneg_left hc.2 (by omega)
            _ ≤ 1048576000 := by omega
        have q1 : IntKind.i64.wrap ((k : Int) * cell) = kc := by rw [ekc, IntWalk.i64_in _ (by omega)]
        have q2 : IntKind.i64.wrap (kc + h2) = kc + h2 := IntWalk.i64_in _ (by omega)
        have q3 : IntKind.i64.wrap h2 = h2 := IntWalk.i64_in _ (by omega)
        rw [ekc] at hy
        replace HY := Lib.hid hy
        clear hy hgd
        go_wp2_with (at_builtin; refine append_int _ rfl (.tmp 18) (.tmp 25) rfl (w.heap.size + 1) u5 (timesZ s.data.toList cell k) _ rfl rfl hown (by omega) hz ?_; intro v1 w1 hown1 hbel1)
        rw [← HY.out] at hown1
        go_roundw
        case rel => exact ⟨k + 1, by omega, by go_num, hown1, hR.below hbel1 (Nat.lt_succ_self _), hbel.trans (hbel1.mono (Nat.le_refl _))⟩
        case measure => simp [intOf]; omega
      · have hno := timesZ_no (l := s.data.toList) (k := k) cell (by rw [hgd]; exact ofNat_not49 hc1)
        have HY := Lib.hid hno
        have hne : (((s[k]'hlt).toNat : Int) == 49) = false := by rw [beq_eq_false_iff_ne]; exact hc1
        clear hno hgd
        go_wp2_with fail
        go_roundw
        case rel => exact ⟨k + 1, by omega, by go_num, by rw [HY.out]; exact hown, hR, hbel⟩
        case measure => simp [intOf]; omega
    · have hk2 : k = s.size := by omega
      subst hk2
      have htl := timesZ_len s.data.toList cell s.size
      have hol := onesL_len s.data.toList s.size
      obtain ⟨q, d, rfl, hS⟩ := hown.open_
      obtain ⟨sc, esc⟩ : ∃ sc, (s.size : Int) * cell = sc := ⟨_, rfl⟩
      have hsc : 0 ≤ sc ∧ sc ≤ 1048576000 := by
        rw [← esc]
        refine ⟨Int.mul_nonneg (by omega) hc.1, ?_⟩
        calc (s.size : Int) * cell ≤ (s.size : Int) * 1000 := Int.mul_le_mul_of_nonneg_left hc.2 (by omega)
          _ ≤ 1048576000 := by omega
      have q1 : IntKind.i64.wrap ((s.size : Int) * cell) = sc := by rw [esc, IntWalk.i64_in _ (by omega)]
      have HSC := Lib.hid esc
      have hcon := fun w' hI => spec_l02Times q (timesZ s.data.toList cell s.size) d sc cell w' hI (by omega) (by omega)
      clear htl hol
      have W1 : Below w.heap.size w wr := W0.trans (hbel.mono (Nat.le_succ _))
      obtain ⟨f0, f1, f2⟩ := hR.cell3
      have rlt := hR.lt
      go_wp2_with fail
      with_reducible refine (hcon _ hS.ints).mono ?_
      rintro e w5 ⟨q5, d5, rfl, hS5, hb5⟩
      generalize hG : gapsT (timesZ s.data.toList cell s.size) sc = G at *
      generalize hy : (timesZ s.data.toList cell s.size).headD 0 = y at *
      have R5 := hR.keep hb5
      have W5 := below_st W1 hb5 (Nat.le_refl _)
      have hs1 := ((W5.setCell (p := ⟨w.heap.size, 0, none⟩) (Nat.le_refl _) (.int .i64 cell)).setCell (p := ⟨w.heap.size, 1, none⟩) (Nat.le_refl _) (.int .i64 y)).setCell (p := ⟨w.heap.size, 2, none⟩) (Nat.le_refl _) (.slice q5 G.length d5)
      obtain ⟨r0, r1', r2⟩ := R5.cell3
      have rf := R5.frozen
      have rlt5 := R5.lt
      obtain ⟨e0, e1, e2⟩ := (R5.set3 (.int .i64 cell) (.int .i64 y) (.slice q5 G.length d5)).cell3
      have S5 := ((hS5.offS (g' := w.heap.size) rlt 0 (.int .i64 cell)).offS (g' := w.heap.size) rlt 1 (.int .i64 y)).offS (g' := w.heap.size) rlt 2 (.slice q5 G.length d5)
      go_wp2_with fail
      refine bodyPost_ret (v := .agg #[.int .i64 cell, .int .i64 y, .slice q5 G.length d5]) (by simp [results, Try.results84, go_sem, e0, e1, e2]) rfl ?_
      rw [HSC.out, hG, hy]
      exact ⟨q5, d5, rfl, S5.mono (by omega), hs1⟩
end Go.Proofs.Ytfdcainjppljhaa
