/- The law's walk: FnSplice. -/
import Derived.Test.YtkbhdlhkfeaejaaDoorDraw2W
import Derived.Test.YtkbhdlhkfeaejaaDoorOpenB
import Derived.Test.YtkbhdlhkfeaejaaDoorSplW
namespace Go.Proofs.YtkbhdlhkfeaejaaDoor
open Go.RowKit
set_option linter.unusedVariables false
theorem bits_mem {l : List UInt8} (h : bitsAll l = true) {c : UInt8} (hc : c ∈ l) : bitB c = true := by
  unfold bitsAll at h
  rw [List.all_eq_true] at h
  exact h c hc
theorem bits_of_mem {l : List UInt8} (h : ∀ c ∈ l, bitB c = true) : bitsAll l = true := by
  unfold bitsAll
  rw [List.all_eq_true]
  exact h
theorem cellsB_is {s : ByteArray} : cellsB s = true ↔ 1 ≤ s.size ∧ s.size ≤ 8000 ∧ bitsAll s.data.toList = true := by
  unfold cellsB cellStr
  simp
theorem splS_at {s t : ByteArray} {a i : Nat} (h : i < (splS s t a).size) (hi : i < s.size) (hj : idxN s.size a i < t.size) : (splS s t a)[i] = t[idxN s.size a i] := by
  have h2 : (splS s t a)[i] = (splL s.data.toList t.data.toList a t.size)[i]'(by rw [splL_len]; exact hi) := rfl
  rw [h2]
  have e : (splL s.data.toList t.data.toList a t.size)[i]'(by rw [splL_len]; exact hi) = if idxN s.data.toList.length a i < t.size then t.data.toList.getD (idxN s.data.toList.length a i) 0 else s.data.toList.getD i 0 := by simp [splL]
  rw [e]
  have hl : s.data.toList.length = s.size := rfl
  rw [hl, if_pos hj, getD_at' hj]
theorem splS_at2 {s t : ByteArray} {a i : Nat} (h : i < (splS s t a).size) (hi : i < s.size) (hj : ¬ idxN s.size a i < t.size) : (splS s t a)[i] = s[i] := by
  have h2 : (splS s t a)[i] = (splL s.data.toList t.data.toList a t.size)[i]'(by rw [splL_len]; exact hi) := rfl
  rw [h2]
  have e : (splL s.data.toList t.data.toList a t.size)[i]'(by rw [splL_len]; exact hi) = if idxN s.data.toList.length a i < t.size then t.data.toList.getD (idxN s.data.toList.length a i) 0 else s.data.toList.getD i 0 := by simp [splL]
  rw [e]
  have hl : s.data.toList.length = s.size := rfl
  rw [hl, if_neg hj, getD_at' hi]
theorem spl_cells {s t : ByteArray} {a : Nat} (hs : cellsB s = true) (ht : cellsB t = true) : cellsB (splS s t a) = true := by
  have h1 := cellsB_is.1 hs
  have h2 := cellsB_is.1 ht
  rw [cellsB_is, splS_size]
  refine ⟨h1.1, h1.2.1, bits_of_mem fun c hc => ?_⟩
  obtain ⟨i, hi, rfl⟩ := List.getElem_of_mem hc
  have hi2 : i < (splS s t a).size := hi
  have hi3 : i < s.size := by rw [splS_size] at hi2; exact hi2
  have e : (splS s t a).data.toList[i] = (splS s t a)[i]'hi2 := rfl
  rw [e]
  by_cases hj : idxN s.size a i < t.size
  · rw [splS_at hi2 hi3 hj]; exact bits_at h2.2.2 hj
  · rw [splS_at2 hi2 hi3 hj]; exact bits_at h1.2.2 hi3
theorem rot_cells {s : ByteArray} {a : Nat} (ha : a < s.size) (hs : cellsB s = true) : cellsB (rotS s (a : Int)) = true := by
  have h1 := cellsB_is.1 hs
  have hz := rotS_size s (a : Int) (by omega)
  rw [cellsB_is, hz, rotS_data s (a : Int) (r := a) (by rw [Int.emod_eq_of_lt (by omega) (by omega)])]
  refine ⟨h1.1, h1.2.1, bits_of_mem fun c hc => ?_⟩
  rw [List.mem_append] at hc
  rcases hc with hc | hc
  · exact bits_mem h1.2.2 (List.mem_of_mem_drop hc)
  · exact bits_mem h1.2.2 (List.mem_of_mem_take hc)
theorem rot_back {s : ByteArray} {a : Nat} (ha : a < s.size) : rotS (rotS s (a : Int)) (-(a : Int)) = s := by
  have h := spl_rot s ByteArray.empty ha (Nat.zero_le _)
  have hz := rotS_size s (a : Int) (by omega)
  have e : ByteArray.empty ++ (rotS s (a : Int)).extract ByteArray.empty.size s.size = rotS s (a : Int) := by
    rw [← hz]
    simp
  rw [e] at h
  rw [h]
  apply ByteArray.ext
  apply Array.ext'
  exact splL_zero _ _ _
theorem sp_inv {s t : ByteArray} {x : Int} (h : spE s t x = 0) : cellsB s = true ∧ cellsB t = true ∧ (0 ≤ x ∧ x ≤ (s.size : Int) - 1) ∧ t.size ≤ s.size ∧ spR s t x = splS s t x.toNat := by
  unfold spE at h
  unfold spR
  cases h1 : cellsB s
  · rw [h1] at h; simp at h
  cases h2 : cellsB t
  · rw [h1, h2] at h; simp at h
  cases h3 : spOk s t x
  · rw [h1, h2, h3] at h; simp at h
  refine ⟨rfl, rfl, ?_, ?_, rfl⟩
  · unfold spOk inB at h3
    simp at h3
    omega
  · unfold spOk at h3
    simp at h3
    exact h3.2
set_option maxHeartbeats 4000000 in
set_option maxRecDepth 20000 in
theorem walk_FnSplice (x : Byt) (w : World) (hx : x.ok w) :
    Calls Tryd.prog 8 #[x.val] w fun e w' => e = .returned (.bool true) ∧ Below w.heap.size w w' := by
  obtain ⟨p, l, cap⟩ := x
  obtain ⟨hI, -⟩ := hx
  simp only [Byt.val] at hI ⊢
  by_cases hl : l.length ≤ 1048576
  rotate_left
  · have hd : decide (1048576 < (l.length : Int)) = true := decide_eq_true (by omega)
    go_enter Tryd.func8, Tryd.ntmps8
    go_wp2_with fail
    refine (laws_b10Long p l cap _).mono ?_
    rintro e w0 ⟨rfl, rfl⟩
    rw [hd]
    go_wp2_with fail
    go_ret
    exact ⟨rfl, Below.refl _ _⟩
  have hd : decide (1048576 < (l.length : Int)) = false := decide_eq_false (by omega)
  go_enter Tryd.func8, Tryd.ntmps8
  go_wp2_with fail
  refine (laws_b10Long p l cap _).mono ?_
  rintro e w0 ⟨rfl, rfl⟩
  rw [hd]
  go_wp2_with fail
  refine (spec_DrawSpliceCells p l cap _ hI hl).mono ?_
  rintro e w1 ⟨s, t, x, rfl, hs, ht, hx, hb1⟩
  go_wp2_with fail
  refine (impl_SpliceCells s t x _ (by omega) (by omega) (by omega)).mono ?_
  rintro e w2 ⟨rfl, hb2⟩
  replace hb2 := below_st hb1 hb2 (Nat.le_refl _)
  by_cases h0 : spE s t x = 0
  rotate_left
  · have hne : (spE s t x != 0) = true := by rw [bne_iff_ne]; exact h0
    go_wp2_with fail
    go_ret
    exact ⟨rfl, hb2⟩
  obtain ⟨hcs, hct, hx2, htz, hr⟩ := sp_inv h0
  rw [h0, hr]
  obtain ⟨a, rfl⟩ : ∃ a : Nat, x = (a : Int) := ⟨x.toNat, by omega⟩
  rw [Int.toNat_natCast]
  have ha : a < s.size := by omega
  have hxc := spl_cells (a := a) hcs hct
  have hxz := splS_size s t a
  have hat := fun (i : Nat) => @splS_at s t a i
  have hat2 := fun (i : Nat) => @splS_at2 s t a i
  obtain ⟨X, hX⟩ : ∃ X, splS s t a = X := ⟨_, rfl⟩
  rw [hX] at hxc hxz hat hat2 ⊢
  have hrc := rot_cells (s := X) (a := a) (by omega) hxc
  have hrb := rot_back (s := X) (a := a) (by omega)
  have hrz := rotS_size X (a : Int) (by omega)
  have hr1 : ∀ w', Calls Tryd.prog 11 #[.string X, .int .i64 (a : Int)] w' fun e w'' => e = .returned (.tuple #[.string (rotS X (a : Int)), .bool true]) ∧ Below w'.heap.size w' w'' := fun w' => by
    have h := impl_RotateCells X (a : Int) w' (by omega) (by omega)
    unfold rotC at h
    rw [hxc] at h
    exact h
  have hr2 : ∀ w', Calls Tryd.prog 11 #[.string (rotS X (a : Int)), .int .i64 (-(a : Int))] w' fun e w'' => e = .returned (.tuple #[.string X, .bool true]) ∧ Below w'.heap.size w' w'' := fun w' => by
    have h := impl_RotateCells (rotS X (a : Int)) (-(a : Int)) w' (by omega) (by omega)
    unfold rotC at h
    rw [hrc, hrb] at h
    exact h
  generalize rotS X (a : Int) = Y at *
  have HAT := Lib.hid hat
  have HAT2 := Lib.hid hat2
  clear hat hat2 hX hrc hrb hxc hcs hct h0 hr
  have d1 : decide ((a : Int) < 0) = false := decide_eq_false (by omega)
  have d2 : decide ((s.size : Int) ≤ (a : Int)) = false := decide_eq_false (by omega)
  have q0 : IntKind.i64.wrap (-(a : Int)) = -(a : Int) := IntWalk.i64_in _ (by omega)
  have hxi : (X.size : Int) = (s.size : Int) := by omega
  go_wp2_with fail
  go_loopw [8] (fun i wr => ∃ k : Nat, k ≤ s.size ∧ i = .int .i64 k ∧ wr = w2) (fun i _ => s.size - (intOf i).toNat)
  case atStart => exact ⟨0, Nat.zero_le _, rfl, rfl⟩
  case round =>
    obtain ⟨k, hk, rfl, rfl⟩ := hrel
    by_cases hlt : k < s.size
    · obtain ⟨j, ej⟩ : ∃ j, idxN s.size a k = j := ⟨_, rfl⟩
      have hjn : j < s.size := by unfold idxN at ej; split at ej <;> omega
      have hm : ((k : Int) - (a : Int) + (s.size : Int)).tmod (s.size : Int) = (j : Int) := by
        rw [Int.tmod_eq_emod_of_nonneg (by omega)]
        unfold idxN at ej
        split at ej
        · rw [Int.add_emod_right, Int.emod_eq_of_lt (by omega) (by omega)]; omega
        · rw [Int.emod_eq_of_lt (by omega) (by omega)]; omega
      have hm2 : ((k : Int) - (a : Int) + (s.size : Int)) % (s.size : Int) = (j : Int) := by
        rw [Int.tmod_eq_emod_of_nonneg (by omega)] at hm; exact hm
      have q3 : IntKind.i64.wrap ((k : Int) - (a : Int)) = (k : Int) - (a : Int) := IntWalk.i64_in _ (by omega)
      have q4 : IntKind.i64.wrap ((k : Int) - (a : Int) + (s.size : Int)) = (k : Int) - (a : Int) + (s.size : Int) := IntWalk.i64_in _ (by omega)
      have q5 : IntKind.i64.wrap (j : Int) = (j : Int) := IntWalk.i64_in _ (by omega)
      have q6 : ¬ ((s.size : Int) = 0) := by omega
      have q7 : ¬ (s = ByteArray.empty) := by rintro rfl; exact absurd ha (Nat.not_lt_zero _)
      have hkX : k < X.size := by omega
      by_cases hjt : j < t.size
      · have he := HAT.out k hkX hlt (by rw [ej]; exact hjt)
        have he2 : ((X[k]'hkX).toNat : Int) = ((t[j]'hjt).toNat : Int) := by
          rw [he]; subst ej; rfl
        have dj : decide ((j : Int) < (t.size : Int)) = true := decide_eq_true (by omega)
        clear he ej
        go_wp2_with fail
        go_roundw
        case rel => exact ⟨k + 1, by omega, by go_num, trivial⟩
        case measure => simp [intOf]; omega
      · have he := HAT2.out k hkX hlt (by rw [ej]; exact hjt)
        have he2 : ((X[k]'hkX).toNat : Int) = ((s[k]'hlt).toNat : Int) := by rw [he]
        have dj : decide ((j : Int) < (t.size : Int)) = false := decide_eq_false (by omega)
        clear he ej
        go_wp2_with fail
        go_roundw
        case rel => exact ⟨k + 1, by omega, by go_num, trivial⟩
        case measure => simp [intOf]; omega
    · have hk2 : k = s.size := by omega
      subst hk2
      go_wp2_with (first | (go_at_call 11; with_reducible refine (hr1 _).mono ?_; rintro e w4 ⟨rfl, hb4⟩; replace hb2 := below_st hb2 hb4 (Nat.le_refl _); clear hb4) | (go_at_call 11; with_reducible refine (hr2 _).mono ?_; rintro e w4 ⟨rfl, hb4⟩; replace hb2 := below_st hb2 hb4 (Nat.le_refl _); clear hb4))
      go_ret
      exact ⟨rfl, hb2⟩
end Go.Proofs.YtkbhdlhkfeaejaaDoor
