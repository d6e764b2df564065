/- The model cuts a text at a blank: l01Split. -/
import Derived.Test.YtfdcainjppljhaaDoorNumW
namespace Go.Proofs.YtfdcainjppljhaaDoor
open Go.RowKit
set_option linter.unusedVariables false
/-- The pieces of a text, as strings. -/
def cutB (s : ByteArray) : List ByteArray := (cutL s.data.toList).map fun p => ⟨p.toArray⟩
theorem cutB_data (s : ByteArray) : (cutB s).map (·.data.toList) = cutL s.data.toList := by
  unfold cutB
  rw [List.map_map]
  exact (List.map_congr_left (fun p _ => rfl)).trans (List.map_id _)
theorem cutB_len (s : ByteArray) : (cutB s).length = (cutL s.data.toList).length := by unfold cutB; rw [List.length_map]
theorem cut_le (l : List UInt8) : (cutL l).length ≤ l.length + 1 := by have := cut_len l; omega
theorem eq_of_data {xs ys : List ByteArray} (h : xs.map (·.data.toList) = ys.map (·.data.toList)) : xs = ys := by
  induction xs generalizing ys with
  | nil => cases ys with
    | nil => rfl
    | cons y ys => simp at h
  | cons x xs ih =>
    cases ys with
    | nil => simp at h
    | cons y ys =>
      simp only [List.map_cons, List.cons.injEq] at h
      rw [ih h.2]
      congr 1
      apply ByteArray.ext
      exact Array.toList_inj.1 h.1
/-- The loop's state: the pieces so far, and where the next one begins. -/
structure CutK (s : ByteArray) (k fr : Nat) (xs : List ByteArray) : Prop where
  le : fr ≤ k
  out : xs.map (·.data.toList) = (cutL (s.data.toList.take k)).dropLast
  last : (cutL (s.data.toList.take k)).getLastD [] = (s.data.toList.drop fr).take (k - fr)
theorem CutK.zero (s : ByteArray) : CutK s 0 0 [] := ⟨Nat.le_refl _, by simp [cutL], by simp [cutL]⟩
theorem dropLast_last {α : Type} {l : List α} {d : α} (h : l ≠ []) : l = l.dropLast ++ [l.getLastD d] := by
  have e := List.dropLast_concat_getLast h
  have e2 : l.getLastD d = l.getLast h := by rw [List.getLastD_eq_getLast?, List.getLast?_eq_some_getLast h]; rfl
  rw [e2, e]
theorem ext_data (s : ByteArray) (a b : Nat) : (s.extract a b).data.toList = (s.data.toList.drop a).take (b - a) := by
  rw [Lib.extract_data]
theorem CutK.cut {s : ByteArray} {k fr : Nat} {xs : List ByteArray} (h : CutK s k fr xs) (hk : k < s.size) (hb : s.data.toList[k]'hk = 32) : CutK s (k + 1) (k + 1) (xs ++ [s.extract fr k]) := by
  have hsn := cutL_snoc 32 (s.data.toList.take k)
  rw [if_pos rfl] at hsn
  have et : s.data.toList.take (k + 1) = s.data.toList.take k ++ [32] := by rw [List.take_succ_eq_append_getElem hk, hb]
  refine ⟨Nat.le_refl _, ?_, ?_⟩
  · rw [et, hsn, List.dropLast_concat, List.map_append, h.out, List.map_cons, List.map_nil, ext_data, ← h.last]
    exact (dropLast_last (cutL_ne _)).symm
  · rw [et, hsn]
    simp
theorem CutK.on {s : ByteArray} {k fr : Nat} {xs : List ByteArray} (h : CutK s k fr xs) (hk : k < s.size) (hb : s.data.toList[k]'hk ≠ 32) : CutK s (k + 1) fr xs := by
  have hsn := cutL_snoc (s.data.toList[k]'hk) (s.data.toList.take k)
  rw [if_neg hb] at hsn
  have et : s.data.toList.take (k + 1) = s.data.toList.take k ++ [s.data.toList[k]'hk] := List.take_succ_eq_append_getElem hk
  have hle := h.le
  refine ⟨by omega, ?_, ?_⟩
  · rw [et, hsn, List.dropLast_concat, h.out]
  · rw [et, hsn, h.last]
    have hk2 : k - fr < (s.data.toList.drop fr).length := by
      rw [List.length_drop]
      have : s.data.toList.length = s.size := rfl
      omega
    rw [show k + 1 - fr = (k - fr) + 1 by omega, List.take_succ_eq_append_getElem hk2]
    simp [show fr + (k - fr) = k by omega]
theorem CutK.all {s : ByteArray} {fr : Nat} {xs : List ByteArray} (h : CutK s s.size fr xs) : xs ++ [s.extract fr s.size] = cutB s := by
  apply eq_of_data
  have ek : s.data.toList.take s.size = s.data.toList := List.take_of_length_le (Nat.le_refl _)
  have h1 := h.out
  have h2 := h.last
  rw [ek] at h1 h2
  rw [List.map_append, h1, List.map_cons, List.map_nil, ext_data, ← h2, cutB_data]
  exact (dropLast_last (cutL_ne _)).symm
theorem CutK.len {s : ByteArray} {k fr : Nat} {xs : List ByteArray} (h : CutK s k fr xs) (hs : s.size ≤ 1048576) : xs.length ≤ 1048576 := by
  have h1 := congrArg List.length h.out
  rw [List.length_map, List.length_dropLast] at h1
  have h2 := cut_le (s.data.toList.take k)
  rw [List.length_take] at h2
  have : s.data.toList.length = s.size := rfl
  omega
set_option maxHeartbeats 2000000 in
set_option maxRecDepth 20000 in
theorem spec_l01Split (s : ByteArray) (w : World) (hs : s.size ≤ 1048576) :
    Calls Tryd.prog 22 #[.string s, .int .u8 32] w fun e w' => ∃ (q : Option Addr) (d : Nat), e = .returned (.slice q (cutB s).length d) ∧ TxtAt w' q (cutB s) ∧ Below w.heap.size w w' := by
  have hN := OwnT.nil0 w
  have W0 : Below w.heap.size w (w.alloc (.cells #[] 9)) := (Below.refl _ _).alloc (Nat.le_refl _) _
  go_enter Tryd.func22, Tryd.ntmps22
  go_wp2_with fail
  go_loopw [5, 6, 7] (fun v fv iv wr => ∃ (k fr : Nat) (xs : List ByteArray), k ≤ s.size ∧ fv = .int .i64 fr ∧ iv = .int .i64 k ∧ OwnT wr w.heap.size v xs ∧ Hid (CutK s k fr xs) ∧ Below w.heap.size w wr) (fun _ _ iv _ => s.size - (intOf iv).toNat)
  case atStart => exact ⟨0, 0, [], Nat.zero_le _, rfl, rfl, hN, Lib.hid (CutK.zero s), W0⟩
  case round =>
    clear hN W0
    obtain ⟨k, fr, xs, hk, rfl, rfl, hown, HC, hbel⟩ := hrel
    have hfr := HC.out.le
    have hxl := HC.out.len hs
    have hz := hbel.size
    by_cases hlt : k < s.size
    · have hgk : s.data.toList[k]'hlt = s[k]'hlt := rfl
      by_cases h32 : s[k]'hlt = 32
      · have hnext := Lib.hid (HC.out.cut hlt (by rw [hgk]; exact h32))
        have hb : (((s[k]'hlt).toNat : Int) == 32) = true := by rw [h32]; rfl
        have q1 : IntKind.i64.wrap ((k : Int) + 1) = (k : Int) + 1 := IntWalk.i64_in _ (by omega)
        clear hgk h32
        go_wp2_with (at_builtin; refine append_txt _ rfl (.tmp 20) (.tmp 25) rfl w.heap.size u5 xs (s.extract fr k) rfl rfl hown (by omega) hz ?_; intro v1 w1 hown1 hb1)
        exact ⟨⟨k + 1, k + 1, _, by omega, by go_num, by go_num, hown1, hnext, hbel.trans hb1⟩, by simp [intOf]; omega⟩
      · have hnext := Lib.hid (HC.out.on hlt (by rw [hgk]; exact h32))
        have hne : (s[k]'hlt).toNat ≠ 32 := fun e => h32 (by rw [← UInt8.toNat_inj]; exact e)
        have hb : (((s[k]'hlt).toNat : Int) == 32) = false := by simp; omega
        have q1 : IntKind.i64.wrap ((k : Int) + 1) = (k : Int) + 1 := IntWalk.i64_in _ (by omega)
        clear hgk h32 hne
        go_wp2_with fail
        exact ⟨⟨k + 1, fr, xs, by omega, rfl, by go_num, hown, hnext, hbel⟩, by simp [intOf]; omega⟩
    · obtain rfl : k = s.size := by omega
      have hall := Lib.hid HC.out.all
      go_wp2_with (at_builtin; refine append_txt _ rfl (.tmp 29) (.tmp 33) rfl w.heap.size u5 xs (s.extract fr s.size) rfl rfl hown (by omega) hz ?_; intro v1 w1 hown1 hb1)
      rw [hall.out] at hown1
      obtain ⟨q, d, rfl, hT⟩ := hown1.open_
      go_ret
      exact ⟨q, d, rfl, fun hne => by obtain ⟨g, h1, -, h2⟩ := hT hne; exact ⟨g, h1, h2⟩, hbel.trans hb1⟩
end Go.Proofs.YtfdcainjppljhaaDoor
