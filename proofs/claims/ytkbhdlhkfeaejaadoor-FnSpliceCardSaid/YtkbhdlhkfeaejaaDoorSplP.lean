/- Splicing cells: plain lemmas. -/
import Derived.Test.YtkbhdlhkfeaejaaDoorRotW
namespace Go.Proofs.YtkbhdlhkfeaejaaDoor
open Go.RowKit
set_option linter.unusedVariables false
def idxN (n a i : Nat) : Nat := if a ≤ i then i - a else i + n - a
def splL (s t : List UInt8) (a k : Nat) : List UInt8 := (List.range s.length).map fun i => if idxN s.length a i < k then t.getD (idxN s.length a i) 0 else s.getD i 0
theorem splL_len (s t : List UInt8) (a k : Nat) : (splL s t a k).length = s.length := by simp [splL]
theorem splL_zero (s t : List UInt8) (a : Nat) : splL s t a 0 = s := by
  apply List.ext_getElem (splL_len _ _ _ _)
  intro i h1 h2
  simp [splL, h2]
theorem splL_step (s t : List UInt8) {a k : Nat} (ha : a < s.length) (hk : k < s.length) :
    splL s t a (k + 1) = (splL s t a k).set (if a + k < s.length then a + k else a + k - s.length) (t.getD k 0) := by
  apply List.ext_getElem (by rw [List.length_set, splL_len, splL_len])
  intro i h1 h2
  have hi : i < s.length := by rw [splL_len] at h1; exact h1
  have hx : (splL s t a (k + 1))[i] = if idxN s.length a i < k + 1 then t.getD (idxN s.length a i) 0 else s.getD i 0 := by simp [splL]
  have hy : (splL s t a k)[i]'(by rw [splL_len]; exact hi) = if idxN s.length a i < k then t.getD (idxN s.length a i) 0 else s.getD i 0 := by simp [splL]
  rw [hx]
  by_cases e : (if a + k < s.length then a + k else a + k - s.length) = i
  · have hj : idxN s.length a i = k := by
      unfold idxN
      split at e <;> split <;> omega
    rw [hj, if_pos (by omega)]
    simp only [e]
    rw [List.getElem_set_self]
  · have hj : idxN s.length a i ≠ k := by
      intro h
      unfold idxN at h
      split at e <;> split at h <;> omega
    rw [List.getElem_set_ne e, hy]
    by_cases h : idxN s.length a i < k
    · rw [if_pos h, if_pos (by omega)]
    · rw [if_neg h, if_neg (by omega)]
theorem rot_at (l : List UInt8) {r i : Nat} (hr : r ≤ l.length) (hi : i < l.length) : (l.drop r ++ l.take r)[i]? = l[if i + r < l.length then i + r else i + r - l.length]? := by
  by_cases h : i + r < l.length
  · rw [if_pos h, List.getElem?_append_left (by rw [List.length_drop]; omega), List.getElem?_drop, Nat.add_comm]
  · rw [if_neg h, List.getElem?_append_right (by rw [List.length_drop]; omega), List.length_drop, List.getElem?_take_of_lt (by omega)]
    congr 1
    omega
theorem rotS_data (s : ByteArray) (x : Int) {r : Nat} (h : x % (s.size : Int) = (r : Int)) : (rotS s x).data.toList = s.data.toList.drop r ++ s.data.toList.take r := by
  have hl : s.data.toList.length = s.size := rfl
  unfold rotS
  rw [h, Int.toNat_natCast]
  simp only [ByteArray.data_append, Array.toList_append, ByteArray.data_extract, Array.toList_extract, List.extract_eq_take_drop, List.drop_zero, Nat.sub_zero]
  rw [List.take_of_length_le (by rw [List.length_drop]; omega)]
def splS (s t : ByteArray) (a : Nat) : ByteArray := ⟨(splL s.data.toList t.data.toList a t.size).toArray⟩
theorem splS_size (s t : ByteArray) (a : Nat) : (splS s t a).size = s.size := by
  show (splL s.data.toList t.data.toList a t.size).toArray.size = _
  rw [List.size_toArray, splL_len]; rfl
theorem spl_rot (s t : ByteArray) {a : Nat} (ha : a < s.size) (ht : t.size ≤ s.size) :
    rotS (t ++ (rotS s (a : Int)).extract t.size s.size) (-(a : Int)) = splS s t a := by
  have hl : s.data.toList.length = s.size := rfl
  have hlt : t.data.toList.length = t.size := rfl
  have h1 := rotS_data s (a : Int) (r := a) (by rw [Int.emod_eq_of_lt (by omega) (by omega)])
  have hz := rotS_size s (a : Int) (by omega)
  obtain ⟨u, hu⟩ : ∃ u, rotS s (a : Int) = u := ⟨_, rfl⟩
  rw [hu] at h1 hz ⊢
  have hlu : u.data.toList.length = u.size := rfl
  obtain ⟨v, hv⟩ : ∃ v, t ++ u.extract t.size s.size = v := ⟨_, rfl⟩
  have hvd : v.data.toList = t.data.toList ++ u.data.toList.drop t.size := by
    rw [← hv]
    simp only [ByteArray.data_append, Array.toList_append, ByteArray.data_extract, Array.toList_extract, List.extract_eq_take_drop]
    rw [List.take_of_length_le (by rw [List.length_drop]; omega)]
  have hvz : v.size = s.size := by
    have h : v.data.toList.length = v.size := rfl
    rw [← h, hvd, List.length_append, List.length_drop]
    omega
  have hvl : v.data.toList.length = v.size := rfl
  rw [hv]
  have h2 := rotS_data v (-(a : Int)) (r := if a = 0 then 0 else s.size - a) (by
    rw [hvz]
    by_cases h : a = 0
    · subst h; simp
    · rw [if_neg h, ← Int.add_emod_right, Int.emod_eq_of_lt (by omega) (by omega)]
      omega)
  apply ByteArray.ext
  apply Array.ext'
  rw [h2]
  show _ = splL s.data.toList t.data.toList a t.size
  apply List.ext_getElem?
  intro i
  by_cases hi : i < s.size
  · rw [rot_at _ (by split <;> omega) (by omega), hvl, hvz]
    have hx : (splL s.data.toList t.data.toList a t.size)[i]? = some (if idxN s.size a i < t.size then t.data.toList.getD (idxN s.size a i) 0 else s.data.toList.getD i 0) := by
      simp [splL, hi]
    have hj : (if (i + if a = 0 then 0 else s.size - a) < s.size then i + if a = 0 then 0 else s.size - a else (i + if a = 0 then 0 else s.size - a) - s.size) = idxN s.size a i := by
      unfold idxN
      repeat' split
      all_goals omega
    rw [hx, hj]
    have hjn : idxN s.size a i < s.size := by unfold idxN; split <;> omega
    obtain ⟨j, ej⟩ : ∃ j, idxN s.size a i = j := ⟨_, rfl⟩
    have hji : (if j + a < s.size then j + a else j + a - s.size) = i := by
      unfold idxN at ej
      split at ej <;> split <;> omega
    rw [ej] at hjn ⊢
    rw [hvd]
    by_cases h : j < t.size
    · rw [if_pos h, List.getElem?_append_left (by omega), List.getD_eq_getElem?_getD, List.getElem?_eq_getElem (by omega)]
      rfl
    · rw [if_neg h, List.getElem?_append_right (by omega), List.getElem?_drop, hlt, show t.size + (j - t.size) = j by omega, h1, rot_at _ (by omega) (by omega), hl, hji, List.getD_eq_getElem?_getD, List.getElem?_eq_getElem (by omega)]
      rfl
  · rw [List.getElem?_eq_none (by rw [List.length_append, List.length_drop, List.length_take]; omega), List.getElem?_eq_none (by rw [splL_len]; omega)]
end Go.Proofs.YtkbhdlhkfeaejaaDoor
