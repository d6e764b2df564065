/- slices.Sort at int64 and modulo: contracts. -/
import Derived.Test.YtfdcainjppljhaaShelf
import Derived.Test.YtfdcainjppljhaaMarksW
import Derived.Test.YtfdcainjppljhaaSortP
import Derived.Sort.Grow
namespace Go.Proofs.Ytfdcainjppljhaa
open Go.RowKit Go.Sort
set_option linter.unusedVariables false
theorem sort_row {w : World} {g : Nat} {l : List Int} (cap : Nat) (h : RowI w g l) (hl : l.length ≤ 1048576) :
    Calls Try.prog 51 #[.slice (some ⟨g, 0, none⟩) l.length cap] w fun e w' => e = .returned (.tuple #[]) ∧ RowI w' g (l.mergeSort fun x y => decide (x ≤ y)) ∧ Aside (some g) w w' := by
  have hH : Holds (Value.int .i64) w g 0 l.toArray := fun j hj => by
    have hj' : j < l.length := by simpa using hj
    obtain ⟨h1, h2⟩ := h.2 j hj'
    rw [Nat.zero_add]
    exact ⟨by rw [h1]; simp [hj'], h2⟩
  have hsz : (l.mergeSort fun x y => decide (x ≤ y)).toArray.size = l.toArray.size := by simp
  refine (Try.slices_Sort_int g 0 cap l w hH h.1 (by omega)).mono ?_
  rintro e w' ⟨rfl, n, os, rfl⟩
  have hH2 : Holds (Value.int .i64) (Sort.ahead w n) g 0 l.toArray := hH
  refine ⟨rfl, ⟨by have := h.1; simp; show g < w.heap.size + _; omega, fun j hj => ?_⟩, ⟨rfl, rfl, rfl, by simp, fun k hk hne => ?_⟩⟩
  · have hj2 : j < (l.mergeSort fun x y => decide (x ≤ y)).toArray.size := by simpa using hj
    have hc := cell?_putRow (Value.int .i64) (Sort.ahead w n) g 0 l.toArray (l.mergeSort fun x y => decide (x ≤ y)).toArray hH2 hsz j hj2
    rw [Nat.zero_add] at hc
    have hf : (putRow (Value.int .i64) (Sort.ahead w n) g 0 (l.mergeSort fun x y => decide (x ≤ y)).toArray).frozen? ⟨g, j, none⟩ = w.frozen? ⟨g, j, none⟩ := frozen?_putRow _ _ _ _ _ _
    have hl' : j < l.length := by simpa using hj
    refine ⟨?_, ?_⟩
    · rw [cell?_grow _ _ _ (by simpa using h.1), hc]
      simp [hl']
    · rw [frozen?_grow _ _ _ (by simpa using h.1), hf]
      exact (h.2 j hl').2
  · rw [heap_grow_old _ _ (by simpa using hk)]
    have : g ≠ k := fun e => hne (by rw [e])
    simp [putRow, mapBlock, Sort.ahead, Array.getElem?_modify, this]
theorem sort_row' {w : World} {g : Nat} {l : List Int} (cap : Nat) (h : RowI w g l) (hl : l.length ≤ 2200000) :
    Calls Try.prog 51 #[.slice (some ⟨g, 0, none⟩) l.length cap] w fun e w' => e = .returned (.tuple #[]) ∧ RowI w' g (l.mergeSort fun x y => decide (x ≤ y)) ∧ Aside (some g) w w' := by
  have hH : Holds (Value.int .i64) w g 0 l.toArray := fun j hj => by
    have hj' : j < l.length := by simpa using hj
    obtain ⟨h1, h2⟩ := h.2 j hj'
    rw [Nat.zero_add]
    exact ⟨by rw [h1]; simp [hj'], h2⟩
  have hsz : (l.mergeSort fun x y => decide (x ≤ y)).toArray.size = l.toArray.size := by simp
  refine (Try.slices_Sort_int g 0 cap l w hH h.1 (by omega)).mono ?_
  rintro e w' ⟨rfl, n, os, rfl⟩
  have hH2 : Holds (Value.int .i64) (Sort.ahead w n) g 0 l.toArray := hH
  refine ⟨rfl, ⟨by have := h.1; simp; show g < w.heap.size + _; omega, fun j hj => ?_⟩, ⟨rfl, rfl, rfl, by simp, fun k hk hne => ?_⟩⟩
  · have hj2 : j < (l.mergeSort fun x y => decide (x ≤ y)).toArray.size := by simpa using hj
    have hc := cell?_putRow (Value.int .i64) (Sort.ahead w n) g 0 l.toArray (l.mergeSort fun x y => decide (x ≤ y)).toArray hH2 hsz j hj2
    rw [Nat.zero_add] at hc
    have hf : (putRow (Value.int .i64) (Sort.ahead w n) g 0 (l.mergeSort fun x y => decide (x ≤ y)).toArray).frozen? ⟨g, j, none⟩ = w.frozen? ⟨g, j, none⟩ := frozen?_putRow _ _ _ _ _ _
    have hl' : j < l.length := by simpa using hj
    refine ⟨?_, ?_⟩
    · rw [cell?_grow _ _ _ (by simpa using h.1), hc]
      simp [hl']
    · rw [frozen?_grow _ _ _ (by simpa using h.1), hf]
      exact (h.2 j hl').2
  · rw [heap_grow_old _ _ (by simpa using hk)]
    have : g ≠ k := fun e => hne (by rw [e])
    simp [putRow, mapBlock, Sort.ahead, Array.getElem?_modify, this]
theorem rot_num (x n : Int) (hn : 0 < n) : (x.tmod n + n).tmod n = x % n := by
  have h1 := Int.tmod_lt_of_pos x hn
  have h2 : -n < x.tmod n := by
    have := Int.lt_tmod_of_pos x hn
    omega
  rw [Int.tmod_eq_emod_of_nonneg (by omega), Int.add_emod_right]
  rw [Int.emod_eq_emod_iff_emod_sub_eq_zero]
  have h3 := Int.tmod_add_mul_tdiv x n
  have : x.tmod n - x = n * (-(x.tdiv n)) := by rw [Int.mul_neg]; omega
  rw [this]
  exact Int.mul_emod_right _ _
theorem modulo_any (x n : Int) (w : World) (hn : 0 < n ∧ n ≤ 4000000000000000000) (hx : -9223372036854775808 ≤ x ∧ x ≤ 9223372036854775807) :
    Calls Try.prog 50 #[.int .i64 x, .int .i64 n] w fun e w' => e = .returned (.int .i64 (x % n)) ∧ w = w' := by
  have h1 := Int.tmod_lt_of_pos x hn.1
  have h2 := Int.lt_tmod_of_pos x hn.1
  have hr := rot_num x n hn.1
  have h3 := Int.emod_nonneg x (show n ≠ 0 by omega)
  have h4 := Int.emod_lt_of_pos x hn.1
  obtain ⟨k, hk⟩ : ∃ k : Int, x % n = k := ⟨_, rfl⟩
  rw [hk] at hr h3 h4
  have HK := Lib.hid hk
  clear hk
  have q0 : ¬ (n = 0) := by omega
  have q1 : IntKind.i64.wrap (x.tmod n) = x.tmod n := IntWalk.i64_in _ (by omega)
  have q2 : IntKind.i64.wrap (x.tmod n + n) = x.tmod n + n := IntWalk.i64_in _ (by omega)
  have q4 : wrap64 (x.tmod n + n) = x.tmod n + n := wrap64_of (by omega) (by omega)
  have q3 : IntKind.i64.wrap k = k := IntWalk.i64_in _ (by omega)
  go_enter Try.func50, Try.ntmps50
  go_wp2_with fail
  go_ret
  exact ⟨ret_int (by rw [HK.out]), rfl⟩
end Go.Proofs.Ytfdcainjppljhaa
