/- slices.BinarySearch at []int64; l00Has. -/
import Derived.Test.YtfdcainjppljhaaBase
import Derived.Test.YtfdcainjppljhaaInts
namespace Go.Proofs.Ytfdcainjppljhaa
open Go.RowKit
set_option linter.unusedVariables false
theorem isNaN_cmp (x : Int) (w : World) : Calls Try.prog 110 #[.int .i64 x] w fun e w' => e = .returned (.bool false) ∧ w = w' := by
  go_enter Try.func110, Try.ntmps110
  go_wp2_with fail
  go_ret
  exact ⟨rfl, rfl⟩
theorem isNaN_slices (x : Int) (w : World) : Calls Try.prog 95 #[.int .i64 x] w fun e w' => e = .returned (.bool false) ∧ w = w' := by
  go_enter Try.func95, Try.ntmps95
  go_wp2_with fail
  go_ret
  exact ⟨rfl, rfl⟩
theorem less_cmp (x y : Int) (w : World) : Calls Try.prog 94 #[.int .i64 x, .int .i64 y] w fun e w' => e = .returned (.bool (decide (x < y))) ∧ w = w' := by
  go_enter Try.func94, Try.ntmps94
  go_wp2_with (go_at_call 110; refine (isNaN_cmp _ _).mono ?_; rintro e w' ⟨rfl, rfl⟩)
  go_ret
  exact ⟨rfl, rfl⟩
theorem bs_end {l : List Int} {t : Int} (hs : l.Pairwise (· ≤ ·)) {i : Nat} (h1 : ∀ x (hx : x < l.length), x < i → l[x] < t) (h2 : ∀ x (hx : x < l.length), i ≤ x → t ≤ l[x]) :
    decide (t ∈ l) = if h : i < l.length then decide (l[i] = t) else false := by
  split
  · rename_i h
    rw [Bool.eq_iff_iff, decide_eq_true_iff, decide_eq_true_iff]
    constructor
    · intro hm
      obtain ⟨x, hx, rfl⟩ := List.getElem_of_mem hm
      have hix : i ≤ x := by
        rcases Nat.lt_or_ge x i with h3 | h3
        · have := h1 x hx h3; omega
        · exact h3
      have h4 := h2 i h (Nat.le_refl _)
      rcases Nat.lt_or_ge i x with h5 | h5
      · have := List.pairwise_iff_getElem.1 hs i x h hx h5
        omega
      · have : i = x := by omega
        subst this; rfl
    · intro e; rw [← e]; exact List.getElem_mem h
  · rename_i h
    rw [decide_eq_false_iff_not]
    intro hm
    obtain ⟨x, hx, rfl⟩ := List.getElem_of_mem hm
    have := h1 x hx (by omega)
    omega
theorem bs_low {l : List Int} {t : Int} (hs : l.Pairwise (· ≤ ·)) {h : Nat} (hh : h < l.length) (hlt : l[h] < t) : ∀ x (hx : x < l.length), x < h + 1 → l[x] < t := by
  intro x hx hxh
  rcases Nat.lt_or_ge x h with h5 | h5
  · have := List.pairwise_iff_getElem.1 hs x h hx hh h5
    omega
  · have : x = h := by omega
    subst this; exact hlt
theorem bs_high {l : List Int} {t : Int} (hs : l.Pairwise (· ≤ ·)) {h : Nat} (hh : h < l.length) (hge : t ≤ l[h]) : ∀ x (hx : x < l.length), h ≤ x → t ≤ l[x] := by
  intro x hx hxh
  rcases Nat.lt_or_ge h x with h5 | h5
  · have := List.pairwise_iff_getElem.1 hs h x hh hx h5
    omega
  · have : x = h := by omega
    subst this; exact hge
set_option maxHeartbeats 2000000 in
set_option maxRecDepth 20000 in
theorem slices_BinarySearch (p : Option Addr) (l : List Int) (cap : Nat) (t : Int) (w : World) (hI : IntsAt w p l) (hl : l.length ≤ 1048576) (hs : l.Pairwise (· ≤ ·)) :
    Calls Try.prog 71 #[.slice p l.length cap, .int .i64 t] w fun e w' => ∃ x, e = .returned (.tuple #[.int .i64 x, .bool (decide (t ∈ l))]) ∧ w = w' := by
  have HS := Lib.hid hs
  clear hs
  go_enter Try.func71, Try.ntmps71
  go_wp2_with fail
  go_loopw [7, 8] (fun iv jv wr => ∃ i j : Nat, i ≤ j ∧ j ≤ l.length ∧ iv = .int .i64 i ∧ jv = .int .i64 j ∧ Hid (∀ x (hx : x < l.length), x < i → l[x] < t) ∧ Hid (∀ x (hx : x < l.length), j ≤ x → t ≤ l[x]) ∧ wr = w) (fun iv jv _ => (intOf jv - intOf iv).toNat)
  case atStart => exact ⟨0, l.length, Nat.zero_le _, Nat.le_refl _, rfl, rfl, fun x _ h => absurd h (Nat.not_lt_zero _), fun x hx h => absurd hx (by omega), rfl⟩
  case round =>
    obtain ⟨i, j, hij, hj, rfl, rfl, H1, H2, rfl⟩ := hrel
    by_cases hlt : i < j
    · obtain ⟨s, hsum⟩ : ∃ s, i + j = s := ⟨_, rfl⟩
      obtain ⟨h, hh⟩ : ∃ h, s / 2 = h := ⟨_, rfl⟩
      have q1 : IntKind.i64.wrap ((i : Int) + (j : Int)) = (s : Int) := by rw [IntWalk.i64_in _ (by omega)]; omega
      have q2 : (i : Int) + (j : Int) = (s : Int) := by omega
      have q3 : (s : Int) / 2 = (h : Int) := by omega
      have q4 : (s : Int).tdiv 2 = (h : Int) := by rw [Int.tdiv_eq_ediv_of_nonneg (by omega)]; omega
      have hhl : h < l.length := by omega
      obtain ⟨a, rfl, hx⟩ := hI.at_ hhl
      have b1 := @bs_low l t HS.out h hhl
      have b2 := @bs_high l t HS.out h hhl
      obtain ⟨x, ex⟩ : ∃ x, l[h] = x := ⟨_, rfl⟩
      rw [ex] at hx b1 b2
      have i1 : (h : Int) < (l.length : Int) := by omega
      clear ex
      by_cases hxt : x < t
      · have HB := Lib.hid (b1 hxt)
        have hd : decide (x < t) = true := decide_eq_true hxt
        clear b1 b2
        go_wp2_with (go_at_call 94; refine (less_cmp _ _ _).mono ?_; rintro e w' ⟨rfl, rfl⟩)
        go_roundw
        case rel => exact ⟨h + 1, j, by omega, hj, by go_num, rfl, HB, H2, trivial⟩
        case measure => simp [intOf]; omega
      · have HB := Lib.hid (b2 (by omega))
        have hd : decide (x < t) = false := decide_eq_false hxt
        clear b1 b2
        go_wp2_with (go_at_call 94; refine (less_cmp _ _ _).mono ?_; rintro e w' ⟨rfl, rfl⟩)
        go_roundw
        case rel => exact ⟨i, h, by omega, by omega, rfl, by go_num, H1, HB, trivial⟩
        case measure => simp [intOf]; omega
    · have hij2 : i = j := by omega
      subst hij2
      have hend := Lib.hid (bs_end HS.out H1.out H2.out)
      by_cases hil : i < l.length
      · obtain ⟨a, rfl, hx⟩ := hI.at_ hil
        have he2 : Hid (decide (t ∈ l) = decide (l[i] = t)) := Lib.hid (by rw [hend.out, dif_pos hil])
        obtain ⟨x, ex⟩ : ∃ x, l[i] = x := ⟨_, rfl⟩
        rw [ex] at hx
        have EX := Lib.hid ex
        clear ex
        by_cases hxt : x = t
        · subst hxt
          go_wp2_with (go_at_call 95; refine (isNaN_slices _ _).mono ?_; rintro e w' ⟨rfl, rfl⟩)
          go_ret2
          exact ⟨_, ret_int_bool rfl (by rw [he2.out, EX.out]; simp), rfl⟩
        · have hne : (x == t) = false := by rw [beq_eq_false_iff_ne]; exact hxt
          go_wp2_with (go_at_call 95; refine (isNaN_slices _ _).mono ?_; rintro e w' ⟨rfl, rfl⟩)
          go_ret2
          exact ⟨_, ret_int_bool rfl (by rw [he2.out, EX.out, decide_eq_false hxt]), rfl⟩
      · have he2 : Hid (decide (t ∈ l) = false) := Lib.hid (by rw [hend.out, dif_neg hil])
        go_wp2_with fail
        go_ret2
        exact ⟨_, ret_int_bool rfl (by rw [he2.out]), rfl⟩
theorem has_no {l : List Int} {t : Int} (h : ∀ x (hx : x < l.length), l[x] ≠ t) : decide (t ∈ l) = false := by
  rw [decide_eq_false_iff_not]
  intro hm
  obtain ⟨x, hx, e⟩ := List.getElem_of_mem hm
  exact h x hx e
set_option maxHeartbeats 1000000 in
theorem spec_l00Has (p : Option Addr) (l : List Int) (cap : Nat) (t : Int) (w : World) (hI : IntsAt w p l) (hl : l.length ≤ 1048576) :
    Calls Try.prog 99 #[.slice p l.length cap, .int .i64 t] w fun e w' => e = .returned (.bool (decide (t ∈ l))) ∧ w = w' := by
  go_enter Try.func99, Try.ntmps99
  go_wp2_with fail
  go_loopw [5] (fun iv wr => ∃ i : Nat, i ≤ l.length ∧ iv = .int .i64 i ∧ Hid (∀ x (hx : x < l.length), x < i → l[x] ≠ t) ∧ wr = w) (fun iv _ => l.length - (intOf iv).toNat)
  case atStart => exact ⟨0, Nat.zero_le _, rfl, fun x _ h => absurd h (Nat.not_lt_zero _), rfl⟩
  case round =>
    obtain ⟨i, hi, rfl, H1, rfl⟩ := hrel
    by_cases hlt : i < l.length
    · obtain ⟨a, rfl, hx⟩ := hI.at_ hlt
      by_cases hxt : l[i] = t
      · have he : Hid (decide (t ∈ l) = true) := Lib.hid (by rw [← hxt]; exact decide_eq_true (List.getElem_mem hlt))
        rw [hxt] at hx
        go_wp2_with fail
        go_ret
        exact ⟨ret_bool (by rw [he.out]), rfl⟩
      · have HN : Hid (∀ x (hx : x < l.length), x < i + 1 → l[x] ≠ t) := Lib.hid fun x hx h => by
          by_cases e : x = i
          · subst e; exact hxt
          · exact H1.out x hx (by omega)
        obtain ⟨x, ex⟩ : ∃ x, l[i] = x := ⟨_, rfl⟩
        rw [ex] at hx hxt
        have hne : (x == t) = false := by rw [beq_eq_false_iff_ne]; exact hxt
        clear ex
        go_wp2_with fail
        go_roundw
        case rel => exact ⟨i + 1, by omega, by go_num, HN, trivial⟩
        case measure => simp [intOf]; omega
    · have he := Lib.hid (has_no fun x hx => H1.out x hx (by omega))
      go_wp2_with fail
      go_ret
      exact ⟨ret_bool (by rw [he.out]), rfl⟩
end Go.Proofs.Ytfdcainjppljhaa
