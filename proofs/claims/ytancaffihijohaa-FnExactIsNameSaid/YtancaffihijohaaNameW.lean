/- IsName. -/
import Derived.Test.YtancaffihijohaaBase
import Derived.Test.YtancaffihijohaaMem
namespace Go.Proofs.Ytancaffihijohaa
open Go.RowKit
def letterB (n : Int) : Bool := decide (65 ≤ n) && decide (n ≤ 90)
def digitB (n : Int) : Bool := decide (48 ≤ n) && decide (n ≤ 57)
def chB (n : Int) : Bool := letterB n || digitB n || decide (n = 95)
/-- Is a string a name? -/
def nameB (s : ByteArray) : Bool := decide (s.size ≤ 8) && (match s.data.toList with | [] => false | c :: _ => letterB c.toNat) && s.data.toList.all fun c => chB c.toNat
theorem nameB_empty {s : ByteArray} (h : s.size = 0) : nameB s = false := by rw [empty_of_size h]; rfl
theorem nameB_long {s : ByteArray} (h : 8 < s.size) : nameB s = false := by simp [nameB]; omega
theorem nameB_first {s : ByteArray} (h : 0 < s.size) (hl : letterB (s[0].toNat : Int) = false) : nameB s = false := by
  unfold nameB
  cases e : s.data.toList with
  | nil => simp
  | cons c l =>
    have : s[0] = c := by
      have h1 : s.data.toList[0]? = some c := by rw [e]; rfl
      rw [List.getElem?_eq_getElem (by simpa using h)] at h1
      exact Option.some.inj h1
    rw [this] at hl
    simp [hl]
theorem nameB_at {s : ByteArray} {k : Nat} (h : k < s.size) (hl : chB (s[k].toNat : Int) = false) : nameB s = false := by
  have hm : s[k] ∈ s.data.toList := by
    have : s[k] = s.data.toList[k]'(by simpa using h) := rfl
    rw [this]; exact List.getElem_mem _
  have : (s.data.toList.all fun c => chB c.toNat) = false := by
    rw [List.all_eq_false]
    exact ⟨_, hm, by simp [hl]⟩
  simp [nameB, this]
theorem nameB_yes {s : ByteArray} (h : 0 < s.size) (h8 : s.size ≤ 8) (hl : letterB (s[0].toNat : Int) = true) (ha : ∀ j (hj : j < s.size), chB ((s[j]'hj).toNat : Int) = true) : nameB s = true := by
  unfold nameB
  have hall : (s.data.toList.all fun c => chB c.toNat) = true := by
    rw [List.all_eq_true]
    intro c hc
    obtain ⟨j, hj, rfl⟩ := List.getElem_of_mem hc
    exact ha j (by simpa using hj)
  rw [hall]
  cases e : s.data.toList with
  | nil =>
    have h2 : s.data.toList.length = s.size := rfl
    rw [e] at h2
    simp at h2; omega
  | cons c l =>
    have : s[0] = c := by
      have h1 : s.data.toList[0]? = some c := by rw [e]; rfl
      rw [List.getElem?_eq_getElem (by simpa using h)] at h1
      exact Option.some.inj h1
    rw [this] at hl
    simp [hl, h8]
theorem ch_cases (n : Int) : (chB n = true ∧ ((65 ≤ n ∧ n ≤ 90) ∨ (48 ≤ n ∧ n ≤ 57) ∨ (94 < n ∧ n < 96))) ∨ (chB n = false ∧ (n < 48 ∨ (57 < n ∧ n < 65) ∨ (90 < n ∧ n < 95) ∨ 95 < n)) := by
  have h : chB n = true ↔ ((65 ≤ n ∧ n ≤ 90) ∨ (48 ≤ n ∧ n ≤ 57) ∨ n = 95) := by simp [chB, letterB, digitB, or_assoc]
  cases e : chB n with
  | true => exact .inl ⟨rfl, by have := h.1 e; omega⟩
  | false => rw [e] at h; simp at h; exact .inr ⟨rfl, by omega⟩
theorem name_step {s : ByteArray} {k : Nat} (hlt : k < s.size) (h : Hid (∀ j (hj : j < s.size), j < k → chB ((s[j]'hj).toNat : Int) = true)) (hk : chB ((s[k]'hlt).toNat : Int) = true) :
    Hid (∀ j (hj : j < s.size), j < k + 1 → chB ((s[j]'hj).toNat : Int) = true) := by
  intro j hj hjk
  by_cases e : j = k
  · subst e; exact hk
  · exact h.out j hj (by omega)
theorem letter_any (n : Int) (w : World) :
    Calls Try.prog 43 #[.int .u8 n] w fun e w' => e = .returned (.bool (letterB n)) ∧ w = w' := by
  go_enter Try.func43, Try.ntmps43
  go_wp2
  all_goals
    go_ret
    exact ⟨ret_bool (by simp only [letterB]; first | (simp [*]; done) | (simp; omega)), rfl⟩
theorem digit_any (n : Int) (w : World) :
    Calls Try.prog 44 #[.int .u8 n] w fun e w' => e = .returned (.bool (digitB n)) ∧ w = w' := by
  go_enter Try.func44, Try.ntmps44
  go_wp2
  all_goals
    go_ret
    exact ⟨ret_bool (by simp only [digitB]; first | (simp [*]; done) | (simp; omega)), rfl⟩
set_option maxHeartbeats 1000000 in
theorem spec_IsName (s : ByteArray) (w : World) (hs : s.size ≤ 1048576) :
    Calls Try.prog 30 #[.string s] w fun e w' => e = .returned (.bool (nameB s)) ∧ w = w' := by
  rcases Nat.eq_zero_or_pos s.size with h | h1
  · have H := Lib.hid (nameB_empty h)
    obtain rfl := empty_of_size h
    go_enter Try.func30, Try.ntmps30
    go_wp2
    go_ret
    exact ⟨ret_bool (by rw [H.out]), rfl⟩
  · have he := isEmpty_of_pos h1
    have hn : ¬ s.toList = [] := by rw [← List.isEmpty_iff, he]; decide
    by_cases h8 : s.size ≤ 8
    · have hd : decide ((8 : Int) < (s.size : Int)) = false := by simp; omega
      cases hl : letterB (s[0].toNat : Int) with
      | false =>
        have H := Lib.hid (nameB_first h1 hl)
        go_enter Try.func30, Try.ntmps30
        go_wp2_with (go_at_call 43; refine (letter_any _ _).mono ?_; rintro e w' ⟨rfl, rfl⟩)
        go_ret
        exact ⟨ret_bool (by rw [H.out]), rfl⟩
      | true =>
        go_enter Try.func30, Try.ntmps30
        go_wp2_with (go_at_call 43; refine (letter_any _ _).mono ?_; rintro e w' ⟨rfl, rfl⟩)
        go_loop [3] (fun i => ∃ k : Nat, k ≤ s.size ∧ i = .int .i64 k ∧ Hid (∀ j (hj : j < s.size), j < k → chB ((s[j]'hj).toNat : Int) = true)) (fun i => s.size - (intOf i).toNat)
        case atStart => exact ⟨0, Nat.zero_le _, rfl, fun j _ hj => absurd hj (by omega)⟩
        case round =>
          obtain ⟨k, hk, rfl, HA⟩ := hrel
          by_cases hlt : k < s.size
          · go_wp2_with (first | (go_at_call 43; refine (letter_any _ _).mono ?_; rintro e w' ⟨rfl, rfl⟩) | (go_at_call 44; refine (digit_any _ _).mono ?_; rintro e w' ⟨rfl, rfl⟩))
            all_goals first
              | (go_round
                 case rel => exact ⟨k + 1, by omega, by go_num, name_step hlt HA (by simp_all [chB])⟩
                 case measure => simp [intOf]; omega)
              | (go_ret
                 exact ⟨ret_bool (nameB_at hlt (by simp_all [chB])).symm, rfl⟩)
          · go_wp2
            go_ret
            exact ⟨ret_bool (nameB_yes h1 h8 hl fun j hj => HA.out j hj (by omega)).symm, rfl⟩
    · have H := Lib.hid (nameB_long (s := s) (by omega))
      have hd : decide ((8 : Int) < (s.size : Int)) = true := by simp; omega
      go_enter Try.func30, Try.ntmps30
      go_wp2
      go_ret
      exact ⟨ret_bool (by rw [H.out]), rfl⟩
set_option maxHeartbeats 1000000 in
theorem impl_IsName (s : ByteArray) (w : World) (hs : s.size ≤ 1048576) :
    Calls Try.prog 31 #[.string s] w fun e w' => e = .returned (.bool (nameB s)) ∧ w = w' := by
  rcases Nat.eq_zero_or_pos s.size with h | h1
  · have H := Lib.hid (nameB_empty h)
    obtain rfl := empty_of_size h
    go_enter Try.func31, Try.ntmps31
    go_wp2
    go_ret
    exact ⟨ret_bool (by rw [H.out]), rfl⟩
  · by_cases h8 : s.size ≤ 8
    · have hd : decide ((8 : Int) < (s.size : Int)) = false := by simp; omega
      have hd1 : decide ((s.size : Int) < 1) = false := by simp; omega
      by_cases hl : letterB (s[0].toNat : Int) = false
      · have H := Lib.hid (nameB_first h1 hl)
        have hl2 : ((s[0].toNat : Int) < 65) ∨ 90 < (s[0].toNat : Int) := by simp [letterB] at hl; omega
        clear hl
        rcases hl2 with hl2 | hl2
        all_goals
          go_enter Try.func31, Try.ntmps31
          go_wp2
          go_ret
          exact ⟨ret_bool (by rw [H.out]), rfl⟩
      · have hl1 : letterB (s[0].toNat : Int) = true := by simpa using hl
        have hl2 : (65 ≤ (s[0].toNat : Int)) ∧ (s[0].toNat : Int) ≤ 90 := by simpa [letterB] using hl1
        obtain ⟨hl3, hl4⟩ := hl2
        have HL := Lib.hid hl1
        clear hl hl1
        go_enter Try.func31, Try.ntmps31
        go_wp2
        go_loop [25] (fun i => ∃ k : Nat, k ≤ s.size ∧ i = .int .i64 k ∧ Hid (∀ j (hj : j < s.size), j < k → chB ((s[j]'hj).toNat : Int) = true)) (fun i => s.size - (intOf i).toNat)
        case atStart => exact ⟨0, Nat.zero_le _, rfl, fun j _ hj => absurd hj (by omega)⟩
        case round =>
          obtain ⟨k, hk, rfl, HA⟩ := hrel
          by_cases hlt : k < s.size
          · rcases ch_cases ((s[k]'hlt).toNat : Int) with ⟨hc, hr⟩ | ⟨hc, hr⟩
            · have HC := Lib.hid hc
              clear hc
              rcases hr with ⟨a1, a2⟩ | ⟨a1, a2⟩ | ⟨a1, a2⟩
              · have hne : (((s[k]'hlt).toNat : Int) != 95) = true := by rw [bne_iff_ne]; omega
                go_wp2
                go_round
                case rel => exact ⟨k + 1, by omega, by go_num, name_step hlt HA HC.out⟩
                case measure => simp [intOf]; omega
              · have hne : (((s[k]'hlt).toNat : Int) != 95) = true := by rw [bne_iff_ne]; omega
                go_wp2
                go_round
                case rel => exact ⟨k + 1, by omega, by go_num, name_step hlt HA HC.out⟩
                case measure => simp [intOf]; omega
              · have hne : (((s[k]'hlt).toNat : Int) != 95) = false := by rw [bne_eq_false_iff_eq]; omega
                go_wp2
                go_round
                case rel => exact ⟨k + 1, by omega, by go_num, name_step hlt HA HC.out⟩
                case measure => simp [intOf]; omega
            · have HC := Lib.hid hc
              clear hc
              have hne : (((s[k]'hlt).toNat : Int) != 95) = true := by rw [bne_iff_ne]; omega
              rcases hr with a1 | ⟨a1, a2⟩ | ⟨a1, a2⟩ | a1
              all_goals
                go_wp2
                go_ret
                exact ⟨ret_bool (nameB_at hlt HC.out).symm, rfl⟩
          · go_wp2
            go_ret
            exact ⟨ret_bool (nameB_yes h1 h8 HL.out fun j hj => HA.out j hj (by omega)).symm, rfl⟩
    · have H := Lib.hid (nameB_long (s := s) (by omega))
      have hd : decide ((8 : Int) < (s.size : Int)) = true := by simp; omega
      go_enter Try.func31, Try.ntmps31
      go_wp2
      go_ret
      exact ⟨ret_bool (by rw [H.out]), rfl⟩
set_option maxHeartbeats 400000 in
theorem walk_FnExactIsName (s : ByteArray) (w : World) (hs : s.size ≤ maxLen) :
    Calls Try.prog 11 #[.string s] w fun e w' => e = .returned (.bool true) ∧ Below w.heap.size w w' := by
  unfold maxLen at hs
  by_cases h : s.size ≤ 1048576
  · have hd : decide ((1048576 : Int) < (s.size : Int)) = false := by simp; omega
    go_enter Try.func11, Try.ntmps11
    go_wp2_with (first | (go_at_call 30; refine (spec_IsName _ _ h).mono ?_; rintro e w' ⟨rfl, rfl⟩) | (go_at_call 31; refine (impl_IsName _ _ h).mono ?_; rintro e w' ⟨rfl, rfl⟩))
    go_ret
    exact ⟨rfl, Below.refl _ _⟩
  · go_enter Try.func11, Try.ntmps11
    go_wp2
    go_ret
    exact ⟨rfl, Below.refl _ _⟩
end Go.Proofs.Ytancaffihijohaa
