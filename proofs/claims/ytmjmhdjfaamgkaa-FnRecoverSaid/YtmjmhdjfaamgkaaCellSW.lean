/- Cells: the specification's test. -/
import Derived.Test.YtmjmhdjfaamgkaaBase
import Derived.Test.YtmjmhdjfaamgkaaMem
import Derived.Lib.Hide
namespace Go.Proofs.Ytmjmhdjfaamgkaa
open Go.RowKit
set_option linter.unusedVariables false
/-- All bytes are '0' or '1'. -/
def bitB (b : UInt8) : Bool := b == 48 || b == 49
def bitsAll (l : List UInt8) : Bool := l.all bitB
theorem bitB_cases (b : UInt8) : (bitB b = true ∧ ((b.toNat : Int) = 48 ∨ (b.toNat : Int) = 49)) ∨ (bitB b = false ∧ ((b.toNat : Int) != 48) = true ∧ ((b.toNat : Int) != 49) = true) := by
  by_cases h1 : b = 48
  · subst h1; exact .inl ⟨rfl, .inl rfl⟩
  · by_cases h2 : b = 49
    · subst h2; exact .inl ⟨rfl, .inr rfl⟩
    · refine .inr ⟨by simp [bitB, h1, h2], ?_, ?_⟩
      · rw [bne_iff_ne]; intro h; exact h1 (UInt8.toNat_inj.1 (by rw [show (48 : UInt8).toNat = 48 from rfl]; omega))
      · rw [bne_iff_ne]; intro h; exact h2 (UInt8.toNat_inj.1 (by rw [show (49 : UInt8).toNat = 49 from rfl]; omega))
theorem bits_not {s : ByteArray} {k : Nat} (h : k < s.size) (hl : bitB (s[k]'h) = false) : bitsAll s.data.toList = false := by
  unfold bitsAll
  rw [List.all_eq_false]
  exact ⟨_, List.getElem_mem (l := s.data.toList) (n := k) (by simpa using h), by
    have : s.data.toList[k]'(by simpa using h) = s[k]'h := rfl
    rw [this, hl]; decide⟩
theorem bits_yes {s : ByteArray} (ha : ∀ j (hj : j < s.size), bitB (s[j]'hj) = true) : bitsAll s.data.toList = true := by
  unfold bitsAll
  rw [List.all_eq_true]
  intro c hc
  obtain ⟨j, hj, rfl⟩ := List.getElem_of_mem hc
  exact ha j (by simpa using hj)
theorem bits_at {s : ByteArray} (h : bitsAll s.data.toList = true) {k : Nat} (hk : k < s.size) : bitB (s[k]'hk) = true :=
  List.all_eq_true.1 h _ (List.getElem_mem (l := s.data.toList) (n := k) (by simpa using hk))
theorem bits_step {s : ByteArray} {k : Nat} (hlt : k < s.size) (h : Hid (∀ j (hj : j < s.size), j < k → bitB (s[j]'hj) = true)) (hk : bitB (s[k]'hlt) = true) :
    Hid (∀ j (hj : j < s.size), j < k + 1 → bitB (s[j]'hj) = true) := by
  intro j hj hjk
  by_cases e : j = k
  · subst e; exact hk
  · exact h.out j hj (by omega)
/-- Cells: at most 8000, each 0 or 1. -/
def cellStr (s : ByteArray) : Bool := decide (s.size ≤ 8000) && bitsAll s.data.toList
def cellsB (s : ByteArray) : Bool := decide (1 ≤ s.size) && cellStr s
set_option maxHeartbeats 1000000 in
theorem spec_l02Cells (s : ByteArray) (w : World) (hs : s.size ≤ 9223372036854775807) :
    Calls Try.prog 96 #[.string s] w fun e w' => e = .returned (.bool (cellsB s)) ∧ w = w' := by
  by_cases h1 : s.size < 1
  · have H := Lib.hid (show cellsB s = false by simp [cellsB]; omega)
    have hd : decide ((s.size : Int) < 1) = true := by simp; omega
    go_enter Try.func96, Try.ntmps96
    go_wp2_with fail
    go_ret
    exact ⟨ret_bool (by rw [H.out]), rfl⟩
  have hd : decide ((s.size : Int) < 1) = false := by simp; omega
  by_cases h8 : 8000 < s.size
  · have H := Lib.hid (show cellsB s = false by simp [cellsB, cellStr]; omega)
    have hd2 : decide ((8000 : Int) < (s.size : Int)) = true := by simp; omega
    go_enter Try.func96, Try.ntmps96
    go_wp2_with fail
    go_ret
    exact ⟨ret_bool (by rw [H.out]), rfl⟩
  have hd2 : decide ((8000 : Int) < (s.size : Int)) = false := by simp; omega
  have H : Hid (cellsB s = bitsAll s.data.toList) := Lib.hid (by
    have e1 : decide (1 ≤ s.size) = true := by simp; omega
    have e2 : decide (s.size ≤ 8000) = true := by simp; omega
    unfold cellsB cellStr; rw [e1, e2]; rfl)
  go_enter Try.func96, Try.ntmps96
  go_wp2_with fail
  go_loop [3] (fun i => ∃ k : Nat, k ≤ s.size ∧ i = .int .i64 k ∧ Hid (∀ j (hj : j < s.size), j < k → bitB (s[j]'hj) = true)) (fun i => s.size - (intOf i).toNat)
  case atStart => exact ⟨0, Nat.zero_le _, rfl, fun j _ hj => absurd hj (by omega)⟩
  case round =>
    obtain ⟨k, hk, rfl, HA⟩ := hrel
    by_cases hlt : k < s.size
    · rcases bitB_cases (s[k]'hlt) with ⟨hc, hr⟩ | ⟨hc, a1, a2⟩
      · have HC := Lib.hid hc
        clear hc
        rcases hr with a1 | a1
        all_goals
          go_wp2_with fail
          go_round
          case rel => exact ⟨k + 1, by omega, by go_num, bits_step hlt HA HC.out⟩
          case measure => simp [intOf]; omega
      · have HC := Lib.hid hc
        clear hc
        go_wp2_with fail
        go_ret
        exact ⟨ret_bool (by rw [H.out, bits_not hlt HC.out]), rfl⟩
    · go_wp2_with fail
      go_ret
      exact ⟨ret_bool (by rw [H.out, bits_yes fun j hj => HA.out j hj (by omega)]), rfl⟩
end Go.Proofs.Ytmjmhdjfaamgkaa
