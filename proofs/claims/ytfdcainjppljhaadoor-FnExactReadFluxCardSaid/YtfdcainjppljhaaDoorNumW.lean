/- The model reads a piece: l01Number. -/
import Derived.Test.YtfdcainjppljhaaDoorCutP
import Derived.Test.YtfdcainjppljhaaDoorStrW
namespace Go.Proofs.YtfdcainjppljhaaDoor
open Go.RowKit
set_option linter.unusedVariables false
theorem digit_is (n : Int) (w : World) :
    Calls Tryd.prog 33 #[.int .u8 n] w fun e w' => e = .returned (.bool (decide (48 ≤ n) && decide (n ≤ 57))) ∧ w' = w := by
  go_enter Tryd.func33, Tryd.ntmps33
  go_wp2
  all_goals
    go_ret
    exact ⟨ret_bool (by first | (simp [*]; done) | (simp; omega)), rfl⟩
theorem numV_bad {p : List UInt8} (h : p = [] ∨ 7 < p.length ∨ (p.headD 0 = 48 ∧ 1 < p.length)) : numV p = -1 := by
  unfold numV
  rw [if_pos h]
theorem numV_no {p : List UInt8} {k : Nat} (hk : k < p.length) (h : isDig p[k] = false) : numV p = -1 := by
  unfold numV
  split
  · rfl
  · have : p.all isDig = false := List.all_eq_false.2 ⟨_, List.getElem_mem hk, by rw [h]; decide⟩
    rw [this]; rfl
theorem numV_yes {p : List UInt8} (h : ¬ (p = [] ∨ 7 < p.length ∨ (p.headD 0 = 48 ∧ 1 < p.length))) (ha : p.all isDig = true) : numV p = (natOf 0 p : Int) := by
  unfold numV
  rw [if_neg h, ha]; rfl
theorem natOf_lt : ∀ (q : List UInt8) (a : Nat), q.all isDig = true → natOf a q < (a + 1) * 10 ^ q.length := by
  intro q
  induction q with
  | nil => intro a _; show a < (a + 1) * 10 ^ 0; rw [Nat.pow_zero]; omega
  | cons c q ih =>
    intro a hq
    rw [List.all_cons, Bool.and_eq_true] at hq
    have hc := of_decide_eq_true hq.1
    have := ih (a * 10 + (c.toNat - 48)) hq.2
    have h3 : (a * 10 + (c.toNat - 48) + 1) * 10 ^ q.length ≤ ((a + 1) * 10) * 10 ^ q.length := Nat.mul_le_mul_right _ (by omega)
    show natOf (a * 10 + (c.toNat - 48)) q < (a + 1) * 10 ^ (q.length + 1)
    rw [Nat.pow_succ, Nat.mul_comm (10 ^ q.length) 10, ← Nat.mul_assoc]
    omega
theorem dig_iff (b : UInt8) : isDig b = (decide (48 ≤ (b.toNat : Int)) && decide ((b.toNat : Int) ≤ 57)) := by
  unfold isDig
  rw [Bool.eq_iff_iff]
  simp
  omega
set_option maxHeartbeats 1000000 in
theorem spec_l01Number (s : ByteArray) (w : World) (hs : s.size ≤ 1048576) :
    Calls Tryd.prog 23 #[.string s] w fun e w' => e = .returned (.int .i64 (numV s.data.toList)) ∧ w' = w := by
  have hL : s.data.toList.length = s.size := rfl
  rcases Nat.eq_zero_or_pos s.size with h | h1
  · have H := Lib.hid (numV_bad (p := s.data.toList) (.inl (List.eq_nil_of_length_eq_zero (by omega))))
    obtain rfl := empty_of_size h
    go_enter Tryd.func23, Tryd.ntmps23
    go_wp2
    go_ret
    exact ⟨by rw [H.out]; rfl, rfl⟩
  have he := isEmpty_of_pos h1
  have hn : ¬ s.toList = [] := by rw [← List.isEmpty_iff, he]; decide
  by_cases h7 : 7 < s.size
  · have H := Lib.hid (numV_bad (p := s.data.toList) (.inr (.inl (by omega))))
    have hd : decide ((7 : Int) < (s.size : Int)) = true := decide_eq_true (by omega)
    go_enter Tryd.func23, Tryd.ntmps23
    go_wp2
    go_ret
    exact ⟨by rw [H.out]; rfl, rfl⟩
  have hd : decide ((7 : Int) < (s.size : Int)) = false := decide_eq_false (by omega)
  have hh : s.data.toList.headD 0 = s[0] := by
    have h2 : s.data.toList[0]? = some s[0] := by rw [List.getElem?_eq_getElem (by omega)]; rfl
    cases hx : s.data.toList with
    | nil => rw [hx] at hL; simp at hL; omega
    | cons a r => rw [hx] at h2; simpa using h2
  by_cases hz : s[0] = 48 ∧ 1 < s.size
  · have H := Lib.hid (numV_bad (p := s.data.toList) (.inr (.inr ⟨by rw [hh]; exact hz.1, by omega⟩)))
    have h48 : ((s[0].toNat : Int) == 48) = true := by rw [hz.1]; rfl
    have hd1 : decide ((1 : Int) < (s.size : Int)) = true := decide_eq_true (by omega)
    clear hh hz
    go_enter Tryd.func23, Tryd.ntmps23
    go_wp2
    go_ret
    exact ⟨by rw [H.out]; rfl, rfl⟩
  have hok : ¬ (s.data.toList = [] ∨ 7 < s.data.toList.length ∨ (s.data.toList.headD 0 = 48 ∧ 1 < s.data.toList.length)) := by
    rintro (h2 | h2 | ⟨h2, h3⟩)
    · rw [h2] at hL; simp at hL; omega
    · omega
    · exact hz ⟨by rw [← hh]; exact h2, by omega⟩
  have hcond : (((s[0].toNat : Int) == 48) = false) ∨ (((s[0].toNat : Int) == 48) = true ∧ decide ((1 : Int) < (s.size : Int)) = false) := by
    by_cases h48 : s[0] = 48
    · right
      refine ⟨by rw [h48]; rfl, decide_eq_false (by have : ¬ 1 < s.size := fun h => hz ⟨h48, h⟩; omega)⟩
    · left
      have : s[0].toNat ≠ 48 := fun e => h48 (by rw [← UInt8.toNat_inj]; exact e)
      simp; omega
  have HOK := Lib.hid hok
  clear hok hz hh
  rcases hcond with h48 | ⟨h48, hd1⟩
  all_goals
    go_enter Tryd.func23, Tryd.ntmps23
    go_wp2
    go_loop [3, 4] (fun v i => ∃ k N : Nat, k ≤ s.size ∧ v = .int .i64 (N : Int) ∧ i = .int .i64 k ∧ Hid (natOf 0 (s.data.toList.take k) = N ∧ (s.data.toList.take k).all isDig = true)) (fun _ i => s.size - (intOf i).toNat)
    case atStart => exact ⟨0, 0, Nat.zero_le _, rfl, rfl, Lib.hid ⟨rfl, rfl⟩⟩
    case round =>
      obtain ⟨k, N, hk, rfl, rfl, HA⟩ := hrel
      by_cases hlt : k < s.size
      · have hN : N < 10000000 := by
          have h2 := natOf_lt _ 0 HA.out.2
          rw [HA.out.1] at h2
          have h3 : 10 ^ (s.data.toList.take k).length ≤ 10 ^ 7 := Nat.pow_le_pow_right (by omega) (by rw [List.length_take]; omega)
          have e7 : (10 : Nat) ^ 7 = 10000000 := by decide
          omega
        have hb := u8_bd (s[k]'hlt)
        have hgk : s.data.toList[k]'(by omega) = s[k]'hlt := rfl
        cases hdg : isDig (s[k]'hlt)
        · have H := Lib.hid (numV_no (p := s.data.toList) (k := k) (by omega) (by rw [hgk]; exact hdg))
          have hdd := dig_iff (s[k]'hlt)
          rw [hdg] at hdd
          have HD := Lib.hid hdd.symm
          clear hdd hdg hgk
          go_wp2_with (go_at_call 33; refine (digit_is _ _).mono ?_; rintro e w' ⟨rfl, rfl⟩; rw [HD.out])
          go_ret
          exact ⟨by rw [H.out]; rfl, rfl⟩
        · have hdd := dig_iff (s[k]'hlt)
          rw [hdg] at hdd
          have HD := Lib.hid hdd.symm
          have hbb := of_decide_eq_true hdg
          have q1 : IntKind.i64.wrap (10 * (N : Int)) = 10 * (N : Int) := IntWalk.i64_in _ (by omega)
          have q2 : IntKind.u8.wrap (((s[k]'hlt).toNat : Int) - 48) = ((s[k]'hlt).toNat : Int) - 48 := by
            have h1 : ∀ v : Fin 10, IntKind.u8.wrap ((v.val : Int)) = (v.val : Int) := by decide +kernel
            have := h1 ⟨(s[k]'hlt).toNat - 48, by omega⟩
            simp only at this
            rw [show (((s[k]'hlt).toNat : Int) - 48) = (((s[k]'hlt).toNat - 48 : Nat) : Int) by omega]
            exact this
          have q3 : IntKind.i64.wrap (((s[k]'hlt).toNat : Int) - 48) = ((s[k]'hlt).toNat : Int) - 48 := IntWalk.i64_in _ (by omega)
          have q4 : IntKind.i64.wrap (10 * (N : Int) + (((s[k]'hlt).toNat : Int) - 48)) = 10 * (N : Int) + (((s[k]'hlt).toNat : Int) - 48) := IntWalk.i64_in _ (by omega)
          have hst : Hid (natOf 0 (s.data.toList.take (k + 1)) = N * 10 + ((s[k]'hlt).toNat - 48) ∧ (s.data.toList.take (k + 1)).all isDig = true) := by
            refine Lib.hid ?_
            rw [List.take_succ_eq_append_getElem (by omega), natOf_snoc, HA.out.1, List.all_append, HA.out.2, hgk]
            refine ⟨rfl, ?_⟩
            simp [hdg]
          clear hdd hdg hgk
          go_wp2_with (go_at_call 33; refine (digit_is _ _).mono ?_; rintro e w' ⟨rfl, rfl⟩; rw [HD.out])
          go_round
          case rel => exact ⟨k + 1, N * 10 + ((s[k]'hlt).toNat - 48), by omega, by go_num, by go_num, hst⟩
          case measure => simp [intOf]; omega
      · have ek : s.data.toList.take k = s.data.toList := List.take_of_length_le (by omega)
        have H : Hid (numV s.data.toList = (N : Int)) := Lib.hid (by
          have h2 := HA.out
          rw [ek] at h2
          rw [numV_yes HOK.out h2.2, h2.1])
        clear ek
        go_wp2
        go_ret
        exact ⟨by rw [H.out]; rfl, rfl⟩
end Go.Proofs.YtfdcainjppljhaaDoor
