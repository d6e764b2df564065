/- The tests of a noise's drift, jitter, drops (as XJittW, XDropW, XDriftW have them). -/
import Derived.Test.YtfdcainjppljhaaSpanW
namespace Go.Proofs.Ytfdcainjppljhaa
open Go.RowKit
set_option linter.unusedVariables false
def jitOk (js : List Int) : Bool := js.all (fun x => inB x (-50) 50) && decide (js.length ≤ 4000)
theorem jitOk_at {js : List Int} (h : jitOk js = true) (i : Nat) (hi : i < js.length) : -50 ≤ js[i] ∧ js[i] ≤ 50 := by
  unfold jitOk at h
  rw [Bool.and_eq_true, List.all_eq_true] at h
  exact inB_iff.1 (h.1 _ (List.getElem_mem hi))
theorem jitOk_no {js : List Int} {i : Nat} (hi : i < js.length) (h : inB js[i] (-50) 50 = false) : jitOk js = false := by
  unfold jitOk
  rw [Bool.and_eq_false_iff]
  exact .inl (List.all_eq_false.2 ⟨_, List.getElem_mem hi, by rw [h]; decide⟩)
theorem jitOk_yes {js : List Int} (h : ∀ i (hi : i < js.length), inB js[i] (-50) 50 = true) : jitOk js = decide (js.length ≤ 4000) := by
  unfold jitOk
  rw [List.all_eq_true.2 (fun x hx => by obtain ⟨i, hi, rfl⟩ := List.getElem_of_mem hx; exact h i hi), Bool.true_and]
theorem jit_step {js : List Int} {k : Nat} (hlt : k < js.length) (h : Hid (∀ i (hi : i < js.length), i < k → inB js[i] (-50) 50 = true)) (hk : inB js[k] (-50) 50 = true) :
    Hid (∀ i (hi : i < js.length), i < k + 1 → inB js[i] (-50) 50 = true) := by
  intro j hj hjk
  by_cases e : j = k
  · subst e; exact hk
  · exact h.out j hj (by omega)
set_option maxHeartbeats 1000000 in
set_option maxRecDepth 20000 in
theorem spec_l04Jitter (p : Option Addr) (js : List Int) (cap : Nat) (w : World) (hI : IntsAt w p js) (hl : js.length ≤ 1048576) :
    Calls Try.prog 97 #[.slice p js.length cap] w fun e w' => e = .returned (.bool (jitOk js)) ∧ Below w.heap.size w w' := by
  go_enter Try.func97, Try.ntmps97
  go_wp2_with fail
  go_loopw [3] (fun i wr => ∃ k : Nat, k ≤ js.length ∧ i = .int .i64 k ∧ Hid (∀ i (hi : i < js.length), i < k → inB js[i] (-50) 50 = true) ∧ wr = w) (fun i _ => js.length - (intOf i).toNat)
  case atStart => exact ⟨0, Nat.zero_le _, rfl, fun i _ h => absurd h (Nat.not_lt_zero _), rfl⟩
  case round =>
    obtain ⟨k, hk, rfl, HA, rfl⟩ := hrel
    by_cases hlt : k < js.length
    · obtain ⟨a, rfl, hx⟩ := hI.at_ hlt
      obtain hin | hin := (Bool.eq_false_or_eq_true (inB js[k] (-50) 50)).symm
      · have HN := Lib.hid (jitOk_no hlt hin)
        have HI := Lib.hid hin
        clear hin
        generalize js[k] = x at hx HI
        go_wp2_with (go_at_call 42; refine (l00In_any _ _ _ _).mono ?_; rintro e w' ⟨rfl, rfl⟩; try rw [HI.out])
        go_ret
        exact ⟨ret_bool HN.out.symm, Below.refl _ _⟩
      · have HN := Lib.hid (jit_step hlt HA hin)
        have HI := Lib.hid hin
        clear hin
        generalize js[k] = x at hx HI
        go_wp2_with (go_at_call 42; refine (l00In_any _ _ _ _).mono ?_; rintro e w' ⟨rfl, rfl⟩; try rw [HI.out])
        exact ⟨⟨k + 1, by omega, by go_num, HN.out, trivial⟩, by simp [intOf]; omega⟩
    · have HN := Lib.hid (jitOk_yes fun j hj => HA.out j hj (by omega))
      go_wp2_with fail
      go_ret
      exact ⟨ret_bool (by rw [HN.out]; simp; omega), Below.refl _ _⟩
set_option maxHeartbeats 1000000 in
set_option maxRecDepth 20000 in
theorem impl_validJitter (p : Option Addr) (js : List Int) (cap : Nat) (w : World) (hI : IntsAt w p js) (hl : js.length ≤ 1048576) :
    Calls Try.prog 68 #[.slice p js.length cap] w fun e w' => e = .returned (.bool (jitOk js)) ∧ Below w.heap.size w w' := by
  go_enter Try.func68, Try.ntmps68
  go_wp2_with fail
  go_loopw [7] (fun i wr => ∃ k : Nat, k ≤ js.length ∧ i = .int .i64 k ∧ Hid (∀ i (hi : i < js.length), i < k → inB js[i] (-50) 50 = true) ∧ wr = w) (fun i _ => js.length - (intOf i).toNat)
  case atStart => exact ⟨0, Nat.zero_le _, rfl, fun i _ h => absurd h (Nat.not_lt_zero _), rfl⟩
  case round =>
    obtain ⟨k, hk, rfl, HA, rfl⟩ := hrel
    by_cases hlt : k < js.length
    · obtain ⟨a, rfl, hx⟩ := hI.at_ hlt
      obtain hin | hin := (Bool.eq_false_or_eq_true (inB js[k] (-50) 50)).symm
      · have HN := Lib.hid (jitOk_no hlt hin)
        have HI := Lib.hid hin
        clear hin
        generalize js[k] = x at hx HI
        go_wp2_with (go_at_call 48; refine (within_any _ _ _ _).mono ?_; rintro e w' ⟨rfl, rfl⟩; try rw [HI.out])
        go_ret
        exact ⟨ret_bool HN.out.symm, Below.refl _ _⟩
      · have HN := Lib.hid (jit_step hlt HA hin)
        have HI := Lib.hid hin
        clear hin
        generalize js[k] = x at hx HI
        go_wp2_with (go_at_call 48; refine (within_any _ _ _ _).mono ?_; rintro e w' ⟨rfl, rfl⟩; try rw [HI.out])
        exact ⟨⟨k + 1, by omega, by go_num, HN.out, trivial⟩, by simp [intOf]; omega⟩
    · have HN := Lib.hid (jitOk_yes fun j hj => HA.out j hj (by omega))
      go_wp2_with fail
      go_ret
      exact ⟨ret_bool (by rw [HN.out]; simp; omega), Below.refl _ _⟩
theorem spec_l04Drops (p : Option Addr) (js : List Int) (cap : Nat) (w : World) (hI : IntsAt w p js) (hl : js.length ≤ 1048576) :
    Calls Try.prog 98 #[.slice p js.length cap] w fun e w' => e = .returned (.bool (risesB js 0 3999)) ∧ Below w.heap.size w w' := by
  go_enter Try.func98, Try.ntmps98
  go_wp2_with (go_at_call 90; refine (spec_l00Rises _ _ _ _ _ _ hI hl).mono ?_; rintro e w1 ⟨rfl, hb⟩)
  go_ret
  exact ⟨rfl, hb⟩
theorem impl_validDrops (p : Option Addr) (js : List Int) (cap : Nat) (w : World) (hI : IntsAt w p js) (hl : js.length ≤ 1048576) :
    Calls Try.prog 69 #[.slice p js.length cap] w fun e w' => e = .returned (.bool (risesB js 0 3999)) ∧ Below w.heap.size w w' := by
  go_enter Try.func69, Try.ntmps69
  go_wp2_with (go_at_call 88; refine (impl_rises _ _ _ _ _ _ hI hl).mono ?_; rintro e w1 ⟨rfl, hb⟩)
  go_ret
  exact ⟨rfl, hb⟩
theorem spec_l04Drift (d : Int) (w : World) :
    Calls Try.prog 96 #[.int .i64 d] w fun e w' => e = .returned (.bool (inB d (-100) 100)) ∧ Below w.heap.size w w' := by
  go_enter Try.func96, Try.ntmps96
  go_wp2_with (go_at_call 42; refine (l00In_any _ _ _ _).mono ?_; rintro e w' ⟨rfl, rfl⟩)
  go_ret
  exact ⟨rfl, Below.refl _ _⟩
theorem impl_validDrift (d : Int) (w : World) :
    Calls Try.prog 92 #[.int .i64 d] w fun e w' => e = .returned (.bool (inB d (-100) 100)) ∧ Below w.heap.size w w' := by
  go_enter Try.func92, Try.ntmps92
  go_wp2_with (go_at_call 48; refine (within_any _ _ _ _).mono ?_; rintro e w' ⟨rfl, rfl⟩)
  go_ret
  exact ⟨rfl, Below.refl _ _⟩
end Go.Proofs.Ytfdcainjppljhaa
