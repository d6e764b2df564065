/- When times become flux: the two ways of testing agree, plain. -/
import Derived.Test.YtfdcainjppljhaaTimesP
namespace Go.Proofs.Ytfdcainjppljhaa
theorem diffW_sum : ∀ (t : List Int), t ≠ [] → (∀ x ∈ t, 0 ≤ x ∧ x ≤ 9223372036854775807) → (diffW t).sum = t.getLastD 0 - t.headD 0
  | [], h, _ => absurd rfl h
  | [a], _, _ => by simp [diffW]
  | a :: b :: l, _, hb => by
    have ha := hb a (by simp)
    have hbb := hb b (by simp)
    have ih := diffW_sum (b :: l) (by simp) (fun x hx => hb x (by simp [hx]))
    have hw : IntKind.i64.wrap (b - a) = b - a := IntWalk.i64_in _ (by omega)
    simp only [diffW, List.sum_cons, hw, ih]
    simp only [List.headD_cons, List.getLastD_cons]
    cases l <;> simp <;> omega
theorem getLastD_mem' {l : List Int} (h : l ≠ []) : l.getLastD 0 ∈ l := lastD_mem (by cases l with | nil => exact absurd rfl h | cons a l => simp)
theorem headD_mem {l : List Int} (h : l ≠ []) : l.headD 0 ∈ l := by
  cases l with
  | nil => exact absurd rfl h
  | cons a l => simp
theorem risesB_mem {l : List Int} {lo hi : Int} (h : risesB l lo hi = true) : ∀ x ∈ l, lo ≤ x ∧ x ≤ hi := by
  unfold risesB at h
  rw [Bool.and_eq_true] at h
  intro x hx
  exact inB_iff.1 (List.all_eq_true.1 h.1 x hx)
theorem make_ok {t : List Int} {rev cell : Int} (ht : t ≠ []) (hr : -9223372036854775808 ≤ rev ∧ rev ≤ 9223372036854775807) :
    (risesB t 0 (IntKind.i64.wrap (rev - 1)) && (decide (rev ≤ 2000000) && fluxOk cell (t.headD 0) (gapsT t rev))) = timesOk t rev cell := by
  by_cases h1 : inB rev 1 2000000 = true
  · have h2 := inB_iff.1 h1
    have hw : IntKind.i64.wrap (rev - 1) = rev - 1 := IntWalk.i64_in _ (by omega)
    unfold timesOk
    rw [h1, hw, decide_eq_true h2.2]
    simp
  · have h2 : timesOk t rev cell = false := by unfold timesOk; simp only [Bool.not_eq_true] at h1; rw [h1]; rfl
    rw [h2]
    by_cases h3 : rev ≤ 2000000
    · have h4 : rev ≤ 0 := by
        rcases Int.lt_or_le 0 rev with h | h
        · exact absurd (inB_yes ⟨by omega, h3⟩) h1
        · exact h
      cases h5 : risesB t 0 (IntKind.i64.wrap (rev - 1))
      · rfl
      · have hm := risesB_mem h5
        have hh := hm _ (headD_mem ht)
        have hl := hm _ (getLastD_mem' ht)
        have hmin : rev = -9223372036854775808 := by
          rcases Int.lt_or_le (-9223372036854775808) rev with h | h
          · rw [show IntKind.i64.wrap (rev - 1) = rev - 1 from IntWalk.i64_in _ (by omega)] at hh
            omega
          · omega
        subst hmin
        cases h6 : fluxOk cell (t.headD 0) (gapsT t (-9223372036854775808))
        · simp
        · exfalso
          obtain ⟨-, -, hg, -, -, hs⟩ := fluxOk_bd h6
          rw [show IntKind.i64.wrap (-9223372036854775808 - 1) = 9223372036854775807 by decide] at hm hh hl
          have hsum := diffW_sum t ht hm
          have hlast := hg (IntKind.i64.wrap (IntKind.i64.wrap (-9223372036854775808 - t.getLastD 0) + t.headD 0)) (by simp [gapsT])
          have hd : 0 ≤ (diffW t).sum := by
            have := sumI_bd (l := diffW t) (lo := 0) (hi := 2000000) (fun x hx => by have := hg x (by simp [gapsT, hx]); omega)
            omega
          have hs2 : (gapsT t (-9223372036854775808)).sum = (diffW t).sum + IntKind.i64.wrap (IntKind.i64.wrap (-9223372036854775808 - t.getLastD 0) + t.headD 0) := by simp [gapsT]
          rw [hs2] at hs
          generalize t.getLastD 0 = u at *
          generalize t.headD 0 = v at *
          simp only [IntKind.wrap_i64] at hlast hs
          omega
    · rw [decide_eq_false h3]
      simp
end Go.Proofs.Ytfdcainjppljhaa
