/- RecoverCells: the specification's contract. Printed by recw.py. -/
import Derived.Test.YtmjmhdjfaamgkaaRecSW
import Derived.Deep.QuietTactic
namespace Go.Proofs.Ytmjmhdjfaamgkaa
open Go.RowKit
set_option linter.unusedVariables false
set_option maxHeartbeats 2000000 in
set_option maxRecDepth 20000 in
theorem spec_RecoverCells (c : Clk) (cf f : Int) (p : Option Addr) (l : List Int) (cap : Nat) (w : World) (hI : IntsAt w p l) (hl : l.length ≤ 1048576) :
    Calls Try.prog 44 #[.agg #[.int .i64 cf, .int .i64 f, .slice p l.length cap], c.val] w fun e w' => e = .returned (.tuple #[.string (rcS c cf f l), .int .i64 (rcE c cf f l)]) ∧ Below w.heap.size w w' := by
  have hrec := fun g w' hI' h1 h2 hB => spec_l03Recover c cf f p l cap g w' hI' h1 h2 hB
  have hE : fluxOk cf f l = false ∨ c.valid = false → rcS c cf f l = ByteArray.empty ∧ rcE c cf f l = 1 := by
    intro h
    have h0 : rcOk c cf f l = false := by unfold rcOk; rcases h with h | h <;> rw [h] <;> simp
    unfold rcS rcE
    rw [h0]
    exact ⟨rfl, rfl⟩
  generalize rcS c cf f l = RS at *
  generalize rcE c cf f l = RE at *
  obtain ⟨ca, cb, ch, cp, cs⟩ := c
  simp only [Clk.val] at *
  have BF := (Blk.new w 24 #[.int .i64 cf, .int .i64 f, .slice p l.length cap]).keep ((Below.refl _ (w.alloc (.cells #[.int .i64 cf, .int .i64 f, .slice p l.length cap] 24))).alloc (Nat.le_refl _) (.cells #[.int .i64 ca, .int .i64 cb, .int .i64 ch, .int .i64 cp, .int .i64 cs] 67))
  have BC := Blk.new (w.alloc (.cells #[.int .i64 cf, .int .i64 f, .slice p l.length cap] 24)) 67 #[.int .i64 ca, .int .i64 cb, .int .i64 ch, .int .i64 cp, .int .i64 cs]
  have e1 : (w.alloc (.cells #[.int .i64 cf, .int .i64 f, .slice p l.length cap] 24)).heap.size = w.heap.size + 1 := by simp
  rw [e1] at BC
  have W0 : Below w.heap.size w ((w.alloc (.cells #[.int .i64 cf, .int .i64 f, .slice p l.length cap] 24)).alloc (.cells #[.int .i64 ca, .int .i64 cb, .int .i64 ch, .int .i64 cp, .int .i64 cs] 67)) := ((Below.refl _ _).alloc (Nat.le_refl _) _).alloc (by simp) _
  clear e1
  go_enter Try.func44, Try.ntmps44
  go_wp2_with fail
  generalize (w.alloc (.cells #[.int .i64 cf, .int .i64 f, .slice p l.length cap] 24)).alloc (.cells #[.int .i64 ca, .int .i64 cb, .int .i64 ch, .int .i64 cp, .int .i64 cs] 67) = w0 at BF BC W0 ⊢
  refine (spec_l02Ok cf f p l cap _ _ (hI.below W0) hl BF).mono ?_
  rintro e w1 ⟨rfl, hb1⟩
  replace BF := BF.keep hb1
  replace BC := BC.keep hb1
  replace W0 := below_st W0 hb1 (Nat.le_refl _)
  clear hb1
  obtain ⟨f0, f1, f2⟩ := BF.cell3
  obtain ⟨c0, c1, c2, c3, c4⟩ := BC.cell5
  have flt := BF.lt
  have clt := BC.lt
  obtain hok | hok := (Bool.eq_false_or_eq_true (fluxOk cf f l)).symm
  · obtain ⟨h1, h2⟩ := hE (Or.inl hok)
    rw [hok]
    go_wp2_with fail
    go_ret2
    exact ⟨ret_str_int (by rw [h1]; rfl) (by rw [h2]), W0⟩
  rw [hok]
  go_wp2_with fail
  refine (spec_l03Ok _ _ _ _ _ _).mono ?_
  rintro e w2 ⟨rfl, hb2⟩
  replace BF := BF.keep hb2
  replace BC := BC.keep hb2
  replace W0 := below_st W0 hb2 (Nat.le_refl _)
  clear hb2 f0 f1 f2 c0 c1 c2 c3 c4 flt clt
  obtain ⟨f0, f1, f2⟩ := BF.cell3
  obtain ⟨c0, c1, c2, c3, c4⟩ := BC.cell5
  have flt := BF.lt
  have clt := BC.lt
  obtain hv | hv := (Bool.eq_false_or_eq_true (Clk.valid ⟨ca, cb, ch, cp, cs⟩)).symm
  · obtain ⟨h1, h2⟩ := hE (Or.inr hv)
    rw [hv]
    go_wp2_with fail
    go_ret2
    exact ⟨ret_str_int (by rw [h1]; rfl) (by rw [h2]), W0⟩
  rw [hv]
  go_wp2_with fail
  refine (hrec _ _ (hI.below W0) hok hv BF).mono ?_
  rintro e w3 ⟨rfl, hb3⟩
  replace W0 := below_st W0 hb3 (Nat.le_refl _)
  go_wp2_with fail
  go_ret2
  exact ⟨rfl, W0⟩
end Go.Proofs.Ytmjmhdjfaamgkaa
