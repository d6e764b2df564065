/- AddNoise at copies. -/
import Derived.Test.YtfdcainjppljhaaAddW
import Derived.Test.YtfdcainjppljhaaMkNW
namespace Go.Proofs.Ytfdcainjppljhaa
open Go.RowKit
set_option linter.unusedVariables false
theorem impl_AddNoiseC (c f : Int) (p : Option Addr) (l : List Int) (cap : Nat) (d : Int) (base g1 g2 g3 : Nat) (j e : List Int) (L L' : List Flx) (w : World) (hI : IntsAt w p l) (h : NzC w base g1 g2 g3 j e L L') (hsum : l.length + lensL L ≤ 1048576) (hj : j.length ≤ 1048576) (he : e.length ≤ 1048576) (hl : L.length ≤ 1048576) :
    Calls Try.prog 27 #[.agg #[.int .i64 c, .int .i64 f, .slice p l.length cap], .agg #[.int .i64 d, .slice (some ⟨g1, 0, none⟩) j.length j.length, .slice (some ⟨g2, 0, none⟩) e.length e.length, .slice (some ⟨g3, 0, none⟩) L.length L.length]] w fun e' w' => ∃ (q : Option Addr) (dq : Nat), e' = .returned (.tuple #[.agg #[.int .i64 (anS c f l d j e L).c, .int .i64 (anS c f l d j e L).f, .slice q (anS c f l d j e L).l.length dq], .int .i64 (anS c f l d j e L).e]) ∧ OwnS w' w.heap.size q (anS c f l d j e L).l ∧ Below w.heap.size w w' := by
  have hs := h.same
  have c0 := impl_AddNoise c f p l cap d (some ⟨g1, 0, none⟩) (some ⟨g2, 0, none⟩) (some ⟨g3, 0, none⟩) j e L' j.length e.length L.length w hI h.r1.ints h.r2.ints h.r3.spans (by rw [lensL_same hs]; exact hsum) hj he (by rw [h.len]; exact hl)
    (fun s hsm hp => by obtain ⟨i, hi, rfl⟩ := List.getElem_of_mem hsm; exact absurd hp (h.r3.some_ i hi))
  rw [anS_same hs, h.len] at c0
  exact c0
theorem spec_AddNoiseC (c f : Int) (p : Option Addr) (l : List Int) (cap : Nat) (d : Int) (base g1 g2 g3 : Nat) (j e : List Int) (L L' : List Flx) (w : World) (hI : IntsAt w p l) (h : NzC w base g1 g2 g3 j e L L') (hsum : l.length + lensL L ≤ 1048576) (hj : j.length ≤ 1048576) (he : e.length ≤ 1048576) (hl : L.length ≤ 1048576) :
    Calls Try.prog 35 #[.agg #[.int .i64 c, .int .i64 f, .slice p l.length cap], .agg #[.int .i64 d, .slice (some ⟨g1, 0, none⟩) j.length j.length, .slice (some ⟨g2, 0, none⟩) e.length e.length, .slice (some ⟨g3, 0, none⟩) L.length L.length]] w fun e' w' => ∃ (q : Option Addr) (dq : Nat), e' = .returned (.tuple #[.agg #[.int .i64 (anS c f l d j e L).c, .int .i64 (anS c f l d j e L).f, .slice q (anS c f l d j e L).l.length dq], .int .i64 (anS c f l d j e L).e]) ∧ OwnS w' w.heap.size q (anS c f l d j e L).l ∧ Below w.heap.size w w' := by
  have hs := h.same
  have c0 := spec_AddNoise c f p l cap d (some ⟨g1, 0, none⟩) (some ⟨g2, 0, none⟩) (some ⟨g3, 0, none⟩) j e L' j.length e.length L.length w hI h.r1.ints h.r2.ints h.r3.spans (by rw [lensL_same hs]; exact hsum) hj he (by rw [h.len]; exact hl)
    (fun s hsm hp => by obtain ⟨i, hi, rfl⟩ := List.getElem_of_mem hsm; exact absurd hp (h.r3.some_ i hi))
  rw [anS_same hs, h.len] at c0
  exact c0
end Go.Proofs.Ytfdcainjppljhaa
