/- Validity of flux. -/
import Derived.Test.YtmjmhdjfaamgkaaDoorFluxW
namespace Go.Proofs.YtmjmhdjfaamgkaaDoor
open Go.RowKit
theorem within_q (x lo hi : Int) (w : World) (n : Nat) :
    Calls Tryd.prog 14 #[.int .i64 x, .int .i64 lo, .int .i64 hi] (w.drewN n) fun e w'' => e = .returned (.bool (inB x lo hi)) ∧ ∃ m, w'' = w.drewN m :=
  (within_any x lo hi _).mono fun _ _ ⟨he, hw⟩ => ⟨he, n, hw.symm⟩
theorem l00In_q (x lo hi : Int) (w : World) (n : Nat) :
    Calls Tryd.prog 10 #[.int .i64 x, .int .i64 lo, .int .i64 hi] (w.drewN n) fun e w'' => e = .returned (.bool (inB x lo hi)) ∧ ∃ m, w'' = w.drewN m :=
  (l00In_any x lo hi _).mono fun _ _ ⟨he, hw⟩ => ⟨he, n, hw.symm⟩
end Go.Proofs.YtmjmhdjfaamgkaaDoor
