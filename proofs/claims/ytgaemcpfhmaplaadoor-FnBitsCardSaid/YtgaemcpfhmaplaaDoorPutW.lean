/- PutWord. -/
import Derived.Test.YtgaemcpfhmaplaaDoorWithin
import Derived.Test.YtgaemcpfhmaplaaDoorIn
import Derived.Test.YtgaemcpfhmaplaaDoorMem
namespace Go.Proofs.YtgaemcpfhmaplaaDoor
open Go.RowKit
/-- A number as two bytes. -/
def wordS (n : Nat) : ByteArray := ⟨#[b8 ((n : Int) / 256), b8 ((n : Int) % 256)]⟩
set_option maxHeartbeats 400000 in
theorem impl_PutWord_no (n : Int) (w : World) (h : n < 0 ∨ 65535 < n) :
    Calls Tryd.prog 16 #[.int .i64 n] w fun e w' => e = .returned (.string ByteArray.empty) ∧ Below w.heap.size w w' := by
  have H := Lib.hid (inB_no h)
  clear h
  go_enter Tryd.func16, Tryd.ntmps16
  go_wp2_with (go_at_call 30; refine (within_any _ _ _ _).mono ?_; rintro e w' ⟨rfl, rfl⟩; rw [H.out])
  go_ret
  exact ⟨rfl, Below.refl _ _⟩
set_option maxHeartbeats 400000 in
theorem impl_PutWord_yes (n : Nat) (w : World) (h : n < 65536) :
    Calls Tryd.prog 16 #[.int .i64 n] w fun e w' => e = .returned (.string (wordS n)) ∧ Below w.heap.size w w' := by
  have H := Lib.hid (inB_yes (x := (n : Int)) (lo := 0) (hi := 65535) (by omega))
  have h1 : (n : Int) < 65536 := by omega
  have hcv := fun w => conv_two w ((n : Int) / 256) ((n : Int) % 256) (by omega) (by omega)
  go_enter Tryd.func16, Tryd.ntmps16
  go_wp2_with (go_at_call 30; refine (within_any _ _ _ _).mono ?_; rintro e w' ⟨rfl, rfl⟩; rw [H.out])
  go_ret
  exact ⟨rfl, (Below.refl _ _).alloc (Nat.le_refl _) _⟩
end Go.Proofs.YtgaemcpfhmaplaaDoor
