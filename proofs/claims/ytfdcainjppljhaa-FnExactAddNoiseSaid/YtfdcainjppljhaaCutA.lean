/- A variable that a region lays while it calls: what is known behind it. -/
import Derived.Test.YtfdcainjppljhaaMakeW
import Derived.Test.YtfdcainjppljhaaMarksW
namespace Go.Proofs.Ytfdcainjppljhaa
open Go.RowKit
set_option linter.unusedVariables false
theorem Blk_drewA {w : World} {g : Nat} {t : TypeId} {cs : Array Value} (h : Blk w g t cs) : Blk w.drew g t cs := h
theorem cutA {W Y : World} {ga base H : Nat} {ty : TypeId} {c f v c0 f0 v0 : Value} {q : Option Addr} {R : List Int} (hA : Blk Y ga ty #[c0, f0, v0]) (hS : OwnS Y base q R) (hlt : ga < base) (hH : H ≤ ga) (hb : Below H W Y) :
    H ≤ ga ∧ Blk (((Y.setCell ⟨ga, 0, none⟩ c).setCell ⟨ga, 1, none⟩ f).setCell ⟨ga, 2, none⟩ v) ga ty #[c, f, v] ∧ OwnS (((Y.setCell ⟨ga, 0, none⟩ c).setCell ⟨ga, 1, none⟩ f).setCell ⟨ga, 2, none⟩ v) H q R ∧ Below H W (((Y.setCell ⟨ga, 0, none⟩ c).setCell ⟨ga, 1, none⟩ f).setCell ⟨ga, 2, none⟩ v) :=
  ⟨hH, hA.set3 _ _ _, (((hS.offS hlt 0 c).offS hlt 1 f).offS hlt 2 v).mono (by omega), ((hb.setCell (p := ⟨ga, 0, none⟩) hH _).setCell (p := ⟨ga, 1, none⟩) hH _).setCell (p := ⟨ga, 2, none⟩) hH _⟩
theorem cutB {W Y : World} {base H : Nat} {ty : TypeId} {c f v : Value} {q : Option Addr} {R : List Int} (hS : OwnS Y base q R) (hH : H ≤ base) (hY : H ≤ Y.heap.size) (hb : Below H W Y) :
    H ≤ Y.heap.size ∧ Blk (Y.alloc (.cells #[c, f, v] ty)) Y.heap.size ty #[c, f, v] ∧ OwnS (Y.alloc (.cells #[c, f, v] ty)) H q R ∧ Below H W (Y.alloc (.cells #[c, f, v] ty)) :=
  ⟨hY, Blk.new _ _ _, (hS.below ((Below.refl _ _).alloc (Nat.le_refl _) _)).mono hH, hb.alloc hY _⟩
end Go.Proofs.Ytfdcainjppljhaa
