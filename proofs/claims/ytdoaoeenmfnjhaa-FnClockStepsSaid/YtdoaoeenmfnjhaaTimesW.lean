/- Rising lists; flux of times. -/
import Derived.Test.YtdoaoeenmfnjhaaValidW
import Derived.Test.YtdoaoeenmfnjhaaTwoOwn
import Derived.Test.YtdoaoeenmfnjhaaTimesP
import Derived.Deep.RegionLaw
import Derived.Deep.RegionHeld3
import Derived.Deep.DeepCutAuto
namespace Go.Proofs.Ytdoaoeenmfnjhaa
open Go.RowKit
theorem Blk.alloc' {w : World} {g : Nat} {t : TypeId} {cs : Array Value} (h : Blk w g t cs) (o : Obj) : Blk (w.alloc o) g t cs := h.keep ((Below.refl _ _).alloc (Nat.le_refl _) o)
theorem Blk.set32 {w : World} {g : Nat} {t : TypeId} {a b c : Value} (h : Blk w g t #[a, b, c]) (x : Value) : Blk (w.setCell ⟨g, 2, none⟩ x) g t #[a, b, x] := by
  have hB' : w.heap[g]? = some (.cells #[a, b, c] t (0, 0)) := h
  unfold Blk
  simp [World.setCell, Array.getElem?_modify, hB']
theorem Blk.set3 {w : World} {g : Nat} {t : TypeId} {a b c : Value} (h : Blk w g t #[a, b, c]) (x y z : Value) : Blk (((w.setCell ⟨g, 0, none⟩ x).setCell ⟨g, 1, none⟩ y).setCell ⟨g, 2, none⟩ z) g t #[x, y, z] := by
  have hB' : w.heap[g]? = some (.cells #[a, b, c] t (0, 0)) := h
  unfold Blk
  simp [World.setCell, Array.getElem?_modify, hB']
theorem Blk.off {w : World} {g g' : Nat} {t : TypeId} {cs : Array Value} (h : Blk w g t cs) (hne : g ≠ g') (o : Nat) (v : Value) : Blk (w.setCell ⟨g', o, none⟩ v) g t cs := h.asides (Aside.setCell g' o v) (fun e => hne (by injection e with e; exact e.symm))
theorem OwnI.off {w : World} {base g' : Nat} {v : Value} {l : List Int} (h : OwnI w base v l) (hb : g' < base) (o : Nat) (x : Value) : OwnI (w.setCell ⟨g', o, none⟩ x) base v l := h.asides (Aside.setCell g' o x) (fun g hg e => by have := (h.blk hg).1; injection e with e; omega)
end Go.Proofs.Ytdoaoeenmfnjhaa
