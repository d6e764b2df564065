/- Times that become flux: timedFlux, l04Make and their callers. Printed by makegen.py. -/
import Derived.Test.YtdoaoeenmfnjhaaTimesW
import Derived.Test.YtdoaoeenmfnjhaaTimes2W
import Derived.Test.YtdoaoeenmfnjhaaMakeP
namespace Go.Proofs.Ytdoaoeenmfnjhaa
open Go.RowKit
set_option linter.unusedVariables false

theorem Blk.drew {w : World} {g : Nat} {t : TypeId} {cs : Array Value} (h : Blk w g t cs) : Blk w.drew g t cs := h
theorem OwnS.offS {w : World} {base g' : Nat} {p : Option Addr} {l : List Int} (h : OwnS w base p l) (hb : g' < base) (o : Nat) (x : Value) : OwnS (w.setCell ⟨g', o, none⟩ x) base p l := h.asides (Aside.setCell g' o x) (fun hl g hp e => by have := (h.lt hl hp).1; injection e with e; omega)

end Go.Proofs.Ytdoaoeenmfnjhaa
