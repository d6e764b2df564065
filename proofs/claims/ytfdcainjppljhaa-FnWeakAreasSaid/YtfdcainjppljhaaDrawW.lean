/- Draws of strings; the laws' own helpers. -/
import Derived.Test.YtfdcainjppljhaaSrcW
namespace Go.Proofs.Ytfdcainjppljhaa
open Go.RowKit
def BytesAt (w : World) (p : Option Addr) (l : List UInt8) : Prop := l ≠ [] → ∃ a, p = some a ∧ a.block < w.heap.size ∧ ∀ i (h : i < l.length), w.cell? (a.add i) = some (.int .u8 (l[i].toNat : Int))
theorem BytesAt.below {w w' : World} {p : Option Addr} {l : List UInt8} (h : BytesAt w p l) (hb : Below w.heap.size w w') : BytesAt w' p l := by
  intro hne
  obtain ⟨a, ha, hlt, hc⟩ := h hne
  refine ⟨a, ha, Nat.lt_of_lt_of_le hlt hb.size, fun i hi => ?_⟩
  rw [hb.cell (p := a.add i) (by rw [Go.ChangeShapes.block_add]; exact hlt)]
  exact hc i hi
theorem BytesAt.at_ {w : World} {p : Option Addr} {l : List UInt8} (h : BytesAt w p l) {k : Nat} (hk : k < l.length) : ∃ a, p = some a ∧ w.cell? (a.add k) = some (.int .u8 (l[k].toNat : Int)) := by
  obtain ⟨a, ha, _, hc⟩ := h (by intro e; rw [e] at hk; exact absurd hk (Nat.not_lt_zero k))
  exact ⟨a, ha, hc k hk⟩
theorem lit_ints (w : World) (l : List Int) : IntsAt (w.alloc (.cells (l.map (Value.int .i64)).toArray 2)) (some ⟨w.heap.size, 0, none⟩) l := by
  have B := Blk.new w 2 (l.map (Value.int .i64)).toArray
  intro _
  refine ⟨_, rfl, B.lt, fun i hi => ?_⟩
  rw [Addr.add_lit, Nat.zero_add, B.cell i]
  simp [hi]
/-- The length of a string in a slot. -/
def strLen : Value → Int | .string s => s.size | _ => 0
theorem u8w_bd (x : Int) : 0 ≤ IntKind.u8.wrap x ∧ IntKind.u8.wrap x < 256 := by
  simp [IntKind.wrap, IntKind.bits, IntKind.signed]
  omega
set_option maxHeartbeats 1000000 in
theorem spec_l00From (p : Option Addr) (l : List UInt8) (cap : Nat) (w : World) (hI : BytesAt w p l) (hl : l.length ≤ 1048576) :
    Calls Try.prog 56 #[.slice p l.length cap] w fun e w' => e = .returned (.pointer (some ⟨w.heap.size, 0, none⟩)) ∧ Src w' w.heap.size 0 ∧ Below w.heap.size w w' := by
  go_enter Try.func56, Try.ntmps56
  go_wp2
  go_ret
  refine ⟨rfl, ⟨p, l, cap, 0, 0, Blk.new _ _ _, by omega, by omega, hl, fun hne => ?_⟩, (Below.refl _ _).alloc (Nat.le_refl _) _⟩
  obtain ⟨a, ha, hlt, hc⟩ := hI hne
  refine ⟨a, ha, hlt, fun i hi => ?_⟩
  rw [((Below.refl _ _).alloc (Nat.le_refl _) _).cell (p := a.add i) (by rw [Go.ChangeShapes.block_add]; exact hlt)]
  exact hc i hi
end Go.Proofs.Ytfdcainjppljhaa
