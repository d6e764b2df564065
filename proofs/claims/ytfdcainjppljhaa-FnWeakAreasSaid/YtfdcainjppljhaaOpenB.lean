/- Arguments opened: slices of bytes. -/
import Derived.Test.YtfdcainjppljhaaOpen
import Derived.Test.YtfdcainjppljhaaDrawW
import Derived.ChangeSlices
namespace Go.Proofs.Ytfdcainjppljhaa
open Go.Deep Go.RowKit Go.Joins Go.ChangeShapes Go.WideShapes
/-- A slice of bytes: its data pointer, bytes, capacity. -/
structure Byt where
  p : Option Addr
  l : List UInt8
  cap : Nat
def Byt.val (x : Byt) : Value := .slice x.p x.l.length x.cap
def Byt.ok (x : Byt) (w : World) : Prop := BytesAt w x.p x.l ∧ x.l.length ≤ maxLen
section
variable {H : Type} {enc : TypeId × Value → H} {P : Program} {w : World} {base : Nat} {spare : Nat → Bool} {held : Bool}
theorem wf_u8 {n : Int} (h : (Lit.int .u8 n).wf = true) : 0 ≤ n ∧ n < 256 := by
  have h1 : IntKind.u8.min = 0 := rfl
  have h2 : IntKind.u8.max = 255 := rfl
  simp [Lit.wf] at h
  omega
theorem open_bytes {t e : TypeId} {r : Reach} {b0 : Nat} {v : Value} {d : DataW H} {p : List MemPlace} (ht : P.underlying t = some (.slice e)) (he : P.underlying e = some (.int .u8)) (hc : P.cellsOf e = 1)
    (hv : Value.okWide P w r b0 t v) (h : DataW.Trod enc P w base spare held t v d p) : ∃ x : Byt, v = x.val ∧ x.ok w := by
  obtain ⟨a0, len0, cap0, rfl⟩ := okWide_slice ht hv
  obtain ⟨fuel, hf⟩ := h
  rcases open_ints (cs := [.slice a0 len0 cap0]) ht he hc (by simpa [Value.cells] using hf) with ⟨hv, -⟩ | ⟨a, len, cap, zs, hv, -, hl, hm, hz, -, hcell, hwf⟩
  · simp at hv
    exact ⟨⟨none, [], 0⟩, by obtain ⟨rfl, rfl, rfl⟩ := hv; rfl, fun h => absurd rfl h, Nat.zero_le _⟩
  · simp at hv
    obtain ⟨rfl, rfl, rfl⟩ := hv
    have hlen : len0 ≤ zs.length := by rw [hz]; split <;> omega
    refine ⟨⟨some a, (zs.take len0).map b8, cap0⟩, ?_, ?_, ?_⟩
    · simp [Byt.val]; omega
    · intro hne
      have h0 : 0 < len0 := by
        rcases Nat.eq_zero_or_pos len0 with e | e
        · subst e; simp at hne
        · exact e
      refine ⟨a, rfl, ?_, fun i hi => ?_⟩
      · have := World.block_lt_of_cell? w _ (hcell 0 (by omega))
        rw [block_add] at this
        exact this
      · have hi' : i < len0 := by simp at hi; omega
        have hiz : i < zs.length := by omega
        have hw := wf_u8 (hwf _ (List.getElem_mem hiz))
        rw [hcell i hiz]
        simp [List.getD, hiz, b8_val hw.1 hw.2]
    · simp; omega
end
end Go.Proofs.Ytfdcainjppljhaa
