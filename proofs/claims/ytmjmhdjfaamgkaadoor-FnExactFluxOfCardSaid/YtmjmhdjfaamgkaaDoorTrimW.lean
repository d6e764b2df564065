/- strings.Trim at the cutset of two ASCII bytes; isBits, isCellString, ValidCells, l02Cells. -/
import Derived.Test.YtmjmhdjfaamgkaaDoorShelf
import Derived.Test.YtmjmhdjfaamgkaaDoorBase
import Derived.Shelf.Strings.SlTrimAscii
import Derived.Deep.RegionHeld3
namespace Go.Proofs.YtmjmhdjfaamgkaaDoor
open Go.RowKit
set_option linter.unusedVariables false
/-- All bytes are '0' or '1'. -/
def bitB (b : UInt8) : Bool := b == 48 || b == 49
def bitsAll (l : List UInt8) : Bool := l.all bitB
theorem dropWhile_nil {α : Type} (p : α → Bool) : ∀ l : List α, (l.dropWhile p = []) ↔ l.all p = true
  | [] => by simp
  | a :: l => by
    cases h : p a
    · simp [List.dropWhile, h]
    · simp [List.dropWhile, h, dropWhile_nil p l]
theorem contains01 (b : UInt8) : List.contains [48, 49] b = bitB b := by
  unfold bitB
  simp [List.contains, List.elem]
  cases h1 : (b == 48) <;> cases h2 : (b == 49) <;> rfl
theorem trim_nil (l : List UInt8) : Lib.trimS l [48, 49] = [] ↔ bitsAll l = true := by
  have hc : (fun b => List.contains [48, 49] b) = bitB := funext contains01
  unfold Lib.trimS Lib.trimLeftS Lib.trimRightS bitsAll
  rw [hc, dropWhile_nil, List.all_reverse]
  constructor
  · intro h
    have h1 : l.reverse.dropWhile bitB = [] := by
      cases e : l.reverse.dropWhile bitB with
      | nil => rfl
      | cons a r =>
        rw [e] at h
        have h2 := List.head?_dropWhile_not bitB l.reverse
        rw [e] at h2
        simp at h2
        simp [h2] at h
    rw [dropWhile_nil] at h1
    simpa using h1
  · intro h
    have h1 : l.reverse.dropWhile bitB = [] := (dropWhile_nil bitB _).2 (by simpa using h)
    rw [h1]
    rfl
theorem strings_Trim01 (s : ByteArray) (w : World) (hs : s.size ≤ 9223372036854775807) :
    Calls Tryd.prog 22 #[.string s, .string ⟨#[48, 49]⟩] w fun e w' => e = .returned (.string ⟨(Lib.trimS s.data.toList [48, 49]).toArray⟩) ∧ Below w.heap.size w w' :=
  Any.strings_Trim_laid Tryd.lays160 (by kernel_rfl) s ⟨#[48, 49]⟩ w hs (by decide) (ascii_of_all (by decide))
end Go.Proofs.YtmjmhdjfaamgkaaDoor
