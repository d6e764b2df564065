/- ComW. Printed by conr3.py. -/
import Derived.Test.YtfdcainjppljhaaRevW
import Derived.Test.YtfdcainjppljhaaMarksW
import Derived.Test.YtfdcainjppljhaaBsW
import Derived.Deep.RegionHeld3
import Derived.Deep.DeepCutAuto
import Derived.BigRegion
namespace Go.Proofs.Ytfdcainjppljhaa
open Go.RowKit
set_option linter.unusedVariables false
/-- How many of the first k numbers of a list another has. -/
def comP (x y : List Int) (k : Nat) : Int := (((x.take k).filter fun a => decide (a ∈ y)).length : Nat)
theorem comP_yes {x y : List Int} {k : Nat} (hx : k < x.length) (h : decide (x[k] ∈ y) = true) : comP x y (k + 1) = comP x y k + 1 := by
  unfold comP
  rw [takeI_snoc hx, List.filter_append, List.filter_cons, if_pos h]
  simp
theorem comP_no {x y : List Int} {k : Nat} (hx : k < x.length) (h : decide (x[k] ∈ y) = false) : comP x y (k + 1) = comP x y k := by
  unfold comP
  rw [takeI_snoc hx, List.filter_append, List.filter_cons, if_neg (by rw [h]; decide)]
  simp
theorem comP_bd (x y : List Int) (k : Nat) : 0 ≤ comP x y k ∧ comP x y k ≤ k := by
  unfold comP
  have h1 := List.length_filter_le (fun a => decide (a ∈ y)) (x.take k)
  have h2 := List.length_take_le k x
  omega
def comV (ca fa : Int) (la : List Int) (cb fb : Int) (lb : List Int) : Int := if fluxOk ca fa la && fluxOk cb fb lb then comP (chgL fa la) (chgL fb lb) la.length else 0
theorem chg_rises {c f : Int} {l : List Int} (h : fluxOk c f l = true) : (chgL f l).Pairwise (· < ·) := by
  obtain ⟨-, -, hm, -⟩ := fluxOk_bd h
  rw [List.pairwise_iff_getElem]
  intro i j hi hj hij
  have hl := chgL_len f l
  rw [chgL_at, chgL_at]
  have key : ∀ d, i + d + 1 ≤ l.length → (l.take i).sum < (l.take (i + d + 1)).sum := by
    intro d
    induction d with
    | zero =>
      intro hd
      have h1 := takeI_snoc (l := l) (k := i) (by omega)
      have h2 := hm l[i] (List.getElem_mem _)
      rw [Nat.add_zero, h1, List.sum_append]
      simp
      omega
    | succ d ih =>
      intro hd
      have h1 := takeI_snoc (l := l) (k := i + d + 1) (by omega)
      have h2 := hm l[i + d + 1] (List.getElem_mem _)
      have h3 := ih (by omega)
      rw [show i + (d + 1) + 1 = i + d + 1 + 1 by omega, h1, List.sum_append]
      simp
      omega
  have := key (j - i - 1) (by omega)
  rw [show i + (j - i - 1) + 1 = j by omega] at this
  omega
theorem rises_le {l : List Int} (h : l.Pairwise (· < ·)) : l.Pairwise (· ≤ ·) := h.imp fun h => by omega
end Go.Proofs.Ytfdcainjppljhaa
