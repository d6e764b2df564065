/- What the changes of times have in common. Printed by opgen.py. -/
import Derived.Test.YtfdcainjppljhaaMake2W
import Derived.Test.YtfdcainjppljhaaRevW
namespace Go.Proofs.Ytfdcainjppljhaa
open Go.RowKit
/-- A result: flux of times if the arguments are valid. -/
def fxC (v : Bool) (t : List Int) (rev cell : Int) : Int := if v then tmC t rev cell else 0
def fxF (v : Bool) (t : List Int) (rev cell : Int) : Int := if v then tmF t rev cell else 0
def fxL (v : Bool) (t : List Int) (rev cell : Int) : List Int := if v then tmL t rev cell else []
def fxE (v : Bool) (t : List Int) (rev cell : Int) : Int := if v then tmE 2 t rev cell else 1
theorem fxL_len (v : Bool) (t : List Int) (rev cell : Int) : (fxL v t rev cell).length ≤ t.length := by
  unfold fxL
  split
  · exact tmL_len _ _ _
  · simp
theorem mix_at {T X : List Int} (h : T.length = X.length) {k : Nat} (hk : k < X.length) {h2 : k < (T.take k ++ X.drop k).length} : (T.take k ++ X.drop k)[k] = X[k] := by
  rw [List.getElem_append_right (by rw [List.length_take]; omega)]
  simp [show min k T.length = k by omega]
theorem mix_set {T X : List Int} (h : T.length = X.length) {k : Nat} (hk : k < X.length) : (T.take k ++ X.drop k).set k (T[k]'(by omega)) = T.take (k + 1) ++ X.drop (k + 1) := by
  rw [List.set_append_right _ _ (by rw [List.length_take]; omega), takeI_snoc (by omega : k < T.length), List.append_assoc]
  congr 1
  rw [show k - (T.take k).length = 0 by simp; omega, List.drop_eq_getElem_cons hk, List.set_cons_zero]
  rfl
theorem chg_bd {c f : Int} {l : List Int} (h : fluxOk c f l = true) (k : Nat) (hk : k < (chgL f l).length) : 0 ≤ (chgL f l)[k] ∧ (chgL f l)[k] ≤ 4000000 := by
  obtain ⟨-, -, -, h4, h5, -⟩ := fluxOk_bd h
  rw [chgL_at]
  have := h4 k
  omega
end Go.Proofs.Ytfdcainjppljhaa
