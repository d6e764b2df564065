/- Places of ones in a string of cells: plain lemmas. -/
import Derived.Test.YtfdcainjppljhaaPlain
import Derived.Lib.Bytealg
namespace Go.Proofs.Ytfdcainjppljhaa
open Go.RowKit
set_option linter.unusedVariables false
theorem indexByte_is (c : UInt8) : ∀ l : List UInt8, (Lib.indexByte l c = -1 ∧ ∀ i, i < l.length → l.getD i 0 ≠ c) ∨ (∃ n : Nat, Lib.indexByte l c = (n : Int) ∧ n < l.length ∧ l.getD n 0 = c ∧ ∀ i, i < n → l.getD i 0 ≠ c)
  | [] => .inl ⟨rfl, fun i h => absurd h (Nat.not_lt_zero i)⟩
  | b :: l => by
    unfold Lib.indexByte
    cases h : (b == c)
    · have hbc : b ≠ c := by intro e; rw [e] at h; simp at h
      rcases indexByte_is c l with ⟨e, ha⟩ | ⟨n, e, hn, hc, ha⟩
      · rw [e]
        refine .inl ⟨rfl, fun i hi => ?_⟩
        cases i with
        | zero => simpa using hbc
        | succ i => simpa using ha i (by simpa using hi)
      · rw [e]
        refine .inr ⟨n + 1, ?_, by simp; omega, by simpa using hc, fun i hi => ?_⟩
        · have : ((n : Int) == -1) = false := by rw [beq_eq_false_iff_ne]; omega
          rw [if_neg (by simp), this]
          simp
        · cases i with
          | zero => simpa using hbc
          | succ i => simpa using ha i (by omega)
    · have hbc : b = c := by simpa using h
      exact .inr ⟨0, rfl, by simp, by simpa using hbc, fun i hi => absurd hi (Nat.not_lt_zero i)⟩
/-- The places of the ones below k. -/
def onesL (l : List UInt8) (k : Nat) : List Nat := (List.range k).filter fun i => l.getD i 0 == 49
theorem onesL_yes {l : List UInt8} {k : Nat} (h : l.getD k 0 = 49) : onesL l (k + 1) = onesL l k ++ [k] := by
  unfold onesL
  rw [List.range_succ, List.filter_append, List.filter_cons, if_pos (by rw [h]; rfl)]
  rfl
theorem onesL_no {l : List UInt8} {k : Nat} (h : l.getD k 0 ≠ 49) : onesL l (k + 1) = onesL l k := by
  unfold onesL
  rw [List.range_succ, List.filter_append, List.filter_cons, if_neg (by simpa using h)]
  simp
theorem onesL_skip {l : List UInt8} {a : Nat} : ∀ n : Nat, (∀ i, i < n → l.getD (a + i) 0 ≠ 49) → onesL l (a + n) = onesL l a
  | 0, _ => rfl
  | n + 1, h => by
    rw [show a + (n + 1) = a + n + 1 from rfl, onesL_no (h n (by omega)), onesL_skip n fun i hi => h i (by omega)]
theorem onesL_len (l : List UInt8) (k : Nat) : (onesL l k).length ≤ k := by
  unfold onesL
  have := List.length_filter_le (fun i => l.getD i 0 == 49) (List.range k)
  rw [List.length_range] at this
  exact this
/-- The differences of neighbours. -/
def gapL : List Nat → List Int
  | a :: b :: r => ((b : Int) - (a : Int)) :: gapL (b :: r)
  | _ => []
theorem gapL_snoc (x y : Nat) : ∀ p : List Nat, gapL (p ++ [x] ++ [y]) = gapL (p ++ [x]) ++ [(y : Int) - (x : Int)]
  | [] => rfl
  | [a] => rfl
  | a :: b :: p => by
    show _ :: gapL ((b :: p) ++ [x] ++ [y]) = _ :: gapL ((b :: p) ++ [x]) ++ _
    rw [gapL_snoc x y (b :: p)]
    rfl
theorem gapL_len : ∀ p : List Nat, (gapL p).length ≤ p.length
  | [] => by simp [gapL]
  | [a] => by simp [gapL]
  | a :: b :: r => by
    have := gapL_len (b :: r)
    simp only [gapL, List.length_cons] at this ⊢
    omega
theorem getD_at {s : ByteArray} {k : Nat} (h : k < s.size) : s.data.toList.getD k 0 = s[k]'h := by
  rw [List.getD_eq_getElem?_getD, List.getElem?_eq_getElem (by simpa using h)]; rfl
theorem getD_ext {s : ByteArray} {a i : Nat} (h : a + i < s.size) : (s.extract a s.size).data.toList.getD i 0 = s.data.toList.getD (a + i) 0 := by
  rw [getD_at h]
  have h2 : i < (s.extract a s.size).size := by rw [ByteArray.size_extract]; omega
  rw [getD_at h2]
  rw [ByteArray.getElem_extract]
theorem ofNat_49 {c : UInt8} (h : (c.toNat : Int) = 49) : c = 49 := by
  have : c.toNat = 49 := by omega
  exact UInt8.toNat_inj.1 this
theorem ofNat_not49 {c : UInt8} (h : (c.toNat : Int) ≠ 49) : c ≠ 49 := by
  rintro rfl; exact h rfl
end Go.Proofs.Ytfdcainjppljhaa
