/- Recovered cells, plain. -/
import Derived.Test.YtmjmhdjfaamgkaaClkErrW
namespace Go.Proofs.Ytmjmhdjfaamgkaa
open Go.RowKit
set_option linter.unusedVariables false
def zerosL (n : Int) : List UInt8 := List.replicate n.toNat 48
theorem zerosL_len (n : Int) : (zerosL n).length = n.toNat := by simp [zerosL]
theorem zerosL_succ {n : Int} (h : 0 < n) : zerosL (n - 1) ++ [48] = zerosL n := by
  unfold zerosL
  have : n.toNat = (n - 1).toNat + 1 := by omega
  rw [this, List.replicate_succ']
theorem zerosL_cons {n : Int} (h : 0 < n) : [48] ++ zerosL (n - 1) = zerosL n := by
  unfold zerosL
  have : n.toNat = (n - 1).toNat + 1 := by omega
  rw [this, List.replicate_succ]; rfl
theorem zerosL_no {n : Int} (h : n ≤ 0) : zerosL n = [] := by
  unfold zerosL
  rw [show n.toNat = 0 by omega]; rfl
/-- The cells of the first k counts behind the first change. -/
def rcP (a : Int) (ns : List Int) (k : Nat) : List UInt8 := zerosL a ++ [49] ++ (ns.take k).flatMap fun n => zerosL (n - 1) ++ [49]
theorem rcP_zero (a : Int) (ns : List Int) : rcP a ns 0 = zerosL a ++ [49] := by simp [rcP]
theorem rcP_succ (a : Int) {ns : List Int} {k : Nat} (h : k < ns.length) : rcP a ns (k + 1) = rcP a ns k ++ zerosL (ns[k] - 1) ++ [49] := by
  unfold rcP
  rw [takeI_snoc h, List.flatMap_append, List.flatMap_cons, List.flatMap_nil, List.append_nil]
  simp only [List.append_assoc]
def lastI (ns : List Int) : Int := ns.getLastD 0
def rcAll (a : Int) (ns : List Int) : List UInt8 := rcP a ns (ns.length - 1) ++ zerosL (lastI ns - 1 - a)
def rcSum (a : Int) (ns : List Int) : Int := a + 1 + (ns.take (ns.length - 1)).sum + max (lastI ns - 1 - a) 0
theorem rcP_len {a : Int} (ha : 0 ≤ a) {ns : List Int} (h : ∀ n ∈ ns, 1 ≤ n ∧ n ≤ 100) : ∀ k, k ≤ ns.length → ((rcP a ns k).length : Int) = a + 1 + (ns.take k).sum
  | 0, _ => by
    rw [rcP_zero, List.length_append, zerosL_len]
    simp
    omega
  | k + 1, hk => by
    have h1 := h _ (List.getElem_mem (by omega : k < ns.length))
    rw [rcP_succ a (by omega), List.length_append, List.length_append, zerosL_len, sumI_take (by omega)]
    have := rcP_len ha h k (by omega)
    simp only [List.length_cons, List.length_nil]
    omega
theorem take_sum_bd {ns : List Int} (h : ∀ n ∈ ns, 1 ≤ n ∧ n ≤ 100) (k : Nat) : 0 ≤ (ns.take k).sum ∧ (ns.take k).sum ≤ 100 * ns.length := by
  have h1 := sumI_bd (l := ns.take k) (lo := 0) (hi := 100) (fun x hx => by have := h x (List.mem_of_mem_take hx); omega)
  have h2 : (ns.take k).length ≤ ns.length := by rw [List.length_take]; omega
  omega
theorem take_sum_le {ns : List Int} (h : ∀ n ∈ ns, 1 ≤ n ∧ n ≤ 100) {j k : Nat} (hjk : j ≤ k) : (ns.take j).sum ≤ (ns.take k).sum := by
  obtain ⟨d, rfl⟩ : ∃ d, k = j + d := ⟨k - j, by omega⟩
  rw [List.take_add, List.sum_append]
  have h1 := sumI_bd (l := (ns.drop j).take d) (lo := 0) (hi := 100) (fun x hx => by have := h x (List.mem_of_mem_drop (List.mem_of_mem_take hx)); omega)
  omega
def rcOk (c : Clk) (cf f : Int) (l : List Int) : Bool := fluxOk cf f l && c.valid
def rcFit (c : Clk) (f : Int) (l : List Int) : Bool := decide (rcSum (f / c.cell) (runN c (c.cell * 64) (off0 c f) l) ≤ 8000)
def rcE (c : Clk) (cf f : Int) (l : List Int) : Int := if rcOk c cf f l then (if runOk c f l then (if rcFit c f l then 0 else 5) else 10) else 1
def rcS (c : Clk) (cf f : Int) (l : List Int) : ByteArray := if rcOk c cf f l && (runOk c f l && rcFit c f l) then ⟨(rcAll (f / c.cell) (runN c (c.cell * 64) (off0 c f) l)).toArray⟩ else ByteArray.empty
end Go.Proofs.Ytmjmhdjfaamgkaa
