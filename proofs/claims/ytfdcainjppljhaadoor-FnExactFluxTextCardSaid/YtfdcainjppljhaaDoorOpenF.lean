/- Arguments opened: slices of int64, flux. -/
import Derived.Test.YtfdcainjppljhaaDoorOpen
import Derived.Test.YtfdcainjppljhaaDoorInts
import Derived.ChangeSlices
namespace Go.Proofs.YtfdcainjppljhaaDoor
open Go.Deep Go.RowKit Go.Joins Go.ChangeShapes Go.WideShapes
/-- A slice of int64: its data pointer, numbers, capacity. -/
structure Num where
  p : Option Addr
  l : List Int
  cap : Nat
def Num.val (x : Num) : Value := .slice x.p x.l.length x.cap
def Num.ok (x : Num) (w : World) : Prop := IntsAt w x.p x.l ∧ x.l.length ≤ maxLen ∧ ∀ n ∈ x.l, (Lit.int .i64 n).wf = true
/-- Flux: its cell, its first change, its gaps. -/
structure Flx where
  cell : Int
  first : Int
  g : Num
def Flx.val (x : Flx) : Value := .agg #[.int .i64 x.cell, .int .i64 x.first, x.g.val]
def Flx.ok (x : Flx) (w : World) : Prop := ((Lit.int .i64 x.cell).wf = true ∧ (Lit.int .i64 x.first).wf = true) ∧ x.g.ok w
section
variable {H : Type} {enc : TypeId × Value → H} {P : Program} {w : World} {base : Nat} {spare : Nat → Bool} {held : Bool}
theorem field_nums {t e : TypeId} {n : Nat} {v : Value} {y : DataW H × List MemPlace} (ht : P.underlying t = some (.slice e)) (he : P.underlying e = some (.int .i64)) (hc : P.cellsOf e = 1)
    (h : DataW.trod enc P w base spare held n t [v] = some y) : ∃ x : Num, v = x.val ∧ x.ok w := by
  rcases open_ints ht he hc h with ⟨hv, -⟩ | ⟨a, len, cap, zs, hv, -, hl, hm, hz, -, hcell, hwf⟩
  · simp at hv
    exact ⟨⟨none, [], 0⟩, by rw [hv]; rfl, IntsAt.nil _ _, Nat.zero_le _, by simp⟩
  · simp at hv
    have hlen : len ≤ zs.length := by rw [hz]; split <;> omega
    refine ⟨⟨some a, zs.take len, cap⟩, ?_, ?_, ?_, fun n hn => hwf n (List.mem_of_mem_take hn)⟩
    · rw [hv]; simp [Num.val]; omega
    · intro hne
      have h0 : 0 < len := by
        rcases Nat.eq_zero_or_pos len with e | e
        · subst e; simp at hne
        · exact e
      refine ⟨a, rfl, ?_, fun i hi => ?_⟩
      · have := World.block_lt_of_cell? w _ (hcell 0 (by omega))
        rw [block_add] at this
        exact this
      · have hi' : i < len := by simp at hi; omega
        rw [hcell i (by omega)]
        simp [List.getD, show i < zs.length by omega]
    · simp; omega
theorem open_nums {t e : TypeId} {r : Reach} {b0 : Nat} {v : Value} {d : DataW H} {p : List MemPlace} (ht : P.underlying t = some (.slice e)) (he : P.underlying e = some (.int .i64)) (hc : P.cellsOf e = 1)
    (hv : Value.okWide P w r b0 t v) (h : DataW.Trod enc P w base spare held t v d p) : ∃ x : Num, v = x.val ∧ x.ok w := by
  obtain ⟨a, len, cap, rfl⟩ := okWide_slice ht hv
  obtain ⟨fuel, hf⟩ := h
  exact field_nums ht he hc (v := .slice a len cap) (by simpa [Value.cells] using hf)
theorem open_agg3 {r : Reach} {b0 : Nat} {t : TypeId} {f0 f1 f2 : Field} {v : Value} {d : DataW H} {p : List MemPlace} (hs : P.underlying t = some (.struct #[f0, f1, f2])) (hone : oneCellFields P #[f0, f1, f2] = true) (hC : P.cellsOf t = 3)
    (hv : Value.okWide P w r b0 t v) (h : DataW.Trod enc P w base spare held t v d p) :
    ∃ (v0 v1 v2 : Value) (y0 y1 y2 : DataW H × List MemPlace) (n : Nat), v = .agg #[v0, v1, v2] ∧ d = .agg [y0.1, y1.1, y2.1] ∧ p = y0.2 ++ (y1.2 ++ y2.2) ∧
      DataW.trod enc P w base spare held n f0.type [v0] = some y0 ∧ DataW.trod enc P w base spare held n f1.type [v1] = some y1 ∧ DataW.trod enc P w base spare held n f2.type [v2] = some y2 := by
  obtain ⟨cs, rfl, hsz⟩ := okWide_struct hs hv
  obtain ⟨l⟩ := cs
  match l, hsz.trans hC with
  | [c0, c1, c2], _ =>
    obtain ⟨fuel, hf⟩ := h
    obtain ⟨xs, n, _, hx, _, hlen, hg⟩ := DataW.trod_struct hs hf
    obtain ⟨o0, k0⟩ := hone_of hone 0 f0 rfl
    obtain ⟨o1, k1⟩ := hone_of hone 1 f1 rfl
    obtain ⟨o2, k2⟩ := hone_of hone 2 f2 rfl
    match xs, hlen with
    | [y0, y1, y2], _ =>
      simp only [Prod.mk.injEq] at hx
      exact ⟨c0, c1, c2, y0, y1, y2, n, rfl, by simpa using hx.1, by simpa using hx.2, by simpa [Value.cells, o0, k0] using hg 0 f0 rfl, by simpa [Value.cells, o1, k1] using hg 1 f1 rfl, by simpa [Value.cells, o2, k2] using hg 2 f2 rfl⟩
theorem open_flux {r : Reach} {b0 : Nat} {t e s : TypeId} {f0 f1 f2 : Field} {v : Value} {d : DataW H} {p : List MemPlace} (hs : P.underlying t = some (.struct #[f0, f1, f2])) (he : P.underlying e = some (.int .i64)) (hsl : P.underlying s = some (.slice e))
    (hone : oneCellFields P #[f0, f1, f2] = true) (hC : P.cellsOf t = 3) (hce : P.cellsOf e = 1) (hv : Value.okWide P w r b0 t v) (h : DataW.Trod enc P w base spare held t v d p)
    (e0 : f0.type = e := by rfl) (e1 : f1.type = e := by rfl) (e2 : f2.type = s := by rfl) :
    ∃ x : Flx, v = x.val ∧ x.ok w := by
  obtain ⟨v0, v1, v2, y0, y1, y2, n, rfl, -, -, h0, h1, h2⟩ := open_agg3 hs hone hC hv h
  obtain ⟨x0, rfl, w0⟩ := field_int (e0 ▸ he) h0
  obtain ⟨x1, rfl, w1⟩ := field_int (e1 ▸ he) h1
  obtain ⟨x2, rfl, w2⟩ := field_nums (e2 ▸ hsl) he hce h2
  exact ⟨⟨x0, x1, x2⟩, rfl, ⟨w0, w1⟩, w2⟩
end
end Go.Proofs.YtfdcainjppljhaaDoor
