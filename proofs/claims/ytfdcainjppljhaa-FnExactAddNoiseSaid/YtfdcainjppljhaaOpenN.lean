/- Noise as an argument, opened. 'open_slice_fields' follows the kit's page on structs, meant for copying. -/
import Derived.Test.YtfdcainjppljhaaOpenF
import Derived.Test.YtfdcainjppljhaaSpsW
import Derived.Deep.Slices
import Derived.Deep.Fields
import Derived.ChangeSame
import Derived.Lib.SmallJoins
namespace Go.Proofs.Ytfdcainjppljhaa
open Go.ChangeShapes Go.WideShapes Go.Deep Go.RowKit Go.Joins
set_option linter.unusedVariables false
structure Noi where
  d : Int
  j : Num
  e : Num
  sp : Option Addr
  L : List Flx
  sc : Nat
def Noi.val (x : Noi) : Value := .agg #[.int .i64 x.d, x.j.val, x.e.val, .slice x.sp x.L.length x.sc]
def Noi.ok (x : Noi) (w : World) : Prop := (Lit.int .i64 x.d).wf = true ∧ x.j.ok w ∧ x.e.ok w ∧ SpansAt w x.sp x.L ∧ x.L.length ≤ maxLen ∧ ∀ s ∈ x.L, s.ok w
section
variable {H : Type} {enc : TypeId × Value → H} {P : Program} {w : World} {base : Nat} {spare : Nat → Bool} {held : Bool}
theorem open_slice_fields {t e : TypeId} {fs : Array Field} {fuel : Nat} {cs : List Value} {x : DataW H × List MemPlace} (ht : P.underlying t = some (.slice e)) (he : P.underlying e = some (.struct fs))
    (hone : oneCellFields P fs = true) (hC : P.cellsOf e = fs.size) (h : DataW.trod enc P w base spare held fuel t cs = some x) :
    (cs = [.slice none 0 0] ∧ x = (.nil, [])) ∨
    ∃ (a : Addr) (len cap m : Nat) (D : Nat → DataW H) (Pl : Nat → List MemPlace), cs = [.slice (some a) len cap] ∧ base ≤ a.block ∧ len ≤ cap ∧ cap ≤ maxLen ∧ m = (if spare a.block then cap else len) ∧
      x = (.slice ((List.range len).map D) ((List.range (m - len)).map fun j => D (len + j)), MemPlace.row a (m * fs.size) ++ (List.range m).flatMap Pl) ∧
      ∀ i, i < m → ∃ (ys : List (DataW H × List MemPlace)) (n : Nat), D i = .agg (ys.map (·.1)) ∧ Pl i = ys.flatMap (·.2) ∧ ys.length = fs.size ∧
        ∀ (j : Nat) (f : Field), fs[j]? = some f → ∃ (v : Value) (y : DataW H × List MemPlace), w.cell? (a.add (i * fs.size + j)) = some v ∧ ys[j]? = some y ∧ DataW.trod enc P w base spare held n f.type [v] = some y := by
  rcases open_slice ht h with h0 | ⟨a, len, cap, m, n, D, Pl, hcs, hb, hl, hm, hmm, hx, hi⟩
  · exact .inl h0
  · refine .inr ⟨a, len, cap, m, D, Pl, hcs, hb, hl, hm, hmm, by rw [hC] at hx; exact hx, fun i him => ?_⟩
    obtain ⟨cs', hc, ht'⟩ := hi i him
    rw [hC] at hc
    obtain ⟨ys, n', hn', hy, hlen, hyl, hf⟩ := DataW.trod_struct he ht'
    obtain ⟨_, hcl, hat⟩ := World.cells?_some hc
    simp only [Prod.mk.injEq] at hy
    refine ⟨ys, n', hy.1, hy.2, hyl, fun j f hj => ?_⟩
    obtain ⟨ho, hk⟩ := hone_of hone j f hj
    have hjl : j < fs.size := (Array.getElem?_eq_some_iff.1 hj).1
    have hcell := hat j hjl
    have hv : cs'[j]? = some (cs'[j]'(by omega)) := List.getElem?_eq_getElem (by omega)
    have h1 := hf j f hj
    rw [ho, hk] at h1
    have hone' : (cs'.drop j).take 1 = [cs'[j]'(by omega)] := by
      rw [List.drop_eq_getElem_cons (by omega)]
      rfl
    rw [hone'] at h1
    have hys : ys[j]? = some (ys[j]'(by omega)) := List.getElem?_eq_getElem (by omega)
    refine ⟨_, _, ?_, hys, h1.trans hys⟩
    rw [← Go.Deep.add_add, hcell, hv]
theorem field_spans {t e i6 s : TypeId} {f0 f1 f2 : Field} {n : Nat} {v : Value} {y : DataW H × List MemPlace} (ht : P.underlying t = some (.slice e)) (he : P.underlying e = some (.struct #[f0, f1, f2])) (hi : P.underlying i6 = some (.int .i64)) (hsl : P.underlying s = some (.slice i6))
    (hone : oneCellFields P #[f0, f1, f2] = true) (hC : P.cellsOf e = 3) (hce : P.cellsOf i6 = 1) (h : DataW.trod enc P w base spare held n t [v] = some y) (e0 : f0.type = i6) (e1 : f1.type = i6) (e2 : f2.type = s) :
    ∃ (p : Option Addr) (L : List Flx) (cap : Nat), v = .slice p L.length cap ∧ SpansAt w p L ∧ L.length ≤ maxLen ∧ ∀ x ∈ L, x.ok w := by
  rcases open_slice_fields ht he hone hC h with ⟨hv, -⟩ | ⟨a, len, cap, m, D, Pl, hv, -, hl, hm, hmm, -, hi'⟩
  · simp at hv
    exact ⟨none, [], 0, by rw [hv]; rfl, fun h => absurd rfl h, Nat.zero_le _, by simp⟩
  · simp at hv
    have hlm : len ≤ m := by rw [hmm]; split <;> omega
    have HH : ∀ i, i < len → ∃ x : Flx, x.ok w ∧ w.cell? (a.add (i * 3)) = some (.int .i64 x.cell) ∧ w.cell? ⟨(a.add (i * 3)).block, (a.add (i * 3)).off + 1, none⟩ = some (.int .i64 x.first) ∧ w.cell? ⟨(a.add (i * 3)).block, (a.add (i * 3)).off + 2, none⟩ = some x.g.val := fun i hil => by
      obtain ⟨ys, n', -, -, -, hf⟩ := hi' i (by omega)
      obtain ⟨v0, y0, c0, -, t0⟩ := hf 0 f0 rfl
      obtain ⟨v1, y1, c1, -, t1⟩ := hf 1 f1 rfl
      obtain ⟨v2, y2, c2, -, t2⟩ := hf 2 f2 rfl
      obtain ⟨x0, rfl, w0⟩ := field_int (e0 ▸ hi) t0
      obtain ⟨x1, rfl, w1⟩ := field_int (e1 ▸ hi) t1
      obtain ⟨x2, rfl, w2⟩ := field_nums (e2 ▸ hsl) hi hce t2
      have d1 : w.cell? (a.add (i * 3 + 1)) = _ := c1
      have d2 : w.cell? (a.add (i * 3 + 2)) = _ := c2
      rw [← Go.Deep.add_add] at d1 d2
      exact ⟨⟨x0, x1, x2⟩, ⟨⟨w0, w1⟩, w2⟩, c0, d1, d2⟩
    let f : Nat → Flx := fun i => if h : i < len then Classical.choose (HH i h) else ⟨0, 0, ⟨none, [], 0⟩⟩
    have hf : ∀ i, i < len → (f i).ok w ∧ w.cell? (a.add (i * 3)) = some (.int .i64 (f i).cell) ∧ w.cell? ⟨(a.add (i * 3)).block, (a.add (i * 3)).off + 1, none⟩ = some (.int .i64 (f i).first) ∧ w.cell? ⟨(a.add (i * 3)).block, (a.add (i * 3)).off + 2, none⟩ = some (f i).g.val := fun i h => by
      show (if h : i < len then Classical.choose (HH i h) else _ : Flx).ok w ∧ _
      have e : f i = Classical.choose (HH i h) := dif_pos h
      rw [dif_pos h, e]
      exact Classical.choose_spec (HH i h)
    clear_value f
    refine ⟨some a, (List.range len).map f, cap, by rw [hv]; simp, fun hne => ?_, by simp; omega, fun x hx => ?_⟩
    · have h0 : 0 < len := by
        rcases Nat.eq_zero_or_pos len with e | e
        · subst e; simp at hne
        · exact e
      have hb := World.block_lt_of_cell? w _ (hf 0 h0).2.1
      rw [block_add] at hb
      refine ⟨a, rfl, hb, fun i hi => ?_⟩
      have hi2 : i < len := by simpa using hi
      have ee : ((List.range len).map f)[i] = f i := by simp
      rw [ee]
      obtain ⟨k0, k1, k2, k3⟩ := hf i hi2
      exact ⟨k1, k2, k3, k0.2.1⟩
    · obtain ⟨i, hi, rfl⟩ := List.mem_map.1 hx
      exact (hf i (List.mem_range.1 hi)).1
theorem open_noise {r : Reach} {b0 : Nat} {t i6 s ss sp : TypeId} {f0 f1 f2 f3 g0 g1 g2 : Field} {v : Value} {d : DataW H} {p : List MemPlace} (hs : P.underlying t = some (.struct #[f0, f1, f2, f3])) (hi : P.underlying i6 = some (.int .i64)) (hsl : P.underlying s = some (.slice i6))
    (hss : P.underlying ss = some (.slice sp)) (hsp : P.underlying sp = some (.struct #[g0, g1, g2]))
    (hone : oneCellFields P #[f0, f1, f2, f3] = true) (hC : P.cellsOf t = 4) (hone2 : oneCellFields P #[g0, g1, g2] = true) (hC2 : P.cellsOf sp = 3) (hce : P.cellsOf i6 = 1) (hv : Value.okWide P w r b0 t v) (h : DataW.Trod enc P w base spare held t v d p)
    (e0 : f0.type = i6 := by rfl) (e1 : f1.type = s := by rfl) (e2 : f2.type = s := by rfl) (e3 : f3.type = ss := by rfl) (k0 : g0.type = i6 := by rfl) (k1 : g1.type = i6 := by rfl) (k2 : g2.type = s := by rfl) :
    ∃ x : Noi, v = x.val ∧ x.ok w := by
  obtain ⟨v0, v1, v2, v3, y0, y1, y2, y3, n, rfl, -, -, h0, h1, h2, h3⟩ := open_agg4 hs hone hC hv h
  obtain ⟨x0, rfl, w0⟩ := field_int (e0 ▸ hi) h0
  obtain ⟨x1, rfl, w1⟩ := field_nums (e1 ▸ hsl) hi hce h1
  obtain ⟨x2, rfl, w2⟩ := field_nums (e2 ▸ hsl) hi hce h2
  obtain ⟨q, L, cap, rfl, w3, w4, w5⟩ := field_spans (e3 ▸ hss) hsp hi hsl hone2 hC2 hce h3 k0 k1 k2
  exact ⟨⟨x0, x1, x2, q, L, cap⟩, rfl, w0, w1, w2, w3, w4, w5⟩
end
end Go.Proofs.Ytfdcainjppljhaa
