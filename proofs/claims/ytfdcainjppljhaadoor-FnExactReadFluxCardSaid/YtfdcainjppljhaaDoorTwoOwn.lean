/- Two slices of int64 of the call's own side by side: append to one keeps the other. -/
import Derived.Test.YtfdcainjppljhaaDoorInts
import Derived.Test.YtfdcainjppljhaaDoorMarksW
namespace Go.Proofs.YtfdcainjppljhaaDoor
open Go.RowKit
theorem Aside.of_grown {w w' : World} {o : Option Nat} (h : w.grownBy w' o) : Aside o w w' := ⟨h.os, h.tape, h.output, h.size, fun k hk ho => h.block k hk (fun e => ho e.symm)⟩
theorem OwnI.asides {o : Option Nat} {w w' : World} {base : Nat} {v : Value} {l : List Int} (h : OwnI w base v l) (ha : Aside o w w') (hne : ∀ g, v.ownBlock = some g → o ≠ some g) : OwnI w' base v l := by
  obtain ⟨h1, h2⟩ := h
  refine ⟨h1, ?_⟩
  rcases h2 with h2 | ⟨g, cap, cur, hv, hg, hh, r⟩
  · exact .inl h2
  · have hlt : g < w.heap.size := by
      rcases Nat.lt_or_ge g w.heap.size with hlt | hge
      · exact hlt
      · rw [Array.getElem?_eq_none hge] at hh; cases hh
    exact .inr ⟨g, cap, cur, hv, hg, (ha.block g hlt (hne g (by rw [hv]; rfl))).trans hh, r⟩
theorem OwnI.blk {w : World} {base : Nat} {v : Value} {l : List Int} (h : OwnI w base v l) {g : Nat} (hg : v.ownBlock = some g) : base ≤ g ∧ g < w.heap.size := by
  rcases h.2 with ⟨rfl, _⟩ | ⟨g', cap, cur, rfl, hb, hh, _⟩
  · cases hg
  · simp [Value.ownBlock] at hg
    subst hg
    refine ⟨hb, ?_⟩
    rcases Nat.lt_or_ge g' w.heap.size with hlt | hge
    · exact hlt
    · rw [Array.getElem?_eq_none hge] at hh; cases hh
theorem append_run (w : World) (ty : TypeId) (base : Nat) (v : Value) (l : List Int) (n : Int) (g0 : Nat) (hown : OwnI w base v l) (hcell : w.cell? ⟨g0, 0, none⟩ = some (.int .i64 n)) (hlen : l.length < 10000000) (hbase : base ≤ w.heap.size) :
    ∃ v' w', (Builtin.append_ #[22, 22] ty #[v, .slice (some ⟨g0, 0, none⟩) 1 1]).run Tryd.prog w = .ok v' w' ∧ OwnI w' base v' (l ++ [n]) ∧ Below base w w' ∧ Aside v.ownBlock w w' ∧ (∀ g, v'.ownBlock = some g → v.ownBlock = some g ∨ w.heap.size ≤ g) := by
  obtain ⟨i, hi, hz, hsz, hby⟩ := info_parts info_i64
  have hnews : ∀ (j : Nat) u, [Value.int .i64 n][j]? = some u → w.cell? ((⟨g0, 0, none⟩ : Addr).add j) = some u := by
    intro j u hj
    match j, hj with
    | 0, hj => simp at hj; subst hj; simpa [Addr.add] using hcell
  have h1 : ∀ u ∈ [Value.int .i64 n], u.oneCell' = true := by intro u hu; simp at hu; subst hu; rfl
  obtain ⟨v', w', hr, h2, h3, _⟩ := run_append_own (P := Tryd.prog) w base 22 ty 2 i (.int .i64 0) 1 8 Tryd.underlying22 hi hz hsz hby rfl (by decide) v l.length (l.map (Value.int .i64)) hown ⟨g0, 0, none⟩ 1 1 [.int .i64 n] rfl hnews h1 (by unfold maxLen; omega) (by omega) hbase
  refine ⟨v', w', hr, ?_, ?_, Aside.of_grown h3, ?_⟩
  · unfold OwnI
    rw [List.map_append, List.length_append]
    exact h2
  · refine (Below.refl base w).grown h3 hbase ?_
    intro k hk
    exact (hown.blk hk).1
  · intro g hg
    rcases hown.2 with ⟨rfl, hn⟩ | ⟨g', cap, cur, rfl, hbg, hh, hnc, hcm, hcs, htake⟩
    · have hl : l = [] := List.eq_nil_of_length_eq_zero hn
      subst hl
      have := run_append_nil (P := Tryd.prog) w 22 ty 2 i (.int .i64 0) Tryd.underlying22 hi hz ⟨g0, 0, none⟩ 1 1 [.int .i64 n] (by rw [hsz]; rfl) hnews (by omega) (by omega) (by rw [hby]; omega)
      rw [hr] at this
      injection this with hv _
      rw [hv] at hg
      simp [Value.ownBlock] at hg
      exact .inr (by omega)
    · by_cases hroom : l.length + 1 ≤ cap
      · have := run_append_room (P := Tryd.prog) w 22 ty 2 i Tryd.underlying22 hi g' l.length cap cur hh ⟨g0, 0, none⟩ 1 1 [.int .i64 n] (by rw [hsz]; rfl) hnews h1 hroom (by rw [hsz, hcs]; simp; omega)
        rw [hr] at this
        injection this with hv _
        rw [hv] at hg
        exact .inl hg
      · have holds : ∀ j u, (l.map (Value.int .i64))[j]? = some u → w.cell? ((⟨g', 0, none⟩ : Addr).add j) = some u := World.ownsRow.cells (g := g') hown rfl
        have := run_append_grow (P := Tryd.prog) w 22 ty 2 i (.int .i64 0) Tryd.underlying22 hi hz ⟨g', 0, none⟩ l.length cap (l.map (Value.int .i64)) (by rw [hsz]; simp) holds ⟨g0, 0, none⟩ 1 1 [.int .i64 n] (by rw [hsz]; rfl) hnews (by omega) (by omega) (growslice_fits (by omega) (by rw [hby]; omega))
        rw [hr] at this
        injection this with hv _
        rw [hv] at hg
        simp [Value.ownBlock] at hg
        exact .inr (by omega)
/-- 'b = append(b, x)', with what it leaves alone. -/
theorem append_int2 {ops : Array Oper} {rest : List Oper} {o : Oper} {a : Act} {Q : Exit → Act → World → Prop} (w : World) (hg : o.guard = none) (s x : Operand)
    (ho : o.op = .call { callee := .builtin .append, args := #[s, x], argTypes := #[22, 22] })
    (base : Nat) (v : Value) (l : List Int) (n : Int) (hs : a.eval s = v) (hx : a.eval x = .slice (some ⟨w.heap.size, 0, none⟩) 1 1)
    (hown : OwnI w base v l) (hlen : l.length < 10000000) (hbase : base ≤ w.heap.size)
    (h : ∀ v' w', OwnI w' base v' (l ++ [n]) → Below base w w' → Aside v.ownBlock w w' → (∀ g, v'.ownBlock = some g → v.ownBlock = some g ∨ w.heap.size ≤ g) → wpList Tryd.prog ops Q rest (a.put o.dst v') w') :
    wpList Tryd.prog ops Q (o :: rest) a (w.alloc (.cells #[.int .i64 n] 2)) := by
  refine wpList_plain hg fun _ hK => ?_
  obtain ⟨v', w', hr, h2, h3, h4, h5⟩ := append_run (w.alloc (.cells #[.int .i64 n] 2)) o.type base v l n w.heap.size (hown.alloc _) ((Blk.new w 2 #[.int .i64 n]).cell 0) hlen (by simp; omega)
  unfold Oper.wp execOp
  simp only [ho, resolve, invoke, builtin, Sem.run_bind, Sem.run_pure, Result.andThen_ok, List.map_toArray, List.map_cons, List.map_nil, hs, hx, hr]
  refine hK _ _ (h v' w' h2 (((Below.refl base w).alloc hbase _).trans h3) ((Aside.of_below ((Below.refl _ _).alloc (Nat.le_refl _) _)).trans h4) ?_)
  intro g hg
  rcases h5 g hg with h6 | h6
  · exact .inl h6
  · simp at h6
    exact .inr (by omega)
theorem append_int3 {ops : Array Oper} {rest : List Oper} {o : Oper} {a : Act} {Q : Exit → Act → World → Prop} (w : World) (hg : o.guard = none) (s x : Operand)
    (ho : o.op = .call { callee := .builtin .append, args := #[s, x], argTypes := #[22, 22] })
    (base : Nat) (v : Value) (l : List Int) (n : Int) (g1 : Nat) (hs : a.eval s = v) (hx : a.eval x = .slice (some ⟨g1, 0, none⟩) 1 1) (hg1 : g1 = w.heap.size)
    (hown : OwnI w base v l) (hlen : l.length < 10000000) (hbase : base ≤ w.heap.size)
    (h : ∀ v' w', OwnI w' base v' (l ++ [n]) → Below base w w' → Aside v.ownBlock w w' → (∀ g, v'.ownBlock = some g → v.ownBlock = some g ∨ w.heap.size ≤ g) → wpList Tryd.prog ops Q rest (a.put o.dst v') w') :
    wpList Tryd.prog ops Q (o :: rest) a (w.alloc (.cells #[.int .i64 n] 2)) := by
  subst hg1
  exact append_int2 w hg s x ho base v l n hs hx hown hlen hbase h
end Go.Proofs.YtfdcainjppljhaaDoor
