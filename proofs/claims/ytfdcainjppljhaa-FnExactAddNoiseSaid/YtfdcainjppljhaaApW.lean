/- 'append' of one number to a slice of the call's own: which block the result has. -/
import Derived.Test.YtfdcainjppljhaaMarksW
import Derived.BigQuiet
namespace Go.Proofs.Ytfdcainjppljhaa
open Go.RowKit
set_option linter.unusedVariables false
theorem run_append_where (ty : TypeId) (w : World) (base : Nat) (v : Value) (l : List Int) (n : Int) (g0 : Nat) (hown : OwnI w base v l) (hc : w.cell? ⟨g0, 0, none⟩ = some (.int .i64 n)) (hlen : l.length < 10000000) (hbase : base ≤ w.heap.size) :
    ∃ v' w', (Builtin.append_ #[22, 22] ty #[v, .slice (some ⟨g0, 0, none⟩) 1 1]).run Try.prog w = .ok v' w' ∧ OwnI w' base v' (l ++ [n]) ∧ w.grownBy w' v.ownBlock ∧ ∀ g, v'.ownBlock = some g → v.ownBlock = some g ∨ w.heap.size ≤ g := by
  obtain ⟨i, hi, hz, hsz, hby⟩ := info_parts info_i64
  have hnews : ∀ j u, ([Value.int .i64 n] : List Value)[j]? = some u → w.cell? ((⟨g0, 0, none⟩ : Addr).add j) = some u := fun j u hj => by
    match j, hj with
    | 0, hj => simp at hj; subst hj; rw [Addr.add_zero']; exact hc
  have h1 : ∀ u ∈ [Value.int .i64 n], u.oneCell' = true := fun u hu => by simp at hu; subst hu; rfl
  obtain ⟨v', w', hr, h2, h3, h4⟩ := run_append_own (P := Try.prog) w base 22 ty 2 i (.int .i64 0) 1 8 Try.underlying22 hi hz hsz hby rfl (by decide) v l.length (l.map (Value.int .i64)) hown
    ⟨g0, 0, none⟩ 1 1 [.int .i64 n] rfl hnews h1 (by unfold maxLen; omega) (by omega) hbase
  refine ⟨v', w', hr, ?_, h3, ?_⟩
  · unfold OwnI
    rw [List.map_append, List.length_append]
    exact h2
  · rcases hown.2 with ⟨rfl, h0⟩ | ⟨g, cap, cur, rfl, hbg, hg, hnc, hcm, hcs, htake⟩
    · have hr' := run_append_nil (P := Try.prog) w 22 ty 2 i (.int .i64 0) Try.underlying22 hi hz ⟨g0, 0, none⟩ 1 1 [.int .i64 n] (by rw [hsz]; rfl) hnews (by omega) (by omega) (by rw [hby]; omega)
      rw [hr] at hr'
      injection hr' with e1 e2
      subst e1
      intro g hg
      simp [Value.ownBlock] at hg
      exact .inr (by omega)
    · by_cases hroom : l.length + 1 ≤ cap
      · have hr' := run_append_room (P := Try.prog) w 22 ty 2 i Try.underlying22 hi g l.length cap cur hg ⟨g0, 0, none⟩ 1 1 [.int .i64 n] (by rw [hsz]; rfl) hnews h1 hroom (by rw [hsz]; simp; omega)
        rw [hr] at hr'
        injection hr' with e1 e2
        subst e1
        intro g' hg'
        exact .inl hg'
      · have holds : ∀ j u, (l.map (Value.int .i64))[j]? = some u → w.cell? ((⟨g, 0, none⟩ : Addr).add j) = some u := World.ownsRow.cells hown (g := g) rfl
        have hr' := run_append_grow (P := Try.prog) w 22 ty 2 i (.int .i64 0) Try.underlying22 hi hz ⟨g, 0, none⟩ l.length cap (l.map (Value.int .i64)) (by rw [hsz]; simp) holds ⟨g0, 0, none⟩ 1 1 [.int .i64 n] (by rw [hsz]; rfl) hnews (by omega) (by omega) (growslice_fits (by omega) (by rw [hby]; omega))
        rw [hr] at hr'
        injection hr' with e1 e2
        subst e1
        intro g' hg'
        simp [Value.ownBlock] at hg'
        exact .inr (by omega)
/-- 'append(s, x)' in a walk: the block that the result has; all else stays. -/
theorem append_where {ops : Array Oper} {rest : List Oper} {o : Oper} {a : Act} {Q : Exit → Act → World → Prop} (w : World) (hgd : o.guard = none) (s x : Operand)
    (ho : o.op = .call { callee := .builtin .append, args := #[s, x], argTypes := #[22, 22] })
    (base : Nat) (v : Value) (l : List Int) (n : Int) (hs : a.eval s = v) (hx : a.eval x = .slice (some ⟨w.heap.size, 0, none⟩) 1 1)
    (hown : OwnI w base v l) (hlen : l.length < 10000000) (hbase : base ≤ w.heap.size)
    (h : ∀ v' w', OwnI w' base v' (l ++ [n]) → Aside v.ownBlock w w' → (∀ g, v'.ownBlock = some g → v.ownBlock = some g ∨ w.heap.size ≤ g) → wpList Try.prog ops Q rest (a.put o.dst v') w') :
    wpList Try.prog ops Q (o :: rest) a (w.alloc (.cells #[.int .i64 n] 2)) := by
  obtain ⟨v', w', hr, h2, h3, h4⟩ := run_append_where o.type (w.alloc (.cells #[.int .i64 n] 2)) base v l n w.heap.size (hown.alloc _) (by simp) hlen (by simp; omega)
  refine wpList_plain hgd fun _ hK => ?_
  unfold Oper.wp execOp
  simp only [ho, resolve, invoke, builtin, Sem.run_bind, Sem.run_pure, Result.andThen_ok, List.map_toArray, List.map_cons, List.map_nil, hs, hx, hr]
  refine hK _ _ (h v' w' h2 ?_ fun g hg => ?_)
  · have hal : Aside v.ownBlock w (w.alloc (.cells #[.int .i64 n] 2)) := Aside.of_below ((Below.refl _ _).alloc (Nat.le_refl _) _)
    exact hal.trans ⟨h3.1, h3.2, h3.3, h3.4, fun k hk hne => h3.5 k hk (fun e => hne e.symm)⟩
  · rcases h4 g hg with h5 | h5
    · exact .inl h5
    · exact .inr (by simp at h5; omega)
end Go.Proofs.Ytfdcainjppljhaa
