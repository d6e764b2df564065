/- slices.Clone at []int64. -/
import Derived.Test.YtfdcainjppljhaaDoorSpltW
import Derived.Lib.SliceRun
namespace Go.Proofs.YtfdcainjppljhaaDoor
open Go.RowKit
set_option linter.unusedVariables false
theorem append_ints {ops : Array Oper} {rest : List Oper} {o : Oper} {a : Act} {Q : Exit → Act → World → Prop} (w : World) (hg : o.guard = none) (s x : Operand)
    (ho : o.op = .call { callee := .builtin .append, args := #[s, x], argTypes := #[22, 22] })
    (base : Nat) (v : Value) (l M : List Int) (ad : Addr) (m c : Nat) (hs : a.eval s = v) (hx : a.eval x = .slice (some ad) m c) (hm : M.length = m)
    (hM : ∀ j (h : j < M.length), w.cell? (ad.add j) = some (.int .i64 M[j]))
    (hown : OwnI w base v l) (hlen : l.length + m ≤ 10000000) (hbase : base ≤ w.heap.size)
    (h : ∀ v' w', OwnI w' base v' (l ++ M) → Below base w w' → wpList Tryd.prog ops Q rest (a.put o.dst v') w') :
    wpList Tryd.prog ops Q (o :: rest) a w := by
  obtain ⟨i, hi, hz, hsz, hby⟩ := info_parts info_i64
  refine wpList_append_own _ hg s x 22 ho base 2 i (.int .i64 0) 1 8 Tryd.underlying22 hi hz hsz hby rfl (by decide) v l.length (l.map (Value.int .i64)) hs hown
    ad m c (M.map (Value.int .i64)) hx (by simp [hm]) ?_ ?_ (by unfold maxLen; omega) (by omega) hbase ?_
  · intro j u hj
    rw [List.getElem?_map] at hj
    rcases Nat.lt_or_ge j M.length with hlt | hge
    · rw [List.getElem?_eq_getElem hlt] at hj
      simp at hj
      subst hj
      exact hM j hlt
    · rw [List.getElem?_eq_none hge] at hj; simp at hj
  · intro u hu
    simp at hu
    obtain ⟨y, -, rfl⟩ := hu
    rfl
  · intro v' w' h1 h2 _
    refine h v' w' ?_ ?_
    · unfold OwnI
      rw [List.map_append, List.length_append, hm]
      exact h1
    · refine (Below.refl base w).grown h2 hbase ?_
      intro k hk
      rcases hown.2 with ⟨rfl, _⟩ | ⟨g, cap, cur, rfl, hbg, _⟩
      · simp [Value.ownBlock] at hk
      · simp [Value.ownBlock] at hk; omega
set_option maxRecDepth 20000 in
/-- slices.Clone. -/
theorem slices_CloneI (p : Option Addr) (t : List Int) (cap : Nat) (w : World) (hI : IntsAt w p t) (hl : t.length ≤ 1048576) :
    Calls Tryd.prog 25 #[.slice p t.length cap] w fun e w' => ∃ v, e = .returned v ∧ OwnI w' w.heap.size v t ∧ Below w.heap.size w w' := by
  have q22 : ∀ (w : World) (a : Option Addr) (n c n' c' : Nat), (binOp .eql 22 (.slice a n c) (.slice none n' c')).run Tryd.prog w = .ok (.bool a.isNone) w := fun w a n c n' c' => Lib.run_eql_slice_nil w _ _ a n c n' c' Tryd.underlying22
  cases p with
  | none =>
    have ht : t = [] := by
      cases t with
      | nil => rfl
      | cons x t => obtain ⟨a, h, -⟩ := hI (by simp); cases h
    subst ht
    go_enter Tryd.func25, Tryd.ntmps25
    go_wp2_with fail
    go_ret
    exact ⟨_, rfl, OwnI.none_ _ _, Below.refl _ _⟩
  | some a =>
    have hM : ∀ j (h : j < t.length), (w.alloc (.cells #[] 2)).cell? (a.add j) = some (.int .i64 t[j]) := fun j h => by
      obtain ⟨ad, had, hc⟩ := (hI.alloc (.cells #[] 2)).at_ h
      injection had with had
      subst had
      exact hc
    have h0 := OwnI.nil0 w
    go_enter Tryd.func25, Tryd.ntmps25
    go_wp2_with (at_builtin; refine append_ints _ rfl (.tmp 5) (.tmp 6) rfl w.heap.size _ [] t a t.length cap rfl rfl rfl hM h0 (by simp; omega) (by simp) ?_; intro v w2 hZ hb2)
    go_ret
    exact ⟨_, rfl, hZ, ((Below.refl _ _).alloc (Nat.le_refl _) _).trans hb2⟩
end Go.Proofs.YtfdcainjppljhaaDoor
