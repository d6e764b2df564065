/- Slices of strings of the call's own. -/
import Derived.Test.YtfdcainjppljhaaDoorTxVW
namespace Go.Proofs.YtfdcainjppljhaaDoor
open Go.RowKit
set_option linter.unusedVariables false
/-- A slice of strings of the call's own that holds l. -/
def OwnT (w : World) (base : Nat) (v : Value) (l : List ByteArray) : Prop := w.ownsRow base 9 1 v l.length (l.map (Value.string))
theorem OwnT.below {w w' : World} {base : Nat} {v : Value} {l : List ByteArray} (h : OwnT w base v l) (hb : Below w.heap.size w w') : OwnT w' base v l := by
  obtain ⟨h1, h2⟩ := h
  refine ⟨h1, ?_⟩
  rcases h2 with h2 | ⟨g, cap, cur, hv, hg, hh, r⟩
  · exact .inl h2
  · refine .inr ⟨g, cap, cur, hv, hg, ?_, r⟩
    rw [hb.block g]
    · exact hh
    · rcases Nat.lt_or_ge g w.heap.size with hlt | hge
      · exact hlt
      · rw [Array.getElem?_eq_none hge] at hh; cases hh
theorem OwnT.mono {w : World} {base base' : Nat} {v : Value} {l : List ByteArray} (h : OwnT w base v l) (hb : base' ≤ base) : OwnT w base' v l := by
  obtain ⟨h1, h2⟩ := h
  refine ⟨h1, ?_⟩
  rcases h2 with h2 | ⟨g, cap, cur, hv, hg, r⟩
  · exact .inl h2
  · exact .inr ⟨g, cap, cur, hv, by omega, r⟩
theorem OwnT.alloc {w : World} {base : Nat} {v : Value} {l : List ByteArray} (h : OwnT w base v l) (o : Obj) : OwnT (w.alloc o) base v l :=
  h.below ((Below.refl _ _).alloc (Nat.le_refl _) o)
theorem OwnT.nil0 (w : World) : OwnT (w.alloc (.cells #[] 9)) w.heap.size (.slice (some ⟨w.heap.size, 0, none⟩) 0 0) [] := by
  refine ⟨rfl, .inr ⟨w.heap.size, 0, #[], rfl, Nat.le_refl _, Blk.new _ _ _, Nat.le_refl _, Nat.zero_le _, rfl, rfl⟩⟩
theorem OwnT.none_ (w : World) (base : Nat) : OwnT w base (.slice none 0 0) [] := ⟨rfl, .inl ⟨rfl, rfl⟩⟩
theorem OwnT.drew {w : World} {base : Nat} {v : Value} {l : List ByteArray} (h : OwnT w base v l) : OwnT w.drew base v l := h
theorem OwnT.drewN {w : World} {base : Nat} {v : Value} {l : List ByteArray} (h : OwnT w base v l) (n : Nat) : OwnT (w.drewN n) base v l := h
/-- 'b = append(b, x)'. -/
theorem append_txt {ops : Array Oper} {rest : List Oper} {o : Oper} {a : Act} {Q : Exit → Act → World → Prop} (w : World) (hg : o.guard = none) (s x : Operand)
    (ho : o.op = .call { callee := .builtin .append, args := #[s, x], argTypes := #[44, 44] })
    (base : Nat) (v : Value) (l : List ByteArray) (n : ByteArray) (hs : a.eval s = v) (hx : a.eval x = .slice (some ⟨w.heap.size, 0, none⟩) 1 1)
    (hown : OwnT w base v l) (hlen : l.length < 10000000) (hbase : base ≤ w.heap.size)
    (h : ∀ v' w', OwnT w' base v' (l ++ [n]) → Below base w w' → wpList Tryd.prog ops Q rest (a.put o.dst v') w') :
    wpList Tryd.prog ops Q (o :: rest) a (w.alloc (.cells #[Value.string n] 9)) := by
  obtain ⟨i, hi, hz, hsz, hby⟩ := info_parts info_str
  refine wpList_append_own _ hg s x 44 ho base 9 i (Value.string ByteArray.empty) 1 16 Tryd.underlying44 hi hz hsz hby rfl (by decide) v l.length (l.map (Value.string)) hs (hown.alloc _)
    ⟨w.heap.size, 0, none⟩ 1 1 [Value.string n] hx rfl ?_ ?_ (by unfold maxLen; omega) (by omega) (by simp; omega) ?_
  · intro j u hj
    match j, hj with
    | 0, hj => simp at hj; subst hj; simp [Addr.add]
  · intro u hu; simp at hu; subst hu; rfl
  · intro v' w' h1 h2 _
    refine h v' w' ?_ ?_
    · unfold OwnT
      rw [List.map_append, List.length_append]
      exact h1
    · refine ((Below.refl base w).alloc hbase _).grown h2 (by simp; omega) ?_
      intro k hk
      rcases hown.2 with ⟨rfl, _⟩ | ⟨g, cap, cur, rfl, hbg, _⟩
      · simp [Value.ownBlock] at hk
      · simp [Value.ownBlock] at hk; omega
theorem OwnT.open_ {w : World} {base : Nat} {v : Value} {l : List ByteArray} (h : OwnT w base v l) : ∃ p cap, v = .slice p l.length cap ∧ (l ≠ [] → ∃ g, p = some ⟨g, 0, none⟩ ∧ base ≤ g ∧ g < w.heap.size ∧ ∀ j x, l[j]? = some x → w.cell? ⟨g, j, none⟩ = some (.string x)) := by
  rcases h.2 with ⟨rfl, hn⟩ | ⟨g, cap, cur, rfl, hbg, hh, _, hsz, _, ht⟩
  · have hl : l = [] := List.eq_nil_of_length_eq_zero hn
    subst hl
    exact ⟨none, 0, rfl, fun h => absurd rfl h⟩
  · refine ⟨_, cap, rfl, fun _ => ⟨g, rfl, hbg, ?_⟩⟩
    have B : Blk w g 9 cur := hh
    refine ⟨B.lt, fun i x hx => ?_⟩
    have hi : i < l.length := by
      rcases Nat.lt_or_ge i l.length with h | h
      · exact h
      · rw [List.getElem?_eq_none h] at hx; cases hx
    rw [B.cell i]
    have h1 := congrArg (fun (x : List Value) => x[i]?) ht
    simp only [Nat.mul_one] at h1
    rw [List.getElem?_take_of_lt hi] at h1
    rw [← Array.getElem?_toList, h1]
    simp [hx]
/-- Strings that lie in a row. -/
def TxtAt (w : World) (p : Option Addr) (l : List ByteArray) : Prop := l ≠ [] → ∃ g, p = some ⟨g, 0, none⟩ ∧ g < w.heap.size ∧ ∀ j x, l[j]? = some x → w.cell? ⟨g, j, none⟩ = some (.string x)
theorem TxtAt.below {w w' : World} {p : Option Addr} {l : List ByteArray} (h : TxtAt w p l) (hb : Below w.heap.size w w') : TxtAt w' p l := by
  intro hl
  obtain ⟨g, rfl, hg, hc⟩ := h hl
  exact ⟨g, rfl, Nat.lt_of_lt_of_le hg hb.size, fun j x hx => (hb.cell (p := ⟨g, j, none⟩) hg).trans (hc j x hx)⟩
theorem TxtAt.at_ {w : World} {p : Option Addr} {l : List ByteArray} (h : TxtAt w p l) {k : Nat} (hk : k < l.length) : ∃ g, p = some ⟨g, 0, none⟩ ∧ g < w.heap.size ∧ w.cell? ⟨g, k, none⟩ = some (.string l[k]) := by
  obtain ⟨g, rfl, hg, hc⟩ := h (by intro e; rw [e] at hk; simp at hk)
  exact ⟨g, rfl, hg, hc k _ (by simp [hk])⟩
end Go.Proofs.YtfdcainjppljhaaDoor
