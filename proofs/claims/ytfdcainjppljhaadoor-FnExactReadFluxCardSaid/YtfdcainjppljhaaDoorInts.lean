/- Slices of int64: one that came in or was made, read; a row of the call's own, written; append. -/
import Derived.Test.YtfdcainjppljhaaDoorMem
import Derived.Deep.OwnRows
namespace Go.Proofs.YtfdcainjppljhaaDoor
open Go.RowKit
theorem info_i64 : (Tryd.prog.info? 2).map (fun i => (i.zero, i.size, i.bytes)) = some (some (.int .i64 0), 1, 8) := by kernel_rfl
/-- The elements of a slice with the data pointer p are the numbers l. -/
def IntsAt (w : World) (p : Option Addr) (l : List Int) : Prop :=
  l ≠ [] → ∃ a, p = some a ∧ a.block < w.heap.size ∧ ∀ i (h : i < l.length), w.cell? (a.add i) = some (.int .i64 (l[i]))
theorem IntsAt.nil (w : World) (p : Option Addr) : IntsAt w p [] := fun h => absurd rfl h
theorem IntsAt.below {w w' : World} {p : Option Addr} {l : List Int} (h : IntsAt w p l) (hb : Below w.heap.size w w') : IntsAt w' p l := by
  intro hne
  obtain ⟨a, ha, hlt, hc⟩ := h hne
  refine ⟨a, ha, Nat.lt_of_lt_of_le hlt hb.size, fun i hi => ?_⟩
  rw [hb.cell (p := a.add i) (by rw [Go.ChangeShapes.block_add]; exact hlt)]
  exact hc i hi
theorem IntsAt.drew {w : World} {p : Option Addr} {l : List Int} (h : IntsAt w p l) : IntsAt w.drew p l := h
theorem IntsAt.drewN {w : World} {p : Option Addr} {l : List Int} (h : IntsAt w p l) (n : Nat) : IntsAt (w.drewN n) p l := h
theorem IntsAt.alloc {w : World} {p : Option Addr} {l : List Int} (h : IntsAt w p l) (o : Obj) : IntsAt (w.alloc o) p l := h.below ((Below.refl _ _).alloc (Nat.le_refl _) o)
/-- A store aside of it. -/
theorem IntsAt.aside {w : World} {p : Option Addr} {l : List Int} (h : IntsAt w p l) {B : Nat} {w' : World} (hp : ∀ a, p = some a → a.block < B) (hb : Below B w w') : IntsAt w' p l := by
  intro hne
  obtain ⟨a, ha, hlt, hc⟩ := h hne
  refine ⟨a, ha, Nat.lt_of_lt_of_le hlt hb.size, fun i hi => ?_⟩
  rw [hb.cell (p := a.add i) (by rw [Go.ChangeShapes.block_add]; exact hp a ha)]
  exact hc i hi
theorem IntsAt.at_ {w : World} {p : Option Addr} {l : List Int} (h : IntsAt w p l) {k : Nat} (hk : k < l.length) : ∃ a, p = some a ∧ w.cell? (a.add k) = some (.int .i64 (l[k])) := by
  obtain ⟨a, ha, _, hc⟩ := h (by intro e; rw [e] at hk; exact absurd hk (Nat.not_lt_zero k))
  exact ⟨a, ha, hc k hk⟩
/-- Block g begins with the numbers l, none of them frozen. -/
def RowI (w : World) (g : Nat) (l : List Int) : Prop :=
  g < w.heap.size ∧ ∀ i (h : i < l.length), w.cell? ⟨g, i, none⟩ = some (.int .i64 (l[i])) ∧ w.frozen? ⟨g, i, none⟩ = false
theorem RowI.ints {w : World} {g : Nat} {l : List Int} (h : RowI w g l) : IntsAt w (some ⟨g, 0, none⟩) l := by
  intro _
  refine ⟨_, rfl, h.1, fun i hi => ?_⟩
  rw [Addr.add_lit, Nat.zero_add]
  exact (h.2 i hi).1
theorem RowI.cell {w : World} {g : Nat} {l : List Int} (h : RowI w g l) {k : Nat} (hk : k < l.length) : w.cell? ⟨g, k, none⟩ = some (.int .i64 (l[k])) ∧ w.frozen? ⟨g, k, none⟩ = false := h.2 k hk
theorem RowI.below {w w' : World} {g : Nat} {l : List Int} (h : RowI w g l) (hb : Below w.heap.size w w') : RowI w' g l :=
  ⟨Nat.lt_of_lt_of_le h.1 hb.size, fun i hi => ⟨(hb.cell (p := ⟨g, i, none⟩) h.1).trans (h.2 i hi).1, (hb.frozen (p := ⟨g, i, none⟩) h.1).trans (h.2 i hi).2⟩⟩
theorem RowI.aside {w w' : World} {g B : Nat} {l : List Int} (h : RowI w g l) (hg : g < B) (hb : Below B w w') : RowI w' g l :=
  ⟨Nat.lt_of_lt_of_le h.1 hb.size, fun i hi => ⟨(hb.cell (p := ⟨g, i, none⟩) hg).trans (h.2 i hi).1, (hb.frozen (p := ⟨g, i, none⟩) hg).trans (h.2 i hi).2⟩⟩
theorem RowI.drew {w : World} {g : Nat} {l : List Int} (h : RowI w g l) : RowI w.drew g l := h
theorem RowI.drewN {w : World} {g : Nat} {l : List Int} (h : RowI w g l) (n : Nat) : RowI (w.drewN n) g l := h
theorem RowI.alloc {w : World} {g : Nat} {l : List Int} (h : RowI w g l) (o : Obj) : RowI (w.alloc o) g l := h.below ((Below.refl _ _).alloc (Nat.le_refl _) o)
theorem RowI.lt {w : World} {g : Nat} {l : List Int} (h : RowI w g l) : g < w.heap.size := h.1
theorem RowI.set_ {w : World} {g : Nat} {l : List Int} (h : RowI w g l) (i : Nat) (n : Int) : RowI (w.setCell ⟨g, i, none⟩ (.int .i64 n)) g (l.set i n) := by
  refine ⟨by simpa [World.setCell] using h.1, fun j hj => ?_⟩
  have hj' : j < l.length := by simpa using hj
  obtain ⟨hc, hf⟩ := h.2 j hj'
  constructor
  · by_cases e : i = j
    · subst e
      rw [World.cell?_setCell_same (h := hc)]
      simp
    · rw [World.cell?_setCell_other _ _ _ _ (by intro h'; exact e (by injection h')), hc]
      simp [List.getElem_set_ne e]
  · rw [World.frozen?_setCell]; exact hf
/-- A store to a row that is laid behind. -/
theorem RowI.off {w : World} {g g' : Nat} {l : List Int} (h : RowI w g l) (hne : g ≠ g') (i : Nat) (v : Value) : RowI (w.setCell ⟨g', i, none⟩ v) g l := by
  refine ⟨by simpa [World.setCell] using h.1, fun j hj => ?_⟩
  obtain ⟨hc, hf⟩ := h.2 j hj
  exact ⟨(World.cell?_setCell_other _ _ _ _ (by intro h'; injection h' with h2; exact hne h2.symm)).trans hc, by rw [World.frozen?_setCell]; exact hf⟩
theorem IntsAt.off {w : World} {a : Addr} {l : List Int} (h : IntsAt w (some a) l) {g' : Nat} (hne : a.block ≠ g') (i : Nat) (v : Value) : IntsAt (w.setCell ⟨g', i, none⟩ v) (some a) l := by
  intro hl
  obtain ⟨b, hb, hlt, hc⟩ := h hl
  cases hb
  refine ⟨a, rfl, by simpa [World.setCell] using hlt, fun j hj => ?_⟩
  rw [World.cell?_setCell_other _ _ _ _ (by intro h'; have := congrArg Addr.block h'; rw [Go.ChangeShapes.block_add] at this; exact hne this.symm)]
  exact hc j hj
/-- What make lays. -/
theorem RowI.made (w : World) (n : Nat) : RowI (w.alloc (.cells (madeCells #[.int .i64 0] n) 2)) w.heap.size (List.replicate n 0) := by
  have B := Blk.new w 2 (madeCells #[.int .i64 0] n)
  refine ⟨B.lt, fun i hi => ⟨?_, B.frozen i⟩⟩
  rw [B.cell i]
  have hi' : i < n := by simpa using hi
  simp [madeCells, hi', Nat.mod_one]
theorem make_ints (n : Nat) (hn : n ≤ 2097152) (w : World) : (Instr.makeSlice 22 (.int .i64 (n : Int)) (.int .i64 (n : Int))).run Tryd.prog w = .ok (.slice (some ⟨w.heap.size, 0, none⟩) n n) (w.alloc (.cells (madeCells #[.int .i64 0] n) 2)) :=
  run_make_row' (P := Tryd.prog) 22 2 (.int .i64 0) 8 Tryd.underlying22 info_i64 rfl .i64 .i64 n (by omega) (by omega) w

/-- A slice of int64 of the call's own that holds l. -/
def OwnI (w : World) (base : Nat) (v : Value) (l : List Int) : Prop := w.ownsRow base 2 1 v l.length (l.map (Value.int .i64))
theorem OwnI.below {w w' : World} {base : Nat} {v : Value} {l : List Int} (h : OwnI w base v l) (hb : Below w.heap.size w w') : OwnI w' base v l := by
  obtain ⟨h1, h2⟩ := h
  refine ⟨h1, ?_⟩
  rcases h2 with h2 | ⟨g, cap, cur, hv, hg, hh, r⟩
  · exact .inl h2
  · refine .inr ⟨g, cap, cur, hv, hg, ?_, r⟩
    rw [hb.block g]
    · exact hh
    · rcases Nat.lt_or_ge g w.heap.size with hlt | hge
      · exact hlt
      · rw [Array.getElem?_eq_none hge] at hh; cases hh
theorem OwnI.mono {w : World} {base base' : Nat} {v : Value} {l : List Int} (h : OwnI w base v l) (hb : base' ≤ base) : OwnI w base' v l := by
  obtain ⟨h1, h2⟩ := h
  refine ⟨h1, ?_⟩
  rcases h2 with h2 | ⟨g, cap, cur, hv, hg, r⟩
  · exact .inl h2
  · exact .inr ⟨g, cap, cur, hv, by omega, r⟩
theorem OwnI.alloc {w : World} {base : Nat} {v : Value} {l : List Int} (h : OwnI w base v l) (o : Obj) : OwnI (w.alloc o) base v l :=
  h.below ((Below.refl _ _).alloc (Nat.le_refl _) o)
theorem OwnI.nil0 (w : World) : OwnI (w.alloc (.cells #[] 2)) w.heap.size (.slice (some ⟨w.heap.size, 0, none⟩) 0 0) [] := by
  refine ⟨rfl, .inr ⟨w.heap.size, 0, #[], rfl, Nat.le_refl _, Blk.new _ _ _, Nat.le_refl _, Nat.zero_le _, rfl, rfl⟩⟩
theorem OwnI.none_ (w : World) (base : Nat) : OwnI w base (.slice none 0 0) [] := ⟨rfl, .inl ⟨rfl, rfl⟩⟩
theorem OwnI.drew {w : World} {base : Nat} {v : Value} {l : List Int} (h : OwnI w base v l) : OwnI w.drew base v l := h
theorem OwnI.drewN {w : World} {base : Nat} {v : Value} {l : List Int} (h : OwnI w base v l) (n : Nat) : OwnI (w.drewN n) base v l := h
/-- Such a slice, read. -/
def OwnS (w : World) (base : Nat) (p : Option Addr) (l : List Int) : Prop := l ≠ [] → ∃ g, p = some ⟨g, 0, none⟩ ∧ base ≤ g ∧ RowI w g l
theorem OwnI.open_ {w : World} {base : Nat} {v : Value} {l : List Int} (h : OwnI w base v l) : ∃ p cap, v = .slice p l.length cap ∧ OwnS w base p l := by
  rcases h.2 with ⟨rfl, hn⟩ | ⟨g, cap, cur, rfl, hbg, hh, _, hsz, _, ht⟩
  · have hl : l = [] := List.eq_nil_of_length_eq_zero hn
    subst hl
    exact ⟨none, 0, rfl, fun h => absurd rfl h⟩
  · refine ⟨_, cap, rfl, fun _ => ⟨g, rfl, hbg, ?_⟩⟩
    have B : Blk w g 2 cur := hh
    refine ⟨B.lt, fun i hi => ⟨?_, B.frozen i⟩⟩
    rw [B.cell i]
    have h1 := congrArg (fun (x : List Value) => x[i]?) ht
    simp only [Nat.mul_one] at h1
    rw [List.getElem?_take_of_lt hi] at h1
    rw [← Array.getElem?_toList, h1]
    simp [hi]
theorem OwnS.ints {w : World} {base : Nat} {p : Option Addr} {l : List Int} (h : OwnS w base p l) : IntsAt w p l := by
  intro hl
  obtain ⟨g, rfl, _, hr⟩ := h hl
  exact hr.ints hl
theorem OwnS.below {w w' : World} {base : Nat} {p : Option Addr} {l : List Int} (h : OwnS w base p l) (hb : Below w.heap.size w w') : OwnS w' base p l := by
  intro hl
  obtain ⟨g, rfl, hg, hr⟩ := h hl
  exact ⟨g, rfl, hg, hr.below hb⟩
theorem OwnS.mono {w : World} {base base' : Nat} {p : Option Addr} {l : List Int} (h : OwnS w base p l) (hb : base' ≤ base) : OwnS w base' p l := by
  intro hl
  obtain ⟨g, hp, hg, hr⟩ := h hl
  exact ⟨g, hp, Nat.le_trans hb hg, hr⟩
theorem OwnS.of_row {w : World} {base g : Nat} {l : List Int} (h : RowI w g l) (hg : base ≤ g) : OwnS w base (some ⟨g, 0, none⟩) l := fun _ => ⟨g, rfl, hg, h⟩
theorem OwnS.nil_ (w : World) (base : Nat) (p : Option Addr) : OwnS w base p [] := fun h => absurd rfl h

/-- 'b = append(b, x)'. -/
theorem append_int {ops : Array Oper} {rest : List Oper} {o : Oper} {a : Act} {Q : Exit → Act → World → Prop} (w : World) (hg : o.guard = none) (s x : Operand)
    (ho : o.op = .call { callee := .builtin .append, args := #[s, x], argTypes := #[22, 22] })
    (base : Nat) (v : Value) (l : List Int) (n : Int) (hs : a.eval s = v) (hx : a.eval x = .slice (some ⟨w.heap.size, 0, none⟩) 1 1)
    (hown : OwnI w base v l) (hlen : l.length < 10000000) (hbase : base ≤ w.heap.size)
    (h : ∀ v' w', OwnI w' base v' (l ++ [n]) → Below base w w' → wpList Tryd.prog ops Q rest (a.put o.dst v') w') :
    wpList Tryd.prog ops Q (o :: rest) a (w.alloc (.cells #[.int .i64 n] 2)) := by
  obtain ⟨i, hi, hz, hsz, hby⟩ := info_parts info_i64
  refine wpList_append_own _ hg s x 22 ho base 2 i (.int .i64 0) 1 8 Tryd.underlying22 hi hz hsz hby rfl (by decide) v l.length (l.map (Value.int .i64)) hs (hown.alloc _)
    ⟨w.heap.size, 0, none⟩ 1 1 [.int .i64 n] hx rfl ?_ ?_ (by unfold maxLen; omega) (by omega) (by simp; omega) ?_
  · intro j u hj
    match j, hj with
    | 0, hj => simp at hj; subst hj; simp [Addr.add]
  · intro u hu; simp at hu; subst hu; rfl
  · intro v' w' h1 h2 _
    refine h v' w' ?_ ?_
    · unfold OwnI
      rw [List.map_append, List.length_append]
      exact h1
    · refine ((Below.refl base w).alloc hbase _).grown h2 (by simp; omega) ?_
      intro k hk
      rcases hown.2 with ⟨rfl, _⟩ | ⟨g, cap, cur, rfl, hbg, _⟩
      · simp [Value.ownBlock] at hk
      · simp [Value.ownBlock] at hk; omega
/-- The same as a step of a region that draws its order. -/
theorem step_append_int {ops : Array Oper} {o : Oper} {a : Act} {w : World} {K : Act → World → Prop} {Q : Exit → Act → World → Prop} {E : Prop} (hg : o.guard = none) (s x : Operand)
    (ho : o.op = .call { callee := .builtin .append, args := #[s, x], argTypes := #[22, 22] })
    (base : Nat) (v : Value) (l : List Int) (n : Int) (g0 : Nat) (hs : a.eval s = v) (hx : a.eval x = .slice (some ⟨g0, 0, none⟩) 1 1)
    (hown : OwnI w base v l) (hcell : w.cell? ⟨g0, 0, none⟩ = some (.int .i64 n)) (hlen : l.length < 10000000) (hbase : base ≤ w.heap.size)
    (h : ∀ v' w', OwnI w' base v' (l ++ [n]) → Below base w w' → K (a.put o.dst v') w') :
    if Region.wanted o (yielded ops a.tmps) = true then Oper.wp Tryd.prog o a w K Q else E := by
  have hw : Region.wanted o (yielded ops a.tmps) = true := by simp [Region.wanted, hg]
  rw [if_pos hw]
  obtain ⟨i, hi, hz, hsz, hby⟩ := info_parts info_i64
  refine wp_append_own w s x 22 ho base 2 i (.int .i64 0) 1 8 Tryd.underlying22 hi hz hsz hby rfl (by decide) v l.length (l.map (Value.int .i64)) hs hown
    ⟨g0, 0, none⟩ 1 1 [.int .i64 n] hx rfl ?_ ?_ (by unfold maxLen; omega) (by omega) hbase ?_
  · intro j u hj
    match j, hj with
    | 0, hj => simp at hj; subst hj; simpa [Addr.add] using hcell
  · intro u hu; simp at hu; subst hu; rfl
  · intro v' w' h1 h2 _
    refine h v' w' ?_ ?_
    · unfold OwnI
      rw [List.map_append, List.length_append]
      exact h1
    · refine (Below.refl base w).grown h2 hbase ?_
      intro k hk
      rcases hown.2 with ⟨rfl, _⟩ | ⟨g, cap, cur, rfl, hbg, _⟩
      · simp [Value.ownBlock] at hk
      · simp [Value.ownBlock] at hk; omega
end Go.Proofs.YtfdcainjppljhaaDoor
