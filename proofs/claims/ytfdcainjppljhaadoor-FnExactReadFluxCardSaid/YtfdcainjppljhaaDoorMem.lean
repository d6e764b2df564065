/- Memory of the call's own: a row of bytes, a row of int64: append, store, conversion to a string. Over this translation's type numbers. -/
import Derived.Test.YtfdcainjppljhaaDoorBase
import Derived.Lib.UnsafeStr
import Derived.Lib.BufferRead
import Derived.Lib.ConvBytes
import Derived.StillTailTactics
namespace Go.Proofs.YtfdcainjppljhaaDoor
open Go.RowKit

theorem info_u8 : (Tryd.prog.info? 5).map (fun i => (i.zero, i.size, i.bytes)) = some (some (.int .u8 0), 1, 1) := by kernel_rfl

theorem u8_bd (c : UInt8) : 0 ≤ (c.toNat : Int) ∧ (c.toNat : Int) < 256 := by have := c.toNat_lt; omega
/-- The byte of a number. -/
def b8 (n : Int) : UInt8 := UInt8.ofNat n.toNat
theorem b8_val {n : Int} (h0 : 0 ≤ n) (h1 : n < 256) : ((b8 n).toNat : Int) = n := by
  unfold b8
  have : (UInt8.ofNat n.toNat).toNat = n.toNat := by
    rw [UInt8.toNat_ofNat']
    exact Nat.mod_eq_of_lt (by omega)
  omega
theorem b8_toNat (c : UInt8) : b8 (c.toNat : Int) = c := by unfold b8; rw [Int.toNat_natCast]; exact UInt8.ofNat_toNat

theorem bcell {W w1 : World} (hb : Below W.heap.size W w1) : (∀ b o, b < W.heap.size → w1.cell? ⟨b, o, none⟩ = W.cell? ⟨b, o, none⟩) ∧ (∀ b o, b < W.heap.size → w1.frozen? ⟨b, o, none⟩ = W.frozen? ⟨b, o, none⟩) :=
  ⟨fun b o h => hb.cell (p := ⟨b, o, none⟩) h, fun b o h => hb.frozen (p := ⟨b, o, none⟩) h⟩

/-- Block g is just the cells cs of type t, none of them frozen. -/
def Blk (w : World) (g : Nat) (t : TypeId) (cs : Array Value) : Prop := w.heap[g]? = some (.cells cs t (0, 0))
theorem Blk.lt {w : World} {g : Nat} {t : TypeId} {cs : Array Value} (h : Blk w g t cs) : g < w.heap.size := by
  rcases Nat.lt_or_ge g w.heap.size with hlt | hge
  · exact hlt
  · unfold Blk at h; rw [Array.getElem?_eq_none hge] at h; cases h
theorem Blk.new (w : World) (t : TypeId) (cs : Array Value) : Blk (w.alloc (.cells cs t)) w.heap.size t cs := by
  unfold Blk
  show (w.heap.push _)[w.heap.size]? = _
  simp
theorem Blk.below {w w' : World} {g B : Nat} {t : TypeId} {cs : Array Value} (h : Blk w g t cs) (hb : Below B w w') (hg : g < B) : Blk w' g t cs := (hb.block g hg).trans h
theorem Blk.keep {w w' : World} {g : Nat} {t : TypeId} {cs : Array Value} (h : Blk w g t cs) (hb : Below w.heap.size w w') : Blk w' g t cs := h.below hb h.lt
theorem Blk.cell {w : World} {g : Nat} {t : TypeId} {cs : Array Value} (h : Blk w g t cs) (i : Nat) : w.cell? ⟨g, i, none⟩ = cs[i]? := cell_of_row w g i cs t (0, 0) h
theorem Blk.cell2 {w : World} {g : Nat} {t : TypeId} {a b : Value} (h : Blk w g t #[a, b]) : w.cell? ⟨g, 0, none⟩ = some a ∧ w.cell? ⟨g, 1, none⟩ = some b := ⟨h.cell 0, h.cell 1⟩
theorem Blk.cell3 {w : World} {g : Nat} {t : TypeId} {a b c : Value} (h : Blk w g t #[a, b, c]) : w.cell? ⟨g, 0, none⟩ = some a ∧ w.cell? ⟨g, 1, none⟩ = some b ∧ w.cell? ⟨g, 2, none⟩ = some c := ⟨h.cell 0, h.cell 1, h.cell 2⟩
theorem Blk.cell4 {w : World} {g : Nat} {t : TypeId} {a b c d : Value} (h : Blk w g t #[a, b, c, d]) : w.cell? ⟨g, 0, none⟩ = some a ∧ w.cell? ⟨g, 1, none⟩ = some b ∧ w.cell? ⟨g, 2, none⟩ = some c ∧ w.cell? ⟨g, 3, none⟩ = some d := ⟨h.cell 0, h.cell 1, h.cell 2, h.cell 3⟩
theorem Blk.cell5 {w : World} {g : Nat} {t : TypeId} {a b c d e : Value} (h : Blk w g t #[a, b, c, d, e]) : w.cell? ⟨g, 0, none⟩ = some a ∧ w.cell? ⟨g, 1, none⟩ = some b ∧ w.cell? ⟨g, 2, none⟩ = some c ∧ w.cell? ⟨g, 3, none⟩ = some d ∧ w.cell? ⟨g, 4, none⟩ = some e := ⟨h.cell 0, h.cell 1, h.cell 2, h.cell 3, h.cell 4⟩
theorem Blk.frozen {w : World} {g : Nat} {t : TypeId} {cs : Array Value} (h : Blk w g t cs) (i : Nat) : w.frozen? ⟨g, i, none⟩ = false := by
  unfold Blk at h
  simp [World.frozen?, h]

/-- A slice of bytes of the call's own that holds l. -/
def OwnB (w : World) (base : Nat) (v : Value) (l : List UInt8) : Prop := w.ownsRow base 5 1 v l.length (Lib.byteCells l)

theorem OwnB.below {w w' : World} {base : Nat} {v : Value} {l : List UInt8} (h : OwnB w base v l) (hb : Below w.heap.size w w') : OwnB w' base v l := by
  obtain ⟨h1, h2⟩ := h
  refine ⟨h1, ?_⟩
  rcases h2 with h2 | ⟨g, cap, cur, hv, hg, hh, r⟩
  · exact .inl h2
  · refine .inr ⟨g, cap, cur, hv, hg, ?_, r⟩
    rw [hb.block g]
    · exact hh
    · rcases Nat.lt_or_ge g w.heap.size with hlt | hge
      · exact hlt
      · rw [Array.getElem?_eq_none hge] at hh; cases hh
theorem OwnB.mono {w : World} {base base' : Nat} {v : Value} {l : List UInt8} (h : OwnB w base v l) (hb : base' ≤ base) : OwnB w base' v l := by
  obtain ⟨h1, h2⟩ := h
  refine ⟨h1, ?_⟩
  rcases h2 with h2 | ⟨g, cap, cur, hv, hg, r⟩
  · exact .inl h2
  · exact .inr ⟨g, cap, cur, hv, by omega, r⟩
theorem OwnB.alloc {w : World} {base : Nat} {v : Value} {l : List UInt8} (h : OwnB w base v l) (o : Obj) : OwnB (w.alloc o) base v l :=
  h.below ((Below.refl _ _).alloc (Nat.le_refl _) o)
theorem OwnB.nil0 (w : World) : OwnB (w.alloc (.cells #[] 5)) w.heap.size (.slice (some ⟨w.heap.size, 0, none⟩) 0 0) [] := by
  refine ⟨rfl, .inr ⟨w.heap.size, 0, #[], rfl, Nat.le_refl _, Blk.new _ _ _, Nat.le_refl _, Nat.zero_le _, rfl, rfl⟩⟩
theorem OwnB.drew {w : World} {base : Nat} {v : Value} {l : List UInt8} (h : OwnB w base v l) : OwnB w.drew base v l := h
theorem OwnB.drewN {w : World} {base : Nat} {v : Value} {l : List UInt8} (h : OwnB w base v l) (n : Nat) : OwnB (w.drewN n) base v l := h

/-- 'string(b)' of such a slice. -/
theorem OwnB.str {w : World} {base : Nat} {v : Value} {l : List UInt8} (h : OwnB w base v l) :
    (convert 50 9 v).run Tryd.prog w = .ok (.string ⟨l.toArray⟩) w := by
  rcases h.2 with ⟨rfl, hn⟩ | ⟨g, cap, cur, rfl, _, hh, _, _, _, ht⟩
  · have hl : l = [] := List.eq_nil_of_length_eq_zero hn
    subst hl
    exact Lib.run_convert_nil_bytes w _ _ _ 0 Tryd.underlying50 Tryd.underlying5 Tryd.underlying9
  · have hc := Lib.bytes_of_row (l := l) hh (by simpa using ht)
    exact run_convert_bytes_back w _ _ _ ⟨g, 0, none⟩ cap l Tryd.underlying50 Tryd.underlying5 Tryd.underlying9 hc

/-- 'make([]byte, 0, n)'. -/
theorem make_bytes0 {ops : Array Oper} {rest : List Oper} {o : Oper} {a : Act} {Q : Exit → Act → World → Prop} (w : World) (hg : o.guard = none) (l c : Operand) (hop : o.op = Op.makeSlice 50 l c)
    (C : Int) (n : Nat) (hl : a.eval l = .int .i64 0) (hc : a.eval c = .int .i64 C) (hC : C = (n : Int)) (hn : n ≤ 1099511627776)
    (h : ∀ w', OwnB w' w.heap.size (.slice (some ⟨w.heap.size, 0, none⟩) 0 n) [] → Below w.heap.size w w' → wpList Tryd.prog ops Q rest (a.put o.dst (.slice (some ⟨w.heap.size, 0, none⟩) 0 n)) w') :
    wpList Tryd.prog ops Q (o :: rest) a w := by
  obtain ⟨i, hi, hz, hsz, hby⟩ := info_parts info_u8
  refine wpList_make_own w hg l c 50 hop w.heap.size 5 i (.int .u8 0) 1 Tryd.underlying50 hi hz hsz .i64 .i64 C n hl hc hC (by rw [hby]; omega) (by unfold maxLen; omega) (Nat.le_refl _) ?_
  intro w' h1 h2
  exact h w' h1 ((Below.refl _ _).grown h2 (Nat.le_refl _) (by intro k hk; cases hk))

/-- 'b = append(b, x)'. -/
theorem append_byte {ops : Array Oper} {rest : List Oper} {o : Oper} {a : Act} {Q : Exit → Act → World → Prop} (w : World) (hg : o.guard = none) (s x : Operand)
    (ho : o.op = .call { callee := .builtin .append, args := #[s, x], argTypes := #[50, 50] })
    (base : Nat) (v : Value) (l : List UInt8) (n : Int) (hs : a.eval s = v) (hx : a.eval x = .slice (some ⟨w.heap.size, 0, none⟩) 1 1)
    (hown : OwnB w base v l) (hn : 0 ≤ n ∧ n < 256) (hlen : l.length < 1099511627776) (hbase : base ≤ w.heap.size)
    (h : ∀ v' w', OwnB w' base v' (l ++ [b8 n]) → Below base w w' → wpList Tryd.prog ops Q rest (a.put o.dst v') w') :
    wpList Tryd.prog ops Q (o :: rest) a (w.alloc (.cells #[.int .u8 n] 5)) := by
  obtain ⟨i, hi, hz, hsz, hby⟩ := info_parts info_u8
  refine wpList_append_own _ hg s x 50 ho base 5 i (.int .u8 0) 1 1 Tryd.underlying50 hi hz hsz hby rfl (by decide) v l.length (Lib.byteCells l) hs (hown.alloc _)
    ⟨w.heap.size, 0, none⟩ 1 1 [.int .u8 n] hx rfl ?_ ?_ (by unfold maxLen; omega) (by omega) (by simp; omega) ?_
  · intro j u hj
    match j, hj with
    | 0, hj => simp at hj; subst hj; simp [Addr.add]
  · intro u hu; simp at hu; subst hu; rfl
  · intro v' w' h1 h2 _
    refine h v' w' ?_ ?_
    · unfold OwnB
      have e : Lib.byteCells (l ++ [b8 n]) = Lib.byteCells l ++ [.int .u8 n] := by simp [Lib.byteCells, b8_val hn.1 hn.2]
      rw [e, List.length_append]
      exact h1
    · refine ((Below.refl base w).alloc hbase _).grown h2 (by simp; omega) ?_
      intro k hk
      rcases hown.2 with ⟨rfl, _⟩ | ⟨g, cap, cur, rfl, hbg, _⟩
      · simp [Value.ownBlock] at hk
      · simp [Value.ownBlock] at hk; omega

/-- 'b = append(b, x, y)'. -/
theorem append_byte2 {ops : Array Oper} {rest : List Oper} {o : Oper} {a : Act} {Q : Exit → Act → World → Prop} (w : World) (hg : o.guard = none) (s x : Operand)
    (ho : o.op = .call { callee := .builtin .append, args := #[s, x], argTypes := #[50, 50] })
    (base : Nat) (v : Value) (l : List UInt8) (n m : Int) (hs : a.eval s = v) (hx : a.eval x = .slice (some ⟨w.heap.size, 0, none⟩) 2 2)
    (hown : OwnB w base v l) (hn : 0 ≤ n ∧ n < 256) (hm : 0 ≤ m ∧ m < 256) (hlen : l.length < 1099511627776) (hbase : base ≤ w.heap.size)
    (h : ∀ v' w', OwnB w' base v' (l ++ [b8 n, b8 m]) → Below base w w' → wpList Tryd.prog ops Q rest (a.put o.dst v') w') :
    wpList Tryd.prog ops Q (o :: rest) a (w.alloc (.cells #[.int .u8 n, .int .u8 m] 5)) := by
  obtain ⟨i, hi, hz, hsz, hby⟩ := info_parts info_u8
  refine wpList_append_own _ hg s x 50 ho base 5 i (.int .u8 0) 1 1 Tryd.underlying50 hi hz hsz hby rfl (by decide) v l.length (Lib.byteCells l) hs (hown.alloc _)
    ⟨w.heap.size, 0, none⟩ 2 2 [.int .u8 n, .int .u8 m] hx rfl ?_ ?_ (by unfold maxLen; omega) (by omega) (by simp; omega) ?_
  · intro j u hj
    match j, hj with
    | 0, hj => simp at hj; subst hj; simp [Addr.add]
    | 1, hj => simp at hj; subst hj; simp [Addr.add]
  · intro u hu; simp at hu; rcases hu with rfl | rfl <;> rfl
  · intro v' w' h1 h2 _
    refine h v' w' ?_ ?_
    · unfold OwnB
      have e : Lib.byteCells (l ++ [b8 n, b8 m]) = Lib.byteCells l ++ [.int .u8 n, .int .u8 m] := by simp [Lib.byteCells, b8_val hn.1 hn.2, b8_val hm.1 hm.2]
      rw [e, List.length_append]
      exact h1
    · refine ((Below.refl base w).alloc hbase _).grown h2 (by simp; omega) ?_
      intro k hk
      rcases hown.2 with ⟨rfl, _⟩ | ⟨g, cap, cur, rfl, hbg, _⟩
      · simp [Value.ownBlock] at hk
      · simp [Value.ownBlock] at hk; omega

/-- 'b = append(b, x)' as a step of a region that draws its order. -/
theorem step_append_byte {ops : Array Oper} {o : Oper} {a : Act} {w : World} {K : Act → World → Prop} {Q : Exit → Act → World → Prop} {E : Prop} (hg : o.guard = none) (s x : Operand)
    (ho : o.op = .call { callee := .builtin .append, args := #[s, x], argTypes := #[50, 50] })
    (base : Nat) (v : Value) (l : List UInt8) (n : Int) (g0 : Nat) (hs : a.eval s = v) (hx : a.eval x = .slice (some ⟨g0, 0, none⟩) 1 1)
    (hown : OwnB w base v l) (hcell : w.cell? ⟨g0, 0, none⟩ = some (.int .u8 n)) (hn : 0 ≤ n ∧ n < 256) (hlen : l.length < 1099511627776) (hbase : base ≤ w.heap.size)
    (h : ∀ v' w', OwnB w' base v' (l ++ [b8 n]) → Below base w w' → K (a.put o.dst v') w') :
    if Region.wanted o (yielded ops a.tmps) = true then Oper.wp Tryd.prog o a w K Q else E := by
  have hw : Region.wanted o (yielded ops a.tmps) = true := by simp [Region.wanted, hg]
  rw [if_pos hw]
  obtain ⟨i, hi, hz, hsz, hby⟩ := info_parts info_u8
  refine wp_append_own w s x 50 ho base 5 i (.int .u8 0) 1 1 Tryd.underlying50 hi hz hsz hby rfl (by decide) v l.length (Lib.byteCells l) hs hown
    ⟨g0, 0, none⟩ 1 1 [.int .u8 n] hx rfl ?_ ?_ (by unfold maxLen; omega) (by omega) hbase ?_
  · intro j u hj
    match j, hj with
    | 0, hj => simp at hj; subst hj; simpa [Addr.add] using hcell
  · intro u hu; simp at hu; subst hu; rfl
  · intro v' w' h1 h2 _
    refine h v' w' ?_ ?_
    · unfold OwnB
      have e : Lib.byteCells (l ++ [b8 n]) = Lib.byteCells l ++ [.int .u8 n] := by simp [Lib.byteCells, b8_val hn.1 hn.2]
      rw [e, List.length_append]
      exact h1
    · refine (Below.refl base w).grown h2 hbase ?_
      intro k hk
      rcases hown.2 with ⟨rfl, _⟩ | ⟨g, cap, cur, rfl, hbg, _⟩
      · simp [Value.ownBlock] at hk
      · simp [Value.ownBlock] at hk; omega

/-- 'b = append(b, x, y)' as a step of a region that draws its order. -/
theorem step_append_byte2 {ops : Array Oper} {o : Oper} {a : Act} {w : World} {K : Act → World → Prop} {Q : Exit → Act → World → Prop} {E : Prop} (hg : o.guard = none) (s x : Operand)
    (ho : o.op = .call { callee := .builtin .append, args := #[s, x], argTypes := #[50, 50] })
    (base : Nat) (v : Value) (l : List UInt8) (n m : Int) (g0 : Nat) (hs : a.eval s = v) (hx : a.eval x = .slice (some ⟨g0, 0, none⟩) 2 2)
    (hown : OwnB w base v l) (hcell : w.cell? ⟨g0, 0, none⟩ = some (.int .u8 n)) (hcell2 : w.cell? ⟨g0, 1, none⟩ = some (.int .u8 m)) (hn : 0 ≤ n ∧ n < 256) (hm : 0 ≤ m ∧ m < 256) (hlen : l.length < 1099511627776) (hbase : base ≤ w.heap.size)
    (h : ∀ v' w', OwnB w' base v' (l ++ [b8 n, b8 m]) → Below base w w' → K (a.put o.dst v') w') :
    if Region.wanted o (yielded ops a.tmps) = true then Oper.wp Tryd.prog o a w K Q else E := by
  have hw : Region.wanted o (yielded ops a.tmps) = true := by simp [Region.wanted, hg]
  rw [if_pos hw]
  obtain ⟨i, hi, hz, hsz, hby⟩ := info_parts info_u8
  refine wp_append_own w s x 50 ho base 5 i (.int .u8 0) 1 1 Tryd.underlying50 hi hz hsz hby rfl (by decide) v l.length (Lib.byteCells l) hs hown
    ⟨g0, 0, none⟩ 2 2 [.int .u8 n, .int .u8 m] hx rfl ?_ ?_ (by unfold maxLen; omega) (by omega) hbase ?_
  · intro j u hj
    match j, hj with
    | 0, hj => simp at hj; subst hj; simpa [Addr.add] using hcell
    | 1, hj => simp at hj; subst hj; simpa [Addr.add] using hcell2
  · intro u hu; simp at hu; rcases hu with rfl | rfl <;> rfl
  · intro v' w' h1 h2 _
    refine h v' w' ?_ ?_
    · unfold OwnB
      have e : Lib.byteCells (l ++ [b8 n, b8 m]) = Lib.byteCells l ++ [.int .u8 n, .int .u8 m] := by simp [Lib.byteCells, b8_val hn.1 hn.2, b8_val hm.1 hm.2]
      rw [e, List.length_append]
      exact h1
    · refine (Below.refl base w).grown h2 hbase ?_
      intro k hk
      rcases hown.2 with ⟨rfl, _⟩ | ⟨g, cap, cur, rfl, hbg, _⟩
      · simp [Value.ownBlock] at hk
      · simp [Value.ownBlock] at hk; omega

/-- Block g begins with the bytes l, none of them frozen. -/
def RowB (w : World) (g : Nat) (l : List UInt8) : Prop :=
  g < w.heap.size ∧ ∀ i (h : i < l.length), w.cell? ⟨g, i, none⟩ = some (.int .u8 (l[i].toNat : Int)) ∧ w.frozen? ⟨g, i, none⟩ = false
theorem RowB.set_ {w : World} {g : Nat} {l : List UInt8} (h : RowB w g l) (i : Nat) {n : Int} (hn : 0 ≤ n ∧ n < 256) : RowB (w.setCell ⟨g, i, none⟩ (.int .u8 n)) g (l.set i (b8 n)) := by
  refine ⟨by simpa [World.setCell] using h.1, fun j hj => ?_⟩
  have hj' : j < l.length := by simpa using hj
  obtain ⟨hc, hf⟩ := h.2 j hj'
  constructor
  · by_cases e : i = j
    · subst e
      rw [World.cell?_setCell_same (h := hc)]
      simp [b8_val hn.1 hn.2]
    · rw [World.cell?_setCell_other _ _ _ _ (by intro h'; exact e (by injection h')), hc]
      simp [List.getElem_set_ne e]
  · rw [World.frozen?_setCell]; exact hf
theorem RowB.below {w w' : World} {g : Nat} {l : List UInt8} (h : RowB w g l) (hb : Below w.heap.size w w') : RowB w' g l :=
  ⟨Nat.lt_of_lt_of_le h.1 hb.size, fun i hi => ⟨(hb.cell (p := ⟨g, i, none⟩) h.1).trans (h.2 i hi).1, (hb.frozen (p := ⟨g, i, none⟩) h.1).trans (h.2 i hi).2⟩⟩
theorem RowB.drew {w : World} {g : Nat} {l : List UInt8} (h : RowB w g l) : RowB w.drew g l := h
theorem RowB.str {w : World} {g : Nat} {l : List UInt8} (h : RowB w g l) (cap n : Nat) (hn : n = l.length) :
    (convert 50 9 (.slice (some ⟨g, 0, none⟩) n cap)).run Tryd.prog w = .ok (.string ⟨l.toArray⟩) w := by
  subst hn
  refine run_convert_bytes_back w _ _ _ ⟨g, 0, none⟩ cap l Tryd.underlying50 Tryd.underlying5 Tryd.underlying9 ?_
  intro j hj
  rw [Addr.add_lit, Nat.zero_add]
  exact (h.2 j hj).1
theorem RowB.bytes (w : World) (s : ByteArray) : RowB (Lib.bytesWorld w 5 s) w.heap.size s.data.toList := by
  refine ⟨by rw [Lib.bytesWorld_size]; omega, fun i hi => ?_⟩
  have hs : i < s.size := by simpa using hi
  constructor
  · rw [Lib.bytesWorld_cell _ _ _ _ hs]
    simp [List.getD, hs]
  · have hsz : i < (Lib.bytesCells w 5 s).size := by
      have : s.data.size = s.size := rfl
      simp [Lib.bytesCells]; omega
    simp [World.frozen?, Lib.bytesWorld_at_new]
    omega
theorem bytesWorld_below (w : World) (e : TypeId) (s : ByteArray) : Below w.heap.size w (Lib.bytesWorld w e s) := by
  refine ⟨?_, ?_, ?_, by rw [Lib.bytesWorld_size]; omega, fun k hk => Lib.bytesWorld_at_old w e s k hk⟩ <;> rfl
theorem conv_str (s : ByteArray) (w : World) : (convert 9 50 (.string s)).run Tryd.prog w = .ok (.slice (some ⟨w.heap.size, 0, none⟩) s.size (grownCap w s.size 0 5)) (Lib.bytesWorld w 5 s) :=
  Lib.run_convert_string_bytes w _ _ _ s Tryd.underlying9 Tryd.underlying50 Tryd.underlying5

/-- 'string([]byte{x})'. -/
theorem conv_one (w : World) (n : Int) (hn : 0 ≤ n ∧ n < 256) :
    (convert 50 9 (.slice (some ⟨w.heap.size, 0, none⟩) 1 1)).run Tryd.prog (w.alloc (.cells #[.int .u8 n] 5)) = .ok (.string ⟨#[b8 n]⟩) (w.alloc (.cells #[.int .u8 n] 5)) := by
  refine run_convert_bytes_back _ _ _ _ ⟨w.heap.size, 0, none⟩ 1 [b8 n] Tryd.underlying50 Tryd.underlying5 Tryd.underlying9 ?_
  intro j hj
  match j, hj with
  | 0, _ => simp [Addr.add, b8_val hn.1 hn.2]

/-- 'string([]byte{x, y})'. -/
theorem conv_two (w : World) (n m : Int) (hn : 0 ≤ n ∧ n < 256) (hm : 0 ≤ m ∧ m < 256) :
    (convert 50 9 (.slice (some ⟨w.heap.size, 0, none⟩) 2 2)).run Tryd.prog (w.alloc (.cells #[.int .u8 n, .int .u8 m] 5)) = .ok (.string ⟨#[b8 n, b8 m]⟩) (w.alloc (.cells #[.int .u8 n, .int .u8 m] 5)) := by
  refine run_convert_bytes_back _ _ _ _ ⟨w.heap.size, 0, none⟩ 2 [b8 n, b8 m] Tryd.underlying50 Tryd.underlying5 Tryd.underlying9 ?_
  intro j hj
  match j, hj with
  | 0, _ => simp [Addr.add, b8_val hn.1 hn.2]
  | 1, _ => simp [Addr.add, b8_val hm.1 hm.2]

/-- Steps put together. -/
theorem below_st {B : Nat} {w w1 w2 : World} (h : Below B w w1) (h2 : Below w1.heap.size w1 w2) (hB : B ≤ w.heap.size) : Below B w w2 := h.trans (h2.mono (Nat.le_trans hB h.size))
theorem below_al {B : Nat} {w w1 w2 : World} {o : Obj} (h : Below B w w1) (h2 : Below (w1.alloc o).heap.size (w1.alloc o) w2) (hB : B ≤ w.heap.size) : Below B w w2 := below_st (h.alloc (Nat.le_trans hB h.size) o) h2 hB
theorem cells2_set {w : World} {g : Nat} {a b : Value} (h0 : w.cell? ⟨g, 0, none⟩ = some a) (h1 : w.cell? ⟨g, 1, none⟩ = some b) :
    (∀ x, (w.setCell ⟨g, 0, none⟩ x).cell? ⟨g, 0, none⟩ = some x) ∧ (∀ x y, ((w.setCell ⟨g, 0, none⟩ x).setCell ⟨g, 1, none⟩ y).cell? ⟨g, 1, none⟩ = some y) := by
  refine ⟨fun x => World.cell?_setCell_same _ _ _ h0, fun x y => ?_⟩
  exact World.cell?_setCell_same _ _ _ ((World.cell?_setCell_other w ⟨g, 0, none⟩ ⟨g, 1, none⟩ x (by intro h'; injection h' with _ h2; cases h2)).trans h1)
/-- A region that draws, reads and calls quietly, and ends in a forced tail: walked in a world that is named. -/
theorem still_tail2 {P : Program} {id : Nat} {Q : Exit → Act → World → Prop} {a : Act} {w : World} {l : List Oper} (n : Nat) (hm : P.follows .mixedOrders = true) (hB : Region.lexTailB .any l.toArray n = true)
    (h : ∀ w' : World, Below w.heap.size w w' → w'.heap.size = w.heap.size → (∀ b o, w'.cell? ⟨b, o, none⟩ = w.cell? ⟨b, o, none⟩) → (∀ b o, w'.frozen? ⟨b, o, none⟩ = w.frozen? ⟨b, o, none⟩) →
      wpStill P l.toArray w' (fun a' => wpList P l.toArray Q (l.drop n) a' w') (l.take n) a) : (Code.region id l.toArray true).wp P Q a w :=
  wp_region_still_tail n hm hB (h { w with drawn := w.drawn + 1 } ⟨rfl, rfl, rfl, Nat.le_refl _, fun _ _ => rfl⟩ rfl (fun _ _ => rfl) (fun _ _ => rfl))
theorem cells2_aside {w : World} {g g' : Nat} {a b : Value} (hne : g ≠ g') (h0 : w.cell? ⟨g, 0, none⟩ = some a) (h1 : w.cell? ⟨g, 1, none⟩ = some b) (x y : Value) :
    ((w.setCell ⟨g', 0, none⟩ x).setCell ⟨g', 1, none⟩ y).cell? ⟨g, 0, none⟩ = some a ∧ ((w.setCell ⟨g', 0, none⟩ x).setCell ⟨g', 1, none⟩ y).cell? ⟨g, 1, none⟩ = some b := by
  constructor
  · rw [World.cell?_setCell_other _ _ _ _ (by intro h'; injection h' with h2; exact hne h2.symm), World.cell?_setCell_other _ _ _ _ (by intro h'; injection h' with h2; exact hne h2.symm), h0]
  · rw [World.cell?_setCell_other _ _ _ _ (by intro h'; injection h' with h2; exact hne h2.symm), World.cell?_setCell_other _ _ _ _ (by intro h'; injection h' with h2; exact hne h2.symm), h1]
theorem cells2_set_al {w : World} {g : Nat} {a b : Value} (hg : g < w.heap.size) (h0 : w.cell? ⟨g, 0, none⟩ = some a) (h1 : w.cell? ⟨g, 1, none⟩ = some b) :
    (∀ x y o, (((w.setCell ⟨g, 0, none⟩ x).setCell ⟨g, 1, none⟩ y).alloc o).cell? ⟨g, 0, none⟩ = some x) ∧ (∀ x y o, (((w.setCell ⟨g, 0, none⟩ x).setCell ⟨g, 1, none⟩ y).alloc o).cell? ⟨g, 1, none⟩ = some y) := by
  obtain ⟨e0, e1⟩ := cells2_set h0 h1
  have hs : ∀ x y, g < ((w.setCell ⟨g, 0, none⟩ x).setCell ⟨g, 1, none⟩ y).heap.size := fun x y => by simpa [World.setCell] using hg
  refine ⟨fun x y o => ?_, fun x y o => ?_⟩
  · rw [((Below.refl _ _).alloc (Nat.le_refl _) o).cell (p := ⟨g, 0, none⟩) (hs x y), World.cell?_setCell_other _ _ _ _ (by intro h'; injection h' with _ h2; cases h2)]
    exact e0 x
  · rw [((Below.refl _ _).alloc (Nat.le_refl _) o).cell (p := ⟨g, 1, none⟩) (hs x y)]
    exact e1 x y
end Go.Proofs.YtfdcainjppljhaaDoor
