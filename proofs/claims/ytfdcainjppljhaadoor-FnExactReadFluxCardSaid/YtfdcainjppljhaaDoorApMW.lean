/- Appending to a row of bytes that a conversion of a string has made (it bears a mark behind its end). -/
import Derived.Test.YtfdcainjppljhaaDoorMem
import Derived.Lib.AppendStr
import Derived.Lib.ConvBytes
import Derived.Laws.CopyRow
namespace Go.Proofs.YtfdcainjppljhaaDoor
open Go.RowKit
set_option linter.unusedVariables false
/-- A row of bytes of the call's own; what is frozen of it, if anything, lies behind its end. -/
def RowM (w : World) (g cap : Nat) (l : List UInt8) : Prop :=
  ∃ (cur : Array Value) (fz : Nat × Nat), w.heap[g]? = some (.cells cur 5 fz) ∧ (fz.2 = 0 ∨ cur.size ≤ fz.1) ∧ cur.size = cap ∧ cap ≤ maxLen ∧ l.length ≤ cap ∧ cur.toList.take l.length = Lib.byteCells l
def OwnM (w : World) (base : Nat) (v : Value) (l : List UInt8) : Prop := ∃ g cap, v = .slice (some ⟨g, 0, none⟩) l.length cap ∧ base ≤ g ∧ RowM w g cap l
theorem RowM.lt {w : World} {g cap : Nat} {l : List UInt8} (h : RowM w g cap l) : g < w.heap.size := by
  obtain ⟨cur, fz, hg, -⟩ := h
  exact (Array.getElem?_eq_some_iff.1 hg).1
theorem OwnM.below {w w' : World} {base : Nat} {v : Value} {l : List UInt8} (h : OwnM w base v l) (hb : Below w.heap.size w w') : OwnM w' base v l := by
  obtain ⟨g, cap, hv, hg, hr⟩ := h
  have hl := hr.lt
  obtain ⟨cur, fz, hh, rest⟩ := hr
  exact ⟨g, cap, hv, hg, cur, fz, (hb.block g hl).trans hh, rest⟩
theorem RowM.cell {w : World} {g cap : Nat} {l : List UInt8} (h : RowM w g cap l) (j : Nat) (u : Value) (hj : (Lib.byteCells l)[j]? = some u) : w.cell? ((⟨g, 0, none⟩ : Addr).add j) = some u := by
  obtain ⟨cur, fz, hh, -, -, -, -, ht⟩ := h
  rw [Addr.add_lit, Nat.zero_add, cell_of_row w g j cur _ fz hh]
  rw [← ht, List.getElem?_take] at hj
  split at hj
  · simpa using hj
  · cases hj
theorem bcells_len (l : List UInt8) : (Lib.byteCells l).length = l.length := by simp [Lib.byteCells]
theorem OwnM.str {w : World} {base : Nat} {v : Value} {l : List UInt8} (h : OwnM w base v l) :
    (convert 50 9 v).run Tryd.prog w = .ok (.string ⟨l.toArray⟩) w := by
  obtain ⟨g, cap, rfl, -, hr⟩ := h
  refine run_convert_bytes_back w _ _ _ ⟨g, 0, none⟩ cap l Tryd.underlying50 Tryd.underlying5 Tryd.underlying9 ?_
  intro j hj
  exact hr.cell j _ (by simp [Lib.byteCells, hj])
theorem OwnM.conv (w : World) (s : ByteArray) (hs : s.size ≤ 1000000000) : OwnM (Lib.bytesWorld w 5 s) w.heap.size (.slice (some ⟨w.heap.size, 0, none⟩) s.size (grownCap w s.size 0 5)) s.data.toList := by
  have hge := grownCap_ge w s.size 0 5
  have hle := grownCap_le_maxLen w s.size 0 5 (by unfold maxLen; omega)
  have hsz : (Lib.bytesCells w 5 s).size = grownCap w s.size 0 5 := by
    unfold Lib.bytesCells
    rw [Array.size_append, Array.size_map, Array.size_replicate]
    show s.size + (grownCap w s.size 0 5 - s.size) = _
    omega
  have hl : s.data.toList.length = s.size := by simp
  refine ⟨_, grownCap w s.size 0 5, by rw [hl], Nat.le_refl _, _, _, Lib.bytesWorld_at_new w _ s, .inr (Nat.le_refl _), hsz, hle, by omega, ?_⟩
  unfold Lib.bytesCells Lib.byteCells
  rw [Array.toList_append, List.take_append_of_le_length (by simp), List.take_of_length_le (by simp)]
  simp
/-- The bytes are laid behind the elements. -/
theorem store_M (g o : Nat) (fz : Nat × Nat) : ∀ (vs : List Value) (i : Nat) (cur : Array Value) (w : World), w.heap[g]? = some (.cells cur 5 fz) → (fz.2 = 0 ∨ cur.size ≤ fz.1) → o + i + vs.length ≤ cur.size → (∀ v ∈ vs, v.oneCell' = true) →
    ∃ cur' : Array Value, (storeCells ⟨g, o, none⟩ vs i).run Tryd.prog w = .ok () (w.setRow g cur') ∧ cur'.size = cur.size ∧ cur'.toList.take (o + i + vs.length) = cur.toList.take (o + i) ++ vs
  | [], i, cur, w, hg, _, _, _ => ⟨cur, by simp only [storeCells]; rw [setRow_self w g cur _ fz hg]; rfl, rfl, by simp⟩
  | v :: rest, i, cur, w, hg, hfz, hl, h1 => by
    have hi : o + i < cur.size := by simp at hl; omega
    have hadd : (⟨g, o, none⟩ : Addr).add i = ⟨g, o + i, none⟩ := by unfold Addr.add; split <;> simp_all
    have hcell : w.cell? ⟨g, o + i, none⟩ = some cur[o + i] := by simp [World.cell?, hg, hi]
    have hfro : w.frozen? ⟨g, o + i, none⟩ = false := by
      obtain ⟨lo, hi'⟩ := fz
      simp only [World.frozen?, hg, Bool.and_eq_false_iff, decide_eq_false_iff_not]
      simp only at hfz
      omega
    have hst : (store ((⟨g, o, none⟩ : Addr).add i) v).run Tryd.prog w = .ok () (w.setRow g (cur.setIfInBounds (o + i) v)) := by
      rw [hadd, run_store Tryd.prog w _ v _ (h1 v (by simp)), hcell]
      simp [hfro, setCell_eq_setRow w g (o + i) cur _ fz v hg]
    obtain ⟨cur', h2, h3, h4⟩ := store_M g o fz rest (i + 1) (cur.setIfInBounds (o + i) v) (w.setRow g (cur.setIfInBounds (o + i) v)) (setRow_heap w g cur _ _ _ hg) (by simpa using hfz) (by simp at hl ⊢; omega) (fun x hx => h1 x (by simp [hx]))
    refine ⟨cur', ?_, by simpa using h3, ?_⟩
    · simp only [storeCells, Sem.run_bind, hst, Result.andThen_ok, h2, setRow_setRow]
    · have e1 : o + i + (v :: rest).length = o + (i + 1) + rest.length := by simp; omega
      rw [e1, h4, show o + (i + 1) = o + i + 1 by omega, Array.toList_setIfInBounds, List.take_succ_eq_append_getElem (by simpa using hi)]
      simp [List.take_set_of_le]
theorem byteCells_app (a b : List UInt8) : Lib.byteCells (a ++ b) = Lib.byteCells a ++ Lib.byteCells b := by simp [Lib.byteCells]
theorem strCells_bytes (s : ByteArray) : Lib.strCells s = Lib.byteCells s.data.toList := by unfold Lib.strCells Lib.byteCells; simp
/-- The row that 'append' has made anew. -/
theorem OwnM.fresh (w : World) (base : Nat) (l m : List UInt8) (cap : Nat) (hbase : base ≤ w.heap.size) (h63 : l.length + m.length ≤ 1000000000) (hsz : (Value.int .u8 0).cells.size = 1) :
    OwnM (w.drew.alloc (.cells ((Lib.byteCells l).toArray ++ (Lib.byteCells m).toArray ++ Builtin.zeroCells (Value.int .u8 0).cells (grownCap w (l.length + m.length) cap 5 - (l.length + m.length))) 5)) base
      (.slice (some ⟨w.heap.size, 0, none⟩) (l.length + m.length) (grownCap w (l.length + m.length) cap 5)) (l ++ m) := by
  have hge := grownCap_ge w (l.length + m.length) cap 5
  have hle := grownCap_le_maxLen w (l.length + m.length) cap 5 (by unfold maxLen; omega)
  refine ⟨w.heap.size, _, by rw [List.length_append], hbase, _, (0, 0), heap_alloc_new w.drew _, .inl rfl, ?_, hle, by rw [List.length_append]; exact hge, ?_⟩
  · simp only [Array.size_append, List.size_toArray, size_zeroCells, hsz, bcells_len]
    omega
  · rw [List.length_append, byteCells_app, Array.toList_append, Array.toList_append]
    rw [List.take_append_of_le_length (by simp [bcells_len]), List.take_of_length_le (by simp [bcells_len])]
theorem below_setRow (w : World) (g base : Nat) (cs : Array Value) (hg : base ≤ g) : Below base w (w.setRow g cs) :=
  ⟨rfl, rfl, rfl, by simp [World.setRow], fun k hk => setRow_other w g k cs (by omega)⟩
theorem below_drewAlloc (w : World) (base : Nat) (o : Obj) (hb : base ≤ w.heap.size) : Below base w (w.drew.alloc o) := ((Below.refl base w).drew).alloc hb o
/-- 'append(b, s...)', s a string. -/
theorem append_strM {ops : Array Oper} {rest : List Oper} {o : Oper} {a : Act} {Q : Exit → Act → World → Prop} (w : World) (hgd : o.guard = none) (sl x : Operand)
    (ho : o.op = .call { callee := .builtin .append, args := #[sl, x], argTypes := #[50, 9] })
    (base : Nat) (v : Value) (l : List UInt8) (s : ByteArray) (hs : a.eval sl = v) (hx : a.eval x = .string s) (hown : OwnM w base v l) (hlen : l.length + s.size ≤ 1000000000) (hbase : base ≤ w.heap.size)
    (h : ∀ v' w', OwnM w' base v' (l ++ s.data.toList) → Below base w w' → wpList Tryd.prog ops Q rest (a.put o.dst v') w') : wpList Tryd.prog ops Q (o :: rest) a w := by
  obtain ⟨i, hi, hz, hsz, hby⟩ := info_parts info_u8
  have hss : s.data.toList.length = s.size := by simp
  have key : ∃ v' w', (Builtin.append_ #[50, 9] o.type #[v, .string s]).run Tryd.prog w = .ok v' w' ∧ OwnM w' base v' (l ++ s.data.toList) ∧ Below base w w' := by
    obtain ⟨g, cap, rfl, hg, hr⟩ := hown
    have hcell := hr.cell
    by_cases hroom : l.length + s.size ≤ cap
    · obtain ⟨cur, fz, hh, hfz, hcs, hcm, hlc, ht⟩ := hr
      have hf := Lib.run_firstCells_string (P := Tryd.prog) w 1 s
      obtain ⟨cur', h2, h3, h4⟩ := store_M g l.length fz (Lib.strCells s) 0 cur w hh hfz (by rw [Lib.strCells_length]; omega) (Lib.strCells_oneCell s)
      refine ⟨.slice (some ⟨g, 0, none⟩) (l.length + s.size) cap, w.setRow g cur', ?_, ⟨g, cap, by rw [List.length_append, hss], hg, cur', fz, setRow_heap w g cur _ _ _ hh, by rw [h3]; exact hfz, by rw [h3]; exact hcs, hcm, by rw [List.length_append, hss]; exact hroom, ?_⟩, below_setRow w g base cur' hg⟩
      · simp [Builtin.append_, run_underlying Tryd.underlying50, run_underlying Tryd.underlying9, sizeOf, typeInfo, hi, hsz, Builtin.lenOf, hroom, hf, Addr.add_lit, h2]
      · rw [List.length_append, hss, byteCells_app, ← strCells_bytes, ← ht]
        rw [Lib.strCells_length] at h4
        exact h4
    · have hr2 := Lib.run_append_grow_string (P := Tryd.prog) w 50 9 o.type 5 i (.int .u8 0) Tryd.underlying50 Tryd.underlying9 hi hz ⟨g, 0, none⟩ l.length cap (Lib.byteCells l) (by rw [hsz, bcells_len, Nat.mul_one]) hcell s (by omega) (by omega) (by rw [hby]; exact growslice_fits (by omega) (by omega))
      refine ⟨_, _, hr2, ?_, below_drewAlloc w base _ hbase⟩
      have hF := OwnM.fresh w base l s.data.toList cap hbase (by omega) rfl
      rw [hss] at hF
      rw [strCells_bytes]
      exact hF
  obtain ⟨v', w', hr, h2, h3⟩ := key
  refine wpList_plain hgd fun K hK => ?_
  unfold Oper.wp execOp
  simp only [ho, resolve, invoke, builtin, Sem.run_bind, Sem.run_pure, Result.andThen_ok, List.map_toArray, List.map_cons, List.map_nil, hs, hx, hr]
  exact hK _ _ (h v' w' h2 h3)
/-- 'append(b, x)', x a byte. -/
theorem append_byteM {ops : Array Oper} {rest : List Oper} {o : Oper} {a : Act} {Q : Exit → Act → World → Prop} (w : World) (hgd : o.guard = none) (sl x : Operand)
    (ho : o.op = .call { callee := .builtin .append, args := #[sl, x], argTypes := #[50, 50] })
    (base : Nat) (v : Value) (l : List UInt8) (n : UInt8) (hs : a.eval sl = v) (hx : a.eval x = .slice (some ⟨w.heap.size, 0, none⟩) 1 1) (hown : OwnM w base v l) (hlen : l.length + 1 ≤ 1000000000) (hbase : base ≤ w.heap.size)
    (h : ∀ v' w', OwnM w' base v' (l ++ [n]) → Below base w w' → wpList Tryd.prog ops Q rest (a.put o.dst v') w') : wpList Tryd.prog ops Q (o :: rest) a (w.alloc (.cells #[.int .u8 n.toNat] 5)) := by
  obtain ⟨i, hi, hz, hsz, hby⟩ := info_parts info_u8
  have hown2 := hown.below ((Below.refl w.heap.size w).alloc (Nat.le_refl _) (.cells #[.int .u8 n.toNat] 5))
  have hbl : Below base w (w.alloc (.cells #[.int .u8 n.toNat] 5)) := (Below.refl base w).alloc hbase _
  have hB := Blk.new w 5 #[.int .u8 n.toNat]
  have hbase2 : base ≤ (w.alloc (.cells #[.int .u8 n.toNat] 5)).heap.size := by simp; omega
  generalize w.alloc (.cells #[.int .u8 n.toNat] 5) = w1 at hown2 hbl hB hbase2 ⊢
  have hnews : ∀ j u, (Lib.byteCells [n])[j]? = some u → w1.cell? ((⟨w.heap.size, 0, none⟩ : Addr).add j) = some u := by
    intro j u hj
    match j, hj with
    | 0, hj => simp [Lib.byteCells] at hj; subst hj; rw [Addr.add_zero']; exact hB.cell 0
  have key : ∃ v' w', (Builtin.append_ #[50, 50] o.type #[v, .slice (some ⟨w.heap.size, 0, none⟩) 1 1]).run Tryd.prog w1 = .ok v' w' ∧ OwnM w' base v' (l ++ [n]) ∧ Below base w1 w' := by
    obtain ⟨g, cap, rfl, hg, hr⟩ := hown2
    have hcell := hr.cell
    by_cases hroom : l.length + 1 ≤ cap
    · obtain ⟨cur, fz, hh, hfz, hcs, hcm, hlc, ht⟩ := hr
      have hf := run_firstCells_some (P := Tryd.prog) w1 1 1 ⟨w.heap.size, 0, none⟩ 1 1 (Lib.byteCells [n]) rfl hnews
      obtain ⟨cur', h2, h3, h4⟩ := store_M g l.length fz (Lib.byteCells [n]) 0 cur w1 hh hfz (by rw [bcells_len]; simp; omega) (by simp [Lib.byteCells]; rfl)
      refine ⟨.slice (some ⟨g, 0, none⟩) (l.length + 1) cap, w1.setRow g cur', ?_, ⟨g, cap, by rw [List.length_append]; rfl, hg, cur', fz, setRow_heap w1 g cur _ _ _ hh, by rw [h3]; exact hfz, by rw [h3]; exact hcs, hcm, by rw [List.length_append]; exact hroom, ?_⟩, below_setRow w1 g base cur' hg⟩
      · simp [Builtin.append_, run_underlying Tryd.underlying50, sizeOf, typeInfo, hi, hsz, Builtin.lenOf, hroom, hf, Addr.add_lit, h2]
      · rw [List.length_append, byteCells_app, ← ht]
        exact h4
    · have hr2 := run_append_grow (P := Tryd.prog) w1 50 o.type 5 i (.int .u8 0) Tryd.underlying50 hi hz ⟨g, 0, none⟩ l.length cap (Lib.byteCells l) (by rw [hsz, bcells_len, Nat.mul_one]) hcell ⟨w.heap.size, 0, none⟩ 1 1 (Lib.byteCells [n]) (by rw [hsz]; rfl) hnews (by omega) (by omega) (by rw [hby]; exact growslice_fits (by omega) (by omega))
      refine ⟨_, _, hr2, ?_, below_drewAlloc w1 base _ hbase2⟩
      exact OwnM.fresh w1 base l [n] cap hbase2 (by simp; omega) rfl
  obtain ⟨v', w', hr, h2, h3⟩ := key
  refine wpList_plain hgd fun K hK => ?_
  unfold Oper.wp execOp
  simp only [ho, resolve, invoke, builtin, Sem.run_bind, Sem.run_pure, Result.andThen_ok, List.map_toArray, List.map_cons, List.map_nil, hs, hx, hr]
  exact hK _ _ (h v' w' h2 (hbl.trans h3))
end Go.Proofs.YtfdcainjppljhaaDoor
