/- Marks: a list written over with rising numbers, and looked at again. -/
import Derived.Test.YtfdcainjppljhaaDoorInts
import Derived.Handy
namespace Go.Proofs.YtfdcainjppljhaaDoor
open Go.RowKit
/-- Every old block but one is as it was. -/
structure Aside (o : Option Nat) (w w' : World) : Prop where
  os : w'.os = w.os
  tape : w'.tape = w.tape
  output : w'.output = w.output
  size : w.heap.size ≤ w'.heap.size
  block : ∀ k, k < w.heap.size → o ≠ some k → w'.heap[k]? = w.heap[k]?
theorem Aside.refl (o : Option Nat) (w : World) : Aside o w w := ⟨rfl, rfl, rfl, Nat.le_refl _, fun _ _ _ => rfl⟩
theorem Aside.trans {o : Option Nat} {a b c : World} (h : Aside o a b) (k : Aside o b c) : Aside o a c :=
  ⟨k.os.trans h.os, k.tape.trans h.tape, k.output.trans h.output, Nat.le_trans h.size k.size, fun i hi ho => (k.block i (Nat.lt_of_lt_of_le hi h.size) ho).trans (h.block i hi ho)⟩
theorem Aside.of_below {o : Option Nat} {w w' : World} (h : Below w.heap.size w w') : Aside o w w' := ⟨h.os, h.tape, h.output, h.size, fun k hk _ => h.block k hk⟩
theorem Aside.below {o : Option Nat} {w w' : World} (h : Aside o w w') {B : Nat} (hB : B ≤ w.heap.size) (ho : ∀ g, o = some g → B ≤ g) : Below B w w' :=
  ⟨h.os, h.tape, h.output, h.size, fun k hk => h.block k (by omega) (fun e => by have := ho k e; omega)⟩
theorem Aside.setCell {w : World} (g i : Nat) (v : Value) : Aside (some g) w (w.setCell ⟨g, i, none⟩ v) :=
  ⟨rfl, rfl, rfl, by simp [World.setCell], fun k _ hk => Below.heap_setCell _ _ _ _ (fun e => hk (by rw [e]))⟩
theorem Blk.asides {o : Option Nat} {w w' : World} {b : Nat} {t : TypeId} {cs : Array Value} (h : Blk w b t cs) (ha : Aside o w w') (hne : o ≠ some b) : Blk w' b t cs := (ha.block b h.lt hne).trans h
theorem RowI.asides {o : Option Nat} {w w' : World} {g : Nat} {l : List Int} (h : RowI w g l) (ha : Aside o w w') (hne : o ≠ some g) : RowI w' g l := by
  have e := ha.block g h.1 hne
  refine ⟨Nat.lt_of_lt_of_le h.1 ha.size, fun i hi => ?_⟩
  obtain ⟨h1, h2⟩ := h.2 i hi
  constructor
  · rw [← h1]; simp only [World.cell?, e]
  · rw [← h2]; simp only [World.frozen?, e]
theorem OwnS.asides {o : Option Nat} {w w' : World} {base : Nat} {p : Option Addr} {l : List Int} (h : OwnS w base p l) (ha : Aside o w w') (hne : l ≠ [] → ∀ g, p = some ⟨g, 0, none⟩ → o ≠ some g) : OwnS w' base p l := by
  intro hl
  obtain ⟨g, rfl, hg, hr⟩ := h hl
  exact ⟨g, rfl, hg, hr.asides ha (hne hl g rfl)⟩
/-- The block that a mark writes. -/
def ownOf (p : Option Addr) (l : List Int) : Option Nat := if l = [] then none else p.map (fun a => a.block)
theorem ownOf_at {w : World} {base : Nat} {p : Option Addr} {l : List Int} (h : OwnS w base p l) {g : Nat} (hg : ownOf p l = some g) : base ≤ g ∧ g < w.heap.size := by
  unfold ownOf at hg
  split at hg
  · cases hg
  · rename_i hl
    obtain ⟨g', rfl, hb, hr⟩ := h hl
    simp at hg
    subst hg
    exact ⟨hb, hr.1⟩
theorem OwnS.lt {w : World} {base : Nat} {p : Option Addr} {l : List Int} (h : OwnS w base p l) (hl : l ≠ []) {g : Nat} (hp : p = some ⟨g, 0, none⟩) : base ≤ g ∧ g < w.heap.size := by
  obtain ⟨g', hp', hb, hr⟩ := h hl
  rw [hp] at hp'
  cases hp'
  exact ⟨hb, hr.1⟩
/-- Rising numbers. -/
def mkL (k : Int) (n : Nat) : List Int := (List.range n).map fun (i : Nat) => k + (i : Int)
theorem mkL_len (k : Int) (n : Nat) : (mkL k n).length = n := by simp [mkL]
theorem mkL_at (k : Int) (n i : Nat) (h : i < (mkL k n).length) : (mkL k n)[i] = k + (i : Int) := by simp [mkL]
theorem mkL_set {k : Int} {l : List Int} {j : Nat} (h : j < l.length) : (mkL k j ++ l.drop j).set j (k + (j : Int)) = mkL k (j + 1) ++ l.drop (j + 1) := by
  rw [List.set_append_right _ _ (by rw [mkL_len]; omega), mkL_len, Nat.sub_self, List.drop_eq_getElem_cons h, List.set_cons_zero]
  simp [mkL, List.range_succ]
set_option maxHeartbeats 1000000 in
theorem laws_markInt64S (p : Option Addr) (l : List Int) (cap : Nat) (k : Int) (base : Nat) (w : World) (hS : OwnS w base p l) (hl : l.length ≤ 9000000) (hk : 0 ≤ k ∧ k ≤ 9000000) :
    Calls Tryd.prog 26 #[.slice p l.length cap, .int .i64 k] w fun e w' => e = .returned (.int .i64 (k + l.length)) ∧ OwnS w' base p (mkL k l.length) ∧ Aside (ownOf p l) w w' := by
  by_cases hne : l = []
  · subst hne
    go_enter Tryd.func26, Tryd.ntmps26
    go_wp2
    go_loopw [1, 5] (fun s i wr => i = .int .i64 0 ∧ s = .int .i64 k ∧ wr = w) (fun _ _ _ => 0)
    case atStart => exact ⟨rfl, rfl, rfl⟩
    case round =>
      obtain ⟨rfl, rfl, rfl⟩ := hrel
      go_wp2
      go_ret
      exact ⟨ret_int (by simp), fun h => absurd rfl h, Aside.refl _ _⟩
  · obtain ⟨g, rfl, hg, hr⟩ := hS hne
    have ho : ownOf (some ⟨g, 0, none⟩) l = some g := by simp [ownOf, hne]
    rw [ho]
    have HO := Lib.hid hne
    clear hne ho hS
    go_enter Tryd.func26, Tryd.ntmps26
    go_wp2
    go_loopw [1, 5] (fun s i wr => ∃ j : Nat, j ≤ l.length ∧ i = .int .i64 j ∧ s = .int .i64 (k + j) ∧ RowI wr g (mkL k j ++ l.drop j) ∧ Aside (some g) w wr) (fun _ i _ => l.length - (intOf i).toNat)
    case atStart => exact ⟨0, Nat.zero_le _, rfl, by simp, by simpa [mkL] using hr, Aside.refl _ _⟩
    case round =>
      obtain ⟨j, hj, rfl, rfl, hrow, ha⟩ := hrel
      by_cases hlt : j < l.length
      · have hf := (hrow.cell (k := j) (by simp [mkL_len]; omega))
        have hn := hrow.set_ j (k + j)
        rw [mkL_set hlt] at hn
        go_wp2
        exact ⟨⟨j + 1, by omega, by go_num, by go_num; try omega, hn, ha.trans (Aside.setCell _ _ _)⟩, by simp [intOf]; omega⟩
      · have e : j = l.length := by omega
        subst e
        rw [List.drop_length, List.append_nil] at hrow
        go_wp2
        go_ret
        exact ⟨rfl, OwnS.of_row hrow hg, ha⟩
set_option maxHeartbeats 1000000 in
theorem laws_heldInt64S (p : Option Addr) (n : Nat) (cap : Nat) (k : Int) (w : World) (hI : IntsAt w p (mkL k n)) (hl : n ≤ 9000000) (hk : 0 ≤ k ∧ k ≤ 9000000) :
    Calls Tryd.prog 27 #[.slice p n cap, .int .i64 k] w fun e w' => e = .returned (.int .i64 (k + n)) ∧ Below w.heap.size w w' := by
  go_enter Tryd.func27, Tryd.ntmps27
  go_wp2
  go_loopw [1, 5] (fun s i wr => ∃ j : Nat, j ≤ n ∧ i = .int .i64 j ∧ s = .int .i64 (k + j) ∧ Below w.heap.size w wr) (fun _ i _ => n - (intOf i).toNat)
  case atStart => exact ⟨0, Nat.zero_le _, rfl, by simp, Below.refl _ _⟩
  case round =>
    obtain ⟨j, hj, rfl, rfl, hbel⟩ := hrel
    by_cases hlt : j < n
    · obtain ⟨a, rfl, hx⟩ := (hI.below hbel).at_ (k := j) (by rw [mkL_len]; exact hlt)
      rw [mkL_at] at hx
      go_wp2
      exact ⟨⟨j + 1, by omega, by go_num, by go_num; try omega, hbel⟩, by simp [intOf]; omega⟩
    · have e : j = n := by omega
      subst e
      go_wp2
      go_ret
      exact ⟨rfl, hbel⟩
set_option maxHeartbeats 1000000 in
theorem laws_markFlux (c f : Int) (p : Option Addr) (l : List Int) (cap : Nat) (k : Int) (base : Nat) (w : World) (hS : OwnS w base p l) (hl : l.length ≤ 9000000) (hk : 0 ≤ k ∧ k ≤ 9000000) :
    Calls Tryd.prog 12 #[.agg #[.int .i64 c, .int .i64 f, .slice p l.length cap], .int .i64 k] w fun e w' => e = .returned (.int .i64 (k + l.length)) ∧ OwnS w' base p (mkL k l.length) ∧ Aside (ownOf p l) w w' := by
  go_enter Tryd.func12, Tryd.ntmps12
  go_wp2_with (go_at_call 26; refine (laws_markInt64S p l cap k base _ (hS.below ((Below.refl _ _).alloc (Nat.le_refl _) _)) hl hk).mono ?_; rintro e w1 ⟨rfl, h1, h2⟩)
  go_ret
  exact ⟨rfl, h1, (Aside.of_below ((Below.refl _ _).alloc (Nat.le_refl _) _)).trans h2⟩
set_option maxHeartbeats 1000000 in
theorem laws_heldFlux (c f : Int) (p : Option Addr) (n : Nat) (cap : Nat) (k : Int) (w : World) (hI : IntsAt w p (mkL k n)) (hl : n ≤ 9000000) (hk : 0 ≤ k ∧ k ≤ 9000000) :
    Calls Tryd.prog 13 #[.agg #[.int .i64 c, .int .i64 f, .slice p n cap], .int .i64 k] w fun e w' => e = .returned (.int .i64 (k + n)) ∧ Below w.heap.size w w' := by
  go_enter Tryd.func13, Tryd.ntmps13
  go_wp2_with (go_at_call 27; refine (laws_heldInt64S p n cap k _ (hI.below ((Below.refl _ _).alloc (Nat.le_refl _) _)) hl hk).mono ?_; rintro e w1 ⟨rfl, hb1⟩)
  go_ret
  exact ⟨rfl, below_al (Below.refl _ _) hb1 (Nat.le_refl _)⟩
end Go.Proofs.YtfdcainjppljhaaDoor
