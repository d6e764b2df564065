/- The program's text of flux: decimal, joinNumbers, FluxText. -/
import Derived.Test.YtfdcainjppljhaaDoorTxW
import Derived.Test.YtfdcainjppljhaaDoorShelf
import Derived.Lib.AppendIntMem
namespace Go.Proofs.YtfdcainjppljhaaDoor
open Go.RowKit Go.Sort
set_option linter.unusedVariables false
/-- The table of the powers of ten stands. -/
def Tab (w : World) : Prop := Lib.TabIs Tryd.prog w "internal/strconv.uint64pow10" .u64 Lib.pow10Tab
theorem Tab.below {w w' : World} (h : Tab w) (hb : Below w.heap.size w w') : Tab w' := Lib.tabBelow_of_tabIs h w' hb
theorem below_growT (w : World) (n : Nat) (os : Array Obj) : Below w.heap.size w (grow (w.drewN n) os) :=
  ⟨rfl, rfl, rfl, by simp, fun k hk => heap_grow_old (w.drewN n) os hk⟩
theorem impl_decimal (x : Int) (h0 : -9223372036854775808 ≤ x) (h1 : x ≤ 9223372036854775807) (w : World) (hT : Tab w) :
    Calls Tryd.prog 19 #[.int .i64 x] w fun e w' => e = .returned (.string ⟨(Lib.itoa x).toArray⟩) ∧ Below w.heap.size w w' := by
  have c := Tryd.strconv_FormatInt_10 x h0 h1 w hT
  go_enter Tryd.func19, Tryd.ntmps19
  go_wp2_with fail
  refine c.mono ?_
  rintro e w' ⟨rfl, k, os, rfl⟩
  go_wp2_with fail
  go_ret
  exact ⟨rfl, below_growT _ _ _⟩
theorem Blk.setS {w : World} {g : Nat} {t : TypeId} {cs : Array Value} (h : Blk w g t cs) (i : Nat) (v : Value) : Blk (w.setCell ⟨g, i, none⟩ v) g t (cs.setIfInBounds i v) := by
  have hB' : w.heap[g]? = some (.cells cs t (0, 0)) := h
  unfold Blk
  simp [World.setCell, Array.getElem?_modify, hB']
/-- A row of strings that is filled from the left. -/
def fillS (xs : List ByteArray) (k : Nat) : Array Value := ((xs.take k).map Value.string ++ List.replicate (xs.length - k) (Value.string ByteArray.empty)).toArray
theorem fillS_zero (xs : List ByteArray) : fillS xs 0 = madeCells #[.string ByteArray.empty] xs.length := by
  unfold fillS madeCells
  apply Array.ext
  · simp
  · intro i h1 h2
    simp [Nat.mod_one]
theorem fillS_all (xs : List ByteArray) : fillS xs xs.length = (xs.map Value.string).toArray := by
  unfold fillS
  simp
theorem fillS_set {xs : List ByteArray} {k : Nat} (h : k < xs.length) : (fillS xs k).setIfInBounds k (.string xs[k]) = fillS xs (k + 1) := by
  have hl : ((xs.take k).map Value.string).length = k := by simp; omega
  unfold fillS
  rw [List.setIfInBounds_toArray, List.set_append_right _ _ (by omega), hl, Nat.sub_self, show xs.length - k = (xs.length - (k + 1)) + 1 by omega, List.replicate_succ, List.set_cons_zero, List.take_succ_eq_append_getElem h, List.map_append, List.append_assoc]
  rfl
theorem fillS_some {xs : List ByteArray} {k i : Nat} (h : i < xs.length) (hk : k ≤ xs.length) : ∃ s, (fillS xs k)[i]? = some (.string s) := by
  unfold fillS
  rcases Nat.lt_or_ge i k with h1 | h1
  · refine ⟨xs[i], ?_⟩
    simp only [List.getElem?_toArray]
    rw [List.getElem?_append_left (by simp; omega), List.getElem?_map, List.getElem?_take, if_pos h1, List.getElem?_eq_getElem h]
    rfl
  · refine ⟨ByteArray.empty, ?_⟩
    simp only [List.getElem?_toArray]
    rw [List.getElem?_append_right (by simp; omega), List.getElem?_replicate]
    rw [if_pos (by simp; omega)]
theorem info_str : (Tryd.prog.info? 9).map (fun i => (i.zero, i.size, i.bytes)) = some (some (.string ByteArray.empty), 1, 16) := by kernel_rfl
theorem make_strs (n : Nat) (hn : n ≤ 2097152) (w : World) : (Instr.makeSlice 44 (.int .i64 (n : Int)) (.int .i64 (n : Int))).run Tryd.prog w = .ok (.slice (some ⟨w.heap.size, 0, none⟩) n n) (w.alloc (.cells (madeCells #[.string ByteArray.empty] n) 9)) :=
  run_make_row' (P := Tryd.prog) 44 9 (.string ByteArray.empty) 16 Tryd.underlying44 info_str rfl .i64 .i64 n (by omega) (by omega) w
def itoB (x : Int) : ByteArray := ⟨(Lib.itoa x).toArray⟩
theorem itoa_dec {x : Int} (h : 0 ≤ x) : Lib.itoa x = decS x := by
  unfold Lib.itoa decS
  rw [if_neg (by omega)]
theorem join_flat (l : List Int) (h : l ≠ []) (h0 : ∀ x ∈ l, 0 ≤ x) : 32 :: Lib.join ((l.map itoB).map (·.data.toList)) [32] = l.flatMap (fun x => 32 :: decS x) := by
  cases l with
  | nil => exact absurd rfl h
  | cons a r =>
    rw [List.map_cons, List.map_cons, Lib.join_cons, List.flatMap_cons]
    have ha : (itoB a).data.toList = decS a := itoa_dec (h0 a (by simp))
    rw [ha]
    have hr : ∀ r : List Int, (∀ x ∈ r, 0 ≤ x) → Lib.joinTail [32] ((r.map itoB).map (·.data.toList)) = r.flatMap (fun x => 32 :: decS x) := by
      intro r
      induction r with
      | nil => intro _; rfl
      | cons b r ih =>
        intro hb
        have h1 : (itoB b).data.toList = decS b := itoa_dec (hb b (by simp))
        have h2 := ih (fun x hx => hb x (by simp [hx]))
        unfold Lib.joinTail at h2 ⊢
        rw [List.map_cons, List.map_cons, List.map_cons, List.flatten_cons, h1, h2, List.flatMap_cons]
        rfl
    rw [hr r (fun x hx => h0 x (by simp [hx]))]
    rfl
set_option maxHeartbeats 2000000 in
set_option maxRecDepth 20000 in
theorem impl_joinNumbers (p : Option Addr) (l : List Int) (cap : Nat) (w : World) (hI : IntsAt w p l) (hl : 1 ≤ l.length ∧ l.length ≤ 4000) (h0 : ∀ x ∈ l, 1 ≤ x ∧ x ≤ 2000000) (hT : Tab w) :
    Calls Tryd.prog 20 #[.slice p l.length cap, .string ⟨#[32]⟩] w fun e w' => e = .returned (.string ⟨(Lib.join ((l.map itoB).map (·.data.toList)) [32]).toArray⟩) ∧ Below w.heap.size w w' := by
  obtain ⟨xs, exs⟩ : ∃ xs, l.map itoB = xs := ⟨_, rfl⟩
  have hxl : xs.length = l.length := by rw [← exs, List.length_map]
  have hxk : ∀ k (h : k < l.length), ∃ h' : k < xs.length, xs[k] = itoB l[k] := fun k h => ⟨by omega, by subst exs; simp⟩
  have hmk := fun w => make_strs l.length (by omega) w
  have hne : l ≠ [] := by intro e; rw [e] at hl; simp at hl
  have hlen : (Lib.join (xs.map (·.data.toList)) [32]).length ≤ 140737488355328 := by
    have e := join_flat l hne (fun x hx => by have := h0 x hx; omega)
    have e2 := flat_len l (fun x hx => by have := h0 x hx; omega)
    rw [← e, exs, List.length_cons] at e2
    omega
  have B0 : Blk (w.alloc (.cells (madeCells #[.string ByteArray.empty] l.length) 9)) w.heap.size 9 (fillS xs 0) := by
    rw [fillS_zero, hxl]
    exact Blk.new _ _ _
  have W0 : Below w.heap.size w (w.alloc (.cells (madeCells #[.string ByteArray.empty] l.length) 9)) := (Below.refl _ _).alloc (Nat.le_refl _) _
  rw [exs]
  go_enter Tryd.func20, Tryd.ntmps20
  go_wp2_with fail
  go_loopw [13] (fun i wr => ∃ k : Nat, k ≤ l.length ∧ i = .int .i64 k ∧ Blk wr w.heap.size 9 (fillS xs k) ∧ Below w.heap.size w wr) (fun i _ => l.length - (intOf i).toNat)
  case atStart => exact ⟨0, Nat.zero_le _, rfl, B0, W0⟩
  case round =>
    clear B0 W0
    obtain ⟨k, hk, rfl, hB, hbel⟩ := hrel
    by_cases hlt : k < l.length
    · obtain ⟨a, ea, hc⟩ := (hI.below hbel).at_ hlt
      subst ea
      obtain ⟨hk', ek⟩ := hxk k hlt
      have hx := h0 _ (List.getElem_mem hlt)
      have hset := fillS_set hk'
      rw [ek] at hset
      obtain ⟨s0, hs0⟩ := fillS_some (k := k) hk' (by omega)
      have hcg := hB.cell k
      rw [hs0] at hcg
      have hfg := hB.frozen k
      have hcx := impl_decimal l[k] (by omega) (by omega)
      obtain ⟨x, ex⟩ : ∃ x, l[k] = x := ⟨_, rfl⟩
      rw [ex] at hc hx hset hcx
      have hT1 := hT.below hbel
      have HS := Lib.hid hset
      have hzw := hB.lt
      clear hset ek hs0 ex hxk
      go_wp2_with (go_at_call 19; refine (hcx _ hT1).mono ?_; rintro e y ⟨rfl, hby⟩; have hB2 := hB.keep hby; obtain ⟨s0, hs0⟩ := fillS_some (k := k) hk' (by omega); have hcy := hB2.cell k; rw [hs0] at hcy; have hfy := hB2.frozen k; have hbel2 := below_st hbel hby (Nat.le_refl _))
      refine ⟨⟨k + 1, by omega, by go_num, ?_, hbel2.setCell (p := ⟨w.heap.size, k, none⟩) (Nat.le_refl _) _⟩, by simp [intOf]; omega⟩
      rw [← HS.out]
      exact hB2.setS k _
    · obtain rfl : k = l.length := by omega
      rw [← hxl, fillS_all] at hB
      have hjc := Tryd.strings_Join w.heap.size 0 l.length xs ⟨#[32]⟩ wr (fun j x hj => by rw [Nat.zero_add, hB.cell j]; simp [hj]) hB.lt (by omega) (by omega) hlen
      rw [hxl] at hjc
      go_wp2_with fail
      refine hjc.mono ?_
      rintro e w' ⟨rfl, hb⟩
      go_wp2_with fail
      go_ret
      exact ⟨rfl, below_st hbel hb (Nat.le_refl _)⟩
end Go.Proofs.YtfdcainjppljhaaDoor
