/- Flux: copies, comparisons, sizes; validity. -/
import Derived.Test.YtfdcainjppljhaaDoorWithin
import Derived.Test.YtfdcainjppljhaaDoorIn
import Derived.Test.YtfdcainjppljhaaDoorInts
import Derived.Test.YtfdcainjppljhaaDoorFluxP
import Derived.Handy
import Derived.Deep.RegionLaw
namespace Go.Proofs.YtfdcainjppljhaaDoor
open Go.RowKit
set_option maxHeartbeats 400000 in
theorem laws_toInt64S (p : Option Addr) (l : List Int) (cap : Nat) (w : World) (hI : IntsAt w p l) (hl : l.length ≤ 1048576) :
    Calls Tryd.prog 17 #[.slice p l.length cap] w fun e w' => e = .returned (.slice (some ⟨w.heap.size, 0, none⟩) l.length l.length) ∧ RowI w' w.heap.size l ∧ Below w.heap.size w w' := by
  have hmk := make_ints l.length (by omega)
  go_enter Tryd.func17, Tryd.ntmps17
  go_wp2
  clear hmk
  go_loopw [4] (fun i wr => ∃ k : Nat, k ≤ l.length ∧ i = .int .i64 k ∧ RowI wr w.heap.size (fillP l k) ∧ Below w.heap.size w wr) (fun i _ => l.length - (intOf i).toNat)
  case atStart => exact ⟨0, Nat.zero_le _, rfl, by rw [fillP_zero]; exact RowI.made _ _, (Below.refl _ _).alloc (Nat.le_refl _) _⟩
  case round =>
    obtain ⟨k, hk, rfl, hrow, hbel⟩ := hrel
    by_cases hlt : k < l.length
    · obtain ⟨a, rfl, hc⟩ := (hI.below hbel).at_ hlt
      have hf := (hrow.cell (k := k) (by rw [fillP_len hk]; exact hlt))
      have hn := hrow.set_ k (l[k])
      rw [fillP_set hlt] at hn
      go_wp2
      exact ⟨⟨k + 1, by omega, by go_num, hn, hbel.setCell (Nat.le_refl _) _⟩, by simp [intOf]; omega⟩
    · rw [fillP_all (by omega)] at hrow
      go_wp2
      go_ret
      exact ⟨rfl, hrow, hbel⟩
/-- A struct of three cells stored whole, behind a store elsewhere. -/
theorem cells3_after {w : World} {g : Nat} {a b c : Value} (h0 : w.cell? ⟨g, 0, none⟩ = some a) (h1 : w.cell? ⟨g, 1, none⟩ = some b) (h2 : w.cell? ⟨g, 2, none⟩ = some c) (k : Nat) (hk : k ≠ g) :
    (∀ o u x y z, ((((w.setCell ⟨k, o, none⟩ u).setCell ⟨g, 0, none⟩ x).setCell ⟨g, 1, none⟩ y).setCell ⟨g, 2, none⟩ z).cell? ⟨g, 0, none⟩ = some x) ∧
    (∀ o u x y z, ((((w.setCell ⟨k, o, none⟩ u).setCell ⟨g, 0, none⟩ x).setCell ⟨g, 1, none⟩ y).setCell ⟨g, 2, none⟩ z).cell? ⟨g, 1, none⟩ = some y) ∧
    (∀ o u x y z, ((((w.setCell ⟨k, o, none⟩ u).setCell ⟨g, 0, none⟩ x).setCell ⟨g, 1, none⟩ y).setCell ⟨g, 2, none⟩ z).cell? ⟨g, 2, none⟩ = some z) := by
  have n1 : ∀ o m, (⟨k, o, none⟩ : Addr) ≠ ⟨g, m, none⟩ := fun o m h => hk (by injection h)
  have n2 : ∀ m n, m ≠ n → (⟨g, m, none⟩ : Addr) ≠ ⟨g, n, none⟩ := fun m n hmn h => hmn (by injection h)
  refine ⟨fun o u x y z => ?_, fun o u x y z => ?_, fun o u x y z => ?_⟩
  · rw [World.cell?_setCell_other _ _ _ _ (n2 2 0 (by decide)), World.cell?_setCell_other _ _ _ _ (n2 1 0 (by decide))]
    exact World.cell?_setCell_same _ _ _ ((World.cell?_setCell_other _ _ _ _ (n1 o 0)).trans h0)
  · rw [World.cell?_setCell_other _ _ _ _ (n2 2 1 (by decide))]
    exact World.cell?_setCell_same _ _ _ ((World.cell?_setCell_other _ _ _ _ (n2 0 1 (by decide))).trans ((World.cell?_setCell_other _ _ _ _ (n1 o 1)).trans h1))
  · exact World.cell?_setCell_same _ _ _ ((World.cell?_setCell_other _ _ _ _ (n2 1 2 (by decide))).trans ((World.cell?_setCell_other _ _ _ _ (n2 0 2 (by decide))).trans ((World.cell?_setCell_other _ _ _ _ (n1 o 2)).trans h2)))
set_option maxHeartbeats 400000 in
set_option maxRecDepth 20000 in
theorem laws_toFlux (c f : Int) (p : Option Addr) (l : List Int) (cap : Nat) (w : World) (hI : IntsAt w p l) (hl : l.length ≤ 1048576) :
    Calls Tryd.prog 7 #[.agg #[.int .i64 c, .int .i64 f, .slice p l.length cap]] w fun e w' => ∃ g, e = .returned (.agg #[.int .i64 c, .int .i64 f, .slice (some ⟨g, 0, none⟩) l.length l.length]) ∧ w.heap.size ≤ g ∧ RowI w' g l ∧ Below w.heap.size w w' := by
  go_enter Tryd.func7, Tryd.ntmps7
  go_wp2_with (go_at_call 17; refine (laws_toInt64S _ _ _ _ (((hI.alloc _).alloc _).alloc _) hl).mono ?_; rintro e w1 ⟨rfl, hr1, hb1⟩; have z1 := hb1.size; simp at z1; have B1 := (Blk.new _ 27 #[.int .i64 c, .int .i64 f, .slice none 0 0]).keep hb1; simp at B1; obtain ⟨g0, g1, g2⟩ := B1.cell3; have k1 := B1.frozen; simp at hr1; have C1 := (((Blk.new _ 27 #[.int .i64 0, .int .i64 0, .slice none 0 0]).keep ((Below.refl _ _).alloc (Nat.le_refl _) _)).keep hb1); simp at C1; obtain ⟨g3, g4, g5⟩ := C1.cell3; have k2 := C1.frozen; obtain ⟨e3, e4, e5⟩ := cells3_after g3 g4 g5 (w.heap.size + 1 + 1) (by omega))
  refine bodyPost_ret (v := .agg #[.int .i64 c, .int .i64 f, .slice (some ⟨w.heap.size + 1 + 1 + 1, 0, none⟩) l.length l.length]) (by simp [results, Tryd.results7, go_sem, e3, e4, e5]) rfl ⟨_, rfl, by omega, ?_, ?_⟩
  · exact (((hr1.off (by omega) _ _).off (by omega) _ _).off (by omega) _ _).off (by omega) _ _
  · have hw1 := below_al (((Below.refl w.heap.size w).alloc (Nat.le_refl _) _).alloc (by simp) _) hb1 (Nat.le_refl _)
    go_grown
/-- What is left of a size. -/
def szL (left : Int) (n : Nat) : Int := if left < n then -1 else left - n
set_option maxHeartbeats 400000 in
theorem laws_szInt64S (p : Option Addr) (l : List Int) (cap : Nat) (left : Int) (w : World) (hl : l.length ≤ maxLen) (h : 0 ≤ left ∧ left ≤ 1048576) :
    Calls Tryd.prog 14 #[.slice p l.length cap, .int .i64 left] w fun e w' => e = .returned (.int .i64 (szL left l.length)) ∧ Below w.heap.size w w' := by
  have hm : (l.length : Int) ≤ 9223372036854775807 := by unfold maxLen at hl; omega
  clear hl
  go_enter Tryd.func14, Tryd.ntmps14
  go_wp2
  all_goals
    go_ret
    exact ⟨ret_int (by unfold szL; split <;> omega), Below.refl _ _⟩
set_option maxHeartbeats 400000 in
theorem laws_szFlux (c f : Int) (p : Option Addr) (l : List Int) (cap : Nat) (left : Int) (w : World) (hl : l.length ≤ maxLen) (h : 0 ≤ left ∧ left ≤ 1048576) :
    Calls Tryd.prog 5 #[.agg #[.int .i64 c, .int .i64 f, .slice p l.length cap], .int .i64 left] w fun e w' => e = .returned (.int .i64 (szL left l.length)) ∧ Below w.heap.size w w' := by
  have hz : -1 ≤ szL left l.length ∧ (szL left l.length < 0 → szL left l.length = -1) := by unfold szL; split <;> omega
  obtain ⟨z, ez⟩ : ∃ z, szL left l.length = z := ⟨_, rfl⟩
  rw [ez] at hz ⊢
  have H := Lib.hid ez
  clear ez
  go_enter Tryd.func5, Tryd.ntmps5
  go_wp2_with (go_at_call 14; refine (laws_szInt64S _ _ _ _ _ hl h).mono ?_; rintro e w1 ⟨rfl, hb1⟩; rw [H.out])
  all_goals
    go_ret
    exact ⟨ret_int (by omega), below_al (Below.refl _ _) hb1 (Nat.le_refl _)⟩
set_option maxHeartbeats 400000 in
theorem laws_eqInt64S (p q : Option Addr) (l m : List Int) (cap dap : Nat) (w : World) (hI : IntsAt w p l) (hJ : IntsAt w q m) (hl : l.length ≤ 9000000) :
    Calls Tryd.prog 21 #[.slice p l.length cap, .slice q m.length dap] w fun e w' => e = .returned (.bool (decide (l = m))) ∧ Below w.heap.size w w' := by
  by_cases hlen : l.length = m.length
  · go_enter Tryd.func21, Tryd.ntmps21
    go_wp2
    go_loopw [5] (fun i wr => ∃ k : Nat, k ≤ l.length ∧ i = .int .i64 k ∧ l.take k = m.take k ∧ Below w.heap.size w wr) (fun i _ => l.length - (intOf i).toNat)
    case atStart => exact ⟨0, Nat.zero_le _, rfl, rfl, Below.refl _ _⟩
    case round =>
      obtain ⟨k, hk, rfl, heq, hbel⟩ := hrel
      by_cases hlt : k < l.length
      · have hlm : k < m.length := by omega
        obtain ⟨a, rfl, hc⟩ := (hI.below hbel).at_ hlt
        obtain ⟨b, rfl, hd⟩ := (hJ.below hbel).at_ hlm
        have H := Lib.hid hlen
        clear hlen
        by_cases hxy : l[k] = m[k]
        · have hb : (l[k] != m[k]) = false := by simp [hxy]
          have H2 := Lib.hid hxy
          clear hxy
          go_wp2
          go_region
          go_wp2
          have hstep : l.take (k + 1) = m.take (k + 1) := by rw [takeI_snoc hlt, takeI_snoc hlm, heq, H2.out]
          exact ⟨⟨k + 1, by omega, by go_num, hstep, hbel.drew⟩, by simp [intOf]; omega⟩
        · have hb : (l[k] != m[k]) = true := by simp [hxy]
          have H2 := Lib.hid hxy
          clear hxy
          go_wp2
          go_region
          go_wp2
          go_ret
          refine ⟨ret_bool (Eq.symm (decide_eq_false fun e => H2.out (by simp only [e]))), hbel.drew⟩
      · rw [List.take_of_length_le (by omega), List.take_of_length_le (by omega)] at heq
        have H := Lib.hid heq
        clear heq
        go_wp2
        go_ret
        exact ⟨ret_bool (by simp [H.out]), hbel⟩
  · have hd : (l.length : Int) ≠ (m.length : Int) := by omega
    have hd2 : ((l.length : Int) != (m.length : Int)) = true := by simp [hd]
    have H := Lib.hid hlen
    clear hlen hd
    go_enter Tryd.func21, Tryd.ntmps21
    go_wp2
    go_ret
    exact ⟨ret_bool (Eq.symm (decide_eq_false fun e => H.out (by rw [e]))), Below.refl _ _⟩
set_option maxHeartbeats 400000 in
theorem laws_eqFlux_same (c f : Int) (p q : Option Addr) (l : List Int) (cap dap : Nat) (w : World) (hI : IntsAt w p l) (hJ : IntsAt w q l) (hl : l.length ≤ 9000000) :
    Calls Tryd.prog 9 #[.agg #[.int .i64 c, .int .i64 f, .slice p l.length cap], .agg #[.int .i64 c, .int .i64 f, .slice q l.length dap]] w fun e w' => e = .returned (.bool true) ∧ Below w.heap.size w w' := by
  go_enter Tryd.func9, Tryd.ntmps9
  go_wp2_with (go_at_call 21; refine (laws_eqInt64S p q l l cap dap _ ((hI.alloc _).alloc _) ((hJ.alloc _).alloc _) hl).mono ?_; rintro e w1 ⟨rfl, hb1⟩; rw [decide_eq_true rfl])
  go_ret
  refine ⟨rfl, below_al (((Below.refl _ _).alloc (Nat.le_refl _) _)) hb1 (Nat.le_refl _)⟩
/-- What is kept while a copy is compared with a new copy. -/
theorem keepF {b k : Nat} {c f c' f' : Value} {p : Option Addr} {q : Option Addr} {l : List Int} {v v' : Value} {w w' : World}
    (h : (b < w.heap.size ∧ w.cell? ⟨b, 0, none⟩ = some c ∧ w.cell? ⟨b, 1, none⟩ = some f ∧ w.cell? ⟨b, 2, none⟩ = some v) ∧ (k < w.heap.size ∧ w.cell? ⟨k, 0, none⟩ = some c' ∧ w.cell? ⟨k, 1, none⟩ = some f' ∧ w.cell? ⟨k, 2, none⟩ = some v') ∧ IntsAt w p l ∧ IntsAt w q l) (hb : Below w.heap.size w w') :
    (b < w'.heap.size ∧ w'.cell? ⟨b, 0, none⟩ = some c ∧ w'.cell? ⟨b, 1, none⟩ = some f ∧ w'.cell? ⟨b, 2, none⟩ = some v) ∧ (k < w'.heap.size ∧ w'.cell? ⟨k, 0, none⟩ = some c' ∧ w'.cell? ⟨k, 1, none⟩ = some f' ∧ w'.cell? ⟨k, 2, none⟩ = some v') ∧ IntsAt w' p l ∧ IntsAt w' q l := by
  obtain ⟨⟨h0, h1, h2, h3⟩, ⟨g0, g1, g2, g3⟩, hp, hq⟩ := h
  obtain ⟨hc, -⟩ := bcell hb
  have := hb.size
  exact ⟨⟨by omega, (hc b 0 h0).trans h1, (hc b 1 h0).trans h2, (hc b 2 h0).trans h3⟩, ⟨by omega, (hc k 0 g0).trans g1, (hc k 1 g0).trans g2, (hc k 2 g0).trans g3⟩, hp.below hb, hq.below hb⟩
end Go.Proofs.YtfdcainjppljhaaDoor
