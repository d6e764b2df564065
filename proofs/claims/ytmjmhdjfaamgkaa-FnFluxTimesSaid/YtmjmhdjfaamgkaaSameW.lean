/- Equality of lists; SameFlux. -/
import Derived.Test.YtmjmhdjfaamgkaaFluxW
namespace Go.Proofs.Ytmjmhdjfaamgkaa
open Go.RowKit
set_option maxHeartbeats 400000 in
theorem slices_Equal (p q : Option Addr) (l m : List Int) (cap dap : Nat) (w : World) (hI : IntsAt w p l) (hJ : IntsAt w q m) (hl : l.length ≤ 9000000) :
    Calls Try.prog 85 #[.slice p l.length cap, .slice q m.length dap] w fun e w' => e = .returned (.bool (decide (l = m))) ∧ Below w.heap.size w w' := by
  by_cases hlen : l.length = m.length
  · go_enter Try.func85, Try.ntmps85
    go_wp2
    go_loopw [13] (fun i wr => ∃ k : Nat, k ≤ l.length ∧ i = .int .i64 k ∧ l.take k = m.take k ∧ Below w.heap.size w wr) (fun i _ => l.length - (intOf i).toNat)
    case atStart => exact ⟨0, Nat.zero_le _, rfl, rfl, Below.refl _ _⟩
    case round =>
      obtain ⟨k, hk, rfl, heq, hbel⟩ := hrel
      by_cases hlt : k < l.length
      · have hlm : k < m.length := by omega
        obtain ⟨a, rfl, hc⟩ := (hI.below hbel).at_ hlt
        obtain ⟨b, rfl, hd⟩ := (hJ.below hbel).at_ hlm
        have H := Lib.hid hlen
        clear hlen
        by_cases hxy : l[k] = m[k]
        · have hb : (l[k] != m[k]) = false := by simp [hxy]
          have H2 := Lib.hid hxy
          clear hxy
          go_wp2
          go_region
          go_wp2
          have hstep : l.take (k + 1) = m.take (k + 1) := by rw [takeI_snoc hlt, takeI_snoc hlm, heq, H2.out]
          exact ⟨⟨k + 1, by omega, by go_num, hstep, hbel.drew⟩, by simp [intOf]; omega⟩
        · have hb : (l[k] != m[k]) = true := by simp [hxy]
          have H2 := Lib.hid hxy
          clear hxy
          go_wp2
          go_region
          go_wp2
          go_ret
          refine ⟨ret_bool (Eq.symm (decide_eq_false fun e => H2.out (by simp only [e]))), hbel.drew⟩
      · rw [List.take_of_length_le (by omega), List.take_of_length_le (by omega)] at heq
        have H := Lib.hid heq
        clear heq
        go_wp2
        go_ret
        exact ⟨ret_bool (by simp [H.out]), hbel⟩
  · have hd : (l.length : Int) ≠ (m.length : Int) := by omega
    have hd2 : ((l.length : Int) != (m.length : Int)) = true := by simp [hd]
    have H := Lib.hid hlen
    clear hlen hd
    go_enter Try.func85, Try.ntmps85
    go_wp2
    go_ret
    exact ⟨ret_bool (Eq.symm (decide_eq_false fun e => H.out (by rw [e]))), Below.refl _ _⟩
def sameV (c f : Int) (l : List Int) (c' f' : Int) (l' : List Int) : Bool := decide (c = c') && (decide (f = f') && decide (l = l'))
set_option maxHeartbeats 1000000 in
set_option maxRecDepth 20000 in
theorem impl_SameFlux (c f : Int) (p : Option Addr) (l : List Int) (cap : Nat) (c' f' : Int) (p' : Option Addr) (l' : List Int) (cap' : Nat) (w : World) (hI : IntsAt w p l) (hJ : IntsAt w p' l') (hl : l.length ≤ 9000000) (hl' : l'.length ≤ 9000000) :
    Calls Try.prog 43 #[.agg #[.int .i64 c, .int .i64 f, .slice p l.length cap], .agg #[.int .i64 c', .int .i64 f', .slice p' l'.length cap']] w fun e w' => e = .returned (.bool (sameV c f l c' f' l')) ∧ Below w.heap.size w w' := by
  by_cases h1 : c = c'
  · by_cases h2 : f = f'
    · subst h1
      subst h2
      go_enter Try.func43, Try.ntmps43
      go_wp2_with (go_at_call 85; refine (slices_Equal p p' l l' cap cap' _ ((hI.alloc _).alloc _) ((hJ.alloc _).alloc _) hl).mono ?_; rintro e w1 ⟨rfl, hb1⟩)
      go_ret
      exact ⟨ret_bool (by simp [sameV]), below_al (((Below.refl _ _).alloc (Nat.le_refl _) _)) hb1 (Nat.le_refl _)⟩
    · subst h1
      have hq : (f == f') = false := by simp [h2]
      have H := Lib.hid h2
      clear h2
      go_enter Try.func43, Try.ntmps43
      go_wp2
      go_ret
      refine ⟨ret_bool (by simp [sameV, H.out]), ?_⟩
      go_grown
  · have hq : (c == c') = false := by simp [h1]
    have H := Lib.hid h1
    clear h1
    go_enter Try.func43, Try.ntmps43
    go_wp2
    go_ret
    refine ⟨ret_bool (by simp [sameV, H.out]), ?_⟩
    go_grown
end Go.Proofs.Ytmjmhdjfaamgkaa
