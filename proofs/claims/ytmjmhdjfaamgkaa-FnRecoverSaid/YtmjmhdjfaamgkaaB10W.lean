/- b10At's number, named; the draw of FluxOf. -/
import Derived.Test.YtmjmhdjfaamgkaaDrawW
import Derived.Test.YtmjmhdjfaamgkaaDraw2W
import Derived.Test.YtmjmhdjfaamgkaaDrawFW
namespace Go.Proofs.Ytmjmhdjfaamgkaa
open Go.RowKit
set_option linter.unusedVariables false
def b10V (l : List UInt8) (i m : Int) : Int := if m ≤ 1 then 0 else if i < (l.length : Int) then ((l.getD i.toNat 0).toNat : Int) % m else (i * 37 + 11) % m
theorem b10V_bd (l : List UInt8) {i m : Int} (hi : 0 ≤ i) (hm : 1 ≤ m) : 0 ≤ b10V l i m ∧ b10V l i m ≤ m - 1 := by
  unfold b10V
  split
  · omega
  · split
    · have h1 := Int.emod_nonneg ((l.getD i.toNat 0).toNat : Int) (b := m) (by omega)
      have h2 := Int.emod_lt_of_pos ((l.getD i.toNat 0).toNat : Int) (b := m) (by omega)
      omega
    · have h1 := Int.emod_nonneg (i * 37 + 11) (b := m) (by omega)
      have h2 := Int.emod_lt_of_pos (i * 37 + 11) (b := m) (by omega)
      omega
set_option maxHeartbeats 1000000 in
theorem laws_b10AtV (p : Option Addr) (l : List UInt8) (cap : Nat) (i m : Int) (w : World) (hI : BytesAt w p l) (hi : 0 ≤ i ∧ i ≤ 1000000000) (hm : m ≤ 1000000000000) :
    Calls Try.prog 101 #[.slice p l.length cap, .int .i64 i, .int .i64 m] w fun e w' => e = .returned (.int .i64 (b10V l i m)) ∧ w' = w := by
  by_cases h1 : m ≤ 1
  · have hd : decide (m ≤ 1) = true := by simp [h1]
    have HV : Hid (b10V l i m = 0) := Lib.hid (by unfold b10V; rw [if_pos h1])
    go_enter Try.func101, Try.ntmps101
    go_wp2
    go_ret
    exact ⟨ret_int (by rw [HV.out]), rfl⟩
  · have hd : decide (m ≤ 1) = false := by simp; omega
    have hm0 : m ≠ 0 := by omega
    by_cases h2 : i < (l.length : Int)
    · have hd2 : decide (i < (l.length : Int)) = true := by simp [h2]
      obtain ⟨k, rfl⟩ : ∃ k : Nat, i = (k : Int) := ⟨i.toNat, by omega⟩
      have hk : k < l.length := by omega
      obtain ⟨a, rfl, hx⟩ := hI.at_ (k := k) hk
      have hb := u8_bd (l[k]'hk)
      have hv : b10V l (k : Int) m = ((l[k]'hk).toNat : Int) % m := by
        unfold b10V
        rw [if_neg h1, if_pos h2, List.getD_eq_getElem?_getD, Int.toNat_natCast, List.getElem?_eq_getElem hk]
        rfl
      obtain ⟨x, ex⟩ : ∃ x : Int, ((l[k]'hk).toNat : Int) = x := ⟨_, rfl⟩
      rw [ex] at hx hb hv
      have HV := Lib.hid hv
      have ht : x.tmod m = x % m := Int.tmod_eq_emod_of_nonneg (by omega)
      have h3 := Int.emod_nonneg x (b := m) (by omega)
      have h4 := Int.emod_lt_of_pos x (b := m) (by omega)
      clear ex hv
      go_enter Try.func101, Try.ntmps101
      go_wp2
      go_ret
      exact ⟨ret_int (by rw [HV.out]), rfl⟩
    · have hd2 : decide (i < (l.length : Int)) = false := by simp; omega
      have HV : Hid (b10V l i m = (i * 37 + 11) % m) := Lib.hid (by unfold b10V; rw [if_neg h1, if_neg h2])
      have ht : (i * 37 + 11).tmod m = (i * 37 + 11) % m := Int.tmod_eq_emod_of_nonneg (by omega)
      have h3 := Int.emod_nonneg (i * 37 + 11) (b := m) (by omega)
      have h4 := Int.emod_lt_of_pos (i * 37 + 11) (b := m) (by omega)
      go_enter Try.func101, Try.ntmps101
      go_wp2
      go_ret
      exact ⟨ret_int (by rw [HV.out]), rfl⟩
set_option maxHeartbeats 1000000 in
theorem spec_DrawFluxOf (p : Option Addr) (l : List UInt8) (cap : Nat) (w : World) (hI : BytesAt w p l) (hl : l.length ≤ 1048576) :
    Calls Try.prog 48 #[.slice p l.length cap] w fun e w' => ∃ (s : ByteArray) (x : Int), e = .returned (.tuple #[.string s, .int .i64 x]) ∧ s.size ≤ 84 ∧ (0 ≤ x ∧ x ≤ 201) ∧ Below w.heap.size w w' := by
  go_enter Try.func48, Try.ntmps48
  go_wp2_with fail
  refine (spec_l00From p l cap _ hI hl).mono ?_
  rintro e w1 ⟨rfl, hS1, hb1⟩
  have hz1 := hb1.size
  go_wp2_with fail
  refine (src_l02Bent w.heap.size 0 _ hS1 (by omega)).mono ?_
  rintro e w2 ⟨s, rfl, hs, hS2, ha2⟩
  go_wp2_with fail
  refine (src_one w.heap.size _ 12 _ hS2 (by omega) (by omega)).mono ?_
  rintro e w3 ⟨x, rfl, hS3, ha3⟩
  have hz2 := ha2.size
  have hz3 := ha3.size
  cases x
  · go_wp2_with fail
    refine (src_l02DrawCell w.heap.size _ _ hS3 (by omega)).mono ?_
    rintro e w4 ⟨x, rfl, hx, hS4, ha4⟩
    have hB : Below w.heap.size w w4 := hb1.trans (((ha2.trans ha3).trans ha4).below hb1.size (fun g e => by injection e with e; omega))
    go_wp2_with fail
    go_returns
    exact ⟨s, x, rfl, hs, by omega, hB⟩
  · go_wp2_with fail
    refine (src_among w.heap.size _ _ [3, 201, 0] 3 _ (hS3.below ((Below.refl _ _).alloc (Nat.le_refl _) _)) (by omega) (lit_ints w3 [3, 201, 0]) (fun a e => by injection e with e; subst e; simp; have := hS1.lt; omega) (by decide) (by decide)).mono ?_
    rintro e w4 ⟨x, rfl, hx, hS4, ha4⟩
    have hB : Below w.heap.size w w4 := hb1.trans (((ha2.trans ha3).trans ((Aside.of_below ((Below.refl _ _).alloc (Nat.le_refl _) _)).trans ha4)).below hb1.size (fun g e => by injection e with e; omega))
    go_wp2_with fail
    go_returns
    exact ⟨s, x, rfl, hs, by simp at hx; omega, hB⟩
end Go.Proofs.Ytmjmhdjfaamgkaa
