/- Draws of cells. -/
import Derived.Test.YtfdcainjppljhaaDrawW
namespace Go.Proofs.Ytfdcainjppljhaa
open Go.RowKit
set_option linter.unusedVariables false
set_option maxHeartbeats 2000000 in
theorem src_l02Draw (b n : Nat) (m : Int) (w : World) (hS : Src w b n) (hn : n ≤ 100000000) (hm : 1 ≤ m ∧ m ≤ 100) :
    Calls Try.prog 82 #[.pointer (some ⟨b, 0, none⟩), .int .i64 m] w fun e w' => ∃ s : ByteArray, e = .returned (.string s) ∧ (s.size : Int) ≤ 4 * m + 3 ∧ Src w' b (n + 1000) ∧ Aside (some b) w w' := by
  have hbl := hS.lt
  go_enter Try.func82, Try.ntmps82
  go_wp2_with fail
  have ha0 : Aside (some b) w (w.alloc (.cells #[] 5)) := Aside.of_below ((Below.refl _ _).alloc (Nat.le_refl _) _)
  refine (src_pick b n m _ (hS.below ((Below.refl _ _).alloc (Nat.le_refl _) _)) (by omega) (by omega)).mono ?_
  rintro e w1 ⟨k0, rfl, hk0, hS1, ha1⟩
  have hown := (OwnB.nil0 w).asides ha1 (fun g e => by injection e with e; omega)
  have ha2 := ha0.trans ha1
  clear ha0 ha1
  go_wp2_with fail
  go_loopw [5, 6] (fun v i wr => ∃ k : Int, (0 ≤ k ∧ k ≤ m) ∧ i = .int .i64 k ∧ (∃ L : List UInt8, OwnB wr w.heap.size v L ∧ (L.length : Int) + 4 * k ≤ 4 * m) ∧ Src wr b (n + 2 + 2 * (m - k).toNat) ∧ Aside (some b) w wr) (fun _ i _ => (intOf i).toNat)
  case atStart => exact ⟨1 + k0, by omega, by go_num, ⟨[], hown, by simp; omega⟩, hS1.mono (by omega), ha2⟩
  case round =>
    obtain ⟨k, hk, rfl, ⟨L, hL, hLk⟩, hSr, har⟩ := hrel
    by_cases h0 : 0 < k
    · have hd : decide (0 < k) = true := decide_eq_true h0
      have hzr := har.size
      go_wp2_with fail
      refine (src_pick b _ 4 _ hSr (by omega) (by omega)).mono ?_
      rintro e w3 ⟨z0, rfl, hz0, hS3, ha3⟩
      have hL3 := hL.asides ha3 (fun g e => by injection e with e; omega)
      have hb3 := har.trans ha3
      have hz3 := hb3.size
      clear ha3
      go_wp2_with fail
      go_loopw [5, 7] (fun v i wq => ∃ z : Int, (0 ≤ z ∧ z ≤ 3) ∧ i = .int .i64 z ∧ (∃ L : List UInt8, OwnB wq w.heap.size v L ∧ (L.length : Int) + z + 1 + 4 * (k - 1) ≤ 4 * m) ∧ Src wq b (n + 4 + 2 * (m - k).toNat) ∧ Aside (some b) w wq) (fun _ i _ => (intOf i).toNat)
      case atStart => exact ⟨z0, by omega, rfl, ⟨L, hL3, by omega⟩, hS3.mono (by omega), hb3⟩
      case round =>
        clear hL hLk hSr har hL3 hS3 hb3
        obtain ⟨z, hz, rfl, ⟨L, hL, hLk⟩, hSr, har⟩ := hrel
        have hzr := har.size
        by_cases h1 : 0 < z
        · have hd : decide (0 < z) = true := decide_eq_true h1
          go_wp2_with (at_builtin; refine append_byte _ rfl _ _ rfl w.heap.size u5 L _ rfl rfl hL (by omega) (by omega) hzr ?_; intro v4 w4 hL4 hb4; have hS4 := hSr.belowB hb4 hbl; have hb5 := har.trans_below hb4 (Nat.le_refl _))
          go_roundw
          case rel => exact ⟨z - 1, by omega, by go_num, ⟨_, hL4, by simp; omega⟩, hS4, hb5⟩
          case measure => simp [intOf]; omega
        · have hz1 : z = 0 := by omega
          subst hz1
          have hd : decide ((0 : Int) < 0) = false := by decide
          go_wp2_with (at_builtin; refine append_byte _ rfl _ _ rfl w.heap.size u5 L _ rfl rfl hL (by omega) (by omega) hzr ?_; intro v4 w4 hL4 hb4; have hS4 := hSr.belowB hb4 hbl; have hb5 := har.trans_below hb4 (Nat.le_refl _))
          go_roundw
          case rel => exact ⟨k - 1, by omega, by go_num, ⟨_, hL4, by simp; omega⟩, hS4.mono (by omega), hb5⟩
          case measure => simp [intOf]; omega
    · have hk0 : k = 0 := by omega
      subst hk0
      have hzr := har.size
      have hd : decide ((0 : Int) < 0) = false := by decide
      go_wp2_with fail
      refine (src_pick b _ 4 _ hSr (by omega) (by omega)).mono ?_
      rintro e w3 ⟨z0, rfl, hz0, hS3, ha3⟩
      have hL3 := hL.asides ha3 (fun g e => by injection e with e; omega)
      have hb3 := har.trans ha3
      clear ha3
      go_wp2_with fail
      go_loopw [5, 8] (fun v i wq => ∃ z : Int, (0 ≤ z ∧ z ≤ 3) ∧ i = .int .i64 z ∧ (∃ L : List UInt8, OwnB wq w.heap.size v L ∧ (L.length : Int) + z ≤ 4 * m + 3) ∧ Src wq b (n + 500) ∧ Aside (some b) w wq) (fun _ i _ => (intOf i).toNat)
      case atStart => exact ⟨z0, by omega, rfl, ⟨L, hL3, by omega⟩, hS3.mono (by omega), hb3⟩
      case round =>
        clear hL hLk hSr har hL3 hS3 hb3
        obtain ⟨z, hz, rfl, ⟨L, hL, hLk⟩, hSr, har⟩ := hrel
        have hzr := har.size
        by_cases h1 : 0 < z
        · have hd : decide (0 < z) = true := decide_eq_true h1
          go_wp2_with (at_builtin; refine append_byte _ rfl _ _ rfl w.heap.size u5 L _ rfl rfl hL (by omega) (by omega) hzr ?_; intro v4 w4 hL4 hb4; have hS4 := hSr.belowB hb4 hbl; have hb5 := har.trans_below hb4 (Nat.le_refl _))
          go_roundw
          case rel => exact ⟨z - 1, by omega, by go_num, ⟨_, hL4, by simp; omega⟩, hS4, hb5⟩
          case measure => simp [intOf]; omega
        · have hz1 : z = 0 := by omega
          subst hz1
          have hd : decide ((0 : Int) < 0) = false := by decide
          go_wp2_with fail
          refine (src_one b _ 40 _ hSr (by omega) (by omega)).mono ?_
          rintro e w4 ⟨x, rfl, hS4, ha4⟩
          have hL4 := hL.asides ha4 (fun g e => by injection e with e; omega)
          have hb4 := har.trans ha4
          have hcv := hL4.str
          cases x
          · go_wp2_with fail
            go_ret
            refine ⟨_, rfl, ?_, hS4.mono (by omega), hb4⟩
            have : (⟨L.toArray⟩ : ByteArray).size = L.length := by show L.toArray.size = _; simp
            omega
          · go_wp2_with fail
            go_ret
            exact ⟨_, rfl, by have : (⟨#[48, 48, 48]⟩ : ByteArray).size = 3 := rfl; omega, hS4.mono (by omega), hb4⟩
end Go.Proofs.Ytfdcainjppljhaa
