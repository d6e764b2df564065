/- Draws of strings; the laws' own helpers. -/
import Derived.Test.YtgaemcpfhmaplaaDoorSrcW
namespace Go.Proofs.YtgaemcpfhmaplaaDoor
open Go.RowKit
def BytesAt (w : World) (p : Option Addr) (l : List UInt8) : Prop := l ≠ [] → ∃ a, p = some a ∧ a.block < w.heap.size ∧ ∀ i (h : i < l.length), w.cell? (a.add i) = some (.int .u8 (l[i].toNat : Int))
theorem BytesAt.below {w w' : World} {p : Option Addr} {l : List UInt8} (h : BytesAt w p l) (hb : Below w.heap.size w w') : BytesAt w' p l := by
  intro hne
  obtain ⟨a, ha, hlt, hc⟩ := h hne
  refine ⟨a, ha, Nat.lt_of_lt_of_le hlt hb.size, fun i hi => ?_⟩
  rw [hb.cell (p := a.add i) (by rw [Go.ChangeShapes.block_add]; exact hlt)]
  exact hc i hi
theorem BytesAt.at_ {w : World} {p : Option Addr} {l : List UInt8} (h : BytesAt w p l) {k : Nat} (hk : k < l.length) : ∃ a, p = some a ∧ w.cell? (a.add k) = some (.int .u8 (l[k].toNat : Int)) := by
  obtain ⟨a, ha, _, hc⟩ := h (by intro e; rw [e] at hk; exact absurd hk (Nat.not_lt_zero k))
  exact ⟨a, ha, hc k hk⟩
theorem lit_ints (w : World) (l : List Int) : IntsAt (w.alloc (.cells (l.map (Value.int .i64)).toArray 2)) (some ⟨w.heap.size, 0, none⟩) l := by
  have B := Blk.new w 2 (l.map (Value.int .i64)).toArray
  intro _
  refine ⟨_, rfl, B.lt, fun i hi => ?_⟩
  rw [Addr.add_lit, Nat.zero_add, B.cell i]
  simp [hi]
/-- The length of a string in a slot. -/
def strLen : Value → Int | .string s => s.size | _ => 0
theorem u8w_bd (x : Int) : 0 ≤ IntKind.u8.wrap x ∧ IntKind.u8.wrap x < 256 := by
  simp [IntKind.wrap, IntKind.bits, IntKind.signed]
  omega
set_option maxHeartbeats 1000000 in
theorem spec_l00From (p : Option Addr) (l : List UInt8) (cap : Nat) (w : World) (hI : BytesAt w p l) (hl : l.length ≤ 1048576) :
    Calls Tryd.prog 25 #[.slice p l.length cap] w fun e w' => e = .returned (.pointer (some ⟨w.heap.size, 0, none⟩)) ∧ Src w' w.heap.size 0 ∧ Below w.heap.size w w' := by
  go_enter Tryd.func25, Tryd.ntmps25
  go_wp2
  go_ret
  refine ⟨rfl, ⟨p, l, cap, 0, 0, Blk.new _ _ _, by omega, by omega, hl, fun hne => ?_⟩, (Below.refl _ _).alloc (Nat.le_refl _) _⟩
  obtain ⟨a, ha, hlt, hc⟩ := hI hne
  refine ⟨a, ha, hlt, fun i hi => ?_⟩
  rw [((Below.refl _ _).alloc (Nat.le_refl _) _).cell (p := a.add i) (by rw [Go.ChangeShapes.block_add]; exact hlt)]
  exact hc i hi
set_option maxHeartbeats 1000000 in
set_option maxRecDepth 20000 in
theorem src_l01Draw (b n : Nat) (m : Int) (w : World) (hS : Src w b n) (hn : n ≤ 100000000) (hm : 0 ≤ m ∧ m ≤ 100) :
    Calls Tryd.prog 26 #[.pointer (some ⟨b, 0, none⟩), .int .i64 m] w fun e w' => ∃ s : ByteArray, e = .returned (.string s) ∧ (s.size : Int) ≤ m ∧ Src w' b (n + 1000) ∧ Aside (some b) w w' := by
  have hbl := hS.lt
  go_enter Tryd.func26, Tryd.ntmps26
  go_wp2_with fail
  have ha0 : Aside (some b) w (w.alloc (.cells #[] 5)) := Aside.of_below ((Below.refl _ _).alloc (Nat.le_refl _) _)
  refine (src_pick b n (m + 1) _ (hS.below ((Below.refl _ _).alloc (Nat.le_refl _) _)) (by omega) (by omega)).mono ?_
  rintro e w1 ⟨k0, rfl, hk0, hS1, ha1⟩
  have hown := (OwnB.nil0 w).asides ha1 (fun g e => by injection e with e; omega)
  have ha2 := ha0.trans ha1
  clear ha0 ha1
  go_wp2_with fail
  go_loopw [5, 6] (fun v i wr => ∃ k : Int, (0 ≤ k ∧ k ≤ m) ∧ i = .int .i64 k ∧ (∃ L : List UInt8, OwnB wr w.heap.size v L ∧ (L.length : Int) + k ≤ m) ∧ Src wr b (n + 2 + 4 * (m - k).toNat) ∧ Aside (some b) w wr) (fun _ i _ => (intOf i).toNat)
  case atStart => exact ⟨k0, by omega, rfl, ⟨[], hown, by simp; omega⟩, hS1.mono (by omega), ha2⟩
  case round =>
    obtain ⟨k, hk, rfl, ⟨L, hL, hLk⟩, hSr, har⟩ := hrel
    by_cases h0 : 0 < k
    · have hd : decide (0 < k) = true := by simp [h0]
      have hzr := har.size
      go_wp2_with fail
      refine (src_among b _ _ [0, 1, 65, 78, 161, 255, 229, 16] 8 _ (hSr.below ((Below.refl _ _).alloc (Nat.le_refl _) _)) (by omega) (lit_ints wr [0, 1, 65, 78, 161, 255, 229, 16]) (fun a e => by injection e with e; subst e; simp; omega) (by decide) (by decide)).mono ?_
      rintro e w2 ⟨x, rfl, hx, hS2, ha2⟩
      have hx2 : 0 ≤ x ∧ x ≤ 255 := by simp at hx; omega
      clear hx
      have hL2 := (hL.alloc (.cells #[.int .i64 0, .int .i64 1, .int .i64 65, .int .i64 78, .int .i64 161, .int .i64 255, .int .i64 229, .int .i64 16] 2)).asides ha2 (fun g e => by injection e with e; omega)
      have hb2 : Aside (some b) w w2 := (har.trans (Aside.of_below ((Below.refl _ _).alloc (Nat.le_refl _) _))).trans ha2
      clear ha2
      go_wp2_with fail
      refine (src_pick b _ 3 _ hS2 (by omega) (by omega)).mono ?_
      rintro e w3 ⟨y, rfl, hy, hS3, ha3⟩
      have hL3 := hL2.asides ha3 (fun g e => by injection e with e; omega)
      have hb3 := hb2.trans ha3
      have hz3 := hb3.size
      clear ha3
      go_wp2_with (at_builtin; refine append_byte _ rfl _ _ rfl w.heap.size u5 L _ rfl rfl hL3 (u8w_bd _) (by omega) hz3 ?_; intro v4 w4 hL4 hb4; have hS4 := hS3.belowB hb4 hbl; have hb5 := hb3.trans_below hb4 (Nat.le_refl _))
      refine ⟨⟨k - 1, by omega, by go_num, ⟨_, hL4, by simp; omega⟩, hS4.mono (by omega), hb5⟩, by simp [intOf]; omega⟩
    · have hk0 : k = 0 := by omega
      subst hk0
      have hcv := hL.str
      have hd : decide ((0 : Int) < 0) = false := by decide
      go_wp2_with fail
      go_ret
      exact ⟨_, rfl, by simp at hLk ⊢; exact hLk, hSr.mono (by omega), har⟩
theorem laws_b10Long (p : Option Addr) (l : List UInt8) (cap : Nat) (w : World) :
    Calls Tryd.prog 10 #[.slice p l.length cap] w fun e w' => e = .returned (.bool (decide (1048576 < (l.length : Int)))) ∧ w' = w := by
  go_enter Tryd.func10, Tryd.ntmps10
  go_wp2
  go_ret
  exact ⟨rfl, rfl⟩
end Go.Proofs.YtgaemcpfhmaplaaDoor
