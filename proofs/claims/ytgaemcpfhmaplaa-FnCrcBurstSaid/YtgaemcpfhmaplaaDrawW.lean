/- Draws of strings; the laws' own helpers. -/
import Derived.Test.YtgaemcpfhmaplaaSrcW
namespace Go.Proofs.Ytgaemcpfhmaplaa
open Go.RowKit
def BytesAt (w : World) (p : Option Addr) (l : List UInt8) : Prop := l ≠ [] → ∃ a, p = some a ∧ a.block < w.heap.size ∧ ∀ i (h : i < l.length), w.cell? (a.add i) = some (.int .u8 (l[i].toNat : Int))
theorem BytesAt.below {w w' : World} {p : Option Addr} {l : List UInt8} (h : BytesAt w p l) (hb : Below w.heap.size w w') : BytesAt w' p l := by
  intro hne
  obtain ⟨a, ha, hlt, hc⟩ := h hne
  refine ⟨a, ha, Nat.lt_of_lt_of_le hlt hb.size, fun i hi => ?_⟩
  rw [hb.cell (p := a.add i) (by rw [Go.ChangeShapes.block_add]; exact hlt)]
  exact hc i hi
theorem BytesAt.at_ {w : World} {p : Option Addr} {l : List UInt8} (h : BytesAt w p l) {k : Nat} (hk : k < l.length) : ∃ a, p = some a ∧ w.cell? (a.add k) = some (.int .u8 (l[k].toNat : Int)) := by
  obtain ⟨a, ha, _, hc⟩ := h (by intro e; rw [e] at hk; exact absurd hk (Nat.not_lt_zero k))
  exact ⟨a, ha, hc k hk⟩
theorem lit_ints (w : World) (l : List Int) : IntsAt (w.alloc (.cells (l.map (Value.int .i64)).toArray 2)) (some ⟨w.heap.size, 0, none⟩) l := by
  have B := Blk.new w 2 (l.map (Value.int .i64)).toArray
  intro _
  refine ⟨_, rfl, B.lt, fun i hi => ?_⟩
  rw [Addr.add_lit, Nat.zero_add, B.cell i]
  simp [hi]
/-- The length of a string in a slot. -/
def strLen : Value → Int | .string s => s.size | _ => 0
theorem u8w_bd (x : Int) : 0 ≤ IntKind.u8.wrap x ∧ IntKind.u8.wrap x < 256 := by
  simp [IntKind.wrap, IntKind.bits, IntKind.signed]
  omega
set_option maxHeartbeats 1000000 in
theorem spec_l00From (p : Option Addr) (l : List UInt8) (cap : Nat) (w : World) (hI : BytesAt w p l) (hl : l.length ≤ 1048576) :
    Calls Try.prog 31 #[.slice p l.length cap] w fun e w' => e = .returned (.pointer (some ⟨w.heap.size, 0, none⟩)) ∧ Src w' w.heap.size 0 ∧ Below w.heap.size w w' := by
  go_enter Try.func31, Try.ntmps31
  go_wp2
  go_ret
  refine ⟨rfl, ⟨p, l, cap, 0, 0, Blk.new _ _ _, by omega, by omega, hl, fun hne => ?_⟩, (Below.refl _ _).alloc (Nat.le_refl _) _⟩
  obtain ⟨a, ha, hlt, hc⟩ := hI hne
  refine ⟨a, ha, hlt, fun i hi => ?_⟩
  rw [((Below.refl _ _).alloc (Nat.le_refl _) _).cell (p := a.add i) (by rw [Go.ChangeShapes.block_add]; exact hlt)]
  exact hc i hi
set_option maxHeartbeats 1000000 in
set_option maxRecDepth 20000 in
theorem src_l01Draw (b n : Nat) (m : Int) (w : World) (hS : Src w b n) (hn : n ≤ 100000000) (hm : 0 ≤ m ∧ m ≤ 100) :
    Calls Try.prog 32 #[.pointer (some ⟨b, 0, none⟩), .int .i64 m] w fun e w' => ∃ s : ByteArray, e = .returned (.string s) ∧ (s.size : Int) ≤ m ∧ Src w' b (n + 1000) ∧ Aside (some b) w w' := by
  have hbl := hS.lt
  go_enter Try.func32, Try.ntmps32
  go_wp2_with fail
  have ha0 : Aside (some b) w (w.alloc (.cells #[] 5)) := Aside.of_below ((Below.refl _ _).alloc (Nat.le_refl _) _)
  refine (src_pick b n (m + 1) _ (hS.below ((Below.refl _ _).alloc (Nat.le_refl _) _)) (by omega) (by omega)).mono ?_
  rintro e w1 ⟨k0, rfl, hk0, hS1, ha1⟩
  have hown := (OwnB.nil0 w).asides ha1 (fun g e => by injection e with e; omega)
  have ha2 := ha0.trans ha1
  clear ha0 ha1
  go_wp2_with fail
  go_loopw [5, 6] (fun v i wr => ∃ k : Int, (0 ≤ k ∧ k ≤ m) ∧ i = .int .i64 k ∧ (∃ L : List UInt8, OwnB wr w.heap.size v L ∧ (L.length : Int) + k ≤ m) ∧ Src wr b (n + 2 + 4 * (m - k).toNat) ∧ Aside (some b) w wr) (fun _ i _ => (intOf i).toNat)
  case atStart => exact ⟨k0, by omega, rfl, ⟨[], hown, by simp; omega⟩, hS1.mono (by omega), ha2⟩
  case round =>
    obtain ⟨k, hk, rfl, ⟨L, hL, hLk⟩, hSr, har⟩ := hrel
    by_cases h0 : 0 < k
    · have hd : decide (0 < k) = true := by simp [h0]
      have hzr := har.size
      go_wp2_with fail
      refine (src_among b _ _ [0, 1, 65, 78, 161, 255, 229, 16] 8 _ (hSr.below ((Below.refl _ _).alloc (Nat.le_refl _) _)) (by omega) (lit_ints wr [0, 1, 65, 78, 161, 255, 229, 16]) (fun a e => by injection e with e; subst e; simp; omega) (by decide) (by decide)).mono ?_
      rintro e w2 ⟨x, rfl, hx, hS2, ha2⟩
      have hx2 : 0 ≤ x ∧ x ≤ 255 := by simp at hx; omega
      clear hx
      have hL2 := (hL.alloc (.cells #[.int .i64 0, .int .i64 1, .int .i64 65, .int .i64 78, .int .i64 161, .int .i64 255, .int .i64 229, .int .i64 16] 2)).asides ha2 (fun g e => by injection e with e; omega)
      have hb2 : Aside (some b) w w2 := (har.trans (Aside.of_below ((Below.refl _ _).alloc (Nat.le_refl _) _))).trans ha2
      clear ha2
      go_wp2_with fail
      refine (src_pick b _ 3 _ hS2 (by omega) (by omega)).mono ?_
      rintro e w3 ⟨y, rfl, hy, hS3, ha3⟩
      have hL3 := hL2.asides ha3 (fun g e => by injection e with e; omega)
      have hb3 := hb2.trans ha3
      have hz3 := hb3.size
      clear ha3
      go_wp2_with (at_builtin; refine append_byte _ rfl _ _ rfl w.heap.size u5 L _ rfl rfl hL3 (u8w_bd _) (by omega) hz3 ?_; intro v4 w4 hL4 hb4; have hS4 := hS3.belowB hb4 hbl; have hb5 := hb3.trans_below hb4 (Nat.le_refl _))
      refine ⟨⟨k - 1, by omega, by go_num, ⟨_, hL4, by simp; omega⟩, hS4.mono (by omega), hb5⟩, by simp [intOf]; omega⟩
    · have hk0 : k = 0 := by omega
      subst hk0
      have hcv := hL.str
      have hd : decide ((0 : Int) < 0) = false := by decide
      go_wp2_with fail
      go_ret
      exact ⟨_, rfl, by simp at hLk ⊢; exact hLk, hSr.mono (by omega), har⟩
set_option maxHeartbeats 1000000 in
theorem src_l01Fixed (b n : Nat) (m : Int) (w : World) (hS : Src w b n) (hn : n ≤ 100000000) (hm : 0 ≤ m ∧ m ≤ 100) :
    Calls Try.prog 34 #[.pointer (some ⟨b, 0, none⟩), .int .i64 m] w fun e w' => ∃ s : ByteArray, e = .returned (.string s) ∧ (s.size : Int) ≤ m ∧ Src w' b (n + 1000) ∧ Aside (some b) w w' := by
  go_enter Try.func34, Try.ntmps34
  go_wp2_with fail
  refine (src_l01Draw b n m _ hS hn hm).mono ?_
  rintro e w1 ⟨s, rfl, hs, hS1, ha1⟩
  go_wp2_with fail
  go_loopw [5] (fun v wr => ∃ t : ByteArray, v = .string t ∧ (t.size : Int) ≤ m ∧ wr = w1) (fun v _ => (m - strLen v).toNat)
  case atStart => exact ⟨s, rfl, hs, rfl⟩
  case round =>
    obtain ⟨t, rfl, ht, rfl⟩ := hrel
    by_cases h0 : (t.size : Int) < m
    · have hd : decide ((t.size : Int) < m) = true := by simp [h0]
      go_wp2_with fail
      have h78 : ({ data := #[78] } : ByteArray).size = 1 := rfl
      refine ⟨⟨_, rfl, by rw [ByteArray.size_append]; omega, trivial⟩, by simp only [strLen, ByteArray.size_append]; omega⟩
    · have hd : decide ((t.size : Int) < m) = false := by simp; omega
      go_wp2_with fail
      go_ret
      exact ⟨t, rfl, ht, hS1, ha1⟩
set_option maxHeartbeats 1000000 in
theorem spec_DrawXorBytes (p : Option Addr) (l : List UInt8) (cap : Nat) (w : World) (hI : BytesAt w p l) (hl : l.length ≤ 1048576) :
    Calls Try.prog 17 #[.slice p l.length cap] w fun e w' => ∃ s t : ByteArray, e = .returned (.tuple #[.string s, .string t]) ∧ s.size ≤ 100 ∧ t.size ≤ 100 ∧ Below w.heap.size w w' := by
  go_enter Try.func17, Try.ntmps17
  go_wp2_with fail
  refine (spec_l00From p l cap _ hI hl).mono ?_
  rintro e w1 ⟨rfl, hS1, hb1⟩
  go_wp2_with fail
  refine (src_l01Draw w.heap.size 0 9 _ hS1 (by omega) (by omega)).mono ?_
  rintro e w2 ⟨s, rfl, hs, hS2, ha2⟩
  go_wp2_with fail
  refine (src_l01Fixed w.heap.size _ s.size _ hS2 (by omega) (by omega)).mono ?_
  rintro e w3 ⟨t, rfl, ht, hS3, ha3⟩
  go_wp2_with fail
  refine (src_one w.heap.size _ 6 _ hS3 (by omega) (by omega)).mono ?_
  rintro e w4 ⟨x, rfl, hS4, ha4⟩
  have hB : Below w.heap.size w w4 := hb1.trans (((ha2.trans ha3).trans ha4).below hb1.size (fun g e => by injection e with e; omega))
  cases x
  all_goals
    go_wp2_with fail
    go_returns
    exact ⟨_, _, rfl, by omega, by first | omega | (rw [ByteArray.size_append]; have h120 : ({ data := #[120] } : ByteArray).size = 1 := rfl; omega), hB⟩
set_option maxHeartbeats 1000000 in
theorem spec_DrawCrc16 (p : Option Addr) (l : List UInt8) (cap : Nat) (w : World) (hI : BytesAt w p l) (hl : l.length ≤ 1048576) :
    Calls Try.prog 15 #[.slice p l.length cap] w fun e w' => ∃ (s : ByteArray) (x : Int), e = .returned (.tuple #[.string s, .int .i64 x]) ∧ s.size ≤ 20 ∧ (-1 ≤ x ∧ x ≤ 65536) ∧ Below w.heap.size w w' := by
  go_enter Try.func15, Try.ntmps15
  go_wp2_with fail
  refine (spec_l00From p l cap _ hI hl).mono ?_
  rintro e w1 ⟨rfl, hS1, hb1⟩
  go_wp2_with fail
  refine (src_l01Draw w.heap.size 0 20 _ hS1 (by omega) (by omega)).mono ?_
  rintro e w2 ⟨s, rfl, hs, hS2, ha2⟩
  go_wp2_with fail
  have hz := ha2.size
  have hbl := hS1.lt
  refine (src_among w.heap.size _ _ [65535, 0, 1, 4129, 65536, -1, 65535] 7 _ (hS2.below ((Below.refl _ _).alloc (Nat.le_refl _) _)) (by omega) (lit_ints w2 [65535, 0, 1, 4129, 65536, -1, 65535]) (fun a e => by injection e with e; subst e; simp; omega) (by decide) (by decide)).mono ?_
  rintro e w3 ⟨x, rfl, hx, hS3, ha3⟩
  have hB : Below w.heap.size w w3 := hb1.trans (((ha2.trans (Aside.of_below ((Below.refl _ _).alloc (Nat.le_refl _) _))).trans ha3).below hb1.size (fun g e => by injection e with e; omega))
  go_wp2_with fail
  go_returns
  exact ⟨_, _, rfl, by omega, by simp at hx; omega, hB⟩
theorem laws_b10Long (p : Option Addr) (l : List UInt8) (cap : Nat) (w : World) :
    Calls Try.prog 14 #[.slice p l.length cap] w fun e w' => e = .returned (.bool (decide (1048576 < (l.length : Int)))) ∧ w' = w := by
  go_enter Try.func14, Try.ntmps14
  go_wp2
  go_ret
  exact ⟨rfl, rfl⟩
set_option maxHeartbeats 1000000 in
theorem laws_b10At (p : Option Addr) (l : List UInt8) (cap : Nat) (i m : Int) (w : World) (hI : BytesAt w p l) (hi : 0 ≤ i ∧ i ≤ 1000000000) (hm : m ≤ 1000000000000) :
    Calls Try.prog 16 #[.slice p l.length cap, .int .i64 i, .int .i64 m] w fun e w' => ∃ x, e = .returned (.int .i64 x) ∧ (0 ≤ x ∧ (x < m ∨ x = 0)) ∧ w' = w := by
  by_cases h1 : m ≤ 1
  · have hd : decide (m ≤ 1) = true := by simp [h1]
    go_enter Try.func16, Try.ntmps16
    go_wp2
    go_ret
    exact ⟨0, rfl, by omega, rfl⟩
  · have hd : decide (m ≤ 1) = false := by simp; omega
    have hm0 : m ≠ 0 := by omega
    by_cases h2 : i < (l.length : Int)
    · have hd2 : decide (i < (l.length : Int)) = true := by simp [h2]
      obtain ⟨k, rfl⟩ : ∃ k : Nat, i = (k : Int) := ⟨i.toNat, by omega⟩
      obtain ⟨a, rfl, hx⟩ := hI.at_ (k := k) (by omega)
      have hb := u8_bd (l[k]'(by omega))
      obtain ⟨x, ex⟩ : ∃ x : Int, ((l[k]'(by omega)).toNat : Int) = x := ⟨_, rfl⟩
      rw [ex] at hx hb
      have ht : x.tmod m = x % m := Int.tmod_eq_emod_of_nonneg (by omega)
      have h3 := Int.emod_nonneg x (b := m) (by omega)
      have h4 := Int.emod_lt_of_pos x (b := m) (by omega)
      clear ex
      go_enter Try.func16, Try.ntmps16
      go_wp2
      go_ret
      exact ⟨_, rfl, by omega, rfl⟩
    · have hd2 : decide (i < (l.length : Int)) = false := by simp; omega
      have ht : (i * 37 + 11).tmod m = (i * 37 + 11) % m := Int.tmod_eq_emod_of_nonneg (by omega)
      have h3 := Int.emod_nonneg (i * 37 + 11) (b := m) (by omega)
      have h4 := Int.emod_lt_of_pos (i * 37 + 11) (b := m) (by omega)
      go_enter Try.func16, Try.ntmps16
      go_wp2
      go_ret
      exact ⟨_, rfl, by omega, rfl⟩
end Go.Proofs.Ytgaemcpfhmaplaa
