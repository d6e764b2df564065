/- The source of choices: next, pick, one, among, and what they leave alone. -/
import Derived.Test.YtfdcainjppljhaaMem
import Derived.Test.YtfdcainjppljhaaMarksW
import Derived.Handy
import Derived.Deep.RegionLaw
namespace Go.Proofs.Ytfdcainjppljhaa
open Go.RowKit
/-- A source of choices in block b, of which at most n have been drawn. -/
def Src (w : World) (b n : Nat) : Prop := ∃ (p : Option Addr) (l : List UInt8) (cap : Nat) (q s : Int), Blk w b 104 #[.slice p l.length cap, .int .i64 q, .int .u64 s] ∧ (0 ≤ q ∧ q ≤ n) ∧ (0 ≤ s ∧ s < 18446744073709551616) ∧ l.length ≤ 1048576 ∧
  (l ≠ [] → ∃ a, p = some a ∧ a.block < b ∧ ∀ i (h : i < l.length), w.cell? (a.add i) = some (.int .u8 (l[i].toNat : Int)))
theorem Src.lt {w : World} {b n : Nat} (h : Src w b n) : b < w.heap.size := by
  obtain ⟨p, l, cap, q, s, hB, -⟩ := h
  exact hB.lt
theorem Src.mono {w : World} {b n m : Nat} (h : Src w b n) (hm : n ≤ m) : Src w b m := by
  obtain ⟨p, l, cap, q, s, hB, hq, r⟩ := h
  exact ⟨p, l, cap, q, s, hB, by omega, r⟩
theorem Src.asides {w w' : World} {b n : Nat} {o : Option Nat} (h : Src w b n) (ha : Aside o w w') (ho : ∀ g, o = some g → b < g) : Src w' b n := by
  obtain ⟨p, l, cap, q, s, hB, hq, hs, hl, hc⟩ := h
  refine ⟨p, l, cap, q, s, hB.asides ha (fun e => by have := ho _ e; omega), hq, hs, hl, fun hne => ?_⟩
  obtain ⟨a, ha', hlt, hcell⟩ := hc hne
  refine ⟨a, ha', hlt, fun i hi => ?_⟩
  rw [← hcell i hi]
  have hbl := hB.lt
  exact World.cell?_of_block (ha.block _ (by rw [Go.ChangeShapes.block_add]; omega) (fun e => by have := ho _ e; rw [Go.ChangeShapes.block_add] at this; omega))
theorem Src.below {w w' : World} {b n : Nat} (h : Src w b n) (hb : Below w.heap.size w w') : Src w' b n := h.asides (o := none) (Aside.of_below hb) (fun g e => by cases e)
theorem Src.drew {w : World} {b n : Nat} (h : Src w b n) : Src w.drew b n := h
theorem and255 (x : Int) : 0 ≤ bits .and .u64 x 255 ∧ bits .and .u64 x 255 ≤ 255 := by
  show 0 ≤ IntKind.u64.wrap ((BitVec.ofInt 64 x &&& BitVec.ofInt 64 255).toNat : Int) ∧ IntKind.u64.wrap ((BitVec.ofInt 64 x &&& BitVec.ofInt 64 255).toNat : Int) ≤ 255
  rw [IntKind.wrap_u64, BitVec.toNat_and]
  have e : (BitVec.ofInt 64 255).toNat = 255 := by decide
  have h := Nat.and_le_right (n := (BitVec.ofInt 64 x).toNat) (m := (BitVec.ofInt 64 255).toNat)
  omega
theorem wrap_u64 (x : Int) : 0 ≤ IntKind.u64.wrap x ∧ IntKind.u64.wrap x < 18446744073709551616 := by
  rw [IntKind.wrap_u64]
  omega
theorem src_set {w : World} {b n : Nat} {p : Option Addr} {l : List UInt8} {cap : Nat} {q s q' s' : Int} (hB : Blk w b 104 #[.slice p l.length cap, .int .i64 q, .int .u64 s])
    (hc : l ≠ [] → ∃ a, p = some a ∧ a.block < b ∧ ∀ i (h : i < l.length), w.cell? (a.add i) = some (.int .u8 (l[i].toNat : Int))) (hl : l.length ≤ 1048576) (hq : 0 ≤ q' ∧ q' ≤ n) (hs : 0 ≤ s' ∧ s' < 18446744073709551616) :
    Src ((w.setCell ⟨b, 1, none⟩ (.int .i64 q')).setCell ⟨b, 2, none⟩ (.int .u64 s')) b n ∧ Aside (some b) w ((w.setCell ⟨b, 1, none⟩ (.int .i64 q')).setCell ⟨b, 2, none⟩ (.int .u64 s')) := by
  have ha : Aside (some b) w ((w.setCell ⟨b, 1, none⟩ (.int .i64 q')).setCell ⟨b, 2, none⟩ (.int .u64 s')) := (Aside.setCell b 1 _).trans (Aside.setCell b 2 _)
  refine ⟨⟨p, l, cap, q', s', ?_, hq, hs, hl, fun hne => ?_⟩, ha⟩
  · have hB' : w.heap[b]? = some (.cells #[.slice p l.length cap, .int .i64 q, .int .u64 s] 104 (0, 0)) := hB
    unfold Blk
    simp [World.setCell, Array.getElem?_modify, hB']
  · obtain ⟨a, ha', hlt, hcell⟩ := hc hne
    refine ⟨a, ha', hlt, fun i hi => ?_⟩
    rw [← hcell i hi]
    exact World.cell?_of_block (ha.block _ (by rw [Go.ChangeShapes.block_add]; have := hB.lt; omega) (fun e => by injection e with e; rw [Go.ChangeShapes.block_add] at e; omega))
set_option maxHeartbeats 1000000 in
set_option maxRecDepth 20000 in
theorem src_next (b n : Nat) (w : World) (hS : Src w b n) (hn : n ≤ 1000000000) :
    Calls Try.prog 93 #[.pointer (some ⟨b, 0, none⟩)] w fun e w' => ∃ x, e = .returned (.int .i64 x) ∧ (0 ≤ x ∧ x ≤ 255) ∧ Src w' b (n + 1) ∧ Aside (some b) w w' := by
  obtain ⟨p, l, cap, q, s, hB, hq, hs, hl, hc⟩ := hS
  obtain ⟨b0, b1, b2⟩ := hB.cell3
  have bf := hB.frozen
  obtain ⟨qn, rfl⟩ : ∃ qn : Nat, q = (qn : Int) := ⟨q.toNat, by omega⟩
  by_cases hlt : qn < l.length
  · obtain ⟨a, rfl, hab, hcell⟩ := hc (by intro e; rw [e] at hlt; exact absurd hlt (Nat.not_lt_zero _))
    have hx := hcell qn hlt
    have hxb := u8_bd (l[qn])
    obtain ⟨x, ex⟩ : ∃ x : Int, (l[qn].toNat : Int) = x := ⟨_, rfl⟩
    rw [ex] at hx hxb
    have hd : decide ((qn : Int) < (l.length : Int)) = true := by simp; omega
    have hd2 : decide (((qn : Int) + 1) ≤ (l.length : Int)) = true := by simp; omega
    have hsn := wrap_u64 (IntKind.u64.wrap (IntKind.u64.wrap (s * 6364136223846793005) + x) + 1442695040888963407)
    obtain ⟨sn, esn⟩ : ∃ sn, IntKind.u64.wrap (IntKind.u64.wrap (IntKind.u64.wrap (s * 6364136223846793005) + x) + 1442695040888963407) = sn := ⟨_, rfl⟩
    rw [esn] at hsn
    have hset := src_set hB hc hl (show (0 : Int) ≤ (qn : Int) + 1 ∧ (qn : Int) + 1 ≤ ((n + 1 : Nat) : Int) by omega) hsn
    go_enter Try.func93, Try.ntmps93
    go_wp2
    go_region
    go_wp2
    go_region
    go_wp2
    go_region
    go_wp2
    go_ret
    exact ⟨x, rfl, by omega, hset.1, hset.2.trans (Aside.of_below (Below.refl _ _).drew.drew.drew)⟩
  · have hd : decide ((qn : Int) < (l.length : Int)) = false := by simp; omega
    have hd2 : decide (((qn : Int) + 1) ≤ (l.length : Int)) = false := by simp; omega
    have hsn := wrap_u64 (IntKind.u64.wrap (IntKind.u64.wrap (s * 6364136223846793005) + 0) + 1442695040888963407)
    obtain ⟨sn, esn⟩ : ∃ sn, IntKind.u64.wrap (IntKind.u64.wrap (IntKind.u64.wrap (s * 6364136223846793005) + 0) + 1442695040888963407) = sn := ⟨_, rfl⟩
    rw [esn] at hsn
    have hset := src_set hB hc hl (show (0 : Int) ≤ (qn : Int) + 1 ∧ (qn : Int) + 1 ≤ ((n + 1 : Nat) : Int) by omega) hsn
    rw [Int.add_zero] at esn
    go_enter Try.func93, Try.ntmps93
    go_wp2
    go_region
    go_wp2
    go_region
    go_wp2
    go_ret
    have h255 := and255 (sn / 1099511627776)
    refine ⟨_, rfl, ?_, hset.1, hset.2.trans (Aside.of_below (Below.refl _ _).drew.drew)⟩
    rw [wrap64_of (by omega) (by omega)]
    exact h255
theorem Aside.trans_below {o : Option Nat} {a b c : World} (h : Aside o a b) {B : Nat} (hb : Below B b c) (hB : a.heap.size ≤ B) : Aside o a c :=
  ⟨hb.os.trans h.os, hb.tape.trans h.tape, hb.output.trans h.output, Nat.le_trans h.size hb.size, fun i hi ho => (hb.block i (by omega)).trans (h.block i hi ho)⟩
theorem Src.belowB {w w' : World} {b n B : Nat} (h : Src w b n) (hb : Below B w w') (hB : b < B) : Src w' b n := by
  obtain ⟨p, l, cap, q, s, hK, hq, hs, hl, hc⟩ := h
  refine ⟨p, l, cap, q, s, hK.below hb hB, hq, hs, hl, fun hne => ?_⟩
  obtain ⟨a, ha', hlt, hcell⟩ := hc hne
  refine ⟨a, ha', hlt, fun i hi => ?_⟩
  rw [hb.cell (p := a.add i) (by rw [Go.ChangeShapes.block_add]; omega)]
  exact hcell i hi
theorem IntsAt.asides {o : Option Nat} {w w' : World} {p : Option Addr} {l : List Int} (h : IntsAt w p l) (ha : Aside o w w') (hne : ∀ a, p = some a → o ≠ some a.block) : IntsAt w' p l := by
  intro hl
  obtain ⟨a, hp, hlt, hc⟩ := h hl
  refine ⟨a, hp, Nat.lt_of_lt_of_le hlt ha.size, fun i hi => ?_⟩
  rw [← hc i hi]
  exact World.cell?_of_block (ha.block _ (by rw [Go.ChangeShapes.block_add]; exact hlt) (by rw [Go.ChangeShapes.block_add]; exact hne a hp))
theorem OwnB.asides {o : Option Nat} {w w' : World} {base : Nat} {v : Value} {l : List UInt8} (h : OwnB w base v l) (ha : Aside o w w') (hne : ∀ g, o = some g → g < base) : OwnB w' base v l := by
  obtain ⟨h1, h2⟩ := h
  refine ⟨h1, ?_⟩
  rcases h2 with h2 | ⟨g, cap, cur, hv, hg, hh, r⟩
  · exact .inl h2
  · have hlt : g < w.heap.size := by
      rcases Nat.lt_or_ge g w.heap.size with hlt | hge
      · exact hlt
      · rw [Array.getElem?_eq_none hge] at hh; cases hh
    exact .inr ⟨g, cap, cur, hv, hg, (ha.block g hlt (fun e => by have := hne g e; omega)).trans hh, r⟩
set_option maxHeartbeats 1000000 in
set_option maxRecDepth 20000 in
theorem src_pick (b n : Nat) (m : Int) (w : World) (hS : Src w b n) (hn : n ≤ 900000000) (hm : m ≤ 65536) :
    Calls Try.prog 67 #[.pointer (some ⟨b, 0, none⟩), .int .i64 m] w fun e w' => ∃ x, e = .returned (.int .i64 x) ∧ (0 ≤ x ∧ (x < m ∨ x = 0)) ∧ Src w' b (n + 2) ∧ Aside (some b) w w' := by
  by_cases h1 : m ≤ 1
  · have hd : decide (m ≤ 1) = true := by simp [h1]
    go_enter Try.func67, Try.ntmps67
    go_wp2
    go_ret
    exact ⟨0, rfl, by omega, hS.mono (by omega), Aside.refl _ _⟩
  · have hd : decide (m ≤ 1) = false := by simp; omega
    have hm0 : m ≠ 0 := by omega
    by_cases h2 : m ≤ 200
    · have hd2 : decide (200 < m) = false := by simp; omega
      go_enter Try.func67, Try.ntmps67
      go_wp2_with (go_at_call 93; refine (src_next b n _ hS (by omega)).mono ?_; rintro e w1 ⟨x, rfl, hx, hS1, ha1⟩; have ht : x.tmod m = x % m := Int.tmod_eq_emod_of_nonneg (by omega))
      go_ret
      have h3 := Int.emod_nonneg x (b := m) (by omega)
      have h4 := Int.emod_lt_of_pos x (b := m) (by omega)
      exact ⟨_, rfl, by omega, hS1.mono (by omega), ha1⟩
    · have hd2 : decide (200 < m) = true := by simp; omega
      go_enter Try.func67, Try.ntmps67
      go_wp2_with fail
      refine (src_next b n _ hS (by omega)).mono ?_
      rintro e w1 ⟨x, rfl, hx, hS1, ha1⟩
      go_wp2_with fail
      refine (src_next b (n + 1) _ hS1 (by omega)).mono ?_
      rintro e w2 ⟨y, rfl, hy, hS2, ha2⟩
      have ht : (x * 256 + y).tmod m = (x * 256 + y) % m := Int.tmod_eq_emod_of_nonneg (by omega)
      go_wp2_with fail
      go_ret
      have h3 := Int.emod_nonneg (x * 256 + y) (b := m) (by omega)
      have h4 := Int.emod_lt_of_pos (x * 256 + y) (b := m) (by omega)
      exact ⟨_, rfl, by omega, hS2.mono (by omega), ha1.trans ha2⟩
set_option maxHeartbeats 1000000 in
theorem src_one (b n : Nat) (m : Int) (w : World) (hS : Src w b n) (hn : n ≤ 900000000) (hm : m ≤ 65536) :
    Calls Try.prog 87 #[.pointer (some ⟨b, 0, none⟩), .int .i64 m] w fun e w' => ∃ x, e = .returned (.bool x) ∧ Src w' b (n + 2) ∧ Aside (some b) w w' := by
  go_enter Try.func87, Try.ntmps87
  go_wp2_with (go_at_call 67; refine (src_pick b n m _ hS hn hm).mono ?_; rintro e w1 ⟨x, rfl, hx, hS1, ha1⟩)
  go_ret
  exact ⟨_, rfl, hS1, ha1⟩
set_option maxHeartbeats 1000000 in
theorem src_among (b n : Nat) (p : Option Addr) (l : List Int) (cap : Nat) (w : World) (hS : Src w b n) (hn : n ≤ 900000000) (hI : IntsAt w p l) (hp : ∀ a, p = some a → a.block ≠ b) (h0 : 0 < l.length) (hl : l.length ≤ 200) :
    Calls Try.prog 86 #[.pointer (some ⟨b, 0, none⟩), .slice p l.length cap] w fun e w' => ∃ x, e = .returned (.int .i64 x) ∧ x ∈ l ∧ Src w' b (n + 2) ∧ Aside (some b) w w' := by
  obtain ⟨a, rfl, -⟩ := hI (by intro e; rw [e] at h0; exact absurd h0 (Nat.lt_irrefl _))
  go_enter Try.func86, Try.ntmps86
  go_wp2_with fail
  refine (src_pick b n l.length _ hS hn (by omega)).mono ?_
  rintro e w1 ⟨x, rfl, hx, hS1, ha1⟩
  obtain ⟨xn, rfl⟩ : ∃ xn : Nat, x = (xn : Int) := ⟨x.toNat, by omega⟩
  have hlt : xn < l.length := by omega
  obtain ⟨a', ha', hc⟩ := (hI.asides ha1 (fun a e => by injection e with e; subst e; intro h; injection h with h; exact hp _ rfl h.symm)).at_ hlt
  cases ha'
  have hmem := List.getElem_mem hlt
  go_wp2_with fail
  go_ret
  exact ⟨_, rfl, hmem, hS1, ha1⟩
end Go.Proofs.Ytfdcainjppljhaa
