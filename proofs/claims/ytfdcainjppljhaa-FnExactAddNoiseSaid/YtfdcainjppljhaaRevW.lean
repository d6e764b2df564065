/- The revolution and the changes of flux. -/
import Derived.Test.YtfdcainjppljhaaValidW
namespace Go.Proofs.Ytfdcainjppljhaa
open Go.RowKit
set_option maxHeartbeats 1000000 in
set_option maxRecDepth 20000 in
theorem impl_total (p : Option Addr) (l : List Int) (cap : Nat) (w : World) (hI : IntsAt w p l) (hl : l.length ≤ 1048576) (hs : ∀ k, -4000000000000000000 ≤ (l.take k).sum ∧ (l.take k).sum ≤ 4000000000000000000) :
    Calls Try.prog 47 #[.slice p l.length cap] w fun e w' => e = .returned (.int .i64 l.sum) ∧ w' = w := by
  have HS := Lib.hid hs
  clear hs
  go_enter Try.func47, Try.ntmps47
  go_wp2
  go_loopw [3, 8] (fun s i wr => ∃ k : Nat, k ≤ l.length ∧ i = .int .i64 k ∧ s = .int .i64 (l.take k).sum ∧ wr = w) (fun _ i _ => l.length - (intOf i).toNat)
  case atStart => exact ⟨0, Nat.zero_le _, rfl, by simp, rfl⟩
  case round =>
    obtain ⟨k, hk, rfl, rfl, rfl⟩ := hrel
    by_cases hlt : k < l.length
    · obtain ⟨a, rfl, hx⟩ := hI.at_ hlt
      have hs1 := HS.out k
      have hs2 := HS.out (k + 1)
      have hsum := sumI_take hlt
      obtain ⟨x, ex⟩ : ∃ x, l[k] = x := ⟨_, rfl⟩
      rw [ex] at hx hsum
      obtain ⟨s, es⟩ : ∃ s, (l.take k).sum = s := ⟨_, rfl⟩
      rw [es] at hs1 hsum
      rw [hsum] at hs2
      simp only [es]
      have H := Lib.hid hsum
      clear hsum es ex
      go_wp2
      exact ⟨⟨k + 1, by omega, by go_num, by rw [H.out], trivial⟩, by simp [intOf]; omega⟩
    · rw [List.take_of_length_le (by omega)]
      go_wp2
      go_ret
      exact ⟨rfl, rfl⟩
set_option maxHeartbeats 1000000 in
set_option maxRecDepth 20000 in
theorem spec_l02Revolution (c f : Int) (p : Option Addr) (l : List Int) (cap g : Nat) (w : World) (hI : IntsAt w p l) (hl : l.length ≤ 1048576) (hs : ∀ k, -4000000000000000000 ≤ (l.take k).sum ∧ (l.take k).sum ≤ 4000000000000000000) (hB : Blk w g 26 #[.int .i64 c, .int .i64 f, .slice p l.length cap]) :
    Calls Try.prog 41 #[.pointer (some ⟨g, 0, none⟩)] w fun e w' => e = .returned (.int .i64 l.sum) ∧ w' = w := by
  obtain ⟨b0, b1, b2⟩ := hB.cell3
  have HS := Lib.hid hs
  clear hs hB
  go_enter Try.func41, Try.ntmps41
  go_wp2
  go_loopw [3, 4] (fun s i wr => ∃ k : Nat, k ≤ l.length ∧ i = .int .i64 k ∧ s = .int .i64 (l.take k).sum ∧ wr = w) (fun _ i _ => l.length - (intOf i).toNat)
  case atStart => exact ⟨0, Nat.zero_le _, rfl, by simp, rfl⟩
  case round =>
    obtain ⟨k, hk, rfl, rfl, rfl⟩ := hrel
    by_cases hlt : k < l.length
    · obtain ⟨a, rfl, hx⟩ := hI.at_ hlt
      have hs1 := HS.out k
      have hs2 := HS.out (k + 1)
      have hsum := sumI_take hlt
      obtain ⟨x, ex⟩ : ∃ x, l[k] = x := ⟨_, rfl⟩
      rw [ex] at hx hsum
      obtain ⟨s, es⟩ : ∃ s, (l.take k).sum = s := ⟨_, rfl⟩
      rw [es] at hs1 hsum
      rw [hsum] at hs2
      simp only [es]
      have H := Lib.hid hsum
      clear hsum es ex
      go_wp2
      exact ⟨⟨k + 1, by omega, by go_num, by rw [H.out], trivial⟩, by simp [intOf]; omega⟩
    · rw [List.take_of_length_le (by omega)]
      go_wp2
      go_ret
      exact ⟨rfl, rfl⟩
set_option maxHeartbeats 1000000 in
set_option maxRecDepth 20000 in
theorem spec_l02Changes (c f : Int) (p : Option Addr) (l : List Int) (cap g : Nat) (w : World) (hI : IntsAt w p l) (hl : l.length ≤ 1048576) (hs : ∀ k, -4000000000000000000 ≤ f + (l.take k).sum ∧ f + (l.take k).sum ≤ 4000000000000000000) (hB : Blk w g 26 #[.int .i64 c, .int .i64 f, .slice p l.length cap]) :
    Calls Try.prog 43 #[.pointer (some ⟨g, 0, none⟩)] w fun e w' => ∃ q dap, e = .returned (.slice q (chgL f l).length dap) ∧ OwnS w' w.heap.size q (chgL f l) ∧ Below w.heap.size w w' := by
  obtain ⟨b0, b1, b2⟩ := hB.cell3
  have hg := hB.lt
  have HS := Lib.hid hs
  clear hs
  go_enter Try.func43, Try.ntmps43
  go_wp2
  go_loopw [3, 4, 5] (fun v s i wr => ∃ k : Nat, k ≤ l.length ∧ i = .int .i64 k ∧ s = .int .i64 (f + (l.take k).sum) ∧ OwnI wr w.heap.size v (chgL f (l.take k)) ∧ Below w.heap.size w wr) (fun _ _ i _ => l.length - (intOf i).toNat)
  case atStart => exact ⟨0, Nat.zero_le _, rfl, by simp, OwnI.nil0 _, (Below.refl _ _).alloc (Nat.le_refl _) _⟩
  case round =>
    obtain ⟨k, hk, rfl, rfl, hown, hbel⟩ := hrel
    obtain ⟨d0, d1, d2⟩ := (hB.keep hbel).cell3
    clear b0 b1 b2
    by_cases hlt : k < l.length
    · have hI' := hI.below hbel
      have hs1 := HS.out k
      have hs2 := HS.out (k + 1)
      have hsum := sumI_take hlt
      have hsn := chgL_snoc f (l.take k) (l[k])
      rw [← takeI_snoc hlt] at hsn
      have hcl : (chgL f (l.take k)).length ≤ 1048576 := by rw [chgL_len]; simp; omega
      obtain ⟨a, rfl, hx⟩ := hI'.at_ hlt
      have hxw : (a.add k).block < w.heap.size ∧ w.cell? (a.add k) = some (.int .i64 (l[k])) := by
        obtain ⟨b, hb, hlb, hcb⟩ := hI (by intro e; rw [e] at hlt; exact absurd hlt (Nat.not_lt_zero k))
        cases hb
        exact ⟨by rw [Go.ChangeShapes.block_add]; exact hlb, hcb k hlt⟩
      obtain ⟨x, ex⟩ : ∃ x, l[k] = x := ⟨_, rfl⟩
      rw [ex] at hx hsum hxw
      obtain ⟨s, es⟩ : ∃ s, f + (l.take k).sum = s := ⟨_, rfl⟩
      have hsum2 : f + (l.take (k + 1)).sum = s + x := by rw [hsum, ← es]; omega
      rw [es] at hs1 hsn
      rw [hsum2] at hs2
      simp only [es]
      have H := Lib.hid hsum2
      have HN := Lib.hid hsn
      clear hsum hsum2 hsn es ex
      have hz := hbel.size
      go_wp2_with (at_builtin; refine append_int _ rfl _ _ rfl w.heap.size u3 (chgL f (l.take k)) s rfl rfl hown (by omega) hz ?_; intro v1 w1 hown1 hb1; have hb2 := hbel.trans hb1; obtain ⟨f0, f1, f2⟩ := (hB.keep hb2).cell3; obtain ⟨j1, j2⟩ := bcell hb2; have hx1 : w1.cell? (a.add k) = some (.int .i64 x) := (hb2.cell (p := a.add k) hxw.1).trans hxw.2)
      refine ⟨⟨k + 1, by omega, by go_num, by rw [H.out], ?_, hb2⟩, by simp [intOf]; omega⟩
      rw [HN.out]
      exact hown1
    · rw [List.take_of_length_le (by omega)] at hown
      obtain ⟨q, dap, hv, hS⟩ := hown.open_
      subst hv
      go_wp2
      go_ret
      exact ⟨q, dap, rfl, hS, hbel⟩
set_option maxHeartbeats 1000000 in
set_option maxRecDepth 20000 in
theorem impl_changes (c f : Int) (p : Option Addr) (l : List Int) (cap : Nat) (w : World) (hI : IntsAt w p l) (hl : l.length ≤ 1048576) (hs : ∀ k, -4000000000000000000 ≤ f + (l.take k).sum ∧ f + (l.take k).sum ≤ 4000000000000000000) :
    Calls Try.prog 49 #[.agg #[.int .i64 c, .int .i64 f, .slice p l.length cap]] w fun e w' => ∃ q dap, e = .returned (.slice q (chgL f l).length dap) ∧ OwnS w' w.heap.size q (chgL f l) ∧ Below w.heap.size w w' := by
  have HS := Lib.hid hs
  clear hs
  have hmk := make_ints l.length (by omega)
  have hcl := chgL_len f l
  go_enter Try.func49, Try.ntmps49
  go_wp2
  clear hmk
  go_loopw [4, 16] (fun s i wr => ∃ k : Nat, k ≤ l.length ∧ i = .int .i64 k ∧ s = .int .i64 (f + (l.take k).sum) ∧ RowI wr (w.heap.size + 1) (fillP (chgL f l) k) ∧ Below (w.heap.size + 1) (w.alloc (.cells #[.int .i64 c, .int .i64 f, .slice p l.length cap] 26)) wr) (fun _ i _ => l.length - (intOf i).toNat)
  case atStart =>
    refine ⟨0, Nat.zero_le _, rfl, by simp, ?_, ?_⟩
    · rw [fillP_zero, hcl]
      have := RowI.made (w.alloc (.cells #[.int .i64 c, .int .i64 f, .slice p l.length cap] 26)) l.length
      simpa using this
    · exact (Below.refl _ _).alloc (by simp) _
  case round =>
    obtain ⟨k, hk, rfl, rfl, hrow, hbel⟩ := hrel
    have hbw : Below w.heap.size w wr := ((Below.refl w.heap.size w).alloc (Nat.le_refl _) _).trans (hbel.mono (by omega))
    by_cases hlt : k < l.length
    · have hs1 := HS.out k
      have hs2 := HS.out (k + 1)
      have hsum := sumI_take hlt
      have hat := chgL_at f l k (by omega)
      have hf := (hrow.cell (k := k) (by rw [fillP_len (by omega)]; omega))
      have hn := hrow.set_ k (f + (l.take k).sum)
      rw [← hat, fillP_set (by omega)] at hn
      rw [hat] at hn
      obtain ⟨a, rfl, hx⟩ := (hI.below hbw).at_ hlt
      obtain ⟨x, ex⟩ : ∃ x, l[k] = x := ⟨_, rfl⟩
      rw [ex] at hx hsum
      obtain ⟨s, es⟩ : ∃ s, f + (l.take k).sum = s := ⟨_, rfl⟩
      have hsum2 : f + (l.take (k + 1)).sum = s + x := by rw [hsum, ← es]; omega
      rw [es] at hs1 hn
      rw [hsum2] at hs2
      simp only [es]
      have H := Lib.hid hsum2
      clear hsum hsum2 hat es ex
      go_wp2
      exact ⟨⟨k + 1, by omega, by go_num, by rw [H.out], hn, hbel.setCell (Nat.le_refl _) _⟩, by simp [intOf]; omega⟩
    · rw [fillP_all (by omega)] at hrow
      have HC := Lib.hid hcl
      clear hcl
      go_wp2
      go_ret
      exact ⟨some ⟨w.heap.size + 1, 0, none⟩, l.length, by rw [HC.out]; rfl, OwnS.of_row hrow (by omega), hbw⟩
/-- Prefix sums of valid flux are small. -/
theorem fluxOk_sums {c f : Int} {l : List Int} (h : fluxOk c f l = true) : (∀ k, -4000000000000000000 ≤ (l.take k).sum ∧ (l.take k).sum ≤ 4000000000000000000) ∧ (∀ k, -4000000000000000000 ≤ f + (l.take k).sum ∧ f + (l.take k).sum ≤ 4000000000000000000) := by
  obtain ⟨-, -, -, h4, h5, -⟩ := fluxOk_bd h
  exact ⟨fun k => by have := h4 k; omega, fun k => by have := h4 k; omega⟩
def revV (c f : Int) (l : List Int) : Int := if fluxOk c f l then l.sum else -1
set_option maxHeartbeats 1000000 in
set_option maxRecDepth 20000 in
theorem impl_RevolutionOf (c f : Int) (p : Option Addr) (l : List Int) (cap : Nat) (w : World) (hI : IntsAt w p l) (hl : l.length ≤ 1048576) :
    Calls Try.prog 20 #[.agg #[.int .i64 c, .int .i64 f, .slice p l.length cap]] w fun e w' => e = .returned (.int .i64 (revV c f l)) ∧ Below w.heap.size w w' := by
  have B0 := Blk.new w 26 #[.int .i64 c, .int .i64 f, .slice p l.length cap]
  cases hok : fluxOk c f l
  · have H := Lib.hid hok
    clear hok
    go_enter Try.func20, Try.ntmps20
    go_wp2_with (go_at_call 46; refine (impl_ValidFlux c f p l cap _ (hI.alloc _) hl).mono ?_; rintro e w1 ⟨rfl, hb1⟩; rw [H.out])
    go_ret
    exact ⟨ret_int (by unfold revV; rw [H.out]; rfl), below_al (Below.refl _ _) hb1 (Nat.le_refl _)⟩
  · have H := Lib.hid hok
    clear hok
    go_enter Try.func20, Try.ntmps20
    go_wp2_with (first | (go_at_call 46; refine (impl_ValidFlux c f p l cap _ (hI.alloc _) hl).mono ?_; rintro e w1 ⟨rfl, hb1⟩; rw [H.out]; obtain ⟨b0, b1, b2⟩ := (B0.keep hb1).cell3; have J1 := (hI.alloc _).below hb1) | (go_at_call 47; refine (impl_total _ _ _ _ J1 hl (fluxOk_sums H.out).1).mono ?_; rintro e w2 ⟨rfl, rfl⟩))
    go_ret
    exact ⟨ret_int (by unfold revV; rw [H.out]; rfl), below_al (Below.refl _ _) hb1 (Nat.le_refl _)⟩
def chV (c f : Int) (l : List Int) : List Int := if fluxOk c f l then chgL f l else []
theorem chV_len (c f : Int) (l : List Int) : (chV c f l).length ≤ l.length := by unfold chV; split <;> simp [chgL_len]
set_option maxHeartbeats 1000000 in
set_option maxRecDepth 20000 in
theorem impl_ChangesOf (c f : Int) (p : Option Addr) (l : List Int) (cap : Nat) (w : World) (hI : IntsAt w p l) (hl : l.length ≤ 1048576) :
    Calls Try.prog 18 #[.agg #[.int .i64 c, .int .i64 f, .slice p l.length cap]] w fun e w' => ∃ q dap, e = .returned (.slice q (chV c f l).length dap) ∧ OwnS w' w.heap.size q (chV c f l) ∧ Below w.heap.size w w' := by
  have B0 := Blk.new w 26 #[.int .i64 c, .int .i64 f, .slice p l.length cap]
  cases hok : fluxOk c f l
  · have H := Lib.hid hok
    clear hok
    go_enter Try.func18, Try.ntmps18
    go_wp2_with (go_at_call 46; refine (impl_ValidFlux c f p l cap _ (hI.alloc _) hl).mono ?_; rintro e w1 ⟨rfl, hb1⟩; rw [H.out])
    go_ret
    have E : chV c f l = [] := by unfold chV; rw [H.out]; rfl
    exact ⟨none, 0, by rw [E]; rfl, by rw [E]; exact OwnS.nil_ _ _ _, below_al (Below.refl _ _) hb1 (Nat.le_refl _)⟩
  · have H := Lib.hid hok
    clear hok
    go_enter Try.func18, Try.ntmps18
    go_wp2_with (first | (go_at_call 46; refine (impl_ValidFlux c f p l cap _ (hI.alloc _) hl).mono ?_; rintro e w1 ⟨rfl, hb1⟩; rw [H.out]; obtain ⟨b0, b1, b2⟩ := (B0.keep hb1).cell3; have J1 := (hI.alloc _).below hb1) | (go_at_call 49; refine (impl_changes _ _ _ _ _ _ J1 hl (fluxOk_sums H.out).2).mono ?_; rintro e w2 ⟨q, dap, rfl, hS, hb2⟩))
    go_ret
    have E : chV c f l = chgL f l := by unfold chV; rw [H.out]; rfl
    have hz := hb1.size
    simp at hz
    exact ⟨q, dap, by rw [E]; rfl, by rw [E]; exact hS.mono (by omega), below_st (below_al (Below.refl _ _) hb1 (Nat.le_refl _)) hb2 (Nat.le_refl _)⟩
end Go.Proofs.Ytfdcainjppljhaa
