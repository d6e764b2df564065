/- Draws of flux. -/
import Derived.Test.YtfdcainjppljhaaDraw2W
import Derived.Test.YtfdcainjppljhaaOnesW
import Derived.Test.YtfdcainjppljhaaValidW
import Derived.Deep.RegionHeld3
import Derived.Deep.DeepCutAuto
namespace Go.Proofs.Ytfdcainjppljhaa
open Go.RowKit
set_option linter.unusedVariables false
theorem src_l02DrawCell (b n : Nat) (w : World) (hS : Src w b n) (hn : n ≤ 100000000) :
    Calls Try.prog 85 #[.pointer (some ⟨b, 0, none⟩)] w fun e w' => ∃ x, e = .returned (.int .i64 x) ∧ (4 ≤ x ∧ x ≤ 200) ∧ Src w' b (n + 2) ∧ Aside (some b) w w' := by
  have hbl := hS.lt
  go_enter Try.func85, Try.ntmps85
  go_wp2_with fail
  refine (src_among b _ _ [4, 10, 16, 20, 25, 40, 200] 7 _ (hS.below ((Below.refl _ _).alloc (Nat.le_refl _) _)) (by omega) (lit_ints w [4, 10, 16, 20, 25, 40, 200]) (fun a e => by injection e with e; subst e; simp; omega) (by decide) (by decide)).mono ?_
  rintro e w1 ⟨x, rfl, hx, hS1, ha1⟩
  go_wp2_with fail
  go_ret
  exact ⟨x, rfl, by simp at hx; omega, hS1, (Aside.of_below ((Below.refl _ _).alloc (Nat.le_refl _) _)).trans ha1⟩
/-- Flux under way: the variable's block bf, the result's block. -/
structure DrF (b n : Nat) (w : World) (bf : Nat) (wx : World) (cf f : Int) (q : Option Addr) (l : List Int) (cap : Nat) : Prop where
  src : Src wx b n
  r : Blk wx w.heap.size 26 #[.int .i64 0, .int .i64 0, .slice none 0 0]
  blk : Blk wx bf 26 #[.int .i64 cf, .int .i64 f, .slice q l.length cap]
  own : OwnS wx (w.heap.size + 1) q l
  ne : ∀ g, q = some ⟨g, 0, none⟩ → g ≠ bf
  aside : Aside (some b) w wx
  hb : b < w.heap.size
  hbf : w.heap.size < bf
  len : l.length ≤ 84
theorem DrF.step {b n m : Nat} {w : World} {bf : Nat} {wx wy : World} {cf f : Int} {q : Option Addr} {l : List Int} {cap : Nat} (h : DrF b n w bf wx cf f q l cap) (ha : Aside (some b) wx wy) (hs : Src wy b m) : DrF b m w bf wy cf f q l cap :=
  ⟨hs, h.r.asides ha (fun e => by injection e with e; have := h.hb; omega), h.blk.asides ha (fun e => by injection e with e; have := h.hb; have := h.hbf; omega), h.own.asides ha (fun hl g hp e => by injection e with e; have h1 := (h.own.lt hl hp).1; have := h.hb; omega), h.ne, h.aside.trans ha, h.hb, h.hbf, h.len⟩
theorem DrF.drew {b n : Nat} {w : World} {bf : Nat} {wx : World} {cf f : Int} {q : Option Addr} {l : List Int} {cap : Nat} (h : DrF b n w bf wx cf f q l cap) : DrF b n w bf wx.drew cf f q l cap := h.step (Aside.of_below (Below.refl _ _).drew) h.src.drew
theorem DrF.al {b n : Nat} {w : World} {bf : Nat} {wx : World} {cf f : Int} {q : Option Addr} {l : List Int} {cap : Nat} (h : DrF b n w bf wx cf f q l cap) (o : Obj) : DrF b n w bf (wx.alloc o) cf f q l cap :=
  h.step (Aside.of_below ((Below.refl _ _).alloc (Nat.le_refl _) o)) (h.src.below ((Below.refl _ _).alloc (Nat.le_refl _) o))
theorem DrF.mono {b n m : Nat} {w : World} {bf : Nat} {wx : World} {cf f : Int} {q : Option Addr} {l : List Int} {cap : Nat} (h : DrF b n w bf wx cf f q l cap) (hm : n ≤ m) : DrF b m w bf wx cf f q l cap := { h with src := h.src.mono hm }
theorem Blk.set30 {w : World} {g : Nat} {t : TypeId} {a b c : Value} (h : Blk w g t #[a, b, c]) (x : Value) : Blk (w.setCell ⟨g, 0, none⟩ x) g t #[x, b, c] := by
  have hB' : w.heap[g]? = some (.cells #[a, b, c] t (0, 0)) := h
  unfold Blk
  simp [World.setCell, Array.getElem?_modify, hB']
theorem Blk.set31 {w : World} {g : Nat} {t : TypeId} {a b c : Value} (h : Blk w g t #[a, b, c]) (x : Value) : Blk (w.setCell ⟨g, 1, none⟩ x) g t #[a, x, c] := by
  have hB' : w.heap[g]? = some (.cells #[a, b, c] t (0, 0)) := h
  unfold Blk
  simp [World.setCell, Array.getElem?_modify, hB']
theorem Blk.set32' {w : World} {g : Nat} {t : TypeId} {a b c : Value} (h : Blk w g t #[a, b, c]) (x : Value) : Blk (w.setCell ⟨g, 2, none⟩ x) g t #[a, b, x] := by
  have hB' : w.heap[g]? = some (.cells #[a, b, c] t (0, 0)) := h
  unfold Blk
  simp [World.setCell, Array.getElem?_modify, hB']
theorem DrF.setG {b n : Nat} {w : World} {bf : Nat} {wx : World} {cf f : Int} {g : Nat} {l : List Int} {cap : Nat} (h : DrF b n w bf wx cf f (some ⟨g, 0, none⟩) l cap) (hl : l ≠ []) (i : Nat) (V : Int) : DrF b n w bf (wx.setCell ⟨g, i, none⟩ (.int .i64 V)) cf f (some ⟨g, 0, none⟩) (l.set i V) cap := by
  obtain ⟨g', e, hg, hrow⟩ := h.own hl
  injection e with e; injection e with e
  subst e
  have hb := h.hb
  have hne := h.ne g rfl
  have hB := (Below.refl g wx).setCell (p := ⟨g, i, none⟩) (Nat.le_refl _) (.int .i64 V)
  refine ⟨h.src.belowB hB (by omega), h.r.off (by omega) i _, ?_, OwnS.of_row (hrow.set_ i V) hg, h.ne, h.aside.trans_below hB (by omega), h.hb, h.hbf, by rw [List.length_set]; exact h.len⟩
  rw [List.length_set]
  exact h.blk.off (fun e => hne e.symm) i _
theorem DrF.setC {b n : Nat} {w : World} {bf : Nat} {wx : World} {cf f : Int} {q : Option Addr} {l : List Int} {cap : Nat} (h : DrF b n w bf wx cf f q l cap) (x : Int) : DrF b n w bf (wx.setCell ⟨bf, 0, none⟩ (.int .i64 x)) x f q l cap := by
  have hb := h.hb; have hbf := h.hbf
  have hB := (Below.refl bf wx).setCell (p := ⟨bf, 0, none⟩) (Nat.le_refl _) (.int .i64 x)
  exact ⟨h.src.belowB hB (by omega), h.r.off (by omega) _ _, h.blk.set30 _, h.own.asides (Aside.setCell bf 0 _) (fun hl g hp e => by injection e with e; exact h.ne g hp e.symm), h.ne, h.aside.trans_below hB (by omega), h.hb, h.hbf, h.len⟩
theorem DrF.setF {b n : Nat} {w : World} {bf : Nat} {wx : World} {cf f : Int} {q : Option Addr} {l : List Int} {cap : Nat} (h : DrF b n w bf wx cf f q l cap) (x : Int) : DrF b n w bf (wx.setCell ⟨bf, 1, none⟩ (.int .i64 x)) cf x q l cap := by
  have hb := h.hb; have hbf := h.hbf
  have hB := (Below.refl bf wx).setCell (p := ⟨bf, 1, none⟩) (Nat.le_refl _) (.int .i64 x)
  exact ⟨h.src.belowB hB (by omega), h.r.off (by omega) _ _, h.blk.set31 _, h.own.asides (Aside.setCell bf 1 _) (fun hl g hp e => by injection e with e; exact h.ne g hp e.symm), h.ne, h.aside.trans_below hB (by omega), h.hb, h.hbf, h.len⟩
theorem DrF.setN {b n : Nat} {w : World} {bf : Nat} {wx : World} {cf f : Int} {q : Option Addr} {l : List Int} {cap : Nat} (h : DrF b n w bf wx cf f q l cap) : DrF b n w bf (wx.setCell ⟨bf, 2, none⟩ (.slice none 0 0)) cf f none [] 0 := by
  have hb := h.hb; have hbf := h.hbf
  have hB := (Below.refl bf wx).setCell (p := ⟨bf, 2, none⟩) (Nat.le_refl _) (.slice none 0 0)
  exact ⟨h.src.belowB hB (by omega), h.r.off (by omega) _ _, h.blk.set32' _, OwnS.nil_ _ _ _, (fun g e => by cases e), h.aside.trans_below hB (by omega), h.hb, h.hbf, Nat.zero_le _⟩
/-- What the function leaves. -/
theorem DrF.done {b n : Nat} {w : World} {bf : Nat} {wx : World} {cf f : Int} {q : Option Addr} {l : List Int} {cap : Nat} (h : DrF b n w bf wx cf f q l cap) (x y z : Value) :
    OwnS (((wx.setCell ⟨w.heap.size, 0, none⟩ x).setCell ⟨w.heap.size, 1, none⟩ y).setCell ⟨w.heap.size, 2, none⟩ z) w.heap.size q l ∧ l.length ≤ 84 ∧ Src (((wx.setCell ⟨w.heap.size, 0, none⟩ x).setCell ⟨w.heap.size, 1, none⟩ y).setCell ⟨w.heap.size, 2, none⟩ z) b n ∧ Aside (some b) w (((wx.setCell ⟨w.heap.size, 0, none⟩ x).setCell ⟨w.heap.size, 1, none⟩ y).setCell ⟨w.heap.size, 2, none⟩ z) := by
  have hb := h.hb
  have hB := (((Below.refl w.heap.size wx).setCell (p := ⟨w.heap.size, 0, none⟩) (Nat.le_refl _) x).setCell (p := ⟨w.heap.size, 1, none⟩) (Nat.le_refl _) y).setCell (p := ⟨w.heap.size, 2, none⟩) (Nat.le_refl _) z
  exact ⟨(((h.own.offS (g' := w.heap.size) (Nat.lt_succ_self _) 0 x).offS (g' := w.heap.size) (Nat.lt_succ_self _) 1 y).offS (g' := w.heap.size) (Nat.lt_succ_self _) 2 z).mono (Nat.le_succ _), h.len, h.src.belowB hB hb, h.aside.trans_below hB (Nat.le_refl _)⟩
set_option maxHeartbeats 4000000 in
set_option maxRecDepth 20000 in
theorem src_l02DrawFlux (b n : Nat) (w : World) (hS : Src w b n) (hn : n ≤ 10000000) :
    Calls Try.prog 57 #[.pointer (some ⟨b, 0, none⟩)] w fun e w' => ∃ (cf f : Int) (q : Option Addr) (l : List Int) (cap : Nat), e = .returned (.agg #[.int .i64 cf, .int .i64 f, .slice q l.length cap]) ∧ OwnS w' w.heap.size q l ∧ l.length ≤ 84 ∧ Src w' b (n + 3000) ∧ Aside (some b) w w' := by
  have hbl := hS.lt
  have R0 := Blk.new w 26 #[.int .i64 0, .int .i64 0, .slice none 0 0]
  have A0 : Aside (some b) w (w.alloc (.cells #[.int .i64 0, .int .i64 0, .slice none 0 0] 26)) := Aside.of_below ((Below.refl _ _).alloc (Nat.le_refl _) _)
  have S0 := hS.below ((Below.refl _ w).alloc (Nat.le_refl _) (.cells #[.int .i64 0, .int .i64 0, .slice none 0 0] 26))
  have z0 : w.heap.size + 1 ≤ (w.alloc (.cells #[.int .i64 0, .int .i64 0, .slice none 0 0] 26)).heap.size := by simp
  go_enter Try.func57, Try.ntmps57
  go_wp2_with fail
  generalize w.alloc (.cells #[.int .i64 0, .int .i64 0, .slice none 0 0] 26) = w0 at *
  refine (src_l02Draw b n 20 _ S0 (by omega) (by omega)).mono ?_
  rintro e w1 ⟨s, rfl, hs, hS1, ha1⟩
  have R1 := R0.asides ha1 (fun e => by injection e with e; omega)
  have A1 := A0.trans ha1
  have z1 := ha1.size
  clear ha1 R0 A0 S0
  have hbg : b < w1.heap.size := by omega
  have D1 : DrF b (n + 1000) w (w1.heap.size + 1) ((w1.alloc (.cells #[.int .i64 30] 2)).alloc (.cells #[.int .i64 10, .int .i64 5, .slice (some ⟨w1.heap.size, 0, none⟩) 1 1] 26)) 10 5 (some ⟨w1.heap.size, 0, none⟩) [30] 1 := by
    have ha : Aside (some b) w1 ((w1.alloc (.cells #[.int .i64 30] 2)).alloc (.cells #[.int .i64 10, .int .i64 5, .slice (some ⟨w1.heap.size, 0, none⟩) 1 1] 26)) := (Aside.of_below ((Below.refl _ _).alloc (Nat.le_refl _) _)).trans (Aside.of_below ((Below.refl _ _).alloc (Nat.le_refl _) _))
    have hbz := Blk.new (w1.alloc (.cells #[.int .i64 30] 2)) 26 #[.int .i64 10, .int .i64 5, .slice (some ⟨w1.heap.size, 0, none⟩) 1 1]
    have e1 : (w1.alloc (.cells #[.int .i64 30] 2)).heap.size = w1.heap.size + 1 := by simp
    rw [e1] at hbz
    have hrow : RowI (w1.alloc (.cells #[.int .i64 30] 2)) w1.heap.size [30] := by
      have B := Blk.new w1 2 #[.int .i64 30]
      refine ⟨B.lt, fun i hi => ?_⟩
      have : i = 0 := by simp at hi; omega
      subst this
      exact ⟨by rw [B.cell 0]; rfl, B.frozen 0⟩
    exact ⟨hS1.below ((Below.refl _ w1).alloc (Nat.le_refl _) _) |>.below ((Below.refl _ _).alloc (Nat.le_refl _) _), R1.asides ha (fun e => by injection e with e; omega), hbz, (OwnS.of_row hrow (by omega)).below ((Below.refl _ _).alloc (Nat.le_refl _) _), fun g e => by injection e with e; injection e with e; omega, A1.trans ha, hbl, by omega, by simp⟩
  go_upto_if 13 with (go_at_call 83; refine (spec_l02Ones s _ (by omega)).mono ?_; rintro e w2 ⟨rfl, rfl⟩)
  go_cut [14] (fun _ wx => ∃ (cf f : Int) (q : Option Addr) (l : List Int) (cap : Nat), DrF b (n + 1100) w (w1.heap.size + 1) wx cf f q l cap ∧ 1 ≤ l.length)
  case first =>
    have hol := onesL_len s.data.toList s.size
    have hflux := fun cell w' hc h1 => spec_l02Flux s cell w' (by omega) hc h1
    have hgl := fun cell (h1 : 1 ≤ (onesL s.data.toList s.size).length) => (gapsT_len (timesZ s.data.toList cell s.size) ((s.size : Int) * cell) (by rw [timesZ_len]; exact h1)).trans (timesZ_len s.data.toList cell s.size)
    obtain ⟨m, hm⟩ : ∃ m, (onesL s.data.toList s.size).length = m := ⟨_, rfl⟩
    rw [hm] at hol hflux hgl ⊢
    by_cases h0 : m = 0
    · subst h0
      go_wp2_with fail
      go_meet
      exact ⟨_, _, _, [30], _, D1.mono (by omega), by simp⟩
    · have d0 : decide (0 < (m : Int)) = true := decide_eq_true (by omega)
      have d1 : 0 < m := by omega
      clear hm
      go_wp2_with fail
      refine (src_l02DrawCell b _ _ D1.src (by omega)).mono ?_
      rintro e w3 ⟨cell, rfl, hc, hS3, ha3⟩
      have D3 := D1.step ha3 hS3
      go_wp2_with fail
      refine (hflux cell _ (by omega) (by omega)).mono ?_
      rintro e w4 ⟨q4, d4, rfl, S4, hb4⟩
      have hgl := hgl cell (by omega)
      generalize gapsT (timesZ s.data.toList cell s.size) ((s.size : Int) * cell) = G at *
      generalize (timesZ s.data.toList cell s.size).headD 0 = y at *
      have D4 := D3.step (Aside.of_below hb4) (D3.src.below hb4)
      have hlt3 := D3.blk.lt
      obtain ⟨c0, c1, c2⟩ := D4.blk.cell3
      have cf4 := D4.blk.frozen
      have clt := D4.blk.lt
      have hGne : G ≠ [] := by intro e; rw [e] at hgl; simp at hgl; omega
      have HG := Lib.hid hgl
      clear hgl
      go_wp2_with fail
      go_meet
      have hBw := (((Below.refl (w1.heap.size + 1) w4).setCell (p := ⟨w1.heap.size + 1, 0, none⟩) (Nat.le_refl _) (.int .i64 cell)).setCell (p := ⟨w1.heap.size + 1, 1, none⟩) (Nat.le_refl _) (.int .i64 y)).setCell (p := ⟨w1.heap.size + 1, 2, none⟩) (Nat.le_refl _) (.slice q4 G.length d4)
      exact ⟨cell, y, q4, G, d4, ⟨(D4.src.belowB hBw (by omega)).mono (by omega), ((D4.r.off (g' := w1.heap.size + 1) (by omega) _ _).off (g' := w1.heap.size + 1) (by omega) _ _).off (g' := w1.heap.size + 1) (by omega) _ _, D4.blk.set3 _ _ _,
        (((S4.offS (g' := w1.heap.size + 1) hlt3 0 _).offS (g' := w1.heap.size + 1) hlt3 1 _).offS (g' := w1.heap.size + 1) hlt3 2 _).mono (show w.heap.size + 1 ≤ w3.heap.size by omega),
        fun g e => by obtain ⟨g', e2, hge, -⟩ := S4 hGne; rw [e] at e2; injection e2 with e2; injection e2 with e2; omega, D4.aside.trans_below hBw (by omega), hbl, by omega, by have := HG.out; omega⟩, by have := HG.out; omega⟩
  case rest =>
    obtain ⟨cf, f, q, l, cap, D, h1⟩ := hcut
    obtain ⟨wx, hwc⟩ : ∃ wx, wx = wc := ⟨_, rfl⟩
    subst hwc
    clear D1 hS1 R1 A1
    generalize w1.heap.size + 1 = bf at *
    go_wp2_with fail
    refine (src_pick b _ 4 _ D.src (by omega) (by omega)).mono ?_
    rintro e w2 ⟨k0, rfl, hk0, hS2, ha2⟩
    replace D := D.step ha2 hS2
    clear ha2 hS2
    go_wp2_with fail
    go_loopw [5] (fun kv wr => ∃ (k cf f : Int) (q : Option Addr) (l : List Int) (cap : Nat), (0 ≤ k ∧ k ≤ 3) ∧ kv = .int .i64 k ∧ DrF b (n + 1200 - 6 * k.toNat) w bf wr cf f q l cap ∧ 1 ≤ l.length) (fun kv _ => (intOf kv).toNat)
    case atStart => exact ⟨k0, cf, f, q, l, cap, by omega, rfl, D.mono (by omega), h1⟩
    case round =>
      clear D h1
      obtain ⟨k, cf, f, q, l, cap, hk, rfl, D, h1⟩ := hrel
      have hll := D.len
      obtain ⟨c0, c1, c2⟩ := D.blk.cell3
      have clt := D.blk.lt
      by_cases h0 : 0 < k
      · have hd : decide (0 < k) = true := decide_eq_true h0
        go_wp2_with fail
        refine (src_pick b _ (l.length : Int) _ D.src (by omega) (by omega)).mono ?_
        rintro e w3 ⟨y, rfl, hy, hS3, ha3⟩
        replace D := D.step ha3 hS3
        obtain ⟨i, rfl⟩ : ∃ i : Nat, y = (i : Int) := ⟨y.toNat, by omega⟩
        have hil : i < l.length := by omega
        clear c0 c1 c2 clt ha3 hS3
        obtain ⟨g, rfl, hg, hrow⟩ := D.own (by intro e; rw [e] at h1; simp at h1)
        obtain ⟨c0, c1, c2⟩ := D.blk.cell3
        have clt := D.blk.lt
        obtain ⟨hx, hxf⟩ := hrow.cell hil
        go_wp2_with fail
        go_region_with (go_at_call 67; refine (src_pick b _ 5 _ (by first | exact D.src.drew | exact D.src) (by omega) (by omega)).mono ?_; rintro e w5 ⟨z, rfl, hz, hS5, ha5⟩; have D5 := D.drew.step ha5 hS5; obtain ⟨c0', c1', c2'⟩ := D5.blk.cell3; have clt' := D5.blk.lt; have hrow5 := (hrow.drew).asides ha5 (fun e => by injection e with e; have := D.hb; omega); obtain ⟨hx5, hxf5⟩ := hrow5.cell hil)
        all_goals
          go_wp2_with fail
          go_roundw
          case rel => exact ⟨k - 1, cf, f, _, l.set i _, cap, by omega, by go_num, (D5.setG (by intro e; rw [e] at h1; simp at h1) i _).mono (by omega), by rw [List.length_set]; exact h1⟩
          case measure => simp [intOf]; omega
      · have hk0 : k = 0 := by omega
        subst hk0
        have hd : decide ((0 : Int) < 0) = false := by decide
        go_wp2_with fail
        refine (src_pick b _ 20 _ D.src (by omega) (by omega)).mono ?_
        rintro e w3 ⟨x, rfl, hx, hS3, ha3⟩
        replace D := D.step ha3 hS3
        clear c0 c1 c2 clt ha3 hS3
        obtain ⟨c0, c1, c2⟩ := D.blk.cell3
        have clt := D.blk.lt
        have cfr := D.blk.frozen
        have hbf := D.hbf
        have hne : bf ≠ w.heap.size := by omega
        have hne2 : w.heap.size ≠ bf := by omega
        by_cases e0 : x = 0
        · subst e0
          clear cfr
          go_wp2_with fail
          refine (src_among b _ _ [3, 201, 0] 3 _ (D.al _).src (by omega) (lit_ints w3 [3, 201, 0]) (fun a e => by injection e with e; subst e; have := D.aside.size; simp; omega) (by decide) (by decide)).mono ?_
          rintro e w4 ⟨z, rfl, hz, hS4, ha4⟩
          have D4 := (D.al (.cells #[.int .i64 3, .int .i64 201, .int .i64 0] 2)).step ha4 hS4
          obtain ⟨k0', k1, k2⟩ := D4.blk.cell3
          have kf := D4.blk.frozen
          have klt := D4.blk.lt
          obtain ⟨r0, r1', r2⟩ := (D4.setC z).r.cell3
          have rf := (D4.setC z).r.frozen
          have rlt := (D4.setC z).r.lt
          obtain ⟨e0, e1, e2⟩ := ((D4.setC z).r.set3 (.int .i64 z) (.int .i64 f) (.slice q l.length cap)).cell3
          have hfin := (D4.setC z).done (.int .i64 z) (.int .i64 f) (.slice q l.length cap)
          go_wp2_with fail
          refine bodyPost_ret (v := .agg #[.int .i64 z, .int .i64 f, .slice q l.length cap]) (by simp [results, Try.results57, go_sem, e0, e1, e2]) rfl ?_
          exact ⟨z, f, q, l, cap, rfl, hfin.1, hfin.2.1, hfin.2.2.1.mono (by omega), hfin.2.2.2⟩
        have d0 : (x == 0) = false := by rw [beq_eq_false_iff_ne]; exact e0
        by_cases e1 : x = 1
        · subst e1
          obtain ⟨g, rfl, hg, hrow⟩ := D.own (by intro e; rw [e] at h1; simp at h1)
          obtain ⟨jm, ejm⟩ : ∃ jm, l.length - 1 = jm := ⟨_, rfl⟩
          obtain ⟨hx0, -⟩ := hrow.cell (k := jm) (by omega)
          obtain ⟨z0, ez0⟩ : ∃ z0, l[jm]'(by omega) = z0 := ⟨_, rfl⟩
          rw [ez0] at hx0
          have q0 : IntKind.i64.wrap ((l.length : Int) - 1) = (jm : Int) := by rw [IntWalk.i64_in _ (by omega)]; omega
          have q1 : (l.length : Int) - 1 = (jm : Int) := by omega
          have i0 : (jm : Int) < (l.length : Int) := by omega
          clear cfr ez0 ejm
          go_wp2_with fail
          refine (src_among b _ _ [-1, 1000, z0] 3 _ (D.al _).src (by omega) (lit_ints w3 [-1, 1000, z0]) (fun a e => by injection e with e; subst e; have := D.aside.size; simp; omega) (Nat.zero_lt_succ _) (by simp)).mono ?_
          rintro e w4 ⟨z, rfl, hz, hS4, ha4⟩
          have D4 := (D.al (.cells #[.int .i64 (-1), .int .i64 1000, .int .i64 z0] 2)).step ha4 hS4
          clear c0 c1 c2
          obtain ⟨c0, c1, c2⟩ := D4.blk.cell3
          have kf := D4.blk.frozen
          have klt := D4.blk.lt
          obtain ⟨r0, r1', r2⟩ := (D4.setF z).r.cell3
          have rf := (D4.setF z).r.frozen
          have rlt := (D4.setF z).r.lt
          obtain ⟨e0, e1, e2⟩ := ((D4.setF z).r.set3 (.int .i64 cf) (.int .i64 z) (.slice (some ⟨g, 0, none⟩) l.length cap)).cell3
          have hfin := (D4.setF z).done (.int .i64 cf) (.int .i64 z) (.slice (some ⟨g, 0, none⟩) l.length cap)
          go_wp2_with fail
          refine bodyPost_ret (v := .agg #[.int .i64 cf, .int .i64 z, .slice (some ⟨g, 0, none⟩) l.length cap]) (by simp [results, Try.results57, go_sem, e0, e1, e2]) rfl ?_
          exact ⟨cf, z, (some ⟨g, 0, none⟩), l, cap, rfl, hfin.1, hfin.2.1, hfin.2.2.1.mono (by omega), hfin.2.2.2⟩
        have d1 : (x == 1) = false := by rw [beq_eq_false_iff_ne]; exact e1
        by_cases e2 : x = 2
        · subst e2
          obtain ⟨g, rfl, hg, hrow⟩ := D.own (by intro e; rw [e] at h1; simp at h1)
          have hl0 : l ≠ [] := by intro e; rw [e] at h1; simp at h1
          have i0 : (0 : Int) < (l.length : Int) := by omega
          have i1 : 0 < l.length := by omega
          have D0 := D
          clear cfr
          go_wp2_with fail
          go_region_with (go_at_call 86; refine (src_among b _ _ [0, -5, 2000000, 2000001] 4 _ (by first | exact (D.al _).drew.src | exact (D.drew.al _).src | exact (D.al _).src) (by omega) (by first | exact (lit_ints w3 _).drew | exact lit_ints w3.drew _ | exact lit_ints w3 _) (fun a e => by injection e with e; subst e; have := D.aside.size; show w3.heap.size ≠ b; omega) (by decide) (by decide)).mono ?_; rintro e w5 ⟨z, rfl, hz, hS5, ha5⟩; have D5 := (D.al (.cells #[.int .i64 0, .int .i64 (-5), .int .i64 2000000, .int .i64 2000001] 2)).drew.step ha5 hS5; obtain ⟨k0', k1, k2⟩ := D5.blk.cell3; have klt := D5.blk.lt; have hrow5 := ((hrow.alloc (.cells #[.int .i64 0, .int .i64 (-5), .int .i64 2000000, .int .i64 2000001] 2)).drew).asides ha5 (fun e => by injection e with e; have := D.hb; omega); obtain ⟨hx5, hxf5⟩ := hrow5.cell (k := 0) (by omega))
          all_goals
            have D6 := D5.setG hl0 0 z
            obtain ⟨r0, r1', r2⟩ := D6.r.cell3
            have rf := D6.r.frozen
            have rlt := D6.r.lt
            obtain ⟨e0, e1, e2⟩ := (D6.r.set3 (.int .i64 cf) (.int .i64 f) (.slice (some ⟨g, 0, none⟩) l.length cap)).cell3
            have hfin := D6.done (.int .i64 cf) (.int .i64 f) (.slice (some ⟨g, 0, none⟩) l.length cap)
            have hgbf := D.ne g rfl
            have hgw : g ≠ w.heap.size := by omega
            go_wp2_with fail
            refine bodyPost_ret (v := .agg #[.int .i64 cf, .int .i64 f, .slice (some ⟨g, 0, none⟩) l.length cap]) (by simp [results, Try.results57, go_sem, e0, e1, e2]) rfl ?_
            exact ⟨cf, f, some ⟨g, 0, none⟩, l.set 0 z, cap, by rw [List.length_set], hfin.1, hfin.2.1, hfin.2.2.1.mono (by omega), hfin.2.2.2⟩
        have d2 : (x == 2) = false := by rw [beq_eq_false_iff_ne]; exact e2
        by_cases e3 : x = 3
        · subst e3
          obtain ⟨r0, r1', r2⟩ := D.setN.r.cell3
          have rf := D.setN.r.frozen
          have rlt := D.setN.r.lt
          obtain ⟨e0, e1, e2⟩ := (D.setN.r.set3 (.int .i64 cf) (.int .i64 f) (.slice none 0 0)).cell3
          have hfin := D.setN.done (.int .i64 cf) (.int .i64 f) (.slice none 0 0)
          go_wp2_with fail
          refine bodyPost_ret (v := .agg #[.int .i64 cf, .int .i64 f, .slice none 0 0]) (by simp [results, Try.results57, go_sem, e0, e1, e2]) rfl ?_
          exact ⟨cf, f, none, [], 0, rfl, hfin.1, hfin.2.1, hfin.2.2.1.mono (by omega), hfin.2.2.2⟩
        have d3 : (x == 3) = false := by rw [beq_eq_false_iff_ne]; exact e3
        obtain ⟨r0, r1', r2⟩ := D.r.cell3
        have rf := D.r.frozen
        have rlt := D.r.lt
        obtain ⟨e0, e1, e2⟩ := (D.r.set3 (.int .i64 cf) (.int .i64 f) (.slice q l.length cap)).cell3
        have hfin := D.done (.int .i64 cf) (.int .i64 f) (.slice q l.length cap)
        go_wp2_with fail
        refine bodyPost_ret (v := .agg #[.int .i64 cf, .int .i64 f, .slice q l.length cap]) (by simp [results, Try.results57, go_sem, e0, e1, e2]) rfl ?_
        exact ⟨cf, f, q, l, cap, rfl, hfin.1, hfin.2.1, hfin.2.2.1.mono (by omega), hfin.2.2.2⟩
end Go.Proofs.Ytfdcainjppljhaa
