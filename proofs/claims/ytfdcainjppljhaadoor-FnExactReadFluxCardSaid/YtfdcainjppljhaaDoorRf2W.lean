/- ReadFlux, the program's and the model's. -/
import Derived.Test.YtfdcainjppljhaaDoorRfW
import Derived.Test.YtfdcainjppljhaaDoorTwoOwn
import Derived.Deep.RegionHeld3
import Derived.Deep.DeepCutAuto
import Derived.Deep.RegionLaw
namespace Go.Proofs.YtfdcainjppljhaaDoor
open Go.RowKit Go.Sort
set_option linter.unusedVariables false
/-- What is read. -/
def rfC (s : ByteArray) : Int := if rfB s.data.toList then (numL (cutL s.data.toList)).getD 0 0 else 0
def rfF (s : ByteArray) : Int := if rfB s.data.toList then (numL (cutL s.data.toList)).getD 1 0 else 0
def rfL (s : ByteArray) : List Int := if rfB s.data.toList then (numL (cutL s.data.toList)).drop 2 else []
theorem rf_no {s : ByteArray} (h : rfB s.data.toList = false) : rfC s = 0 ∧ rfF s = 0 ∧ rfL s = [] := by
  unfold rfC rfF rfL
  rw [h]
  exact ⟨rfl, rfl, rfl⟩
theorem rf_yes {s : ByteArray} (h : rfB s.data.toList = true) : rfC s = (numL (cutL s.data.toList)).getD 0 0 ∧ rfF s = (numL (cutL s.data.toList)).getD 1 0 ∧ rfL s = (numL (cutL s.data.toList)).drop 2 := by
  unfold rfC rfF rfL
  rw [h]
  exact ⟨rfl, rfl, rfl⟩
theorem rfI_eq {s : ByteArray} : rfB s.data.toList = (decAll (cutL s.data.toList) && (decide (3 ≤ (cutL s.data.toList).length) && fluxOk ((decL (cutL s.data.toList)).getD 0 0) ((decL (cutL s.data.toList)).getD 1 0) ((decL (cutL s.data.toList)).drop 2))) := (rf_eq s.data.toList).1.symm
theorem Blk.ret3 {w : World} {g : Nat} {t : TypeId} {a b c : Value} (h : Blk w g t #[a, b, c]) (x y z : Value) : Blk (((w.setCell ⟨g, 0, none⟩ x).setCell ⟨g, 1, none⟩ y).setCell ⟨g, 2, none⟩ z) g t #[x, y, z] := by
  simpa using ((h.setS 0 x).setS 1 y).setS 2 z
theorem below_ret3 {B g : Nat} {w w' : World} (h : Below B w w') (hg : B ≤ g) (x y z : Value) : Below B w (((w'.setCell ⟨g, 0, none⟩ x).setCell ⟨g, 1, none⟩ y).setCell ⟨g, 2, none⟩ z) :=
  ((h.setCell (p := ⟨g, 0, none⟩) hg x).setCell (p := ⟨g, 1, none⟩) hg y).setCell (p := ⟨g, 2, none⟩) hg z
theorem own_ret3 {w : World} {base g : Nat} {p : Option Addr} {l : List Int} (h : OwnS w base p l) (hg : g < base) (x y z : Value) : OwnS (((w.setCell ⟨g, 0, none⟩ x).setCell ⟨g, 1, none⟩ y).setCell ⟨g, 2, none⟩ z) base p l := by
  have k : ∀ {w : World} (i : Nat) (v : Value), OwnS w base p l → OwnS (w.setCell ⟨g, i, none⟩ v) base p l := fun i v h => h.asides (Aside.setCell g i v) (fun hl g' hp e => by have := (OwnS.lt h hl hp).1; injection e with e; omega)
  exact k _ _ (k _ _ (k _ _ h))
theorem three {l : List Int} (h : 3 ≤ l.length) : ∃ a b r, l = a :: b :: r ∧ 1 ≤ r.length := by
  match l, h with
  | a :: b :: r, h => exact ⟨a, b, r, rfl, by simp at h; omega⟩
set_option maxHeartbeats 2000000 in
set_option maxRecDepth 20000 in
theorem impl_ReadFlux (s : ByteArray) (w : World) (hs : s.size ≤ 1048576) (hV : Vrs w) :
    Calls Tryd.prog 11 #[.string s] w fun e w' => ∃ (q : Option Addr) (d : Nat), e = .returned (.tuple #[.agg #[.int .i64 (rfC s), .int .i64 (rfF s), .slice q (rfL s).length d], .bool (rfB s.data.toList)]) ∧ OwnS w' w.heap.size q (rfL s) ∧ Below w.heap.size w w' := by
  have R0 := Blk.new w 27 #[.int .i64 0, .int .i64 0, .slice none 0 0]
  have W0 : Below w.heap.size w (w.alloc (.cells #[.int .i64 0, .int .i64 0, .slice none 0 0] 27)) := (Below.refl _ _).alloc (Nat.le_refl _) _
  have z0 : (w.alloc (.cells #[.int .i64 0, .int .i64 0, .slice none 0 0] 27)).heap.size = w.heap.size + 1 := by simp
  have HRI := Lib.hid (rfI_eq (s := s))
  have hcl := cut_le s.data.toList
  have hLs : s.data.toList.length = s.size := rfl
  go_enter Tryd.func11, Tryd.ntmps11
  go_wp2_with fail
  have hV0 := hV.below W0
  generalize w.alloc (.cells #[.int .i64 0, .int .i64 0, .slice none 0 0] 27) = w0 at R0 W0 z0 hV0 ⊢
  refine (impl_splitNumbers s w0 hs hV0).mono ?_
  rintro e w1 ⟨q, d, rfl, S1, hd, hb1⟩
  have R1 := R0.keep hb1
  have W1 := below_st W0 hb1 (Nat.le_refl _)
  have z1 := hb1.size
  replace S1 : OwnS w1 (w.heap.size + 1) q (spL s) := S1.mono (by omega)
  clear R0 W0 hV0 hb1
  obtain ⟨r0, r1', r2⟩ := R1.cell3
  have rf := R1.frozen
  have rl := R1.lt
  by_cases hgo : decAll (cutL s.data.toList) = true ∧ 3 ≤ (cutL s.data.toList).length
  rotate_left
  · have hno : rfB s.data.toList = false := by
      rw [HRI.out]
      cases hx : decAll (cutL s.data.toList)
      · rfl
      · rw [decide_eq_false (fun h => hgo ⟨hx, h⟩)]; rfl
    obtain ⟨n0, n1, n2⟩ := rf_no hno
    have HN := Lib.hid (show rfC s = 0 ∧ rfF s = 0 ∧ rfL s = [] ∧ rfB s.data.toList = false from ⟨n0, n1, n2, hno⟩)
    have hdisj : decAll (cutL s.data.toList) = false ∨ (decAll (cutL s.data.toList) = true ∧ decide (((spL s).length : Int) < 3) = true) := by
      cases hx : decAll (cutL s.data.toList)
      · exact .inl rfl
      · refine .inr ⟨rfl, decide_eq_true ?_⟩
        unfold spL
        rw [hx, if_pos rfl, decL_len]
        have : ¬ 3 ≤ (cutL s.data.toList).length := fun h => hgo ⟨hx, h⟩
        omega
    obtain ⟨e0, e1, e2⟩ := (R1.ret3 (.int .i64 0) (.int .i64 0) (.slice none 0 0)).cell3
    have W2 := below_ret3 W1 (Nat.le_refl _) (.int .i64 0) (.int .i64 0) (.slice none 0 0)
    obtain ⟨bv, ebv⟩ : ∃ bv, decAll (cutL s.data.toList) = bv := ⟨_, rfl⟩
    rw [ebv] at hdisj ⊢
    obtain ⟨N, eN⟩ : ∃ N, (spL s).length = N := ⟨_, rfl⟩
    rw [eN] at hdisj ⊢
    clear hgo hno n0 n1 n2 ebv eN
    rcases hdisj with rfl | ⟨rfl, d1⟩
    all_goals
      go_wp2_with fail
      refine bodyPost_ret (v := .tuple #[.agg #[.int .i64 0, .int .i64 0, .slice none 0 0], .bool false]) (by simp [results, Tryd.results11, go_sem, e0, e1, e2]) rfl ?_
      rw [HN.out.1, HN.out.2.1, HN.out.2.2.1, HN.out.2.2.2]
      exact ⟨none, 0, rfl, OwnS.nil_ _ _ _, W2⟩
  · obtain ⟨hall, h3⟩ := hgo
    have hsp : spL s = decL (cutL s.data.toList) := by unfold spL; rw [hall]; rfl
    rw [hall] at HRI ⊢
    rw [hsp] at S1 hd ⊢
    have hdl := decL_len (cutL s.data.toList)
    have hrb : Hid (rfB s.data.toList = fluxOk ((decL (cutL s.data.toList)).getD 0 0) ((decL (cutL s.data.toList)).getD 1 0) ((decL (cutL s.data.toList)).drop 2)) := Lib.hid (by rw [HRI.out, decide_eq_true h3]; simp)
    have hrf : Hid (rfB s.data.toList = true → rfC s = (decL (cutL s.data.toList)).getD 0 0 ∧ rfF s = (decL (cutL s.data.toList)).getD 1 0 ∧ rfL s = (decL (cutL s.data.toList)).drop 2) := Lib.hid (fun h => by
      have h2 := rf_yes h
      rw [(rf_eq s.data.toList).2 h]
      exact h2)
    generalize decL (cutL s.data.toList) = D at *
    obtain ⟨a, b, r, rfl, hr1⟩ := three (l := D) (by omega)
    obtain ⟨g, rfl, hg, hrow⟩ := S1 (by simp)
    have hrb2 : Hid (rfB s.data.toList = fluxOk a b r) := hrb
    have hrf2 : Hid (rfB s.data.toList = true → rfC s = a ∧ rfF s = b ∧ rfL s = r) := hrf
    have hlen : (a :: b :: r).length = r.length + 2 := rfl
    rw [hlen] at hd hdl ⊢
    have ca := (hrow.cell (k := 0) (by simp)).1
    have cb := (hrow.cell (k := 1) (by simp)).1
    have ca : w1.cell? ⟨g, 0, none⟩ = some (.int .i64 a) := ca
    have cb : w1.cell? ⟨g, 1, none⟩ = some (.int .i64 b) := cb
    have hdr : IntsAt w1 (some ⟨g, 2, none⟩) r := by
      intro _
      refine ⟨_, rfl, hrow.lt, fun i hi => ?_⟩
      rw [Addr.add_lit, Nat.add_comm]
      exact (hrow.cell (k := i + 2) (by simp; omega)).1
    have hgl := hrow.lt
    have hrl : r.length ≤ 1048576 := by omega
    have d1 : decide (((r.length + 2 : Nat) : Int) < 3) = false := decide_eq_false (by omega)
    have d2 : decide ((r.length : Int) + 2 < 3) = false := decide_eq_false (by omega)
    have hd3 : ¬ d = 2 := by omega
    have hd4 : (2 : Int) ≤ (d : Int) := by omega
    have hd5 : 2 < d := by omega
    have hi0 : (0 : Int) < (r.length : Int) + 2 := by omega
    have hi1 : (1 : Int) < (r.length : Int) + 2 := by omega
    have hi2 : (2 : Int) ≤ (r.length : Int) + 2 := by omega
    have hi3 : (r.length : Int) + 2 ≤ (d : Int) := by omega
    have hi4 : 0 < r.length + 2 := by omega
    have hi5 : 1 < r.length + 2 := by omega
    have hi6 : 2 ≤ r.length + 2 := by omega
    clear hrb hrf HRI hall hsp S1 hlen hrow hdl h3 hcl
    go_upto_region 4 with (fail)
    have KS : ∀ w' w'' : World, ((w'.cell? ⟨g, 0, none⟩ = some (.int .i64 a) ∧ w'.cell? ⟨g, 1, none⟩ = some (.int .i64 b)) ∧ g < w'.heap.size ∧ IntsAt w' (some ⟨g, 2, none⟩) r ∧ Below w1.heap.size w1 w') → Below w'.heap.size w' w'' → ((w''.cell? ⟨g, 0, none⟩ = some (.int .i64 a) ∧ w''.cell? ⟨g, 1, none⟩ = some (.int .i64 b)) ∧ g < w''.heap.size ∧ IntsAt w'' (some ⟨g, 2, none⟩) r ∧ Below w1.heap.size w1 w'') := fun w' w'' h hb =>
      ⟨⟨(hb.cell (p := ⟨g, 0, none⟩) h.2.1).trans h.1.1, (hb.cell (p := ⟨g, 1, none⟩) h.2.1).trans h.1.2⟩, Nat.lt_of_lt_of_le h.2.1 hb.size, h.2.2.1.below hb, below_st h.2.2.2 hb (Nat.le_refl _)⟩
    have KW : ∀ (y : World) (bb : Nat) (v0 v1 v2 : Value), w1.heap.size ≤ bb → ((y.cell? ⟨g, 0, none⟩ = some (.int .i64 a) ∧ y.cell? ⟨g, 1, none⟩ = some (.int .i64 b)) ∧ g < y.heap.size ∧ IntsAt y (some ⟨g, 2, none⟩) r ∧ Below w1.heap.size w1 y) → (((((y.setCell ⟨bb, 0, none⟩ v0).setCell ⟨bb, 1, none⟩ v1).setCell ⟨bb, 2, none⟩ v2).cell? ⟨g, 0, none⟩ = some (.int .i64 a) ∧ (((y.setCell ⟨bb, 0, none⟩ v0).setCell ⟨bb, 1, none⟩ v1).setCell ⟨bb, 2, none⟩ v2).cell? ⟨g, 1, none⟩ = some (.int .i64 b)) ∧ g < (((y.setCell ⟨bb, 0, none⟩ v0).setCell ⟨bb, 1, none⟩ v1).setCell ⟨bb, 2, none⟩ v2).heap.size ∧ IntsAt (((y.setCell ⟨bb, 0, none⟩ v0).setCell ⟨bb, 1, none⟩ v1).setCell ⟨bb, 2, none⟩ v2) (some ⟨g, 2, none⟩) r ∧ Below w1.heap.size w1 (((y.setCell ⟨bb, 0, none⟩ v0).setCell ⟨bb, 1, none⟩ v1).setCell ⟨bb, 2, none⟩ v2)) := fun y bb v0 v1 v2 hbb h => by
      have hb := below_ret3 (Below.refl w1.heap.size y) hbb v0 v1 v2
      exact ⟨⟨(hb.cell (p := ⟨g, 0, none⟩) hgl).trans h.1.1, (hb.cell (p := ⟨g, 1, none⟩) hgl).trans h.1.2⟩, Nat.lt_of_lt_of_le h.2.1 hb.size, h.2.2.1.aside (fun a e => by injection e with e; subst e; exact hgl) hb, h.2.2.2.trans hb⟩
    have S0 : ((w1.drew.cell? ⟨g, 0, none⟩ = some (.int .i64 a) ∧ w1.drew.cell? ⟨g, 1, none⟩ = some (.int .i64 b)) ∧ g < w1.drew.heap.size ∧ IntsAt w1.drew (some ⟨g, 2, none⟩) r ∧ Below w1.heap.size w1 w1.drew) := ⟨⟨ca, cb⟩, hgl, hdr, (Below.refl _ _).drew⟩
    have SA : (((w1.alloc (.cells #[.int .i64 0, .int .i64 0, .slice none 0 0] 27)).drew.cell? ⟨g, 0, none⟩ = some (.int .i64 a) ∧ (w1.alloc (.cells #[.int .i64 0, .int .i64 0, .slice none 0 0] 27)).drew.cell? ⟨g, 1, none⟩ = some (.int .i64 b)) ∧ g < (w1.alloc (.cells #[.int .i64 0, .int .i64 0, .slice none 0 0] 27)).drew.heap.size ∧ IntsAt (w1.alloc (.cells #[.int .i64 0, .int .i64 0, .slice none 0 0] 27)).drew (some ⟨g, 2, none⟩) r ∧ Below w1.heap.size w1 (w1.alloc (.cells #[.int .i64 0, .int .i64 0, .slice none 0 0] 27)).drew) := KS w1 _ ⟨⟨ca, cb⟩, hgl, hdr, Below.refl _ _⟩ ((Below.refl _ _).alloc (Nat.le_refl _) _).drew
    have BA : Blk (w1.alloc (.cells #[.int .i64 0, .int .i64 0, .slice none 0 0] 27)).drew w1.heap.size 27 #[.int .i64 0, .int .i64 0, .slice none 0 0] := Blk.new w1 27 #[.int .i64 0, .int .i64 0, .slice none 0 0]
    go_cut [6] (fun pv wx => ∃ (bb : Nat) (q2 : Option Addr) (d2 : Nat), pv = .pointer (some ⟨bb, 0, none⟩) ∧ Blk wx bb 27 #[.int .i64 a, .int .i64 b, .slice q2 r.length d2] ∧ OwnS wx w1.heap.size q2 r ∧ Below w1.heap.size w1 wx)
    case first =>
      go_region_held3 (fun w' => (w'.cell? ⟨g, 0, none⟩ = some (.int .i64 a) ∧ w'.cell? ⟨g, 1, none⟩ = some (.int .i64 b)) ∧ g < w'.heap.size ∧ IntsAt w' (some ⟨g, 2, none⟩) r ∧ Below w1.heap.size w1 w')
        (first | with_reducible exact S0 | with_reducible exact SA | with_reducible exact S4 | (refine KS _ _ S4 ?_; exact (Below.refl _ _).alloc (Nat.le_refl _) _) | exact KW _ _ _ _ _ (Nat.le_refl _) S4 | go_keep)
        (first | (go_at_call 25; (refine (slices_CloneI (some ⟨g, 2, none⟩) r (d - 2) _ (by first | exact S0.2.2.1 | exact SA.2.2.1) hrl).mono ?_); rintro e y ⟨v, rfl, hvo, hby⟩; obtain ⟨q2, d2, rfl, hS2, -⟩ := hvo.open2; (first | have S4 := KS _ _ S0 hby | have S4 := KS _ _ SA hby); (try (have BY := BA.keep hby; obtain ⟨y0, y1, y2⟩ := BY.cell3; have yf := BY.frozen; have yl := BY.lt))))
      all_goals
        go_wp2_with fail
        go_meet
        first
          | exact ⟨y.heap.size, q2, d2, rfl, Blk.new y 27 #[.int .i64 a, .int .i64 b, .slice q2 r.length d2], (hS2.below ((Below.refl _ y).alloc (Nat.le_refl _) _)).mono (Nat.le_refl _), S4.2.2.2.alloc S4.2.2.2.size _⟩
          | exact ⟨w1.heap.size, q2, d2, rfl, BY.ret3 _ _ _, (own_ret3 hS2 (show w1.heap.size < (w1.alloc (.cells #[.int .i64 0, .int .i64 0, .slice none 0 0] 27)).heap.size by simp) _ _ _).mono (show w1.heap.size ≤ (w1.alloc (.cells #[.int .i64 0, .int .i64 0, .slice none 0 0] 27)).heap.size by simp), below_ret3 S4.2.2.2 (Nat.le_refl _) _ _ _⟩
    case rest =>
      obtain ⟨bb, q2, d2, rfl, B2, S2, hb2⟩ := hcut
      obtain ⟨w2, hwc⟩ : ∃ w2, w2 = wc := ⟨_, rfl⟩
      subst hwc
      have R2 := R1.keep hb2
      have W2 := below_st W1 hb2 (Nat.le_refl _)
      have hwz : w.heap.size < w1.heap.size := rl
      clear KS KW S0 SA BA ca cb hdr r0 r1' r2 rf rl hi0 hi1 hi2 hi3 hi4 hi5 hi6 hd3 hd4 hd5 R1 W1 hb2
      obtain ⟨c0, c1, c2⟩ := B2.cell3
      have bl := B2.lt
      go_wp2_with fail
      refine (impl_ValidFlux a b q2 r d2 _ S2.ints hrl).mono ?_
      rintro e w3 ⟨rfl, hb3⟩
      have R3 := R2.keep hb3
      have W3 := below_st W2 hb3 (Nat.le_refl _)
      have B3 := B2.keep hb3
      have S3 := S2.below hb3
      clear c0 c1 c2 bl R2 W2 B2 S2 hb3
      obtain ⟨c0, c1, c2⟩ := B3.cell3
      have bl := B3.lt
      obtain ⟨r0, r1', r2⟩ := R3.cell3
      have rf := R3.frozen
      have rl := R3.lt
      cases hfx : fluxOk a b r
      · have hno : rfB s.data.toList = false := by rw [hrb2.out, hfx]
        have HN := Lib.hid (show rfC s = 0 ∧ rfF s = 0 ∧ rfL s = [] ∧ rfB s.data.toList = false from ⟨(rf_no hno).1, (rf_no hno).2.1, (rf_no hno).2.2, hno⟩)
        obtain ⟨e0, e1, e2⟩ := (R3.ret3 (.int .i64 0) (.int .i64 0) (.slice none 0 0)).cell3
        have W4 := below_ret3 W3 (Nat.le_refl _) (.int .i64 0) (.int .i64 0) (.slice none 0 0)
        clear hno hfx
        go_wp2_with fail
        refine bodyPost_ret (v := .tuple #[.agg #[.int .i64 0, .int .i64 0, .slice none 0 0], .bool false]) (by simp [results, Tryd.results11, go_sem, e0, e1, e2]) rfl ?_
        rw [HN.out.1, HN.out.2.1, HN.out.2.2.1, HN.out.2.2.2]
        exact ⟨none, 0, rfl, OwnS.nil_ _ _ _, W4⟩
      · have hyes : rfB s.data.toList = true := by rw [hrb2.out, hfx]
        have hv := hrf2.out hyes
        have HN := Lib.hid (show rfC s = a ∧ rfF s = b ∧ rfL s = r ∧ rfB s.data.toList = true from ⟨hv.1, hv.2.1, hv.2.2, hyes⟩)
        obtain ⟨e0, e1, e2⟩ := (R3.ret3 (.int .i64 a) (.int .i64 b) (.slice q2 r.length d2)).cell3
        have W4 := below_ret3 W3 (Nat.le_refl _) (.int .i64 a) (.int .i64 b) (.slice q2 r.length d2)
        have S4 := own_ret3 S3 hwz (.int .i64 a) (.int .i64 b) (.slice q2 r.length d2)
        clear hyes hv hfx
        go_wp2_with fail
        refine bodyPost_ret (v := .tuple #[.agg #[.int .i64 a, .int .i64 b, .slice q2 r.length d2], .bool true]) (by simp [results, Tryd.results11, go_sem, e0, e1, e2]) rfl ?_
        rw [HN.out.1, HN.out.2.1, HN.out.2.2.1, HN.out.2.2.2]
        exact ⟨q2, d2, rfl, S4.mono (Nat.le_of_lt hwz), W4⟩
end Go.Proofs.YtfdcainjppljhaaDoor
