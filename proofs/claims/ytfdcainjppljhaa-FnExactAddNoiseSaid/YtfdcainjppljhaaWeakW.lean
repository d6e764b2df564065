/- WeakenFlux: contracts. Printed by weakgen.py. -/
import Derived.Test.YtfdcainjppljhaaSpanW
import Derived.Test.YtfdcainjppljhaaSortW
import Derived.Test.YtfdcainjppljhaaApW
import Derived.Test.YtfdcainjppljhaaRotFW
import Derived.Deep.RegionHeld3
import Derived.Deep.DeepCutAuto
import Derived.Laws.AppendOwnNone
namespace Go.Proofs.Ytfdcainjppljhaa
open Go.RowKit
set_option linter.unusedVariables false
def weOk (c f : Int) (l : List Int) (a b : Int) (t : List Int) : Bool := fluxOk c f l && spanOk a b t
def weIn (l : List Int) (b : Int) : Bool := decide (b ≤ l.sum)
def weV (c f : Int) (l : List Int) (a b : Int) (t : List Int) : Bool := weOk c f l a b t && weIn l b
def weT (f : Int) (l : List Int) (a b : Int) (t : List Int) : List Int := weakT a b t (chgL f l)
def weE (c f : Int) (l : List Int) (a b : Int) (t : List Int) : Int := if weOk c f l a b t then (if weIn l b then tmE 2 (weT f l a b t) l.sum c else 2) else 1
theorem weakT_len (a b : Int) (t l : List Int) (h : a ≤ b) : (weakT a b t l).length ≤ t.length + l.length := by
  rw [← (weak_perm h t l).length_eq]
  unfold weakM
  rw [List.length_append]
  have := List.length_filter_le (fun x => decide (x < a) || decide (b ≤ x)) l
  omega
theorem weL_len (c f : Int) (l : List Int) (a b : Int) (t : List Int) {rev cell : Int} : (fxL (weV c f l a b t) (weT f l a b t) rev cell).length ≤ l.length + t.length := by
  cases hv : weV c f l a b t
  · simp [fxL]
  · unfold weV weOk at hv
    simp only [Bool.and_eq_true] at hv
    have h := spanOk_bd hv.1.2
    have h1 := fxL_len true (weT f l a b t) rev cell
    have h2 := weakT_len a b t (chgL f l) h.2.1
    rw [chgL_len] at h2
    unfold weT at *
    omega
theorem filt_snoc (q : Int → Bool) {X : List Int} {k : Nat} (h : k < X.length) : (X.take (k + 1)).filter q = if q X[k] then (X.take k).filter q ++ [X[k]] else (X.take k).filter q := by
  rw [takeI_snoc h, List.filter_append, List.filter_cons, List.filter_nil]
  split <;> simp
theorem OwnI.blk2 {w : World} {base : Nat} {v : Value} {l : List Int} (h : OwnI w base v l) {g : Nat} (hg : v.ownBlock = some g) : base ≤ g ∧ g < w.heap.size := World.ownsRow.lt h g hg
theorem sort_any {w : World} {base : Nat} {q : Option Addr} {l : List Int} (cap : Nat) (h : OwnS w base q l) (hl : l.length ≤ 2200000) (hb : base ≤ w.heap.size) :
    Calls Try.prog 51 #[.slice q l.length cap] w fun e w' => e = .returned (.tuple #[]) ∧ OwnS w' base q (l.mergeSort fun x y => decide (x ≤ y)) ∧ Below base w w' := by
  by_cases hne : l = []
  · subst hne
    refine (Try.slices_Sort_int_none q cap w).mono ?_
    rintro e w' ⟨rfl, rfl⟩
    exact ⟨rfl, fun h => by simp at h, Below.refl _ _⟩
  · obtain ⟨g, rfl, hg, hr⟩ := h hne
    refine (sort_row' cap hr hl).mono ?_
    rintro e w' ⟨rfl, hr', ha⟩
    exact ⟨rfl, OwnS.of_row hr' hg, ha.below hb (fun g' e => by injection e with e; omega)⟩
theorem append_src {ops : Array Oper} {rest : List Oper} {o : Oper} {ac : Act} {Q : Exit → Act → World → Prop} (w : World) (hg : o.guard = none) (s x : Operand)
    (ho : o.op = .call { callee := .builtin .append, args := #[s, x], argTypes := #[22, 22] })
    (base : Nat) (v : Value) (l M : List Int) (pt : Option Addr) (c : Nat) (hs : ac.eval s = v) (hx : ac.eval x = .slice pt M.length c) (hc : pt = none → c = 0)
    (hI : IntsAt w pt M) (hown : OwnI w base v l) (hlen : l.length + M.length ≤ 10000000) (hbase : base ≤ w.heap.size)
    (h : ∀ v' w', OwnI w' base v' (l ++ M) → Below base w w' → wpList Try.prog ops Q rest (ac.put o.dst v') w') :
    wpList Try.prog ops Q (o :: rest) ac w := by
  cases pt with
  | none =>
    have ht : M = [] := by
      cases M with
      | nil => rfl
      | cons x t => obtain ⟨a, h, -⟩ := hI (by simp); cases h
    subst ht
    rw [hc rfl] at hx
    obtain ⟨i, hi, -, -, -⟩ := info_parts info_i64
    refine wpList_append_own_none hg s x 22 ho base 2 i 1 Try.underlying22 hi v l.length (l.map (Value.int .i64)) hs hown hx ?_
    exact h v w (by simpa using hown) (Below.refl _ _)
  | some ad =>
    exact append_ints w hg s x ho base v l M ad M.length c hs hx rfl (fun j hj => by
      obtain ⟨a', ha', hc'⟩ := hI.at_ hj
      injection ha' with ha'
      subst ha'
      exact hc') hown hlen hbase h
theorem lessX {X : List Int} {k : Nat} {a : Int} (hs : X.Pairwise (· < ·)) (h1 : ∀ j (h : j < X.length), j < k → X[j] < a) (h2 : ∀ h : k < X.length, a ≤ X[k]) : X.take k = X.filter fun x => decide (x < a) := (filter_split hs h1 h2).2.symm
set_option maxHeartbeats 8000000 in
set_option maxRecDepth 20000 in
theorem impl_WeakenFlux (c f : Int) (p : Option Addr) (l : List Int) (cap : Nat) (a b : Int) (pt : Option Addr) (t : List Int) (capt : Nat) (w : World) (hI : IntsAt w p l) (hT : IntsAt w pt t) (hlt : l.length + t.length ≤ 1048576) (hcap : pt = none → capt = 0) :
    Calls Try.prog 17 #[.agg #[.int .i64 c, .int .i64 f, .slice p l.length cap], .agg #[.int .i64 a, .int .i64 b, .slice pt t.length capt]] w fun e w' => ∃ (q : Option Addr) (dq : Nat), e = .returned (.tuple #[.agg #[.int .i64 (fxC (weV c f l a b t) (weT f l a b t) l.sum c), .int .i64 (fxF (weV c f l a b t) (weT f l a b t) l.sum c), .slice q (fxL (weV c f l a b t) (weT f l a b t) l.sum c).length dq], .int .i64 (weE c f l a b t)]) ∧ OwnS w' w.heap.size q (fxL (weV c f l a b t) (weT f l a b t) l.sum c) ∧ Below w.heap.size w w' := by
  have hl : l.length ≤ 1048576 := by omega
  have htl : t.length ≤ 1048576 := by omega
  have BF0 := ((Blk.new w 26 #[.int .i64 c, .int .i64 f, .slice p l.length cap]).alloc' (.cells #[.int .i64 a, .int .i64 b, .slice pt t.length capt] 36)).alloc' (.cells #[.int .i64 0, .int .i64 0, .slice none 0 0] 26)
  have BS0 := (Blk.new (w.alloc (.cells #[.int .i64 c, .int .i64 f, .slice p l.length cap] 26)) 36 #[.int .i64 a, .int .i64 b, .slice pt t.length capt]).alloc' (.cells #[.int .i64 0, .int .i64 0, .slice none 0 0] 26)
  have R0 := Blk.new ((w.alloc (.cells #[.int .i64 c, .int .i64 f, .slice p l.length cap] 26)).alloc (.cells #[.int .i64 a, .int .i64 b, .slice pt t.length capt] 36)) 26 #[.int .i64 0, .int .i64 0, .slice none 0 0]
  have esz2 : ((w.alloc (.cells #[.int .i64 c, .int .i64 f, .slice p l.length cap] 26)).alloc (.cells #[.int .i64 a, .int .i64 b, .slice pt t.length capt] 36)).heap.size = w.heap.size + 1 + 1 := by simp
  have esz : (w.alloc (.cells #[.int .i64 c, .int .i64 f, .slice p l.length cap] 26)).heap.size = w.heap.size + 1 := by simp
  rw [esz2] at R0
  rw [esz] at BS0
  have W0 : Below w.heap.size w (((w.alloc (.cells #[.int .i64 c, .int .i64 f, .slice p l.length cap] 26)).alloc (.cells #[.int .i64 a, .int .i64 b, .slice pt t.length capt] 36)).alloc (.cells #[.int .i64 0, .int .i64 0, .slice none 0 0] 26)) := (((Below.refl _ _).alloc (Nat.le_refl _) _).alloc (by simp) _).alloc (by simp; omega) _
  clear esz esz2
  obtain ⟨f0, f1, f2⟩ := BF0.cell3
  obtain ⟨s0, s1, s2⟩ := BS0.cell3
  obtain h1 | h1 := (Bool.eq_false_or_eq_true (fluxOk c f l)).symm
  · have hv : weV c f l a b t = false := by unfold weV weOk; rw [h1]; rfl
    have HE : Hid (weE c f l a b t = 1) := Lib.hid (by unfold weE weOk; rw [h1]; rfl)
    have HN : Hid (fxC (weV c f l a b t) (weT f l a b t) l.sum c = 0 ∧ fxF (weV c f l a b t) (weT f l a b t) l.sum c = 0 ∧ fxL (weV c f l a b t) (weT f l a b t) l.sum c = []) := Lib.hid (by unfold fxC fxF fxL; rw [hv]; exact ⟨rfl, rfl, rfl⟩)
    have H := Lib.hid h1
    clear h1 hv
    go_enter Try.func17, Try.ntmps17
    go_wp2_with fail
    generalize (((w.alloc (.cells #[.int .i64 c, .int .i64 f, .slice p l.length cap] 26)).alloc (.cells #[.int .i64 a, .int .i64 b, .slice pt t.length capt] 36)).alloc (.cells #[.int .i64 0, .int .i64 0, .slice none 0 0] 26)) = w0 at BF0 BS0 R0 W0 f0 f1 f2 s0 s1 s2 ⊢
    refine (impl_ValidFlux c f p l cap _ (hI.below W0) hl).mono ?_
    rintro e w1 ⟨rfl, hb1⟩
    rw [H.out]
    have R1 := R0.keep hb1
    have BF1 := BF0.keep hb1
    have BS1 := BS0.keep hb1
    have W1 := below_st W0 hb1 (Nat.le_refl _)
    obtain ⟨r0, r1', r2⟩ := R1.cell3
    have rf := R1.frozen
    have rlt := R1.lt
    obtain ⟨e0, e1, e2⟩ := (R1.set3 (.int .i64 0) (.int .i64 0) (.slice none 0 0)).cell3
    go_wp2_with fail
    refine bodyPost_ret (v := .tuple #[.agg #[.int .i64 0, .int .i64 0, .slice none 0 0], .int .i64 1]) (by simp [results, Try.results17, go_sem, e0, e1, e2]) rfl ?_
    rw [HN.out.1, HN.out.2.1, HN.out.2.2, HE.out]
    have W9 := ((W1.setCell (p := ⟨w.heap.size + 1 + 1, 0, none⟩) (by show w.heap.size ≤ w.heap.size + 1 + 1; omega) (.int .i64 0)).setCell (p := ⟨w.heap.size + 1 + 1, 1, none⟩) (by show w.heap.size ≤ w.heap.size + 1 + 1; omega) (.int .i64 0)).setCell (p := ⟨w.heap.size + 1 + 1, 2, none⟩) (by show w.heap.size ≤ w.heap.size + 1 + 1; omega) (.slice none 0 0)
    first | exact ⟨none, 0, rfl, OwnS.nil_ _ _ _, W9⟩ | exact ⟨none, ⟨0, rfl⟩, OwnS.nil_ _ _ _, W9⟩
  obtain h2 | h2 := (Bool.eq_false_or_eq_true (spanOk a b t)).symm
  · have hv : weV c f l a b t = false := by unfold weV weOk; rw [h2, Bool.and_false]; rfl
    have HE : Hid (weE c f l a b t = 1) := Lib.hid (by unfold weE weOk; rw [h2, Bool.and_false]; rfl)
    have HN : Hid (fxC (weV c f l a b t) (weT f l a b t) l.sum c = 0 ∧ fxF (weV c f l a b t) (weT f l a b t) l.sum c = 0 ∧ fxL (weV c f l a b t) (weT f l a b t) l.sum c = []) := Lib.hid (by unfold fxC fxF fxL; rw [hv]; exact ⟨rfl, rfl, rfl⟩)
    have H := Lib.hid h1
    have H2 := Lib.hid h2
    clear h1 h2 hv
    go_enter Try.func17, Try.ntmps17
    go_wp2_with fail
    generalize (((w.alloc (.cells #[.int .i64 c, .int .i64 f, .slice p l.length cap] 26)).alloc (.cells #[.int .i64 a, .int .i64 b, .slice pt t.length capt] 36)).alloc (.cells #[.int .i64 0, .int .i64 0, .slice none 0 0] 26)) = w0 at BF0 BS0 R0 W0 f0 f1 f2 s0 s1 s2 ⊢
    refine (impl_ValidFlux c f p l cap _ (hI.below W0) hl).mono ?_
    rintro e w1 ⟨rfl, hb1⟩
    rw [H.out]
    have R1 := R0.keep hb1
    have BF1 := BF0.keep hb1
    have BS1 := BS0.keep hb1
    have W1 := below_st W0 hb1 (Nat.le_refl _)
    clear f0 f1 f2 s0 s1 s2
    obtain ⟨f0, f1, f2⟩ := BF1.cell3
    obtain ⟨s0, s1, s2⟩ := BS1.cell3
    go_wp2_with fail
    refine (impl_validSpan a b pt t capt _ (hT.below W1) htl).mono ?_
    rintro e w2 ⟨rfl, hb2⟩
    rw [H2.out]
    have R2 := R1.keep hb2
    have BF2 := BF1.keep hb2
    have BS2 := BS1.keep hb2
    have W2 := below_st W1 hb2 (Nat.le_refl _)
    obtain ⟨r0, r1', r2⟩ := R2.cell3
    have rf := R2.frozen
    have rlt := R2.lt
    obtain ⟨e0, e1, e2⟩ := (R2.set3 (.int .i64 0) (.int .i64 0) (.slice none 0 0)).cell3
    go_wp2_with fail
    refine bodyPost_ret (v := .tuple #[.agg #[.int .i64 0, .int .i64 0, .slice none 0 0], .int .i64 1]) (by simp [results, Try.results17, go_sem, e0, e1, e2]) rfl ?_
    rw [HN.out.1, HN.out.2.1, HN.out.2.2, HE.out]
    have W9 := ((W2.setCell (p := ⟨w.heap.size + 1 + 1, 0, none⟩) (by show w.heap.size ≤ w.heap.size + 1 + 1; omega) (.int .i64 0)).setCell (p := ⟨w.heap.size + 1 + 1, 1, none⟩) (by show w.heap.size ≤ w.heap.size + 1 + 1; omega) (.int .i64 0)).setCell (p := ⟨w.heap.size + 1 + 1, 2, none⟩) (by show w.heap.size ≤ w.heap.size + 1 + 1; omega) (.slice none 0 0)
    first | exact ⟨none, 0, rfl, OwnS.nil_ _ _ _, W9⟩ | exact ⟨none, ⟨0, rfl⟩, OwnS.nil_ _ _ _, W9⟩
  obtain ⟨-, hlen, hgm, hpre, hf0, hsum⟩ := fluxOk_bd h1
  have hsums := fluxOk_sums h1
  obtain ⟨ha0, hab, hb2m, hris⟩ := spanOk_bd h2
  have hok : weOk c f l a b t = true := by unfold weOk; rw [h1, h2]; rfl
  have HS := Lib.hid hsums
  have HUP := Lib.hid (chg_rises h1)
  have H := Lib.hid h1
  have H2 := Lib.hid h2
  have hcl := chgL_len f l
  have HOK := Lib.hid hok
  have HRI := Lib.hid hris
  clear h1 h2 hok hsums hgm hpre hris
  by_cases h3 : b ≤ l.sum
  rotate_left
  · have hi : weIn l b = false := decide_eq_false h3
    have hv : weV c f l a b t = false := by unfold weV; rw [hi, Bool.and_false]
    have HE : Hid (weE c f l a b t = 2) := Lib.hid (by unfold weE; rw [HOK.out, hi]; rfl)
    have HN : Hid (fxC (weV c f l a b t) (weT f l a b t) l.sum c = 0 ∧ fxF (weV c f l a b t) (weT f l a b t) l.sum c = 0 ∧ fxL (weV c f l a b t) (weT f l a b t) l.sum c = []) := Lib.hid (by unfold fxC fxF fxL; rw [hv]; exact ⟨rfl, rfl, rfl⟩)
    have hd : decide (l.sum < b) = true := decide_eq_true (by omega)
    clear hv hi
    go_enter Try.func17, Try.ntmps17
    go_wp2_with fail
    generalize (((w.alloc (.cells #[.int .i64 c, .int .i64 f, .slice p l.length cap] 26)).alloc (.cells #[.int .i64 a, .int .i64 b, .slice pt t.length capt] 36)).alloc (.cells #[.int .i64 0, .int .i64 0, .slice none 0 0] 26)) = w0 at BF0 BS0 R0 W0 f0 f1 f2 s0 s1 s2 ⊢
    refine (impl_ValidFlux c f p l cap _ (hI.below W0) hl).mono ?_
    rintro e w1 ⟨rfl, hb1⟩
    rw [H.out]
    have R1 := R0.keep hb1
    have BF1 := BF0.keep hb1
    have BS1 := BS0.keep hb1
    have W1 := below_st W0 hb1 (Nat.le_refl _)
    clear f0 f1 f2 s0 s1 s2
    obtain ⟨f0, f1, f2⟩ := BF1.cell3
    obtain ⟨s0, s1, s2⟩ := BS1.cell3
    go_wp2_with fail
    refine (impl_validSpan a b pt t capt _ (hT.below W1) htl).mono ?_
    rintro e w2 ⟨rfl, hb2⟩
    rw [H2.out]
    have R2 := R1.keep hb2
    have BF2 := BF1.keep hb2
    have BS2 := BS1.keep hb2
    have W2 := below_st W1 hb2 (Nat.le_refl _)
    clear f0 f1 f2 s0 s1 s2
    obtain ⟨f0, f1, f2⟩ := BF2.cell3
    obtain ⟨s0, s1, s2⟩ := BS2.cell3
    go_wp2_with fail
    refine (impl_total p l cap _ (hI.below W2) hl HS.out.1).mono ?_
    rintro e w' ⟨rfl, hww⟩
    rw [hww]
    clear hww w'
    obtain ⟨r0, r1', r2⟩ := R2.cell3
    have rf := R2.frozen
    have rlt := R2.lt
    obtain ⟨e0, e1, e2⟩ := (R2.set3 (.int .i64 0) (.int .i64 0) (.slice none 0 0)).cell3
    go_wp2_with fail
    refine bodyPost_ret (v := .tuple #[.agg #[.int .i64 0, .int .i64 0, .slice none 0 0], .int .i64 2]) (by simp [results, Try.results17, go_sem, e0, e1, e2]) rfl ?_
    rw [HN.out.1, HN.out.2.1, HN.out.2.2, HE.out]
    have W9 := ((W2.setCell (p := ⟨w.heap.size + 1 + 1, 0, none⟩) (by show w.heap.size ≤ w.heap.size + 1 + 1; omega) (.int .i64 0)).setCell (p := ⟨w.heap.size + 1 + 1, 1, none⟩) (by show w.heap.size ≤ w.heap.size + 1 + 1; omega) (.int .i64 0)).setCell (p := ⟨w.heap.size + 1 + 1, 2, none⟩) (by show w.heap.size ≤ w.heap.size + 1 + 1; omega) (.slice none 0 0)
    first | exact ⟨none, 0, rfl, OwnS.nil_ _ _ _, W9⟩ | exact ⟨none, ⟨0, rfl⟩, OwnS.nil_ _ _ _, W9⟩
  have hi : weIn l b = true := decide_eq_true h3
  have hv : weV c f l a b t = true := by unfold weV; rw [HOK.out, hi]; rfl
  have HC : Hid (fxC (weV c f l a b t) (weT f l a b t) l.sum c = tmC (weT f l a b t) l.sum c) := Lib.hid (by unfold fxC; rw [hv]; rfl)
  have HF : Hid (fxF (weV c f l a b t) (weT f l a b t) l.sum c = tmF (weT f l a b t) l.sum c) := Lib.hid (by unfold fxF; rw [hv]; rfl)
  have HL : Hid (fxL (weV c f l a b t) (weT f l a b t) l.sum c = tmL (weT f l a b t) l.sum c) := Lib.hid (by unfold fxL; rw [hv]; rfl)
  have HE : Hid (weE c f l a b t = tmE 2 (weT f l a b t) l.sum c) := Lib.hid (by unfold weE; rw [HOK.out, hi]; rfl)
  have hd : decide (l.sum < b) = false := decide_eq_false (by omega)
  clear hv hi
  go_enter Try.func17, Try.ntmps17
  go_wp2_with fail
  generalize (((w.alloc (.cells #[.int .i64 c, .int .i64 f, .slice p l.length cap] 26)).alloc (.cells #[.int .i64 a, .int .i64 b, .slice pt t.length capt] 36)).alloc (.cells #[.int .i64 0, .int .i64 0, .slice none 0 0] 26)) = w0 at BF0 BS0 R0 W0 f0 f1 f2 s0 s1 s2 ⊢
  refine (impl_ValidFlux c f p l cap _ (hI.below W0) hl).mono ?_
  rintro e w1 ⟨rfl, hb1⟩
  rw [H.out]
  have R1 := R0.keep hb1
  have BF1 := BF0.keep hb1
  have BS1 := BS0.keep hb1
  have W1 := below_st W0 hb1 (Nat.le_refl _)
  clear f0 f1 f2 s0 s1 s2
  obtain ⟨f0, f1, f2⟩ := BF1.cell3
  obtain ⟨s0, s1, s2⟩ := BS1.cell3
  go_wp2_with fail
  refine (impl_validSpan a b pt t capt _ (hT.below W1) htl).mono ?_
  rintro e w2 ⟨rfl, hb2⟩
  rw [H2.out]
  have R2 := R1.keep hb2
  have BF2 := BF1.keep hb2
  have BS2 := BS1.keep hb2
  have W2 := below_st W1 hb2 (Nat.le_refl _)
  clear f0 f1 f2 s0 s1 s2
  obtain ⟨f0, f1, f2⟩ := BF2.cell3
  obtain ⟨s0, s1, s2⟩ := BS2.cell3
  go_wp2_with fail
  refine (impl_total p l cap _ (hI.below W2) hl HS.out.1).mono ?_
  rintro e w' ⟨rfl, hww⟩
  rw [hww]
  clear hww w'
  go_wp2_with fail
  refine (slices_CloneI pt t capt _ (hT.below W2) htl).mono ?_
  rintro e w3 ⟨v0, rfl, hv0, hb3⟩
  have R3 := R2.keep hb3
  have BF3 := BF2.keep hb3
  have BS3 := BS2.keep hb3
  have W3 := below_st W2 hb3 (Nat.le_refl _)
  clear f0 f1 f2 s0 s1 s2
  obtain ⟨f0, f1, f2⟩ := BF3.cell3
  obtain ⟨s0, s1, s2⟩ := BS3.cell3
  go_wp2_with fail
  refine (impl_changes c f p l cap _ (hI.below W3) hl HS.out.2).mono ?_
  rintro e w4 ⟨q, dq, rfl, S4, hb4⟩
  have R4 := R3.keep hb4
  have BF4 := BF3.keep hb4
  have BS4 := BS3.keep hb4
  have W4 := below_st W3 hb4 (Nat.le_refl _)
  obtain ⟨g, rfl, hg, hrow0⟩ := S4 (by intro e; rw [e] at hcl; simp at hcl; omega)
  have hv4 := hv0.below hb4
  have hz3 := hb3.size
  have hz4 := hb4.size
  have hv0g : ∀ gg, v0.ownBlock = some gg → gg ≠ g := fun gg e => by have := (hv0.blk2 e).2; omega
  have hb24 : Below w2.heap.size w2 w4 := below_st hb3 hb4 (by omega)
  have hzR := R2.lt
  have hzF := BF2.lt
  have hzS := BS2.lt
  have HTE : Hid ((weakM a b t (chgL f l)).mergeSort (fun x y => decide (x ≤ y)) = weT f l a b t) := Lib.hid (weak_sort hab HRI.out HUP.out)
  have hTl : (weT f l a b t).length = (weakM a b t (chgL f l)).length := (weak_perm hab t (chgL f l)).length_eq.symm
  have hTb : (weT f l a b t).length ≤ t.length + l.length := by have := weakT_len a b t (chgL f l) hab; rw [hcl] at this; exact this
  have hM : weakM a b t (chgL f l) = t ++ (chgL f l).filter (fun x => decide (x < a) || decide (b ≤ x)) := rfl
  generalize hTD : weT f l a b t = T at *
  generalize weakM a b t (chgL f l) = M at *
  generalize chgL f l = X at *
  obtain ⟨B, eB⟩ : ∃ B, w2.heap.size = B := ⟨_, rfl⟩
  rw [eB] at hv4 hb24 hzR hzF hzS hz3
  have HM := Lib.hid hM
  clear hM hb3 hb4 S4 hv0
  rw [hcl]
  clear f0 f1 f2 s0 s1 s2
  go_wp2_with fail
  go_loopw [7, 33] (fun v i wr => ∃ k : Nat, k ≤ l.length ∧ i = .int .i64 k ∧ OwnI wr B v (t ++ (X.take k).filter (fun x => decide (x < a) || decide (b ≤ x))) ∧ (∀ gg, v.ownBlock = some gg → gg ≠ g) ∧ RowI wr g X ∧ Below B w2 wr) (fun _ i _ => l.length - (intOf i).toNat)
  case atStart => exact ⟨0, Nat.zero_le _, rfl, by simpa using hv4, hv0g, hrow0, hb24⟩
  case round =>
    obtain ⟨k, hk, rfl, hown, hvg, hrow, hbel⟩ := hrel
    have hz : B ≤ wr.heap.size := by have := hbel.size; omega
    have BSr := BS2.below hbel hzS
    obtain ⟨s0, s1, s2⟩ := BSr.cell3
    by_cases hlt : k < l.length
    · have hkX : k < X.length := by omega
      obtain ⟨hc, -⟩ := hrow.cell hkX
      have hsn := filt_snoc (fun x => decide (x < a) || decide (b ≤ x)) hkX
      have hll : (t ++ (X.take k).filter (fun x => decide (x < a) || decide (b ≤ x))).length ≤ 2200000 := by rw [List.length_append]; have := List.length_filter_le (fun x => decide (x < a) || decide (b ≤ x)) (X.take k); rw [List.length_take] at this; omega
      obtain ⟨x, ex⟩ : ∃ x, X[k] = x := ⟨_, rfl⟩
      rw [ex] at hc hsn
      clear ex
      have happ : ∀ (v1 : Value) (w6 : World), OwnI w6 B v1 ((t ++ (X.take k).filter (fun x => decide (x < a) || decide (b ≤ x))) ++ [x]) → Aside u7.ownBlock wr w6 → (∀ gg, v1.ownBlock = some gg → u7.ownBlock = some gg ∨ wr.heap.size ≤ gg) → (decide (x < a) || decide (b ≤ x)) = true → OwnI w6 B v1 (t ++ (X.take (k + 1)).filter (fun x => decide (x < a) || decide (b ≤ x))) ∧ (∀ gg, v1.ownBlock = some gg → gg ≠ g) ∧ RowI w6 g X ∧ Below B w2 w6 := fun v1 w6 h1 h2 h3 h4 => by
        rw [hsn, if_pos h4]
        refine ⟨by rw [← List.append_assoc]; exact h1, fun gg e => ?_, hrow.asides h2 (fun e => hvg _ e rfl), hbel.trans (h2.below hz fun gg e => (hown.blk2 e).1)⟩
        rcases h3 gg e with h5 | h5
        · exact hvg gg h5
        · have := hrow.lt; omega
      have HAP := Lib.hid happ
      have HSN := Lib.hid hsn
      clear happ hsn
      by_cases hxa : x < a
      · have d1 : decide (x < a) = true := decide_eq_true hxa
        go_wp2_with (at_builtin; refine append_where _ rfl (.tmp 47) (.tmp 49) rfl B u7 (t ++ (X.take k).filter (fun x => decide (x < a) || decide (b ≤ x))) x rfl rfl hown (by omega) hz ?_; intro v1 w6 hown1 ha1 hwh1)
        obtain ⟨j1, j2, j3, j4⟩ := HAP.out v1 w6 hown1 ha1 hwh1 (by rw [d1]; rfl)
        exact ⟨⟨k + 1, by omega, by go_num, j1, j2, j3, j4⟩, by simp [intOf]; omega⟩
      · have d1 : decide (x < a) = false := decide_eq_false hxa
        by_cases hxb : b ≤ x
        · have d2 : decide (b ≤ x) = true := decide_eq_true hxb
          go_wp2_with (at_builtin; refine append_where _ rfl (.tmp 47) (.tmp 49) rfl B u7 (t ++ (X.take k).filter (fun x => decide (x < a) || decide (b ≤ x))) x rfl rfl hown (by omega) hz ?_; intro v1 w6 hown1 ha1 hwh1)
          obtain ⟨j1, j2, j3, j4⟩ := HAP.out v1 w6 hown1 ha1 hwh1 (by rw [d2, Bool.or_true])
          exact ⟨⟨k + 1, by omega, by go_num, j1, j2, j3, j4⟩, by simp [intOf]; omega⟩
        · have d2 : decide (b ≤ x) = false := decide_eq_false hxb
          go_wp2_with fail
          exact ⟨⟨k + 1, by omega, by go_num, by rw [HSN.out, d1, d2]; exact hown, hvg, hrow, hbel⟩, by simp [intOf]; omega⟩
    · have hXk : X.take k = X := List.take_of_length_le (by omega)
      rw [hXk, ← HM.out] at hown
      obtain ⟨q6, d6, rfl, SM⟩ := hown.open_
      have hsr := sort_any d6 SM (by omega) hz
      rw [HTE.out] at hsr
      go_wp2_with fail
      refine hsr.mono ?_
      rintro e w7 ⟨rfl, ST, hb7⟩
      replace hbel := hbel.trans hb7
      have Rr := R2.below hbel hzR
      have BFr := BF2.below hbel hzF
      have Wr : Below w.heap.size w w7 := W2.trans (hbel.mono (by have := W2.size; omega))
      obtain ⟨f0, f1, f2⟩ := BFr.cell3
      have hcon := impl_changed q6 T d6 l.sum c _ ST.ints (by omega) (by omega)
      rw [hTl] at hcon
      obtain ⟨tc, etc⟩ : ∃ x, tmC T l.sum c = x := ⟨_, rfl⟩
      obtain ⟨tf, etf⟩ : ∃ x, tmF T l.sum c = x := ⟨_, rfl⟩
      obtain ⟨tl, etl⟩ : ∃ x, tmL T l.sum c = x := ⟨_, rfl⟩
      obtain ⟨te, ete⟩ : ∃ x, tmE 2 T l.sum c = x := ⟨_, rfl⟩
      rw [etc, etf, etl, ete] at hcon
      have HT4 : Hid (tmC T l.sum c = tc ∧ tmF T l.sum c = tf ∧ tmL T l.sum c = tl ∧ tmE 2 T l.sum c = te) := Lib.hid ⟨etc, etf, etl, ete⟩
      clear etc etf etl ete
      have HCON := Lib.hid hcon
      clear hcon
      go_wp2_with fail
      refine HCON.out.mono ?_
      rintro e w8 ⟨q5, d5, rfl, S5, hb5⟩
      have R5 := Rr.keep hb5
      obtain ⟨r0, r1', r2⟩ := R5.cell3
      have rf := R5.frozen
      have hw5 := below_st Wr hb5 (Nat.le_refl _)
      have hzw := Wr.size
      have hzr' := Rr.lt
      obtain ⟨e0, e1, e2⟩ := (R5.set3 (.int .i64 tc) (.int .i64 tf) (.slice q5 tl.length d5)).cell3
      have S6 := ((S5.offS (g' := w.heap.size + 1 + 1) hzr' 0 (.int .i64 tc)).offS (g' := w.heap.size + 1 + 1) hzr' 1 (.int .i64 tf)).offS (g' := w.heap.size + 1 + 1) hzr' 2 (.slice q5 tl.length d5)
      go_wp2_with fail
      refine bodyPost_ret (v := .tuple #[.agg #[.int .i64 tc, .int .i64 tf, .slice q5 tl.length d5], .int .i64 te]) (by simp [results, Try.results17, go_sem, e0, e1, e2]) rfl ?_
      rw [hTD, HC.out, HF.out, HL.out, HE.out, HT4.out.1, HT4.out.2.1, HT4.out.2.2.1, HT4.out.2.2.2]
      exact ⟨q5, d5, rfl, S6.mono hzw, ((hw5.setCell (p := ⟨w.heap.size + 1 + 1, 0, none⟩) (by show w.heap.size ≤ w.heap.size + 1 + 1; omega) _).setCell (p := ⟨w.heap.size + 1 + 1, 1, none⟩) (by show w.heap.size ≤ w.heap.size + 1 + 1; omega) _).setCell (p := ⟨w.heap.size + 1 + 1, 2, none⟩) (by show w.heap.size ≤ w.heap.size + 1 + 1; omega) _⟩
set_option maxHeartbeats 8000000 in
set_option maxRecDepth 20000 in
theorem spec_WeakenFlux (c f : Int) (p : Option Addr) (l : List Int) (cap : Nat) (a b : Int) (pt : Option Addr) (t : List Int) (capt : Nat) (w : World) (hI : IntsAt w p l) (hT : IntsAt w pt t) (hlt : l.length + t.length ≤ 1048576) (hcap : pt = none → capt = 0) :
    Calls Try.prog 22 #[.agg #[.int .i64 c, .int .i64 f, .slice p l.length cap], .agg #[.int .i64 a, .int .i64 b, .slice pt t.length capt]] w fun e w' => ∃ (q : Option Addr) (dq : Nat), e = .returned (.tuple #[.agg #[.int .i64 (fxC (weV c f l a b t) (weT f l a b t) l.sum c), .int .i64 (fxF (weV c f l a b t) (weT f l a b t) l.sum c), .slice q (fxL (weV c f l a b t) (weT f l a b t) l.sum c).length dq], .int .i64 (weE c f l a b t)]) ∧ OwnS w' w.heap.size q (fxL (weV c f l a b t) (weT f l a b t) l.sum c) ∧ Below w.heap.size w w' := by
  have hl : l.length ≤ 1048576 := by omega
  have htl : t.length ≤ 1048576 := by omega
  have BF0 := ((Blk.new w 26 #[.int .i64 c, .int .i64 f, .slice p l.length cap]).alloc' (.cells #[.int .i64 a, .int .i64 b, .slice pt t.length capt] 36)).alloc' (.cells #[.int .i64 0, .int .i64 0, .slice none 0 0] 26)
  have BS0 := (Blk.new (w.alloc (.cells #[.int .i64 c, .int .i64 f, .slice p l.length cap] 26)) 36 #[.int .i64 a, .int .i64 b, .slice pt t.length capt]).alloc' (.cells #[.int .i64 0, .int .i64 0, .slice none 0 0] 26)
  have R0 := Blk.new ((w.alloc (.cells #[.int .i64 c, .int .i64 f, .slice p l.length cap] 26)).alloc (.cells #[.int .i64 a, .int .i64 b, .slice pt t.length capt] 36)) 26 #[.int .i64 0, .int .i64 0, .slice none 0 0]
  have esz2 : ((w.alloc (.cells #[.int .i64 c, .int .i64 f, .slice p l.length cap] 26)).alloc (.cells #[.int .i64 a, .int .i64 b, .slice pt t.length capt] 36)).heap.size = w.heap.size + 1 + 1 := by simp
  have esz : (w.alloc (.cells #[.int .i64 c, .int .i64 f, .slice p l.length cap] 26)).heap.size = w.heap.size + 1 := by simp
  rw [esz2] at R0
  rw [esz] at BS0
  have W0 : Below w.heap.size w (((w.alloc (.cells #[.int .i64 c, .int .i64 f, .slice p l.length cap] 26)).alloc (.cells #[.int .i64 a, .int .i64 b, .slice pt t.length capt] 36)).alloc (.cells #[.int .i64 0, .int .i64 0, .slice none 0 0] 26)) := (((Below.refl _ _).alloc (Nat.le_refl _) _).alloc (by simp) _).alloc (by simp; omega) _
  clear esz esz2
  obtain ⟨f0, f1, f2⟩ := BF0.cell3
  obtain ⟨s0, s1, s2⟩ := BS0.cell3
  obtain h1 | h1 := (Bool.eq_false_or_eq_true (fluxOk c f l)).symm
  · have hv : weV c f l a b t = false := by unfold weV weOk; rw [h1]; rfl
    have HE : Hid (weE c f l a b t = 1) := Lib.hid (by unfold weE weOk; rw [h1]; rfl)
    have HN : Hid (fxC (weV c f l a b t) (weT f l a b t) l.sum c = 0 ∧ fxF (weV c f l a b t) (weT f l a b t) l.sum c = 0 ∧ fxL (weV c f l a b t) (weT f l a b t) l.sum c = []) := Lib.hid (by unfold fxC fxF fxL; rw [hv]; exact ⟨rfl, rfl, rfl⟩)
    have H := Lib.hid h1
    clear h1 hv
    go_enter Try.func22, Try.ntmps22
    go_wp2_with fail
    generalize (((w.alloc (.cells #[.int .i64 c, .int .i64 f, .slice p l.length cap] 26)).alloc (.cells #[.int .i64 a, .int .i64 b, .slice pt t.length capt] 36)).alloc (.cells #[.int .i64 0, .int .i64 0, .slice none 0 0] 26)) = w0 at BF0 BS0 R0 W0 f0 f1 f2 s0 s1 s2 ⊢
    refine (spec_l02Ok c f p l cap _ _ (hI.below W0) hl BF0).mono ?_
    rintro e w1 ⟨rfl, hb1⟩
    rw [H.out]
    have R1 := R0.keep hb1
    have BF1 := BF0.keep hb1
    have BS1 := BS0.keep hb1
    have W1 := below_st W0 hb1 (Nat.le_refl _)
    obtain ⟨r0, r1', r2⟩ := R1.cell3
    have rf := R1.frozen
    have rlt := R1.lt
    obtain ⟨e0, e1, e2⟩ := (R1.set3 (.int .i64 0) (.int .i64 0) (.slice none 0 0)).cell3
    go_wp2_with fail
    refine bodyPost_ret (v := .tuple #[.agg #[.int .i64 0, .int .i64 0, .slice none 0 0], .int .i64 1]) (by simp [results, Try.results22, go_sem, e0, e1, e2]) rfl ?_
    rw [HN.out.1, HN.out.2.1, HN.out.2.2, HE.out]
    have W9 := ((W1.setCell (p := ⟨w.heap.size + 1 + 1, 0, none⟩) (by show w.heap.size ≤ w.heap.size + 1 + 1; omega) (.int .i64 0)).setCell (p := ⟨w.heap.size + 1 + 1, 1, none⟩) (by show w.heap.size ≤ w.heap.size + 1 + 1; omega) (.int .i64 0)).setCell (p := ⟨w.heap.size + 1 + 1, 2, none⟩) (by show w.heap.size ≤ w.heap.size + 1 + 1; omega) (.slice none 0 0)
    first | exact ⟨none, 0, rfl, OwnS.nil_ _ _ _, W9⟩ | exact ⟨none, ⟨0, rfl⟩, OwnS.nil_ _ _ _, W9⟩
  obtain h2 | h2 := (Bool.eq_false_or_eq_true (spanOk a b t)).symm
  · have hv : weV c f l a b t = false := by unfold weV weOk; rw [h2, Bool.and_false]; rfl
    have HE : Hid (weE c f l a b t = 1) := Lib.hid (by unfold weE weOk; rw [h2, Bool.and_false]; rfl)
    have HN : Hid (fxC (weV c f l a b t) (weT f l a b t) l.sum c = 0 ∧ fxF (weV c f l a b t) (weT f l a b t) l.sum c = 0 ∧ fxL (weV c f l a b t) (weT f l a b t) l.sum c = []) := Lib.hid (by unfold fxC fxF fxL; rw [hv]; exact ⟨rfl, rfl, rfl⟩)
    have H := Lib.hid h1
    have H2 := Lib.hid h2
    clear h1 h2 hv
    go_enter Try.func22, Try.ntmps22
    go_wp2_with fail
    generalize (((w.alloc (.cells #[.int .i64 c, .int .i64 f, .slice p l.length cap] 26)).alloc (.cells #[.int .i64 a, .int .i64 b, .slice pt t.length capt] 36)).alloc (.cells #[.int .i64 0, .int .i64 0, .slice none 0 0] 26)) = w0 at BF0 BS0 R0 W0 f0 f1 f2 s0 s1 s2 ⊢
    refine (spec_l02Ok c f p l cap _ _ (hI.below W0) hl BF0).mono ?_
    rintro e w1 ⟨rfl, hb1⟩
    rw [H.out]
    have R1 := R0.keep hb1
    have BF1 := BF0.keep hb1
    have BS1 := BS0.keep hb1
    have W1 := below_st W0 hb1 (Nat.le_refl _)
    clear f0 f1 f2 s0 s1 s2
    obtain ⟨f0, f1, f2⟩ := BF1.cell3
    obtain ⟨s0, s1, s2⟩ := BS1.cell3
    go_wp2_with fail
    refine (spec_l04Span a b pt t capt _ 0 _ (hT.below W1) htl BS1.cell3.1 BS1.cell3.2.1 BS1.cell3.2.2).mono ?_
    rintro e w2 ⟨rfl, hb2⟩
    rw [H2.out]
    have R2 := R1.keep hb2
    have BF2 := BF1.keep hb2
    have BS2 := BS1.keep hb2
    have W2 := below_st W1 hb2 (Nat.le_refl _)
    obtain ⟨r0, r1', r2⟩ := R2.cell3
    have rf := R2.frozen
    have rlt := R2.lt
    obtain ⟨e0, e1, e2⟩ := (R2.set3 (.int .i64 0) (.int .i64 0) (.slice none 0 0)).cell3
    go_wp2_with fail
    refine bodyPost_ret (v := .tuple #[.agg #[.int .i64 0, .int .i64 0, .slice none 0 0], .int .i64 1]) (by simp [results, Try.results22, go_sem, e0, e1, e2]) rfl ?_
    rw [HN.out.1, HN.out.2.1, HN.out.2.2, HE.out]
    have W9 := ((W2.setCell (p := ⟨w.heap.size + 1 + 1, 0, none⟩) (by show w.heap.size ≤ w.heap.size + 1 + 1; omega) (.int .i64 0)).setCell (p := ⟨w.heap.size + 1 + 1, 1, none⟩) (by show w.heap.size ≤ w.heap.size + 1 + 1; omega) (.int .i64 0)).setCell (p := ⟨w.heap.size + 1 + 1, 2, none⟩) (by show w.heap.size ≤ w.heap.size + 1 + 1; omega) (.slice none 0 0)
    first | exact ⟨none, 0, rfl, OwnS.nil_ _ _ _, W9⟩ | exact ⟨none, ⟨0, rfl⟩, OwnS.nil_ _ _ _, W9⟩
  obtain ⟨-, hlen, hgm, hpre, hf0, hsum⟩ := fluxOk_bd h1
  have hsums := fluxOk_sums h1
  obtain ⟨ha0, hab, hb2m, hris⟩ := spanOk_bd h2
  have hok : weOk c f l a b t = true := by unfold weOk; rw [h1, h2]; rfl
  have HS := Lib.hid hsums
  have HUP := Lib.hid (chg_rises h1)
  have H := Lib.hid h1
  have H2 := Lib.hid h2
  have hcl := chgL_len f l
  have HOK := Lib.hid hok
  have HRI := Lib.hid hris
  clear h1 h2 hok hsums hgm hpre hris
  by_cases h3 : b ≤ l.sum
  rotate_left
  · have hi : weIn l b = false := decide_eq_false h3
    have hv : weV c f l a b t = false := by unfold weV; rw [hi, Bool.and_false]
    have HE : Hid (weE c f l a b t = 2) := Lib.hid (by unfold weE; rw [HOK.out, hi]; rfl)
    have HN : Hid (fxC (weV c f l a b t) (weT f l a b t) l.sum c = 0 ∧ fxF (weV c f l a b t) (weT f l a b t) l.sum c = 0 ∧ fxL (weV c f l a b t) (weT f l a b t) l.sum c = []) := Lib.hid (by unfold fxC fxF fxL; rw [hv]; exact ⟨rfl, rfl, rfl⟩)
    have hd : decide (l.sum < b) = true := decide_eq_true (by omega)
    clear hv hi
    go_enter Try.func22, Try.ntmps22
    go_wp2_with fail
    generalize (((w.alloc (.cells #[.int .i64 c, .int .i64 f, .slice p l.length cap] 26)).alloc (.cells #[.int .i64 a, .int .i64 b, .slice pt t.length capt] 36)).alloc (.cells #[.int .i64 0, .int .i64 0, .slice none 0 0] 26)) = w0 at BF0 BS0 R0 W0 f0 f1 f2 s0 s1 s2 ⊢
    refine (spec_l02Ok c f p l cap _ _ (hI.below W0) hl BF0).mono ?_
    rintro e w1 ⟨rfl, hb1⟩
    rw [H.out]
    have R1 := R0.keep hb1
    have BF1 := BF0.keep hb1
    have BS1 := BS0.keep hb1
    have W1 := below_st W0 hb1 (Nat.le_refl _)
    clear f0 f1 f2 s0 s1 s2
    obtain ⟨f0, f1, f2⟩ := BF1.cell3
    obtain ⟨s0, s1, s2⟩ := BS1.cell3
    go_wp2_with fail
    refine (spec_l04Span a b pt t capt _ 0 _ (hT.below W1) htl BS1.cell3.1 BS1.cell3.2.1 BS1.cell3.2.2).mono ?_
    rintro e w2 ⟨rfl, hb2⟩
    rw [H2.out]
    have R2 := R1.keep hb2
    have BF2 := BF1.keep hb2
    have BS2 := BS1.keep hb2
    have W2 := below_st W1 hb2 (Nat.le_refl _)
    clear f0 f1 f2 s0 s1 s2
    obtain ⟨f0, f1, f2⟩ := BF2.cell3
    obtain ⟨s0, s1, s2⟩ := BS2.cell3
    go_wp2_with fail
    go_quiet (exact Calls.quiet_of_same ((spec_l02Revolution c f p l cap _ _ (by exact hI.below (below_drewN W2 _)) hl HS.out.1 (by exact BF2)).mono fun e w' h => ⟨h.1, h.2⟩))
    generalize hw3 : w2.drewN _ = w3
    have R3 : Blk w3 (w.heap.size + 1 + 1) 26 #[.int .i64 0, .int .i64 0, .slice none 0 0] := by rw [← hw3]; exact R2
    have BF3 : Blk w3 w.heap.size 26 #[.int .i64 c, .int .i64 f, .slice p l.length cap] := by rw [← hw3]; exact BF2
    have BS3 : Blk w3 (w.heap.size + 1) 36 #[.int .i64 a, .int .i64 b, .slice pt t.length capt] := by rw [← hw3]; exact BS2
    have W3 : Below w.heap.size w w3 := by rw [← hw3]; exact below_drewN W2 _
    clear hw3
    obtain ⟨r0, r1', r2⟩ := R3.cell3
    have rf := R3.frozen
    have rlt := R3.lt
    obtain ⟨e0, e1, e2⟩ := (R3.set3 (.int .i64 0) (.int .i64 0) (.slice none 0 0)).cell3
    go_wp2_with fail
    refine bodyPost_ret (v := .tuple #[.agg #[.int .i64 0, .int .i64 0, .slice none 0 0], .int .i64 2]) (by simp [results, Try.results22, go_sem, e0, e1, e2]) rfl ?_
    rw [HN.out.1, HN.out.2.1, HN.out.2.2, HE.out]
    have W9 := ((W3.setCell (p := ⟨w.heap.size + 1 + 1, 0, none⟩) (by show w.heap.size ≤ w.heap.size + 1 + 1; omega) (.int .i64 0)).setCell (p := ⟨w.heap.size + 1 + 1, 1, none⟩) (by show w.heap.size ≤ w.heap.size + 1 + 1; omega) (.int .i64 0)).setCell (p := ⟨w.heap.size + 1 + 1, 2, none⟩) (by show w.heap.size ≤ w.heap.size + 1 + 1; omega) (.slice none 0 0)
    first | exact ⟨none, 0, rfl, OwnS.nil_ _ _ _, W9⟩ | exact ⟨none, ⟨0, rfl⟩, OwnS.nil_ _ _ _, W9⟩
  have hi : weIn l b = true := decide_eq_true h3
  have hv : weV c f l a b t = true := by unfold weV; rw [HOK.out, hi]; rfl
  have HC : Hid (fxC (weV c f l a b t) (weT f l a b t) l.sum c = tmC (weT f l a b t) l.sum c) := Lib.hid (by unfold fxC; rw [hv]; rfl)
  have HF : Hid (fxF (weV c f l a b t) (weT f l a b t) l.sum c = tmF (weT f l a b t) l.sum c) := Lib.hid (by unfold fxF; rw [hv]; rfl)
  have HL : Hid (fxL (weV c f l a b t) (weT f l a b t) l.sum c = tmL (weT f l a b t) l.sum c) := Lib.hid (by unfold fxL; rw [hv]; rfl)
  have HE : Hid (weE c f l a b t = tmE 2 (weT f l a b t) l.sum c) := Lib.hid (by unfold weE; rw [HOK.out, hi]; rfl)
  have hd : decide (l.sum < b) = false := decide_eq_false (by omega)
  clear hv hi
  go_enter Try.func22, Try.ntmps22
  go_wp2_with fail
  generalize (((w.alloc (.cells #[.int .i64 c, .int .i64 f, .slice p l.length cap] 26)).alloc (.cells #[.int .i64 a, .int .i64 b, .slice pt t.length capt] 36)).alloc (.cells #[.int .i64 0, .int .i64 0, .slice none 0 0] 26)) = w0 at BF0 BS0 R0 W0 f0 f1 f2 s0 s1 s2 ⊢
  refine (spec_l02Ok c f p l cap _ _ (hI.below W0) hl BF0).mono ?_
  rintro e w1 ⟨rfl, hb1⟩
  rw [H.out]
  have R1 := R0.keep hb1
  have BF1 := BF0.keep hb1
  have BS1 := BS0.keep hb1
  have W1 := below_st W0 hb1 (Nat.le_refl _)
  clear f0 f1 f2 s0 s1 s2
  obtain ⟨f0, f1, f2⟩ := BF1.cell3
  obtain ⟨s0, s1, s2⟩ := BS1.cell3
  go_wp2_with fail
  refine (spec_l04Span a b pt t capt _ 0 _ (hT.below W1) htl BS1.cell3.1 BS1.cell3.2.1 BS1.cell3.2.2).mono ?_
  rintro e w2 ⟨rfl, hb2⟩
  rw [H2.out]
  have R2 := R1.keep hb2
  have BF2 := BF1.keep hb2
  have BS2 := BS1.keep hb2
  have W2 := below_st W1 hb2 (Nat.le_refl _)
  clear f0 f1 f2 s0 s1 s2
  obtain ⟨f0, f1, f2⟩ := BF2.cell3
  obtain ⟨s0, s1, s2⟩ := BS2.cell3
  go_wp2_with fail
  go_quiet (exact Calls.quiet_of_same ((spec_l02Revolution c f p l cap _ _ (by exact hI.below (below_drewN W2 _)) hl HS.out.1 (by exact BF2)).mono fun e w' h => ⟨h.1, h.2⟩))
  generalize hw3 : w2.drewN _ = w3
  have R3 : Blk w3 (w.heap.size + 1 + 1) 26 #[.int .i64 0, .int .i64 0, .slice none 0 0] := by rw [← hw3]; exact R2
  have BF3 : Blk w3 w.heap.size 26 #[.int .i64 c, .int .i64 f, .slice p l.length cap] := by rw [← hw3]; exact BF2
  have BS3 : Blk w3 (w.heap.size + 1) 36 #[.int .i64 a, .int .i64 b, .slice pt t.length capt] := by rw [← hw3]; exact BS2
  have W3 : Below w.heap.size w w3 := by rw [← hw3]; exact below_drewN W2 _
  clear hw3
  clear f0 f1 f2 s0 s1 s2
  obtain ⟨f0, f1, f2⟩ := BF3.cell3
  obtain ⟨s0, s1, s2⟩ := BS3.cell3
  go_wp2_with fail
  refine (spec_l02Changes c f p l cap _ _ (hI.below W3) hl HS.out.2 BF3).mono ?_
  rintro e w4 ⟨q, dq, rfl, S4, hb4⟩
  have R4 := R3.keep hb4
  have BF4 := BF3.keep hb4
  have BS4 := BS3.keep hb4
  have W4 := below_st W3 hb4 (Nat.le_refl _)
  obtain ⟨g, rfl, hg, hrow0⟩ := S4 (by intro e; rw [e] at hcl; simp at hcl; omega)
  have hWT : weT f l a b t = (((chgL f l).filter fun x => decide (x < a)) ++ t) ++ ((chgL f l).filter fun x => decide (b ≤ x)) := rfl
  have hTb : (weT f l a b t).length ≤ t.length + l.length := by have := weakT_len a b t (chgL f l) hab; rw [hcl] at this; exact this
  generalize hTD : weT f l a b t = T at *
  generalize chgL f l = X at *
  obtain ⟨B2, eB2⟩ : ∃ B2, w4.heap.size = B2 := ⟨_, rfl⟩
  have hgB := hrow0.lt
  have hzR := R4.lt
  have hzF := BF4.lt
  have hzS := BS4.lt
  have hzW := W4.size
  rw [eB2] at hgB hzR hzF hzS hzW
  have HWT := Lib.hid hWT
  clear hWT hb4 S4
  rw [hcl]
  clear f0 f1 f2 s0 s1 s2
  obtain ⟨f0, f1, f2⟩ := BF4.cell3
  obtain ⟨s0, s1, s2⟩ := BS4.cell3
  go_wp2_with fail
  clear f0 f1 f2 s0 s1 s2
  go_loopw [7, 8] (fun v i wr => ∃ k : Nat, k ≤ l.length ∧ i = .int .i64 k ∧ OwnI wr B2 v (X.take k) ∧ Hid (∀ j (h : j < X.length), j < k → X[j] < a) ∧ Below B2 w4 wr) (fun _ i _ => l.length - (intOf i).toNat)
  case atStart => exact ⟨0, Nat.zero_le _, rfl, by have h := OwnI.nil0 w4; rw [eB2] at h; exact h, fun j _ h => absurd h (Nat.not_lt_zero _), (Below.refl _ _).alloc (by omega) _⟩
  case round =>
    obtain ⟨k, hk, rfl, hown, HB, hbel⟩ := hrel
    have hz : B2 ≤ wr.heap.size := by have := hbel.size; omega
    have BSr := BS4.below hbel hzS
    obtain ⟨s0, s1, s2⟩ := BSr.cell3
    have hrow := hrow0.aside hgB hbel
    have hkl : (X.take k).length ≤ 4000 := by rw [List.length_take]; omega
    by_cases hgo : ∃ h : k < X.length, X[k] < a
    · obtain ⟨hkX, hxa⟩ := hgo
      obtain ⟨hc, -⟩ := hrow.cell hkX
      have HN : Hid (∀ j (h : j < X.length), j < k + 1 → X[j] < a) := Lib.hid fun j h hj => by
        by_cases e : j = k
        · subst e; exact hxa
        · exact HB.out j h (by omega)
      have HT := Lib.hid (takeI_snoc hkX)
      have hlt : k < l.length := by omega
      have d0 : decide ((k : Int) < (l.length : Int)) = true := decide_eq_true (by omega)
      obtain ⟨x, ex⟩ : ∃ x, X[k] = x := ⟨_, rfl⟩
      rw [ex] at hc hxa
      have HX := Lib.hid ex
      clear ex
      have d1 : decide (x < a) = true := decide_eq_true hxa
      go_wp2_with fail
      go_quiet (fail)
      generalize hw5 : wr.drewN _ = w5
      replace hown : OwnI w5 B2 u7 (X.take k) := by rw [← hw5]; exact hown.drewN _
      have hc5 : w5.cell? ⟨g, k, none⟩ = some (.int .i64 x) := by rw [← hw5]; exact hc
      replace hz : B2 ≤ w5.heap.size := by rw [← hw5]; exact hz
      replace hbel : Below B2 w4 w5 := by rw [← hw5]; exact below_drewN hbel _
      clear hw5 hc hrow BSr s0 s1 s2
      go_wp2_with (at_builtin; refine append_int _ rfl (.tmp 39) (.tmp 44) rfl B2 u7 (X.take k) x rfl rfl hown (by omega) hz ?_; intro v1 w6 hown1 hbel1)
      rw [← HX.out, ← HT.out] at hown1
      exact ⟨⟨k + 1, by omega, by go_num, hown1, HN, hbel.trans hbel1⟩, by simp [intOf]; omega⟩
    · have HK : Hid (∀ h : k < X.length, a ≤ X[k]) := Lib.hid fun h => by
        rcases Int.lt_or_le X[k] a with h1 | h1
        · exact absurd ⟨h, h1⟩ hgo
        · exact h1
      have HLX : Hid (X.take k = X.filter fun x => decide (x < a)) := Lib.hid (lessX HUP.out HB.out HK.out)
      have hstop : k = l.length ∨ ∃ x, wr.cell? ⟨g, k, none⟩ = some (.int .i64 x) ∧ a ≤ x ∧ k < l.length := by
        by_cases hlt : k < X.length
        · exact .inr ⟨_, (hrow.cell hlt).1, HK.out hlt, by omega⟩
        · exact .inl (by omega)
      clear hgo HB HK
      obtain ⟨Y, eY⟩ : ∃ Y, X.take k = Y := ⟨_, rfl⟩
      rw [eY] at hown hkl HLX
      clear eY
      rcases hstop with hd0 | ⟨x, hcx, hax, hlt0⟩
      · subst hd0
        go_wp2_with fail
        go_quiet (fail)
        generalize hw5 : wr.drewN _ = w5
        replace hown : OwnI w5 B2 u7 Y := by rw [← hw5]; exact hown.drewN _
        replace hz : B2 ≤ w5.heap.size := by rw [← hw5]; exact hz
        replace BSr : Blk w5 (w.heap.size + 1) 36 #[.int .i64 a, .int .i64 b, .slice pt t.length capt] := by rw [← hw5]; exact BSr
        replace hbel : Below B2 w4 w5 := by rw [← hw5]; exact below_drewN hbel _
        clear hw5 hrow s0 s1 s2
        obtain ⟨s0, s1, s2⟩ := BSr.cell3
        have hT5 := hT.below (W4.trans (hbel.mono hzW))
        go_wp2_with (at_builtin; refine append_src _ rfl (.tmp 46) (.tmp 48) rfl B2 u7 Y t pt capt rfl rfl hcap hT5 hown (by omega) hz ?_; intro v1 w6 hown1 hbel1)
        replace hbel := hbel.trans hbel1
        clear BSr s0 s1 s2 hT5 hown hbel1
        go_loopw [7, 9] (fun v i wq => ∃ j : Nat, j ≤ l.length ∧ i = .int .i64 j ∧ OwnI wq B2 v ((Y ++ t) ++ (X.take j).filter (fun x => decide (b ≤ x))) ∧ Below B2 w4 wq) (fun _ i _ => l.length - (intOf i).toNat)
        case atStart => exact ⟨0, Nat.zero_le _, rfl, by simpa using hown1, hbel⟩
        case round =>
          clear hz hbel hown1
          obtain ⟨j, hj, rfl, hown, hbel⟩ := hrel
          have hz : B2 ≤ wr.heap.size := by have := hbel.size; omega
          have BSr := BS4.below hbel hzS
          obtain ⟨s0, s1, s2⟩ := BSr.cell3
          have hrow := hrow0.aside hgB hbel
          by_cases hlj : j < l.length
          · have hjX : j < X.length := by omega
            obtain ⟨hc, -⟩ := hrow.cell hjX
            have hsn := filt_snoc (fun x => decide (b ≤ x)) hjX
            have hll : ((Y ++ t) ++ (X.take j).filter (fun x => decide (b ≤ x))).length ≤ 2200000 := by rw [List.length_append, List.length_append]; have := List.length_filter_le (fun x => decide (b ≤ x)) (X.take j); rw [List.length_take] at this; omega
            obtain ⟨x, ex⟩ : ∃ x, X[j] = x := ⟨_, rfl⟩
            rw [ex] at hc hsn
            clear ex
            have HSN := Lib.hid hsn
            clear hsn
            have d0 : (j : Int) < (l.length : Int) := by omega
            by_cases hxb : b ≤ x
            · have d2 : decide (b ≤ x) = true := decide_eq_true hxb
              go_wp2_with fail
              go_quiet (fail)
              generalize hw5 : wr.drewN _ = w5
              replace hown : OwnI w5 B2 u7 ((Y ++ t) ++ (X.take j).filter (fun x => decide (b ≤ x))) := by rw [← hw5]; exact hown.drewN _
              have hc5 : w5.cell? ⟨g, j, none⟩ = some (.int .i64 x) := by rw [← hw5]; exact hc
              replace hz : B2 ≤ w5.heap.size := by rw [← hw5]; exact hz
              replace hbel : Below B2 w4 w5 := by rw [← hw5]; exact below_drewN hbel _
              clear hw5 hc hrow BSr s0 s1 s2
              go_wp2_with (at_builtin; refine append_int _ rfl (.tmp 63) (.tmp 68) rfl B2 u7 ((Y ++ t) ++ (X.take j).filter (fun x => decide (b ≤ x))) x rfl rfl hown (by omega) hz ?_; intro v1 w6 hown1 hbel1)
              exact ⟨⟨j + 1, by omega, by go_num, by rw [HSN.out, if_pos d2, ← List.append_assoc]; exact hown1, hbel.trans hbel1⟩, by simp [intOf]; omega⟩
            · have d2 : decide (b ≤ x) = false := decide_eq_false hxb
              go_wp2_with fail
              go_quiet (fail)
              generalize hw5 : wr.drewN _ = w5
              replace hown : OwnI w5 B2 u7 ((Y ++ t) ++ (X.take j).filter (fun x => decide (b ≤ x))) := by rw [← hw5]; exact hown.drewN _
              replace hbel : Below B2 w4 w5 := by rw [← hw5]; exact below_drewN hbel _
              clear hw5 hc hrow BSr s0 s1 s2
              go_wp2_with fail
              exact ⟨⟨j + 1, by omega, by go_num, by rw [HSN.out, if_neg (by rw [d2]; simp)]; exact hown, hbel⟩, by simp [intOf]; omega⟩
          · have hXj : X.take j = X := List.take_of_length_le (by omega)
            rw [hXj, HLX.out, ← HWT.out] at hown
            obtain ⟨q6, d6, rfl, ST⟩ := hown.open_
            have Rr := R4.below hbel hzR
            have BFr := BF4.below hbel hzF
            have hWr : Below w.heap.size w wr := W4.trans (hbel.mono hzW)
            clear BSr s0 s1 s2 hrow
            obtain ⟨f0, f1, f2⟩ := BFr.cell3
            have hrb : -9223372036854775808 ≤ l.sum ∧ l.sum ≤ 9223372036854775807 := by omega
            have Rd := Rr.drew
            have Bd := BFr.drew
            have hwd := hWr.drew
            have hzr' := Rr.lt
            have hTl1 : T.length ≤ 1048576 := by omega
            have CD := fun (w5 : World) (h : IntsAt w5 q6 T) => spec_l04Done q6 T d6 l.sum c w5 h hTl1 hrb
            go_wp2_with fail
            have keepS : ∀ y1 y2 : World, ((w.heap.size < y1.heap.size ∧ y1.cell? ⟨w.heap.size, 0, none⟩ = some (.int .i64 c) ∧ y1.cell? ⟨w.heap.size, 1, none⟩ = some (.int .i64 f) ∧ y1.cell? ⟨w.heap.size, 2, none⟩ = some (.slice p l.length cap)) ∧ OwnS y1 B2 q6 T ∧ Below w.heap.size w y1) → Below y1.heap.size y1 y2 → ((w.heap.size < y2.heap.size ∧ y2.cell? ⟨w.heap.size, 0, none⟩ = some (.int .i64 c) ∧ y2.cell? ⟨w.heap.size, 1, none⟩ = some (.int .i64 f) ∧ y2.cell? ⟨w.heap.size, 2, none⟩ = some (.slice p l.length cap)) ∧ OwnS y2 B2 q6 T ∧ Below w.heap.size w y2) := by
              rintro y1 y2 ⟨⟨s0, s1, s2, s3⟩, s4, s5⟩ hb
              obtain ⟨hc, -⟩ := bcell hb
              have := hb.size
              exact ⟨⟨by omega, (hc _ _ s0).trans s1, (hc _ _ s0).trans s2, (hc _ _ s0).trans s3⟩, s4.below hb, below_st s5 hb (Nat.le_refl _)⟩
            have keepW : ∀ (y : World) (i : Nat) (v : Value), ((w.heap.size < y.heap.size ∧ y.cell? ⟨w.heap.size, 0, none⟩ = some (.int .i64 c) ∧ y.cell? ⟨w.heap.size, 1, none⟩ = some (.int .i64 f) ∧ y.cell? ⟨w.heap.size, 2, none⟩ = some (.slice p l.length cap)) ∧ OwnS y B2 q6 T ∧ Below w.heap.size w y) → ((w.heap.size < (y.setCell ⟨w.heap.size + 1 + 1, i, none⟩ v).heap.size ∧ (y.setCell ⟨w.heap.size + 1 + 1, i, none⟩ v).cell? ⟨w.heap.size, 0, none⟩ = some (.int .i64 c) ∧ (y.setCell ⟨w.heap.size + 1 + 1, i, none⟩ v).cell? ⟨w.heap.size, 1, none⟩ = some (.int .i64 f) ∧ (y.setCell ⟨w.heap.size + 1 + 1, i, none⟩ v).cell? ⟨w.heap.size, 2, none⟩ = some (.slice p l.length cap)) ∧ OwnS (y.setCell ⟨w.heap.size + 1 + 1, i, none⟩ v) B2 q6 T ∧ Below w.heap.size w (y.setCell ⟨w.heap.size + 1 + 1, i, none⟩ v)) := by
              rintro y i v ⟨⟨s0, s1, s2, s3⟩, s4, s5⟩
              have ho : ∀ j, (y.setCell ⟨w.heap.size + 1 + 1, i, none⟩ v).cell? ⟨w.heap.size, j, none⟩ = y.cell? ⟨w.heap.size, j, none⟩ := fun j => World.cell?_setCell_other _ _ _ _ (by intro h'; injection h' with h2; omega)
              exact ⟨⟨by simpa [World.setCell] using s0, (ho 0).trans s1, (ho 1).trans s2, (ho 2).trans s3⟩, s4.offS (g' := w.heap.size + 1 + 1) hzR i v, s5.setCell (p := ⟨w.heap.size + 1 + 1, i, none⟩) (by show w.heap.size ≤ w.heap.size + 1 + 1; omega) _⟩
            have S0 : (w.heap.size < wr.drew.heap.size ∧ wr.drew.cell? ⟨w.heap.size, 0, none⟩ = some (.int .i64 c) ∧ wr.drew.cell? ⟨w.heap.size, 1, none⟩ = some (.int .i64 f) ∧ wr.drew.cell? ⟨w.heap.size, 2, none⟩ = some (.slice p l.length cap)) ∧ OwnS wr.drew B2 q6 T ∧ Below w.heap.size w wr.drew := ⟨⟨Bd.lt, Bd.cell3.1, Bd.cell3.2.1, Bd.cell3.2.2⟩, ST.below (Below.refl _ _).drew, hwd⟩
            go_region_held3 (fun w' => (w.heap.size < w'.heap.size ∧ w'.cell? ⟨w.heap.size, 0, none⟩ = some (.int .i64 c) ∧ w'.cell? ⟨w.heap.size, 1, none⟩ = some (.int .i64 f) ∧ w'.cell? ⟨w.heap.size, 2, none⟩ = some (.slice p l.length cap)) ∧ OwnS w' B2 q6 T ∧ Below w.heap.size w w')
              (first | with_reducible exact S0 | (with_reducible refine keepS _ _ S0 ?_; assumption) | (with_reducible refine keepW _ _ _ (keepW _ _ _ (keepW _ _ _ ?_)); exact keepS _ _ S0 hb5))
              (first | (go_at_call 63; refine (CD _ (by exact S0.2.1.ints)).mono ?_; rintro e w8 ⟨q5, d5, rfl, S5, hb5⟩; have R5 := Rd.keep hb5; obtain ⟨r0, r1', r2⟩ := R5.cell3; have rf := R5.frozen) | (go_at_call 41; refine (spec_l02Revolution c f p l cap _ _ (by exact hI.below hwd) hl HS.out.1 (by exact Bd)).mono ?_; rintro e w' ⟨rfl, rfl⟩))
            all_goals
              have hw5 := below_st hwd hb5 (Nat.le_refl _)
              obtain ⟨e0, e1, e2⟩ := (R5.set3 (.int .i64 (tmC T l.sum c)) (.int .i64 (tmF T l.sum c)) (.slice q5 (tmL T l.sum c).length d5)).cell3
              have S6 := ((S5.offS (g' := w.heap.size + 1 + 1) hzr' 0 (.int .i64 (tmC T l.sum c))).offS (g' := w.heap.size + 1 + 1) hzr' 1 (.int .i64 (tmF T l.sum c))).offS (g' := w.heap.size + 1 + 1) hzr' 2 (.slice q5 (tmL T l.sum c).length d5)
              go_wp2_with fail
              refine bodyPost_ret (v := .tuple #[.agg #[.int .i64 (tmC T l.sum c), .int .i64 (tmF T l.sum c), .slice q5 (tmL T l.sum c).length d5], .int .i64 (tmE 2 T l.sum c)]) (by simp [results, Try.results22, go_sem, e0, e1, e2]) rfl ?_
              rw [hTD, HC.out, HF.out, HL.out, HE.out]
              exact ⟨q5, d5, rfl, S6.mono (by have := hWr.size; exact this), ((hw5.setCell (p := ⟨w.heap.size + 1 + 1, 0, none⟩) (by show w.heap.size ≤ w.heap.size + 1 + 1; omega) _).setCell (p := ⟨w.heap.size + 1 + 1, 1, none⟩) (by show w.heap.size ≤ w.heap.size + 1 + 1; omega) _).setCell (p := ⟨w.heap.size + 1 + 1, 2, none⟩) (by show w.heap.size ≤ w.heap.size + 1 + 1; omega) _⟩
      · have hlt1 : (k : Int) < (l.length : Int) := by omega
        have d1 : decide (x < a) = false := decide_eq_false (by omega)
        go_wp2_with fail
        go_quiet (fail)
        generalize hw5 : wr.drewN _ = w5
        replace hown : OwnI w5 B2 u7 Y := by rw [← hw5]; exact hown.drewN _
        replace hz : B2 ≤ w5.heap.size := by rw [← hw5]; exact hz
        replace BSr : Blk w5 (w.heap.size + 1) 36 #[.int .i64 a, .int .i64 b, .slice pt t.length capt] := by rw [← hw5]; exact BSr
        replace hbel : Below B2 w4 w5 := by rw [← hw5]; exact below_drewN hbel _
        clear hw5 hrow s0 s1 s2
        obtain ⟨s0, s1, s2⟩ := BSr.cell3
        have hT5 := hT.below (W4.trans (hbel.mono hzW))
        go_wp2_with (at_builtin; refine append_src _ rfl (.tmp 46) (.tmp 48) rfl B2 u7 Y t pt capt rfl rfl hcap hT5 hown (by omega) hz ?_; intro v1 w6 hown1 hbel1)
        replace hbel := hbel.trans hbel1
        clear BSr s0 s1 s2 hT5 hown hbel1
        go_loopw [7, 9] (fun v i wq => ∃ j : Nat, j ≤ l.length ∧ i = .int .i64 j ∧ OwnI wq B2 v ((Y ++ t) ++ (X.take j).filter (fun x => decide (b ≤ x))) ∧ Below B2 w4 wq) (fun _ i _ => l.length - (intOf i).toNat)
        case atStart => exact ⟨0, Nat.zero_le _, rfl, by simpa using hown1, hbel⟩
        case round =>
          clear hz hbel hown1
          obtain ⟨j, hj, rfl, hown, hbel⟩ := hrel
          have hz : B2 ≤ wr.heap.size := by have := hbel.size; omega
          have BSr := BS4.below hbel hzS
          obtain ⟨s0, s1, s2⟩ := BSr.cell3
          have hrow := hrow0.aside hgB hbel
          by_cases hlj : j < l.length
          · have hjX : j < X.length := by omega
            obtain ⟨hc, -⟩ := hrow.cell hjX
            have hsn := filt_snoc (fun x => decide (b ≤ x)) hjX
            have hll : ((Y ++ t) ++ (X.take j).filter (fun x => decide (b ≤ x))).length ≤ 2200000 := by rw [List.length_append, List.length_append]; have := List.length_filter_le (fun x => decide (b ≤ x)) (X.take j); rw [List.length_take] at this; omega
            obtain ⟨x, ex⟩ : ∃ x, X[j] = x := ⟨_, rfl⟩
            rw [ex] at hc hsn
            clear ex
            have HSN := Lib.hid hsn
            clear hsn
            have d0 : (j : Int) < (l.length : Int) := by omega
            by_cases hxb : b ≤ x
            · have d2 : decide (b ≤ x) = true := decide_eq_true hxb
              go_wp2_with fail
              go_quiet (fail)
              generalize hw5 : wr.drewN _ = w5
              replace hown : OwnI w5 B2 u7 ((Y ++ t) ++ (X.take j).filter (fun x => decide (b ≤ x))) := by rw [← hw5]; exact hown.drewN _
              have hc5 : w5.cell? ⟨g, j, none⟩ = some (.int .i64 x) := by rw [← hw5]; exact hc
              replace hz : B2 ≤ w5.heap.size := by rw [← hw5]; exact hz
              replace hbel : Below B2 w4 w5 := by rw [← hw5]; exact below_drewN hbel _
              clear hw5 hc hrow BSr s0 s1 s2
              go_wp2_with (at_builtin; refine append_int _ rfl (.tmp 63) (.tmp 68) rfl B2 u7 ((Y ++ t) ++ (X.take j).filter (fun x => decide (b ≤ x))) x rfl rfl hown (by omega) hz ?_; intro v1 w6 hown1 hbel1)
              exact ⟨⟨j + 1, by omega, by go_num, by rw [HSN.out, if_pos d2, ← List.append_assoc]; exact hown1, hbel.trans hbel1⟩, by simp [intOf]; omega⟩
            · have d2 : decide (b ≤ x) = false := decide_eq_false hxb
              go_wp2_with fail
              go_quiet (fail)
              generalize hw5 : wr.drewN _ = w5
              replace hown : OwnI w5 B2 u7 ((Y ++ t) ++ (X.take j).filter (fun x => decide (b ≤ x))) := by rw [← hw5]; exact hown.drewN _
              replace hbel : Below B2 w4 w5 := by rw [← hw5]; exact below_drewN hbel _
              clear hw5 hc hrow BSr s0 s1 s2
              go_wp2_with fail
              exact ⟨⟨j + 1, by omega, by go_num, by rw [HSN.out, if_neg (by rw [d2]; simp)]; exact hown, hbel⟩, by simp [intOf]; omega⟩
          · have hXj : X.take j = X := List.take_of_length_le (by omega)
            rw [hXj, HLX.out, ← HWT.out] at hown
            obtain ⟨q6, d6, rfl, ST⟩ := hown.open_
            have Rr := R4.below hbel hzR
            have BFr := BF4.below hbel hzF
            have hWr : Below w.heap.size w wr := W4.trans (hbel.mono hzW)
            clear BSr s0 s1 s2 hrow
            obtain ⟨f0, f1, f2⟩ := BFr.cell3
            have hrb : -9223372036854775808 ≤ l.sum ∧ l.sum ≤ 9223372036854775807 := by omega
            have Rd := Rr.drew
            have Bd := BFr.drew
            have hwd := hWr.drew
            have hzr' := Rr.lt
            have hTl1 : T.length ≤ 1048576 := by omega
            have CD := fun (w5 : World) (h : IntsAt w5 q6 T) => spec_l04Done q6 T d6 l.sum c w5 h hTl1 hrb
            go_wp2_with fail
            have keepS : ∀ y1 y2 : World, ((w.heap.size < y1.heap.size ∧ y1.cell? ⟨w.heap.size, 0, none⟩ = some (.int .i64 c) ∧ y1.cell? ⟨w.heap.size, 1, none⟩ = some (.int .i64 f) ∧ y1.cell? ⟨w.heap.size, 2, none⟩ = some (.slice p l.length cap)) ∧ OwnS y1 B2 q6 T ∧ Below w.heap.size w y1) → Below y1.heap.size y1 y2 → ((w.heap.size < y2.heap.size ∧ y2.cell? ⟨w.heap.size, 0, none⟩ = some (.int .i64 c) ∧ y2.cell? ⟨w.heap.size, 1, none⟩ = some (.int .i64 f) ∧ y2.cell? ⟨w.heap.size, 2, none⟩ = some (.slice p l.length cap)) ∧ OwnS y2 B2 q6 T ∧ Below w.heap.size w y2) := by
              rintro y1 y2 ⟨⟨s0, s1, s2, s3⟩, s4, s5⟩ hb
              obtain ⟨hc, -⟩ := bcell hb
              have := hb.size
              exact ⟨⟨by omega, (hc _ _ s0).trans s1, (hc _ _ s0).trans s2, (hc _ _ s0).trans s3⟩, s4.below hb, below_st s5 hb (Nat.le_refl _)⟩
            have keepW : ∀ (y : World) (i : Nat) (v : Value), ((w.heap.size < y.heap.size ∧ y.cell? ⟨w.heap.size, 0, none⟩ = some (.int .i64 c) ∧ y.cell? ⟨w.heap.size, 1, none⟩ = some (.int .i64 f) ∧ y.cell? ⟨w.heap.size, 2, none⟩ = some (.slice p l.length cap)) ∧ OwnS y B2 q6 T ∧ Below w.heap.size w y) → ((w.heap.size < (y.setCell ⟨w.heap.size + 1 + 1, i, none⟩ v).heap.size ∧ (y.setCell ⟨w.heap.size + 1 + 1, i, none⟩ v).cell? ⟨w.heap.size, 0, none⟩ = some (.int .i64 c) ∧ (y.setCell ⟨w.heap.size + 1 + 1, i, none⟩ v).cell? ⟨w.heap.size, 1, none⟩ = some (.int .i64 f) ∧ (y.setCell ⟨w.heap.size + 1 + 1, i, none⟩ v).cell? ⟨w.heap.size, 2, none⟩ = some (.slice p l.length cap)) ∧ OwnS (y.setCell ⟨w.heap.size + 1 + 1, i, none⟩ v) B2 q6 T ∧ Below w.heap.size w (y.setCell ⟨w.heap.size + 1 + 1, i, none⟩ v)) := by
              rintro y i v ⟨⟨s0, s1, s2, s3⟩, s4, s5⟩
              have ho : ∀ j, (y.setCell ⟨w.heap.size + 1 + 1, i, none⟩ v).cell? ⟨w.heap.size, j, none⟩ = y.cell? ⟨w.heap.size, j, none⟩ := fun j => World.cell?_setCell_other _ _ _ _ (by intro h'; injection h' with h2; omega)
              exact ⟨⟨by simpa [World.setCell] using s0, (ho 0).trans s1, (ho 1).trans s2, (ho 2).trans s3⟩, s4.offS (g' := w.heap.size + 1 + 1) hzR i v, s5.setCell (p := ⟨w.heap.size + 1 + 1, i, none⟩) (by show w.heap.size ≤ w.heap.size + 1 + 1; omega) _⟩
            have S0 : (w.heap.size < wr.drew.heap.size ∧ wr.drew.cell? ⟨w.heap.size, 0, none⟩ = some (.int .i64 c) ∧ wr.drew.cell? ⟨w.heap.size, 1, none⟩ = some (.int .i64 f) ∧ wr.drew.cell? ⟨w.heap.size, 2, none⟩ = some (.slice p l.length cap)) ∧ OwnS wr.drew B2 q6 T ∧ Below w.heap.size w wr.drew := ⟨⟨Bd.lt, Bd.cell3.1, Bd.cell3.2.1, Bd.cell3.2.2⟩, ST.below (Below.refl _ _).drew, hwd⟩
            go_region_held3 (fun w' => (w.heap.size < w'.heap.size ∧ w'.cell? ⟨w.heap.size, 0, none⟩ = some (.int .i64 c) ∧ w'.cell? ⟨w.heap.size, 1, none⟩ = some (.int .i64 f) ∧ w'.cell? ⟨w.heap.size, 2, none⟩ = some (.slice p l.length cap)) ∧ OwnS w' B2 q6 T ∧ Below w.heap.size w w')
              (first | with_reducible exact S0 | (with_reducible refine keepS _ _ S0 ?_; assumption) | (with_reducible refine keepW _ _ _ (keepW _ _ _ (keepW _ _ _ ?_)); exact keepS _ _ S0 hb5))
              (first | (go_at_call 63; refine (CD _ (by exact S0.2.1.ints)).mono ?_; rintro e w8 ⟨q5, d5, rfl, S5, hb5⟩; have R5 := Rd.keep hb5; obtain ⟨r0, r1', r2⟩ := R5.cell3; have rf := R5.frozen) | (go_at_call 41; refine (spec_l02Revolution c f p l cap _ _ (by exact hI.below hwd) hl HS.out.1 (by exact Bd)).mono ?_; rintro e w' ⟨rfl, rfl⟩))
            all_goals
              have hw5 := below_st hwd hb5 (Nat.le_refl _)
              obtain ⟨e0, e1, e2⟩ := (R5.set3 (.int .i64 (tmC T l.sum c)) (.int .i64 (tmF T l.sum c)) (.slice q5 (tmL T l.sum c).length d5)).cell3
              have S6 := ((S5.offS (g' := w.heap.size + 1 + 1) hzr' 0 (.int .i64 (tmC T l.sum c))).offS (g' := w.heap.size + 1 + 1) hzr' 1 (.int .i64 (tmF T l.sum c))).offS (g' := w.heap.size + 1 + 1) hzr' 2 (.slice q5 (tmL T l.sum c).length d5)
              go_wp2_with fail
              refine bodyPost_ret (v := .tuple #[.agg #[.int .i64 (tmC T l.sum c), .int .i64 (tmF T l.sum c), .slice q5 (tmL T l.sum c).length d5], .int .i64 (tmE 2 T l.sum c)]) (by simp [results, Try.results22, go_sem, e0, e1, e2]) rfl ?_
              rw [hTD, HC.out, HF.out, HL.out, HE.out]
              exact ⟨q5, d5, rfl, S6.mono (by have := hWr.size; exact this), ((hw5.setCell (p := ⟨w.heap.size + 1 + 1, 0, none⟩) (by show w.heap.size ≤ w.heap.size + 1 + 1; omega) _).setCell (p := ⟨w.heap.size + 1 + 1, 1, none⟩) (by show w.heap.size ≤ w.heap.size + 1 + 1; omega) _).setCell (p := ⟨w.heap.size + 1 + 1, 2, none⟩) (by show w.heap.size ≤ w.heap.size + 1 + 1; omega) _⟩
end Go.Proofs.Ytfdcainjppljhaa
