/- WeakenFlux: contracts. Printed by weakgen.py. Arguments opened: structs by value, slices. Arguments opened: slices of int64, flux. Slices of spans: where they lie; szSpanS. -/
import Derived.Test.YtfdcainjppljhaaMgFnNoise1
import Derived.Test.YtfdcainjppljhaaMgFnNoise2
import Derived.Test.YtfdcainjppljhaaMgFnNoise4
import Derived.Test.YtfdcainjppljhaaMgFnNoise5
import Derived.Deep.RegionHeld3
import Derived.Deep.DeepCutAuto
import Derived.Laws.AppendOwnNone
import Derived.Lib.SmallJoins
import Derived.ChangeSame
import Derived.ProofKit
import Derived.OpenShut
import Derived.Deep.Slices
import Derived.Deep.Fields
import Derived.ChangeSlices
namespace Go.Proofs.Ytfdcainjppljhaa
open Go.RowKit
set_option linter.unusedVariables false
def weOk (c f : Int) (l : List Int) (a b : Int) (t : List Int) : Bool := fluxOk c f l && spanOk a b t
def weIn (l : List Int) (b : Int) : Bool := decide (b ≤ l.sum)
def weV (c f : Int) (l : List Int) (a b : Int) (t : List Int) : Bool := weOk c f l a b t && weIn l b
def weT (f : Int) (l : List Int) (a b : Int) (t : List Int) : List Int := weakT a b t (chgL f l)
def weE (c f : Int) (l : List Int) (a b : Int) (t : List Int) : Int := if weOk c f l a b t then (if weIn l b then tmE 2 (weT f l a b t) l.sum c else 2) else 1
theorem weakT_len (a b : Int) (t l : List Int) (h : a ≤ b) : (weakT a b t l).length ≤ t.length + l.length := by
  rw [← (weak_perm h t l).length_eq]
  unfold weakM
  rw [List.length_append]
  have := List.length_filter_le (fun x => decide (x < a) || decide (b ≤ x)) l
  omega
theorem weL_len (c f : Int) (l : List Int) (a b : Int) (t : List Int) {rev cell : Int} : (fxL (weV c f l a b t) (weT f l a b t) rev cell).length ≤ l.length + t.length := by
  cases hv : weV c f l a b t
  · simp [fxL]
  · unfold weV weOk at hv
    simp only [Bool.and_eq_true] at hv
    have h := spanOk_bd hv.1.2
    have h1 := fxL_len true (weT f l a b t) rev cell
    have h2 := weakT_len a b t (chgL f l) h.2.1
    rw [chgL_len] at h2
    unfold weT at *
    omega
theorem filt_snoc (q : Int → Bool) {X : List Int} {k : Nat} (h : k < X.length) : (X.take (k + 1)).filter q = if q X[k] then (X.take k).filter q ++ [X[k]] else (X.take k).filter q := by
  rw [takeI_snoc h, List.filter_append, List.filter_cons, List.filter_nil]
  split <;> simp
theorem OwnI.blk2 {w : World} {base : Nat} {v : Value} {l : List Int} (h : OwnI w base v l) {g : Nat} (hg : v.ownBlock = some g) : base ≤ g ∧ g < w.heap.size := World.ownsRow.lt h g hg
theorem sort_any {w : World} {base : Nat} {q : Option Addr} {l : List Int} (cap : Nat) (h : OwnS w base q l) (hl : l.length ≤ 2200000) (hb : base ≤ w.heap.size) :
    Calls Try.prog 51 #[.slice q l.length cap] w fun e w' => e = .returned (.tuple #[]) ∧ OwnS w' base q (l.mergeSort fun x y => decide (x ≤ y)) ∧ Below base w w' := by
  by_cases hne : l = []
  · subst hne
    refine (Try.slices_Sort_int_none q cap w).mono ?_
    rintro e w' ⟨rfl, rfl⟩
    exact ⟨rfl, fun h => by simp at h, Below.refl _ _⟩
  · obtain ⟨g, rfl, hg, hr⟩ := h hne
    refine (sort_row' cap hr hl).mono ?_
    rintro e w' ⟨rfl, hr', ha⟩
    exact ⟨rfl, OwnS.of_row hr' hg, ha.below hb (fun g' e => by injection e with e; omega)⟩
theorem append_src {ops : Array Oper} {rest : List Oper} {o : Oper} {ac : Act} {Q : Exit → Act → World → Prop} (w : World) (hg : o.guard = none) (s x : Operand)
    (ho : o.op = .call { callee := .builtin .append, args := #[s, x], argTypes := #[22, 22] })
    (base : Nat) (v : Value) (l M : List Int) (pt : Option Addr) (c : Nat) (hs : ac.eval s = v) (hx : ac.eval x = .slice pt M.length c) (hc : pt = none → c = 0)
    (hI : IntsAt w pt M) (hown : OwnI w base v l) (hlen : l.length + M.length ≤ 10000000) (hbase : base ≤ w.heap.size)
    (h : ∀ v' w', OwnI w' base v' (l ++ M) → Below base w w' → wpList Try.prog ops Q rest (ac.put o.dst v') w') :
    wpList Try.prog ops Q (o :: rest) ac w := by
  cases pt with
  | none =>
    have ht : M = [] := by
      cases M with
      | nil => rfl
      | cons x t => obtain ⟨a, h, -⟩ := hI (by simp); cases h
    subst ht
    rw [hc rfl] at hx
    obtain ⟨i, hi, -, -, -⟩ := info_parts info_i64
    refine wpList_append_own_none hg s x 22 ho base 2 i 1 Try.underlying22 hi v l.length (l.map (Value.int .i64)) hs hown hx ?_
    exact h v w (by simpa using hown) (Below.refl _ _)
  | some ad =>
    exact append_ints w hg s x ho base v l M ad M.length c hs hx rfl (fun j hj => by
      obtain ⟨a', ha', hc'⟩ := hI.at_ hj
      injection ha' with ha'
      subst ha'
      exact hc') hown hlen hbase h
theorem lessX {X : List Int} {k : Nat} {a : Int} (hs : X.Pairwise (· < ·)) (h1 : ∀ j (h : j < X.length), j < k → X[j] < a) (h2 : ∀ h : k < X.length, a ≤ X[k]) : X.take k = X.filter fun x => decide (x < a) := (filter_split hs h1 h2).2.symm
set_option maxHeartbeats 8000000 in
set_option maxRecDepth 20000 in
theorem impl_WeakenFlux (c f : Int) (p : Option Addr) (l : List Int) (cap : Nat) (a b : Int) (pt : Option Addr) (t : List Int) (capt : Nat) (w : World) (hI : IntsAt w p l) (hT : IntsAt w pt t) (hlt : l.length + t.length ≤ 1048576) (hcap : pt = none → capt = 0) :
    Calls Try.prog 17 #[.agg #[.int .i64 c, .int .i64 f, .slice p l.length cap], .agg #[.int .i64 a, .int .i64 b, .slice pt t.length capt]] w fun e w' => ∃ (q : Option Addr) (dq : Nat), e = .returned (.tuple #[.agg #[.int .i64 (fxC (weV c f l a b t) (weT f l a b t) l.sum c), .int .i64 (fxF (weV c f l a b t) (weT f l a b t) l.sum c), .slice q (fxL (weV c f l a b t) (weT f l a b t) l.sum c).length dq], .int .i64 (weE c f l a b t)]) ∧ OwnS w' w.heap.size q (fxL (weV c f l a b t) (weT f l a b t) l.sum c) ∧ Below w.heap.size w w' := by
  have hl : l.length ≤ 1048576 := by omega
  have htl : t.length ≤ 1048576 := by omega
  have BF0 := ((Blk.new w 26 #[.int .i64 c, .int .i64 f, .slice p l.length cap]).alloc' (.cells #[.int .i64 a, .int .i64 b, .slice pt t.length capt] 36)).alloc' (.cells #[.int .i64 0, .int .i64 0, .slice none 0 0] 26)
  have BS0 := (Blk.new (w.alloc (.cells #[.int .i64 c, .int .i64 f, .slice p l.length cap] 26)) 36 #[.int .i64 a, .int .i64 b, .slice pt t.length capt]).alloc' (.cells #[.int .i64 0, .int .i64 0, .slice none 0 0] 26)
  have R0 := Blk.new ((w.alloc (.cells #[.int .i64 c, .int .i64 f, .slice p l.length cap] 26)).alloc (.cells #[.int .i64 a, .int .i64 b, .slice pt t.length capt] 36)) 26 #[.int .i64 0, .int .i64 0, .slice none 0 0]
  have esz2 : ((w.alloc (.cells #[.int .i64 c, .int .i64 f, .slice p l.length cap] 26)).alloc (.cells #[.int .i64 a, .int .i64 b, .slice pt t.length capt] 36)).heap.size = w.heap.size + 1 + 1 := by simp
  have esz : (w.alloc (.cells #[.int .i64 c, .int .i64 f, .slice p l.length cap] 26)).heap.size = w.heap.size + 1 := by simp
  rw [esz2] at R0
  rw [esz] at BS0
  have W0 : Below w.heap.size w (((w.alloc (.cells #[.int .i64 c, .int .i64 f, .slice p l.length cap] 26)).alloc (.cells #[.int .i64 a, .int .i64 b, .slice pt t.length capt] 36)).alloc (.cells #[.int .i64 0, .int .i64 0, .slice none 0 0] 26)) := (((Below.refl _ _).alloc (Nat.le_refl _) _).alloc (by simp) _).alloc (by simp; omega) _
  clear esz esz2
  obtain ⟨f0, f1, f2⟩ := BF0.cell3
  obtain ⟨s0, s1, s2⟩ := BS0.cell3
  obtain h1 | h1 := (Bool.eq_false_or_eq_true (fluxOk c f l)).symm
  · have hv : weV c f l a b t = false := by unfold weV weOk; rw [h1]; rfl
    have HE : Hid (weE c f l a b t = 1) := Lib.hid (by unfold weE weOk; rw [h1]; rfl)
    have HN : Hid (fxC (weV c f l a b t) (weT f l a b t) l.sum c = 0 ∧ fxF (weV c f l a b t) (weT f l a b t) l.sum c = 0 ∧ fxL (weV c f l a b t) (weT f l a b t) l.sum c = []) := Lib.hid (by unfold fxC fxF fxL; rw [hv]; exact ⟨rfl, rfl, rfl⟩)
    have H := Lib.hid h1
    clear h1 hv
    go_enter Try.func17, Try.ntmps17
    go_wp2_with fail
    generalize (((w.alloc (.cells #[.int .i64 c, .int .i64 f, .slice p l.length cap] 26)).alloc (.cells #[.int .i64 a, .int .i64 b, .slice pt t.length capt] 36)).alloc (.cells #[.int .i64 0, .int .i64 0, .slice none 0 0] 26)) = w0 at BF0 BS0 R0 W0 f0 f1 f2 s0 s1 s2 ⊢
    refine (impl_ValidFlux c f p l cap _ (hI.below W0) hl).mono ?_
    rintro e w1 ⟨rfl, hb1⟩
    rw [H.out]
    have R1 := R0.keep hb1
    have BF1 := BF0.keep hb1
    have BS1 := BS0.keep hb1
    have W1 := below_st W0 hb1 (Nat.le_refl _)
    obtain ⟨r0, r1', r2⟩ := R1.cell3
    have rf := R1.frozen
    have rlt := R1.lt
    obtain ⟨e0, e1, e2⟩ := (R1.set3 (.int .i64 0) (.int .i64 0) (.slice none 0 0)).cell3
    go_wp2_with fail
    refine bodyPost_ret (v := .tuple #[.agg #[.int .i64 0, .int .i64 0, .slice none 0 0], .int .i64 1]) (by simp [results, Try.results17, go_sem, e0, e1, e2]) rfl ?_
    rw [HN.out.1, HN.out.2.1, HN.out.2.2, HE.out]
    have W9 := ((W1.setCell (p := ⟨w.heap.size + 1 + 1, 0, none⟩) (by show w.heap.size ≤ w.heap.size + 1 + 1; omega) (.int .i64 0)).setCell (p := ⟨w.heap.size + 1 + 1, 1, none⟩) (by show w.heap.size ≤ w.heap.size + 1 + 1; omega) (.int .i64 0)).setCell (p := ⟨w.heap.size + 1 + 1, 2, none⟩) (by show w.heap.size ≤ w.heap.size + 1 + 1; omega) (.slice none 0 0)
    first | exact ⟨none, 0, rfl, OwnS.nil_ _ _ _, W9⟩ | exact ⟨none, ⟨0, rfl⟩, OwnS.nil_ _ _ _, W9⟩
  obtain h2 | h2 := (Bool.eq_false_or_eq_true (spanOk a b t)).symm
  · have hv : weV c f l a b t = false := by unfold weV weOk; rw [h2, Bool.and_false]; rfl
    have HE : Hid (weE c f l a b t = 1) := Lib.hid (by unfold weE weOk; rw [h2, Bool.and_false]; rfl)
    have HN : Hid (fxC (weV c f l a b t) (weT f l a b t) l.sum c = 0 ∧ fxF (weV c f l a b t) (weT f l a b t) l.sum c = 0 ∧ fxL (weV c f l a b t) (weT f l a b t) l.sum c = []) := Lib.hid (by unfold fxC fxF fxL; rw [hv]; exact ⟨rfl, rfl, rfl⟩)
    have H := Lib.hid h1
    have H2 := Lib.hid h2
    clear h1 h2 hv
    go_enter Try.func17, Try.ntmps17
    go_wp2_with fail
    generalize (((w.alloc (.cells #[.int .i64 c, .int .i64 f, .slice p l.length cap] 26)).alloc (.cells #[.int .i64 a, .int .i64 b, .slice pt t.length capt] 36)).alloc (.cells #[.int .i64 0, .int .i64 0, .slice none 0 0] 26)) = w0 at BF0 BS0 R0 W0 f0 f1 f2 s0 s1 s2 ⊢
    refine (impl_ValidFlux c f p l cap _ (hI.below W0) hl).mono ?_
    rintro e w1 ⟨rfl, hb1⟩
    rw [H.out]
    have R1 := R0.keep hb1
    have BF1 := BF0.keep hb1
    have BS1 := BS0.keep hb1
    have W1 := below_st W0 hb1 (Nat.le_refl _)
    clear f0 f1 f2 s0 s1 s2
    obtain ⟨f0, f1, f2⟩ := BF1.cell3
    obtain ⟨s0, s1, s2⟩ := BS1.cell3
    go_wp2_with fail
    refine (impl_validSpan a b pt t capt _ (hT.below W1) htl).mono ?_
    rintro e w2 ⟨rfl, hb2⟩
    rw [H2.out]
    have R2 := R1.keep hb2
    have BF2 := BF1.keep hb2
    have BS2 := BS1.keep hb2
    have W2 := below_st W1 hb2 (Nat.le_refl _)
    obtain ⟨r0, r1', r2⟩ := R2.cell3
    have rf := R2.frozen
    have rlt := R2.lt
    obtain ⟨e0, e1, e2⟩ := (R2.set3 (.int .i64 0) (.int .i64 0) (.slice none 0 0)).cell3
    go_wp2_with fail
    refine bodyPost_ret (v := .tuple #[.agg #[.int .i64 0, .int .i64 0, .slice none 0 0], .int .i64 1]) (by simp [results, Try.results17, go_sem, e0, e1, e2]) rfl ?_
    rw [HN.out.1, HN.out.2.1, HN.out.2.2, HE.out]
    have W9 := ((W2.setCell (p := ⟨w.heap.size + 1 + 1, 0, none⟩) (by show w.heap.size ≤ w.heap.size + 1 + 1; omega) (.int .i64 0)).setCell (p := ⟨w.heap.size + 1 + 1, 1, none⟩) (by show w.heap.size ≤ w.heap.size + 1 + 1; omega) (.int .i64 0)).setCell (p := ⟨w.heap.size + 1 + 1, 2, none⟩) (by show w.heap.size ≤ w.heap.size + 1 + 1; omega) (.slice none 0 0)
    first | exact ⟨none, 0, rfl, OwnS.nil_ _ _ _, W9⟩ | exact ⟨none, ⟨0, rfl⟩, OwnS.nil_ _ _ _, W9⟩
  obtain ⟨-, hlen, hgm, hpre, hf0, hsum⟩ := fluxOk_bd h1
  have hsums := fluxOk_sums h1
  obtain ⟨ha0, hab, hb2m, hris⟩ := spanOk_bd h2
  have hok : weOk c f l a b t = true := by unfold weOk; rw [h1, h2]; rfl
  have HS := Lib.hid hsums
  have HUP := Lib.hid (chg_rises h1)
  have H := Lib.hid h1
  have H2 := Lib.hid h2
  have hcl := chgL_len f l
  have HOK := Lib.hid hok
  have HRI := Lib.hid hris
  clear h1 h2 hok hsums hgm hpre hris
  by_cases h3 : b ≤ l.sum
  rotate_left
  · have hi : weIn l b = false := decide_eq_false h3
    have hv : weV c f l a b t = false := by unfold weV; rw [hi, Bool.and_false]
    have HE : Hid (weE c f l a b t = 2) := Lib.hid (by unfold weE; rw [HOK.out, hi]; rfl)
    have HN : Hid (fxC (weV c f l a b t) (weT f l a b t) l.sum c = 0 ∧ fxF (weV c f l a b t) (weT f l a b t) l.sum c = 0 ∧ fxL (weV c f l a b t) (weT f l a b t) l.sum c = []) := Lib.hid (by unfold fxC fxF fxL; rw [hv]; exact ⟨rfl, rfl, rfl⟩)
    have hd : decide (l.sum < b) = true := decide_eq_true (by omega)
    clear hv hi
    go_enter Try.func17, Try.ntmps17
    go_wp2_with fail
    generalize (((w.alloc (.cells #[.int .i64 c, .int .i64 f, .slice p l.length cap] 26)).alloc (.cells #[.int .i64 a, .int .i64 b, .slice pt t.length capt] 36)).alloc (.cells #[.int .i64 0, .int .i64 0, .slice none 0 0] 26)) = w0 at BF0 BS0 R0 W0 f0 f1 f2 s0 s1 s2 ⊢
    refine (impl_ValidFlux c f p l cap _ (hI.below W0) hl).mono ?_
    rintro e w1 ⟨rfl, hb1⟩
    rw [H.out]
    have R1 := R0.keep hb1
    have BF1 := BF0.keep hb1
    have BS1 := BS0.keep hb1
    have W1 := below_st W0 hb1 (Nat.le_refl _)
    clear f0 f1 f2 s0 s1 s2
    obtain ⟨f0, f1, f2⟩ := BF1.cell3
    obtain ⟨s0, s1, s2⟩ := BS1.cell3
    go_wp2_with fail
    refine (impl_validSpan a b pt t capt _ (hT.below W1) htl).mono ?_
    rintro e w2 ⟨rfl, hb2⟩
    rw [H2.out]
    have R2 := R1.keep hb2
    have BF2 := BF1.keep hb2
    have BS2 := BS1.keep hb2
    have W2 := below_st W1 hb2 (Nat.le_refl _)
    clear f0 f1 f2 s0 s1 s2
    obtain ⟨f0, f1, f2⟩ := BF2.cell3
    obtain ⟨s0, s1, s2⟩ := BS2.cell3
    go_wp2_with fail
    refine (impl_total p l cap _ (hI.below W2) hl HS.out.1).mono ?_
    rintro e w' ⟨rfl, hww⟩
    rw [hww]
    clear hww w'
    obtain ⟨r0, r1', r2⟩ := R2.cell3
    have rf := R2.frozen
    have rlt := R2.lt
    obtain ⟨e0, e1, e2⟩ := (R2.set3 (.int .i64 0) (.int .i64 0) (.slice none 0 0)).cell3
    go_wp2_with fail
    refine bodyPost_ret (v := .tuple #[.agg #[.int .i64 0, .int .i64 0, .slice none 0 0], .int .i64 2]) (by simp [results, Try.results17, go_sem, e0, e1, e2]) rfl ?_
    rw [HN.out.1, HN.out.2.1, HN.out.2.2, HE.out]
    have W9 := ((W2.setCell (p := ⟨w.heap.size + 1 + 1, 0, none⟩) (by show w.heap.size ≤ w.heap.size + 1 + 1; omega) (.int .i64 0)).setCell (p := ⟨w.heap.size + 1 + 1, 1, none⟩) (by show w.heap.size ≤ w.heap.size + 1 + 1; omega) (.int .i64 0)).setCell (p := ⟨w.heap.size + 1 + 1, 2, none⟩) (by show w.heap.size ≤ w.heap.size + 1 + 1; omega) (.slice none 0 0)
    first | exact ⟨none, 0, rfl, OwnS.nil_ _ _ _, W9⟩ | exact ⟨none, ⟨0, rfl⟩, OwnS.nil_ _ _ _, W9⟩
  have hi : weIn l b = true := decide_eq_true h3
  have hv : weV c f l a b t = true := by unfold weV; rw [HOK.out, hi]; rfl
  have HC : Hid (fxC (weV c f l a b t) (weT f l a b t) l.sum c = tmC (weT f l a b t) l.sum c) := Lib.hid (by unfold fxC; rw [hv]; rfl)
  have HF : Hid (fxF (weV c f l a b t) (weT f l a b t) l.sum c = tmF (weT f l a b t) l.sum c) := Lib.hid (by unfold fxF; rw [hv]; rfl)
  have HL : Hid (fxL (weV c f l a b t) (weT f l a b t) l.sum c = tmL (weT f l a b t) l.sum c) := Lib.hid (by unfold fxL; rw [hv]; rfl)
  have HE : Hid (weE c f l a b t = tmE 2 (weT f l a b t) l.sum c) := Lib.hid (by unfold weE; rw [HOK.out, hi]; rfl)
  have hd : decide (l.sum < b) = false := decide_eq_false (by omega)
  clear hv hi
  go_enter Try.func17, Try.ntmps17
  go_wp2_with fail
  generalize (((w.alloc (.cells #[.int .i64 c, .int .i64 f, .slice p l.length cap] 26)).alloc (.cells #[.int .i64 a, .int .i64 b, .slice pt t.length capt] 36)).alloc (.cells #[.int .i64 0, .int .i64 0, .slice none 0 0] 26)) = w0 at BF0 BS0 R0 W0 f0 f1 f2 s0 s1 s2 ⊢
  refine (impl_ValidFlux c f p l cap _ (hI.below W0) hl).mono ?_
  rintro e w1 ⟨rfl, hb1⟩
  rw [H.out]
  have R1 := R0.keep hb1
  have BF1 := BF0.keep hb1
  have BS1 := BS0.keep hb1
  have W1 := below_st W0 hb1 (Nat.le_refl _)
  clear f0 f1 f2 s0 s1 s2
  obtain ⟨f0, f1, f2⟩ := BF1.cell3
  obtain ⟨s0, s1, s2⟩ := BS1.cell3
  go_wp2_with fail
  refine (impl_validSpan a b pt t capt _ (hT.below W1) htl).mono ?_
  rintro e w2 ⟨rfl, hb2⟩
  rw [H2.out]
  have R2 := R1.keep hb2
  have BF2 := BF1.keep hb2
  have BS2 := BS1.keep hb2
  have W2 := below_st W1 hb2 (Nat.le_refl _)
  clear f0 f1 f2 s0 s1 s2
  obtain ⟨f0, f1, f2⟩ := BF2.cell3
  obtain ⟨s0, s1, s2⟩ := BS2.cell3
  go_wp2_with fail
  refine (impl_total p l cap _ (hI.below W2) hl HS.out.1).mono ?_
  rintro e w' ⟨rfl, hww⟩
  rw [hww]
  clear hww w'
  go_wp2_with fail
  refine (slices_CloneI pt t capt _ (hT.below W2) htl).mono ?_
  rintro e w3 ⟨v0, rfl, hv0, hb3⟩
  have R3 := R2.keep hb3
  have BF3 := BF2.keep hb3
  have BS3 := BS2.keep hb3
  have W3 := below_st W2 hb3 (Nat.le_refl _)
  clear f0 f1 f2 s0 s1 s2
  obtain ⟨f0, f1, f2⟩ := BF3.cell3
  obtain ⟨s0, s1, s2⟩ := BS3.cell3
  go_wp2_with fail
  refine (impl_changes c f p l cap _ (hI.below W3) hl HS.out.2).mono ?_
  rintro e w4 ⟨q, dq, rfl, S4, hb4⟩
  have R4 := R3.keep hb4
  have BF4 := BF3.keep hb4
  have BS4 := BS3.keep hb4
  have W4 := below_st W3 hb4 (Nat.le_refl _)
  obtain ⟨g, rfl, hg, hrow0⟩ := S4 (by intro e; rw [e] at hcl; simp at hcl; omega)
  have hv4 := hv0.below hb4
  have hz3 := hb3.size
  have hz4 := hb4.size
  have hv0g : ∀ gg, v0.ownBlock = some gg → gg ≠ g := fun gg e => by have := (hv0.blk2 e).2; omega
  have hb24 : Below w2.heap.size w2 w4 := below_st hb3 hb4 (by omega)
  have hzR := R2.lt
  have hzF := BF2.lt
  have hzS := BS2.lt
  have HTE : Hid ((weakM a b t (chgL f l)).mergeSort (fun x y => decide (x ≤ y)) = weT f l a b t) := Lib.hid (weak_sort hab HRI.out HUP.out)
  have hTl : (weT f l a b t).length = (weakM a b t (chgL f l)).length := (weak_perm hab t (chgL f l)).length_eq.symm
  have hTb : (weT f l a b t).length ≤ t.length + l.length := by have := weakT_len a b t (chgL f l) hab; rw [hcl] at this; exact this
  have hM : weakM a b t (chgL f l) = t ++ (chgL f l).filter (fun x => decide (x < a) || decide (b ≤ x)) := rfl
  generalize hTD : weT f l a b t = T at *
  generalize weakM a b t (chgL f l) = M at *
  generalize chgL f l = X at *
  obtain ⟨B, eB⟩ : ∃ B, w2.heap.size = B := ⟨_, rfl⟩
  rw [eB] at hv4 hb24 hzR hzF hzS hz3
  have HM := Lib.hid hM
  clear hM hb3 hb4 S4 hv0
  rw [hcl]
  clear f0 f1 f2 s0 s1 s2
  go_wp2_with fail
  go_loopw [7, 33] (fun v i wr => ∃ k : Nat, k ≤ l.length ∧ i = .int .i64 k ∧ OwnI wr B v (t ++ (X.take k).filter (fun x => decide (x < a) || decide (b ≤ x))) ∧ (∀ gg, v.ownBlock = some gg → gg ≠ g) ∧ RowI wr g X ∧ Below B w2 wr) (fun _ i _ => l.length - (intOf i).toNat)
  case atStart => exact ⟨0, Nat.zero_le _, rfl, by simpa using hv4, hv0g, hrow0, hb24⟩
  case round =>
    obtain ⟨k, hk, rfl, hown, hvg, hrow, hbel⟩ := hrel
    have hz : B ≤ wr.heap.size := by have := hbel.size; omega
    have BSr := BS2.below hbel hzS
    obtain ⟨s0, s1, s2⟩ := BSr.cell3
    by_cases hlt : k < l.length
    · have hkX : k < X.length := by omega
      obtain ⟨hc, -⟩ := hrow.cell hkX
      have hsn := filt_snoc (fun x => decide (x < a) || decide (b ≤ x)) hkX
      have hll : (t ++ (X.take k).filter (fun x => decide (x < a) || decide (b ≤ x))).length ≤ 2200000 := by rw [List.length_append]; have := List.length_filter_le (fun x => decide (x < a) || decide (b ≤ x)) (X.take k); rw [List.length_take] at this; omega
      obtain ⟨x, ex⟩ : ∃ x, X[k] = x := ⟨_, rfl⟩
      rw [ex] at hc hsn
      clear ex
      have happ : ∀ (v1 : Value) (w6 : World), OwnI w6 B v1 ((t ++ (X.take k).filter (fun x => decide (x < a) || decide (b ≤ x))) ++ [x]) → Aside u7.ownBlock wr w6 → (∀ gg, v1.ownBlock = some gg → u7.ownBlock = some gg ∨ wr.heap.size ≤ gg) → (decide (x < a) || decide (b ≤ x)) = true → OwnI w6 B v1 (t ++ (X.take (k + 1)).filter (fun x => decide (x < a) || decide (b ≤ x))) ∧ (∀ gg, v1.ownBlock = some gg → gg ≠ g) ∧ RowI w6 g X ∧ Below B w2 w6 := fun v1 w6 h1 h2 h3 h4 => by
        rw [hsn, if_pos h4]
        refine ⟨by rw [← List.append_assoc]; exact h1, fun gg e => ?_, hrow.asides h2 (fun e => hvg _ e rfl), hbel.trans (h2.below hz fun gg e => (hown.blk2 e).1)⟩
        rcases h3 gg e with h5 | h5
        · exact hvg gg h5
        · have := hrow.lt; omega
      have HAP := Lib.hid happ
      have HSN := Lib.hid hsn
      clear happ hsn
      by_cases hxa : x < a
      · have d1 : decide (x < a) = true := decide_eq_true hxa
        go_wp2_with (at_builtin; refine append_where _ rfl (.tmp 47) (.tmp 49) rfl B u7 (t ++ (X.take k).filter (fun x => decide (x < a) || decide (b ≤ x))) x rfl rfl hown (by omega) hz ?_; intro v1 w6 hown1 ha1 hwh1)
        obtain ⟨j1, j2, j3, j4⟩ := HAP.out v1 w6 hown1 ha1 hwh1 (by rw [d1]; rfl)
        exact ⟨⟨k + 1, by omega, by go_num, j1, j2, j3, j4⟩, by simp [intOf]; omega⟩
      · have d1 : decide (x < a) = false := decide_eq_false hxa
        by_cases hxb : b ≤ x
        · have d2 : decide (b ≤ x) = true := decide_eq_true hxb
          go_wp2_with (at_builtin; refine append_where _ rfl (.tmp 47) (.tmp 49) rfl B u7 (t ++ (X.take k).filter (fun x => decide (x < a) || decide (b ≤ x))) x rfl rfl hown (by omega) hz ?_; intro v1 w6 hown1 ha1 hwh1)
          obtain ⟨j1, j2, j3, j4⟩ := HAP.out v1 w6 hown1 ha1 hwh1 (by rw [d2, Bool.or_true])
          exact ⟨⟨k + 1, by omega, by go_num, j1, j2, j3, j4⟩, by simp [intOf]; omega⟩
        · have d2 : decide (b ≤ x) = false := decide_eq_false hxb
          go_wp2_with fail
          exact ⟨⟨k + 1, by omega, by go_num, by rw [HSN.out, d1, d2]; exact hown, hvg, hrow, hbel⟩, by simp [intOf]; omega⟩
    · have hXk : X.take k = X := List.take_of_length_le (by omega)
      rw [hXk, ← HM.out] at hown
      obtain ⟨q6, d6, rfl, SM⟩ := hown.open_
      have hsr := sort_any d6 SM (by omega) hz
      rw [HTE.out] at hsr
      go_wp2_with fail
      refine hsr.mono ?_
      rintro e w7 ⟨rfl, ST, hb7⟩
      replace hbel := hbel.trans hb7
      have Rr := R2.below hbel hzR
      have BFr := BF2.below hbel hzF
      have Wr : Below w.heap.size w w7 := W2.trans (hbel.mono (by have := W2.size; omega))
      obtain ⟨f0, f1, f2⟩ := BFr.cell3
      have hcon := impl_changed q6 T d6 l.sum c _ ST.ints (by omega) (by omega)
      rw [hTl] at hcon
      obtain ⟨tc, etc⟩ : ∃ x, tmC T l.sum c = x := ⟨_, rfl⟩
      obtain ⟨tf, etf⟩ : ∃ x, tmF T l.sum c = x := ⟨_, rfl⟩
      obtain ⟨tl, etl⟩ : ∃ x, tmL T l.sum c = x := ⟨_, rfl⟩
      obtain ⟨te, ete⟩ : ∃ x, tmE 2 T l.sum c = x := ⟨_, rfl⟩
      rw [etc, etf, etl, ete] at hcon
      have HT4 : Hid (tmC T l.sum c = tc ∧ tmF T l.sum c = tf ∧ tmL T l.sum c = tl ∧ tmE 2 T l.sum c = te) := Lib.hid ⟨etc, etf, etl, ete⟩
      clear etc etf etl ete
      have HCON := Lib.hid hcon
      clear hcon
      go_wp2_with fail
      refine HCON.out.mono ?_
      rintro e w8 ⟨q5, d5, rfl, S5, hb5⟩
      have R5 := Rr.keep hb5
      obtain ⟨r0, r1', r2⟩ := R5.cell3
      have rf := R5.frozen
      have hw5 := below_st Wr hb5 (Nat.le_refl _)
      have hzw := Wr.size
      have hzr' := Rr.lt
      obtain ⟨e0, e1, e2⟩ := (R5.set3 (.int .i64 tc) (.int .i64 tf) (.slice q5 tl.length d5)).cell3
      have S6 := ((S5.offS (g' := w.heap.size + 1 + 1) hzr' 0 (.int .i64 tc)).offS (g' := w.heap.size + 1 + 1) hzr' 1 (.int .i64 tf)).offS (g' := w.heap.size + 1 + 1) hzr' 2 (.slice q5 tl.length d5)
      go_wp2_with fail
      refine bodyPost_ret (v := .tuple #[.agg #[.int .i64 tc, .int .i64 tf, .slice q5 tl.length d5], .int .i64 te]) (by simp [results, Try.results17, go_sem, e0, e1, e2]) rfl ?_
      rw [hTD, HC.out, HF.out, HL.out, HE.out, HT4.out.1, HT4.out.2.1, HT4.out.2.2.1, HT4.out.2.2.2]
      exact ⟨q5, d5, rfl, S6.mono hzw, ((hw5.setCell (p := ⟨w.heap.size + 1 + 1, 0, none⟩) (by show w.heap.size ≤ w.heap.size + 1 + 1; omega) _).setCell (p := ⟨w.heap.size + 1 + 1, 1, none⟩) (by show w.heap.size ≤ w.heap.size + 1 + 1; omega) _).setCell (p := ⟨w.heap.size + 1 + 1, 2, none⟩) (by show w.heap.size ≤ w.heap.size + 1 + 1; omega) _⟩
set_option maxHeartbeats 8000000 in
set_option maxRecDepth 20000 in
theorem spec_WeakenFlux (c f : Int) (p : Option Addr) (l : List Int) (cap : Nat) (a b : Int) (pt : Option Addr) (t : List Int) (capt : Nat) (w : World) (hI : IntsAt w p l) (hT : IntsAt w pt t) (hlt : l.length + t.length ≤ 1048576) (hcap : pt = none → capt = 0) :
    Calls Try.prog 22 #[.agg #[.int .i64 c, .int .i64 f, .slice p l.length cap], .agg #[.int .i64 a, .int .i64 b, .slice pt t.length capt]] w fun e w' => ∃ (q : Option Addr) (dq : Nat), e = .returned (.tuple #[.agg #[.int .i64 (fxC (weV c f l a b t) (weT f l a b t) l.sum c), .int .i64 (fxF (weV c f l a b t) (weT f l a b t) l.sum c), .slice q (fxL (weV c f l a b t) (weT f l a b t) l.sum c).length dq], .int .i64 (weE c f l a b t)]) ∧ OwnS w' w.heap.size q (fxL (weV c f l a b t) (weT f l a b t) l.sum c) ∧ Below w.heap.size w w' := by
  have hl : l.length ≤ 1048576 := by omega
  have htl : t.length ≤ 1048576 := by omega
  have BF0 := ((Blk.new w 26 #[.int .i64 c, .int .i64 f, .slice p l.length cap]).alloc' (.cells #[.int .i64 a, .int .i64 b, .slice pt t.length capt] 36)).alloc' (.cells #[.int .i64 0, .int .i64 0, .slice none 0 0] 26)
  have BS0 := (Blk.new (w.alloc (.cells #[.int .i64 c, .int .i64 f, .slice p l.length cap] 26)) 36 #[.int .i64 a, .int .i64 b, .slice pt t.length capt]).alloc' (.cells #[.int .i64 0, .int .i64 0, .slice none 0 0] 26)
  have R0 := Blk.new ((w.alloc (.cells #[.int .i64 c, .int .i64 f, .slice p l.length cap] 26)).alloc (.cells #[.int .i64 a, .int .i64 b, .slice pt t.length capt] 36)) 26 #[.int .i64 0, .int .i64 0, .slice none 0 0]
  have esz2 : ((w.alloc (.cells #[.int .i64 c, .int .i64 f, .slice p l.length cap] 26)).alloc (.cells #[.int .i64 a, .int .i64 b, .slice pt t.length capt] 36)).heap.size = w.heap.size + 1 + 1 := by simp
  have esz : (w.alloc (.cells #[.int .i64 c, .int .i64 f, .slice p l.length cap] 26)).heap.size = w.heap.size + 1 := by simp
  rw [esz2] at R0
  rw [esz] at BS0
  have W0 : Below w.heap.size w (((w.alloc (.cells #[.int .i64 c, .int .i64 f, .slice p l.length cap] 26)).alloc (.cells #[.int .i64 a, .int .i64 b, .slice pt t.length capt] 36)).alloc (.cells #[.int .i64 0, .int .i64 0, .slice none 0 0] 26)) := (((Below.refl _ _).alloc (Nat.le_refl _) _).alloc (by simp) _).alloc (by simp; omega) _
  clear esz esz2
  obtain ⟨f0, f1, f2⟩ := BF0.cell3
  obtain ⟨s0, s1, s2⟩ := BS0.cell3
  obtain h1 | h1 := (Bool.eq_false_or_eq_true (fluxOk c f l)).symm
  · have hv : weV c f l a b t = false := by unfold weV weOk; rw [h1]; rfl
    have HE : Hid (weE c f l a b t = 1) := Lib.hid (by unfold weE weOk; rw [h1]; rfl)
    have HN : Hid (fxC (weV c f l a b t) (weT f l a b t) l.sum c = 0 ∧ fxF (weV c f l a b t) (weT f l a b t) l.sum c = 0 ∧ fxL (weV c f l a b t) (weT f l a b t) l.sum c = []) := Lib.hid (by unfold fxC fxF fxL; rw [hv]; exact ⟨rfl, rfl, rfl⟩)
    have H := Lib.hid h1
    clear h1 hv
    go_enter Try.func22, Try.ntmps22
    go_wp2_with fail
    generalize (((w.alloc (.cells #[.int .i64 c, .int .i64 f, .slice p l.length cap] 26)).alloc (.cells #[.int .i64 a, .int .i64 b, .slice pt t.length capt] 36)).alloc (.cells #[.int .i64 0, .int .i64 0, .slice none 0 0] 26)) = w0 at BF0 BS0 R0 W0 f0 f1 f2 s0 s1 s2 ⊢
    refine (spec_l02Ok c f p l cap _ _ (hI.below W0) hl BF0).mono ?_
    rintro e w1 ⟨rfl, hb1⟩
    rw [H.out]
    have R1 := R0.keep hb1
    have BF1 := BF0.keep hb1
    have BS1 := BS0.keep hb1
    have W1 := below_st W0 hb1 (Nat.le_refl _)
    obtain ⟨r0, r1', r2⟩ := R1.cell3
    have rf := R1.frozen
    have rlt := R1.lt
    obtain ⟨e0, e1, e2⟩ := (R1.set3 (.int .i64 0) (.int .i64 0) (.slice none 0 0)).cell3
    go_wp2_with fail
    refine bodyPost_ret (v := .tuple #[.agg #[.int .i64 0, .int .i64 0, .slice none 0 0], .int .i64 1]) (by simp [results, Try.results22, go_sem, e0, e1, e2]) rfl ?_
    rw [HN.out.1, HN.out.2.1, HN.out.2.2, HE.out]
    have W9 := ((W1.setCell (p := ⟨w.heap.size + 1 + 1, 0, none⟩) (by show w.heap.size ≤ w.heap.size + 1 + 1; omega) (.int .i64 0)).setCell (p := ⟨w.heap.size + 1 + 1, 1, none⟩) (by show w.heap.size ≤ w.heap.size + 1 + 1; omega) (.int .i64 0)).setCell (p := ⟨w.heap.size + 1 + 1, 2, none⟩) (by show w.heap.size ≤ w.heap.size + 1 + 1; omega) (.slice none 0 0)
    first | exact ⟨none, 0, rfl, OwnS.nil_ _ _ _, W9⟩ | exact ⟨none, ⟨0, rfl⟩, OwnS.nil_ _ _ _, W9⟩
  obtain h2 | h2 := (Bool.eq_false_or_eq_true (spanOk a b t)).symm
  · have hv : weV c f l a b t = false := by unfold weV weOk; rw [h2, Bool.and_false]; rfl
    have HE : Hid (weE c f l a b t = 1) := Lib.hid (by unfold weE weOk; rw [h2, Bool.and_false]; rfl)
    have HN : Hid (fxC (weV c f l a b t) (weT f l a b t) l.sum c = 0 ∧ fxF (weV c f l a b t) (weT f l a b t) l.sum c = 0 ∧ fxL (weV c f l a b t) (weT f l a b t) l.sum c = []) := Lib.hid (by unfold fxC fxF fxL; rw [hv]; exact ⟨rfl, rfl, rfl⟩)
    have H := Lib.hid h1
    have H2 := Lib.hid h2
    clear h1 h2 hv
    go_enter Try.func22, Try.ntmps22
    go_wp2_with fail
    generalize (((w.alloc (.cells #[.int .i64 c, .int .i64 f, .slice p l.length cap] 26)).alloc (.cells #[.int .i64 a, .int .i64 b, .slice pt t.length capt] 36)).alloc (.cells #[.int .i64 0, .int .i64 0, .slice none 0 0] 26)) = w0 at BF0 BS0 R0 W0 f0 f1 f2 s0 s1 s2 ⊢
    refine (spec_l02Ok c f p l cap _ _ (hI.below W0) hl BF0).mono ?_
    rintro e w1 ⟨rfl, hb1⟩
    rw [H.out]
    have R1 := R0.keep hb1
    have BF1 := BF0.keep hb1
    have BS1 := BS0.keep hb1
    have W1 := below_st W0 hb1 (Nat.le_refl _)
    clear f0 f1 f2 s0 s1 s2
    obtain ⟨f0, f1, f2⟩ := BF1.cell3
    obtain ⟨s0, s1, s2⟩ := BS1.cell3
    go_wp2_with fail
    refine (spec_l04Span a b pt t capt _ 0 _ (hT.below W1) htl BS1.cell3.1 BS1.cell3.2.1 BS1.cell3.2.2).mono ?_
    rintro e w2 ⟨rfl, hb2⟩
    rw [H2.out]
    have R2 := R1.keep hb2
    have BF2 := BF1.keep hb2
    have BS2 := BS1.keep hb2
    have W2 := below_st W1 hb2 (Nat.le_refl _)
    obtain ⟨r0, r1', r2⟩ := R2.cell3
    have rf := R2.frozen
    have rlt := R2.lt
    obtain ⟨e0, e1, e2⟩ := (R2.set3 (.int .i64 0) (.int .i64 0) (.slice none 0 0)).cell3
    go_wp2_with fail
    refine bodyPost_ret (v := .tuple #[.agg #[.int .i64 0, .int .i64 0, .slice none 0 0], .int .i64 1]) (by simp [results, Try.results22, go_sem, e0, e1, e2]) rfl ?_
    rw [HN.out.1, HN.out.2.1, HN.out.2.2, HE.out]
    have W9 := ((W2.setCell (p := ⟨w.heap.size + 1 + 1, 0, none⟩) (by show w.heap.size ≤ w.heap.size + 1 + 1; omega) (.int .i64 0)).setCell (p := ⟨w.heap.size + 1 + 1, 1, none⟩) (by show w.heap.size ≤ w.heap.size + 1 + 1; omega) (.int .i64 0)).setCell (p := ⟨w.heap.size + 1 + 1, 2, none⟩) (by show w.heap.size ≤ w.heap.size + 1 + 1; omega) (.slice none 0 0)
    first | exact ⟨none, 0, rfl, OwnS.nil_ _ _ _, W9⟩ | exact ⟨none, ⟨0, rfl⟩, OwnS.nil_ _ _ _, W9⟩
  obtain ⟨-, hlen, hgm, hpre, hf0, hsum⟩ := fluxOk_bd h1
  have hsums := fluxOk_sums h1
  obtain ⟨ha0, hab, hb2m, hris⟩ := spanOk_bd h2
  have hok : weOk c f l a b t = true := by unfold weOk; rw [h1, h2]; rfl
  have HS := Lib.hid hsums
  have HUP := Lib.hid (chg_rises h1)
  have H := Lib.hid h1
  have H2 := Lib.hid h2
  have hcl := chgL_len f l
  have HOK := Lib.hid hok
  have HRI := Lib.hid hris
  clear h1 h2 hok hsums hgm hpre hris
  by_cases h3 : b ≤ l.sum
  rotate_left
  · have hi : weIn l b = false := decide_eq_false h3
    have hv : weV c f l a b t = false := by unfold weV; rw [hi, Bool.and_false]
    have HE : Hid (weE c f l a b t = 2) := Lib.hid (by unfold weE; rw [HOK.out, hi]; rfl)
    have HN : Hid (fxC (weV c f l a b t) (weT f l a b t) l.sum c = 0 ∧ fxF (weV c f l a b t) (weT f l a b t) l.sum c = 0 ∧ fxL (weV c f l a b t) (weT f l a b t) l.sum c = []) := Lib.hid (by unfold fxC fxF fxL; rw [hv]; exact ⟨rfl, rfl, rfl⟩)
    have hd : decide (l.sum < b) = true := decide_eq_true (by omega)
    clear hv hi
    go_enter Try.func22, Try.ntmps22
    go_wp2_with fail
    generalize (((w.alloc (.cells #[.int .i64 c, .int .i64 f, .slice p l.length cap] 26)).alloc (.cells #[.int .i64 a, .int .i64 b, .slice pt t.length capt] 36)).alloc (.cells #[.int .i64 0, .int .i64 0, .slice none 0 0] 26)) = w0 at BF0 BS0 R0 W0 f0 f1 f2 s0 s1 s2 ⊢
    refine (spec_l02Ok c f p l cap _ _ (hI.below W0) hl BF0).mono ?_
    rintro e w1 ⟨rfl, hb1⟩
    rw [H.out]
    have R1 := R0.keep hb1
    have BF1 := BF0.keep hb1
    have BS1 := BS0.keep hb1
    have W1 := below_st W0 hb1 (Nat.le_refl _)
    clear f0 f1 f2 s0 s1 s2
    obtain ⟨f0, f1, f2⟩ := BF1.cell3
    obtain ⟨s0, s1, s2⟩ := BS1.cell3
    go_wp2_with fail
    refine (spec_l04Span a b pt t capt _ 0 _ (hT.below W1) htl BS1.cell3.1 BS1.cell3.2.1 BS1.cell3.2.2).mono ?_
    rintro e w2 ⟨rfl, hb2⟩
    rw [H2.out]
    have R2 := R1.keep hb2
    have BF2 := BF1.keep hb2
    have BS2 := BS1.keep hb2
    have W2 := below_st W1 hb2 (Nat.le_refl _)
    clear f0 f1 f2 s0 s1 s2
    obtain ⟨f0, f1, f2⟩ := BF2.cell3
    obtain ⟨s0, s1, s2⟩ := BS2.cell3
    go_wp2_with fail
    go_quiet (exact Calls.quiet_of_same ((spec_l02Revolution c f p l cap _ _ (by exact hI.below (below_drewN W2 _)) hl HS.out.1 (by exact BF2)).mono fun e w' h => ⟨h.1, h.2⟩))
    generalize hw3 : w2.drewN _ = w3
    have R3 : Blk w3 (w.heap.size + 1 + 1) 26 #[.int .i64 0, .int .i64 0, .slice none 0 0] := by rw [← hw3]; exact R2
    have BF3 : Blk w3 w.heap.size 26 #[.int .i64 c, .int .i64 f, .slice p l.length cap] := by rw [← hw3]; exact BF2
    have BS3 : Blk w3 (w.heap.size + 1) 36 #[.int .i64 a, .int .i64 b, .slice pt t.length capt] := by rw [← hw3]; exact BS2
    have W3 : Below w.heap.size w w3 := by rw [← hw3]; exact below_drewN W2 _
    clear hw3
    obtain ⟨r0, r1', r2⟩ := R3.cell3
    have rf := R3.frozen
    have rlt := R3.lt
    obtain ⟨e0, e1, e2⟩ := (R3.set3 (.int .i64 0) (.int .i64 0) (.slice none 0 0)).cell3
    go_wp2_with fail
    refine bodyPost_ret (v := .tuple #[.agg #[.int .i64 0, .int .i64 0, .slice none 0 0], .int .i64 2]) (by simp [results, Try.results22, go_sem, e0, e1, e2]) rfl ?_
    rw [HN.out.1, HN.out.2.1, HN.out.2.2, HE.out]
    have W9 := ((W3.setCell (p := ⟨w.heap.size + 1 + 1, 0, none⟩) (by show w.heap.size ≤ w.heap.size + 1 + 1; omega) (.int .i64 0)).setCell (p := ⟨w.heap.size + 1 + 1, 1, none⟩) (by show w.heap.size ≤ w.heap.size + 1 + 1; omega) (.int .i64 0)).setCell (p := ⟨w.heap.size + 1 + 1, 2, none⟩) (by show w.heap.size ≤ w.heap.size + 1 + 1; omega) (.slice none 0 0)
    first | exact ⟨none, 0, rfl, OwnS.nil_ _ _ _, W9⟩ | exact ⟨none, ⟨0, rfl⟩, OwnS.nil_ _ _ _, W9⟩
  have hi : weIn l b = true := decide_eq_true h3
  have hv : weV c f l a b t = true := by unfold weV; rw [HOK.out, hi]; rfl
  have HC : Hid (fxC (weV c f l a b t) (weT f l a b t) l.sum c = tmC (weT f l a b t) l.sum c) := Lib.hid (by unfold fxC; rw [hv]; rfl)
  have HF : Hid (fxF (weV c f l a b t) (weT f l a b t) l.sum c = tmF (weT f l a b t) l.sum c) := Lib.hid (by unfold fxF; rw [hv]; rfl)
  have HL : Hid (fxL (weV c f l a b t) (weT f l a b t) l.sum c = tmL (weT f l a b t) l.sum c) := Lib.hid (by unfold fxL; rw [hv]; rfl)
  have HE : Hid (weE c f l a b t = tmE 2 (weT f l a b t) l.sum c) := Lib.hid (by unfold weE; rw [HOK.out, hi]; rfl)
  have hd : decide (l.sum < b) = false := decide_eq_false (by omega)
  clear hv hi
  go_enter Try.func22, Try.ntmps22
  go_wp2_with fail
  generalize (((w.alloc (.cells #[.int .i64 c, .int .i64 f, .slice p l.length cap] 26)).alloc (.cells #[.int .i64 a, .int .i64 b, .slice pt t.length capt] 36)).alloc (.cells #[.int .i64 0, .int .i64 0, .slice none 0 0] 26)) = w0 at BF0 BS0 R0 W0 f0 f1 f2 s0 s1 s2 ⊢
  refine (spec_l02Ok c f p l cap _ _ (hI.below W0) hl BF0).mono ?_
  rintro e w1 ⟨rfl, hb1⟩
  rw [H.out]
  have R1 := R0.keep hb1
  have BF1 := BF0.keep hb1
  have BS1 := BS0.keep hb1
  have W1 := below_st W0 hb1 (Nat.le_refl _)
  clear f0 f1 f2 s0 s1 s2
  obtain ⟨f0, f1, f2⟩ := BF1.cell3
  obtain ⟨s0, s1, s2⟩ := BS1.cell3
  go_wp2_with fail
  refine (spec_l04Span a b pt t capt _ 0 _ (hT.below W1) htl BS1.cell3.1 BS1.cell3.2.1 BS1.cell3.2.2).mono ?_
  rintro e w2 ⟨rfl, hb2⟩
  rw [H2.out]
  have R2 := R1.keep hb2
  have BF2 := BF1.keep hb2
  have BS2 := BS1.keep hb2
  have W2 := below_st W1 hb2 (Nat.le_refl _)
  clear f0 f1 f2 s0 s1 s2
  obtain ⟨f0, f1, f2⟩ := BF2.cell3
  obtain ⟨s0, s1, s2⟩ := BS2.cell3
  go_wp2_with fail
  go_quiet (exact Calls.quiet_of_same ((spec_l02Revolution c f p l cap _ _ (by exact hI.below (below_drewN W2 _)) hl HS.out.1 (by exact BF2)).mono fun e w' h => ⟨h.1, h.2⟩))
  generalize hw3 : w2.drewN _ = w3
  have R3 : Blk w3 (w.heap.size + 1 + 1) 26 #[.int .i64 0, .int .i64 0, .slice none 0 0] := by rw [← hw3]; exact R2
  have BF3 : Blk w3 w.heap.size 26 #[.int .i64 c, .int .i64 f, .slice p l.length cap] := by rw [← hw3]; exact BF2
  have BS3 : Blk w3 (w.heap.size + 1) 36 #[.int .i64 a, .int .i64 b, .slice pt t.length capt] := by rw [← hw3]; exact BS2
  have W3 : Below w.heap.size w w3 := by rw [← hw3]; exact below_drewN W2 _
  clear hw3
  clear f0 f1 f2 s0 s1 s2
  obtain ⟨f0, f1, f2⟩ := BF3.cell3
  obtain ⟨s0, s1, s2⟩ := BS3.cell3
  go_wp2_with fail
  refine (spec_l02Changes c f p l cap _ _ (hI.below W3) hl HS.out.2 BF3).mono ?_
  rintro e w4 ⟨q, dq, rfl, S4, hb4⟩
  have R4 := R3.keep hb4
  have BF4 := BF3.keep hb4
  have BS4 := BS3.keep hb4
  have W4 := below_st W3 hb4 (Nat.le_refl _)
  obtain ⟨g, rfl, hg, hrow0⟩ := S4 (by intro e; rw [e] at hcl; simp at hcl; omega)
  have hWT : weT f l a b t = (((chgL f l).filter fun x => decide (x < a)) ++ t) ++ ((chgL f l).filter fun x => decide (b ≤ x)) := rfl
  have hTb : (weT f l a b t).length ≤ t.length + l.length := by have := weakT_len a b t (chgL f l) hab; rw [hcl] at this; exact this
  generalize hTD : weT f l a b t = T at *
  generalize chgL f l = X at *
  obtain ⟨B2, eB2⟩ : ∃ B2, w4.heap.size = B2 := ⟨_, rfl⟩
  have hgB := hrow0.lt
  have hzR := R4.lt
  have hzF := BF4.lt
  have hzS := BS4.lt
  have hzW := W4.size
  rw [eB2] at hgB hzR hzF hzS hzW
  have HWT := Lib.hid hWT
  clear hWT hb4 S4
  rw [hcl]
  clear f0 f1 f2 s0 s1 s2
  obtain ⟨f0, f1, f2⟩ := BF4.cell3
  obtain ⟨s0, s1, s2⟩ := BS4.cell3
  go_wp2_with fail
  clear f0 f1 f2 s0 s1 s2
  go_loopw [7, 8] (fun v i wr => ∃ k : Nat, k ≤ l.length ∧ i = .int .i64 k ∧ OwnI wr B2 v (X.take k) ∧ Hid (∀ j (h : j < X.length), j < k → X[j] < a) ∧ Below B2 w4 wr) (fun _ i _ => l.length - (intOf i).toNat)
  case atStart => exact ⟨0, Nat.zero_le _, rfl, by have h := OwnI.nil0 w4; rw [eB2] at h; exact h, fun j _ h => absurd h (Nat.not_lt_zero _), (Below.refl _ _).alloc (by omega) _⟩
  case round =>
    obtain ⟨k, hk, rfl, hown, HB, hbel⟩ := hrel
    have hz : B2 ≤ wr.heap.size := by have := hbel.size; omega
    have BSr := BS4.below hbel hzS
    obtain ⟨s0, s1, s2⟩ := BSr.cell3
    have hrow := hrow0.aside hgB hbel
    have hkl : (X.take k).length ≤ 4000 := by rw [List.length_take]; omega
    by_cases hgo : ∃ h : k < X.length, X[k] < a
    · obtain ⟨hkX, hxa⟩ := hgo
      obtain ⟨hc, -⟩ := hrow.cell hkX
      have HN : Hid (∀ j (h : j < X.length), j < k + 1 → X[j] < a) := Lib.hid fun j h hj => by
        by_cases e : j = k
        · subst e; exact hxa
        · exact HB.out j h (by omega)
      have HT := Lib.hid (takeI_snoc hkX)
      have hlt : k < l.length := by omega
      have d0 : decide ((k : Int) < (l.length : Int)) = true := decide_eq_true (by omega)
      obtain ⟨x, ex⟩ : ∃ x, X[k] = x := ⟨_, rfl⟩
      rw [ex] at hc hxa
      have HX := Lib.hid ex
      clear ex
      have d1 : decide (x < a) = true := decide_eq_true hxa
      go_wp2_with fail
      go_quiet (fail)
      generalize hw5 : wr.drewN _ = w5
      replace hown : OwnI w5 B2 u7 (X.take k) := by rw [← hw5]; exact hown.drewN _
      have hc5 : w5.cell? ⟨g, k, none⟩ = some (.int .i64 x) := by rw [← hw5]; exact hc
      replace hz : B2 ≤ w5.heap.size := by rw [← hw5]; exact hz
      replace hbel : Below B2 w4 w5 := by rw [← hw5]; exact below_drewN hbel _
      clear hw5 hc hrow BSr s0 s1 s2
      go_wp2_with (at_builtin; refine append_int _ rfl (.tmp 39) (.tmp 44) rfl B2 u7 (X.take k) x rfl rfl hown (by omega) hz ?_; intro v1 w6 hown1 hbel1)
      rw [← HX.out, ← HT.out] at hown1
      exact ⟨⟨k + 1, by omega, by go_num, hown1, HN, hbel.trans hbel1⟩, by simp [intOf]; omega⟩
    · have HK : Hid (∀ h : k < X.length, a ≤ X[k]) := Lib.hid fun h => by
        rcases Int.lt_or_le X[k] a with h1 | h1
        · exact absurd ⟨h, h1⟩ hgo
        · exact h1
      have HLX : Hid (X.take k = X.filter fun x => decide (x < a)) := Lib.hid (lessX HUP.out HB.out HK.out)
      have hstop : k = l.length ∨ ∃ x, wr.cell? ⟨g, k, none⟩ = some (.int .i64 x) ∧ a ≤ x ∧ k < l.length := by
        by_cases hlt : k < X.length
        · exact .inr ⟨_, (hrow.cell hlt).1, HK.out hlt, by omega⟩
        · exact .inl (by omega)
      clear hgo HB HK
      obtain ⟨Y, eY⟩ : ∃ Y, X.take k = Y := ⟨_, rfl⟩
      rw [eY] at hown hkl HLX
      clear eY
      rcases hstop with hd0 | ⟨x, hcx, hax, hlt0⟩
      · subst hd0
        go_wp2_with fail
        go_quiet (fail)
        generalize hw5 : wr.drewN _ = w5
        replace hown : OwnI w5 B2 u7 Y := by rw [← hw5]; exact hown.drewN _
        replace hz : B2 ≤ w5.heap.size := by rw [← hw5]; exact hz
        replace BSr : Blk w5 (w.heap.size + 1) 36 #[.int .i64 a, .int .i64 b, .slice pt t.length capt] := by rw [← hw5]; exact BSr
        replace hbel : Below B2 w4 w5 := by rw [← hw5]; exact below_drewN hbel _
        clear hw5 hrow s0 s1 s2
        obtain ⟨s0, s1, s2⟩ := BSr.cell3
        have hT5 := hT.below (W4.trans (hbel.mono hzW))
        go_wp2_with (at_builtin; refine append_src _ rfl (.tmp 46) (.tmp 48) rfl B2 u7 Y t pt capt rfl rfl hcap hT5 hown (by omega) hz ?_; intro v1 w6 hown1 hbel1)
        replace hbel := hbel.trans hbel1
        clear BSr s0 s1 s2 hT5 hown hbel1
        go_loopw [7, 9] (fun v i wq => ∃ j : Nat, j ≤ l.length ∧ i = .int .i64 j ∧ OwnI wq B2 v ((Y ++ t) ++ (X.take j).filter (fun x => decide (b ≤ x))) ∧ Below B2 w4 wq) (fun _ i _ => l.length - (intOf i).toNat)
        case atStart => exact ⟨0, Nat.zero_le _, rfl, by simpa using hown1, hbel⟩
        case round =>
          clear hz hbel hown1
          obtain ⟨j, hj, rfl, hown, hbel⟩ := hrel
          have hz : B2 ≤ wr.heap.size := by have := hbel.size; omega
          have BSr := BS4.below hbel hzS
          obtain ⟨s0, s1, s2⟩ := BSr.cell3
          have hrow := hrow0.aside hgB hbel
          by_cases hlj : j < l.length
          · have hjX : j < X.length := by omega
            obtain ⟨hc, -⟩ := hrow.cell hjX
            have hsn := filt_snoc (fun x => decide (b ≤ x)) hjX
            have hll : ((Y ++ t) ++ (X.take j).filter (fun x => decide (b ≤ x))).length ≤ 2200000 := by rw [List.length_append, List.length_append]; have := List.length_filter_le (fun x => decide (b ≤ x)) (X.take j); rw [List.length_take] at this; omega
            obtain ⟨x, ex⟩ : ∃ x, X[j] = x := ⟨_, rfl⟩
            rw [ex] at hc hsn
            clear ex
            have HSN := Lib.hid hsn
            clear hsn
            have d0 : (j : Int) < (l.length : Int) := by omega
            by_cases hxb : b ≤ x
            · have d2 : decide (b ≤ x) = true := decide_eq_true hxb
              go_wp2_with fail
              go_quiet (fail)
              generalize hw5 : wr.drewN _ = w5
              replace hown : OwnI w5 B2 u7 ((Y ++ t) ++ (X.take j).filter (fun x => decide (b ≤ x))) := by rw [← hw5]; exact hown.drewN _
              have hc5 : w5.cell? ⟨g, j, none⟩ = some (.int .i64 x) := by rw [← hw5]; exact hc
              replace hz : B2 ≤ w5.heap.size := by rw [← hw5]; exact hz
              replace hbel : Below B2 w4 w5 := by rw [← hw5]; exact below_drewN hbel _
              clear hw5 hc hrow BSr s0 s1 s2
              go_wp2_with (at_builtin; refine append_int _ rfl (.tmp 63) (.tmp 68) rfl B2 u7 ((Y ++ t) ++ (X.take j).filter (fun x => decide (b ≤ x))) x rfl rfl hown (by omega) hz ?_; intro v1 w6 hown1 hbel1)
              exact ⟨⟨j + 1, by omega, by go_num, by rw [HSN.out, if_pos d2, ← List.append_assoc]; exact hown1, hbel.trans hbel1⟩, by simp [intOf]; omega⟩
            · have d2 : decide (b ≤ x) = false := decide_eq_false hxb
              go_wp2_with fail
              go_quiet (fail)
              generalize hw5 : wr.drewN _ = w5
              replace hown : OwnI w5 B2 u7 ((Y ++ t) ++ (X.take j).filter (fun x => decide (b ≤ x))) := by rw [← hw5]; exact hown.drewN _
              replace hbel : Below B2 w4 w5 := by rw [← hw5]; exact below_drewN hbel _
              clear hw5 hc hrow BSr s0 s1 s2
              go_wp2_with fail
              exact ⟨⟨j + 1, by omega, by go_num, by rw [HSN.out, if_neg (by rw [d2]; simp)]; exact hown, hbel⟩, by simp [intOf]; omega⟩
          · have hXj : X.take j = X := List.take_of_length_le (by omega)
            rw [hXj, HLX.out, ← HWT.out] at hown
            obtain ⟨q6, d6, rfl, ST⟩ := hown.open_
            have Rr := R4.below hbel hzR
            have BFr := BF4.below hbel hzF
            have hWr : Below w.heap.size w wr := W4.trans (hbel.mono hzW)
            clear BSr s0 s1 s2 hrow
            obtain ⟨f0, f1, f2⟩ := BFr.cell3
            have hrb : -9223372036854775808 ≤ l.sum ∧ l.sum ≤ 9223372036854775807 := by omega
            have Rd := Rr.drew
            have Bd := BFr.drew
            have hwd := hWr.drew
            have hzr' := Rr.lt
            have hTl1 : T.length ≤ 1048576 := by omega
            have CD := fun (w5 : World) (h : IntsAt w5 q6 T) => spec_l04Done q6 T d6 l.sum c w5 h hTl1 hrb
            go_wp2_with fail
            have keepS : ∀ y1 y2 : World, ((w.heap.size < y1.heap.size ∧ y1.cell? ⟨w.heap.size, 0, none⟩ = some (.int .i64 c) ∧ y1.cell? ⟨w.heap.size, 1, none⟩ = some (.int .i64 f) ∧ y1.cell? ⟨w.heap.size, 2, none⟩ = some (.slice p l.length cap)) ∧ OwnS y1 B2 q6 T ∧ Below w.heap.size w y1) → Below y1.heap.size y1 y2 → ((w.heap.size < y2.heap.size ∧ y2.cell? ⟨w.heap.size, 0, none⟩ = some (.int .i64 c) ∧ y2.cell? ⟨w.heap.size, 1, none⟩ = some (.int .i64 f) ∧ y2.cell? ⟨w.heap.size, 2, none⟩ = some (.slice p l.length cap)) ∧ OwnS y2 B2 q6 T ∧ Below w.heap.size w y2) := by
              rintro y1 y2 ⟨⟨s0, s1, s2, s3⟩, s4, s5⟩ hb
              obtain ⟨hc, -⟩ := bcell hb
              have := hb.size
              exact ⟨⟨by omega, (hc _ _ s0).trans s1, (hc _ _ s0).trans s2, (hc _ _ s0).trans s3⟩, s4.below hb, below_st s5 hb (Nat.le_refl _)⟩
            have keepW : ∀ (y : World) (i : Nat) (v : Value), ((w.heap.size < y.heap.size ∧ y.cell? ⟨w.heap.size, 0, none⟩ = some (.int .i64 c) ∧ y.cell? ⟨w.heap.size, 1, none⟩ = some (.int .i64 f) ∧ y.cell? ⟨w.heap.size, 2, none⟩ = some (.slice p l.length cap)) ∧ OwnS y B2 q6 T ∧ Below w.heap.size w y) → ((w.heap.size < (y.setCell ⟨w.heap.size + 1 + 1, i, none⟩ v).heap.size ∧ (y.setCell ⟨w.heap.size + 1 + 1, i, none⟩ v).cell? ⟨w.heap.size, 0, none⟩ = some (.int .i64 c) ∧ (y.setCell ⟨w.heap.size + 1 + 1, i, none⟩ v).cell? ⟨w.heap.size, 1, none⟩ = some (.int .i64 f) ∧ (y.setCell ⟨w.heap.size + 1 + 1, i, none⟩ v).cell? ⟨w.heap.size, 2, none⟩ = some (.slice p l.length cap)) ∧ OwnS (y.setCell ⟨w.heap.size + 1 + 1, i, none⟩ v) B2 q6 T ∧ Below w.heap.size w (y.setCell ⟨w.heap.size + 1 + 1, i, none⟩ v)) := by
              rintro y i v ⟨⟨s0, s1, s2, s3⟩, s4, s5⟩
              have ho : ∀ j, (y.setCell ⟨w.heap.size + 1 + 1, i, none⟩ v).cell? ⟨w.heap.size, j, none⟩ = y.cell? ⟨w.heap.size, j, none⟩ := fun j => World.cell?_setCell_other _ _ _ _ (by intro h'; injection h' with h2; omega)
              exact ⟨⟨by simpa [World.setCell] using s0, (ho 0).trans s1, (ho 1).trans s2, (ho 2).trans s3⟩, s4.offS (g' := w.heap.size + 1 + 1) hzR i v, s5.setCell (p := ⟨w.heap.size + 1 + 1, i, none⟩) (by show w.heap.size ≤ w.heap.size + 1 + 1; omega) _⟩
            have S0 : (w.heap.size < wr.drew.heap.size ∧ wr.drew.cell? ⟨w.heap.size, 0, none⟩ = some (.int .i64 c) ∧ wr.drew.cell? ⟨w.heap.size, 1, none⟩ = some (.int .i64 f) ∧ wr.drew.cell? ⟨w.heap.size, 2, none⟩ = some (.slice p l.length cap)) ∧ OwnS wr.drew B2 q6 T ∧ Below w.heap.size w wr.drew := ⟨⟨Bd.lt, Bd.cell3.1, Bd.cell3.2.1, Bd.cell3.2.2⟩, ST.below (Below.refl _ _).drew, hwd⟩
            go_region_held3 (fun w' => (w.heap.size < w'.heap.size ∧ w'.cell? ⟨w.heap.size, 0, none⟩ = some (.int .i64 c) ∧ w'.cell? ⟨w.heap.size, 1, none⟩ = some (.int .i64 f) ∧ w'.cell? ⟨w.heap.size, 2, none⟩ = some (.slice p l.length cap)) ∧ OwnS w' B2 q6 T ∧ Below w.heap.size w w')
              (first | with_reducible exact S0 | (with_reducible refine keepS _ _ S0 ?_; assumption) | (with_reducible refine keepW _ _ _ (keepW _ _ _ (keepW _ _ _ ?_)); exact keepS _ _ S0 hb5))
              (first | (go_at_call 63; refine (CD _ (by exact S0.2.1.ints)).mono ?_; rintro e w8 ⟨q5, d5, rfl, S5, hb5⟩; have R5 := Rd.keep hb5; obtain ⟨r0, r1', r2⟩ := R5.cell3; have rf := R5.frozen) | (go_at_call 41; refine (spec_l02Revolution c f p l cap _ _ (by exact hI.below hwd) hl HS.out.1 (by exact Bd)).mono ?_; rintro e w' ⟨rfl, rfl⟩))
            all_goals
              have hw5 := below_st hwd hb5 (Nat.le_refl _)
              obtain ⟨e0, e1, e2⟩ := (R5.set3 (.int .i64 (tmC T l.sum c)) (.int .i64 (tmF T l.sum c)) (.slice q5 (tmL T l.sum c).length d5)).cell3
              have S6 := ((S5.offS (g' := w.heap.size + 1 + 1) hzr' 0 (.int .i64 (tmC T l.sum c))).offS (g' := w.heap.size + 1 + 1) hzr' 1 (.int .i64 (tmF T l.sum c))).offS (g' := w.heap.size + 1 + 1) hzr' 2 (.slice q5 (tmL T l.sum c).length d5)
              go_wp2_with fail
              refine bodyPost_ret (v := .tuple #[.agg #[.int .i64 (tmC T l.sum c), .int .i64 (tmF T l.sum c), .slice q5 (tmL T l.sum c).length d5], .int .i64 (tmE 2 T l.sum c)]) (by simp [results, Try.results22, go_sem, e0, e1, e2]) rfl ?_
              rw [hTD, HC.out, HF.out, HL.out, HE.out]
              exact ⟨q5, d5, rfl, S6.mono (by have := hWr.size; exact this), ((hw5.setCell (p := ⟨w.heap.size + 1 + 1, 0, none⟩) (by show w.heap.size ≤ w.heap.size + 1 + 1; omega) _).setCell (p := ⟨w.heap.size + 1 + 1, 1, none⟩) (by show w.heap.size ≤ w.heap.size + 1 + 1; omega) _).setCell (p := ⟨w.heap.size + 1 + 1, 2, none⟩) (by show w.heap.size ≤ w.heap.size + 1 + 1; omega) _⟩
      · have hlt1 : (k : Int) < (l.length : Int) := by omega
        have d1 : decide (x < a) = false := decide_eq_false (by omega)
        go_wp2_with fail
        go_quiet (fail)
        generalize hw5 : wr.drewN _ = w5
        replace hown : OwnI w5 B2 u7 Y := by rw [← hw5]; exact hown.drewN _
        replace hz : B2 ≤ w5.heap.size := by rw [← hw5]; exact hz
        replace BSr : Blk w5 (w.heap.size + 1) 36 #[.int .i64 a, .int .i64 b, .slice pt t.length capt] := by rw [← hw5]; exact BSr
        replace hbel : Below B2 w4 w5 := by rw [← hw5]; exact below_drewN hbel _
        clear hw5 hrow s0 s1 s2
        obtain ⟨s0, s1, s2⟩ := BSr.cell3
        have hT5 := hT.below (W4.trans (hbel.mono hzW))
        go_wp2_with (at_builtin; refine append_src _ rfl (.tmp 46) (.tmp 48) rfl B2 u7 Y t pt capt rfl rfl hcap hT5 hown (by omega) hz ?_; intro v1 w6 hown1 hbel1)
        replace hbel := hbel.trans hbel1
        clear BSr s0 s1 s2 hT5 hown hbel1
        go_loopw [7, 9] (fun v i wq => ∃ j : Nat, j ≤ l.length ∧ i = .int .i64 j ∧ OwnI wq B2 v ((Y ++ t) ++ (X.take j).filter (fun x => decide (b ≤ x))) ∧ Below B2 w4 wq) (fun _ i _ => l.length - (intOf i).toNat)
        case atStart => exact ⟨0, Nat.zero_le _, rfl, by simpa using hown1, hbel⟩
        case round =>
          clear hz hbel hown1
          obtain ⟨j, hj, rfl, hown, hbel⟩ := hrel
          have hz : B2 ≤ wr.heap.size := by have := hbel.size; omega
          have BSr := BS4.below hbel hzS
          obtain ⟨s0, s1, s2⟩ := BSr.cell3
          have hrow := hrow0.aside hgB hbel
          by_cases hlj : j < l.length
          · have hjX : j < X.length := by omega
            obtain ⟨hc, -⟩ := hrow.cell hjX
            have hsn := filt_snoc (fun x => decide (b ≤ x)) hjX
            have hll : ((Y ++ t) ++ (X.take j).filter (fun x => decide (b ≤ x))).length ≤ 2200000 := by rw [List.length_append, List.length_append]; have := List.length_filter_le (fun x => decide (b ≤ x)) (X.take j); rw [List.length_take] at this; omega
            obtain ⟨x, ex⟩ : ∃ x, X[j] = x := ⟨_, rfl⟩
            rw [ex] at hc hsn
            clear ex
            have HSN := Lib.hid hsn
            clear hsn
            have d0 : (j : Int) < (l.length : Int) := by omega
            by_cases hxb : b ≤ x
            · have d2 : decide (b ≤ x) = true := decide_eq_true hxb
              go_wp2_with fail
              go_quiet (fail)
              generalize hw5 : wr.drewN _ = w5
              replace hown : OwnI w5 B2 u7 ((Y ++ t) ++ (X.take j).filter (fun x => decide (b ≤ x))) := by rw [← hw5]; exact hown.drewN _
              have hc5 : w5.cell? ⟨g, j, none⟩ = some (.int .i64 x) := by rw [← hw5]; exact hc
              replace hz : B2 ≤ w5.heap.size := by rw [← hw5]; exact hz
              replace hbel : Below B2 w4 w5 := by rw [← hw5]; exact below_drewN hbel _
              clear hw5 hc hrow BSr s0 s1 s2
              go_wp2_with (at_builtin; refine append_int _ rfl (.tmp 63) (.tmp 68) rfl B2 u7 ((Y ++ t) ++ (X.take j).filter (fun x => decide (b ≤ x))) x rfl rfl hown (by omega) hz ?_; intro v1 w6 hown1 hbel1)
              exact ⟨⟨j + 1, by omega, by go_num, by rw [HSN.out, if_pos d2, ← List.append_assoc]; exact hown1, hbel.trans hbel1⟩, by simp [intOf]; omega⟩
            · have d2 : decide (b ≤ x) = false := decide_eq_false hxb
              go_wp2_with fail
              go_quiet (fail)
              generalize hw5 : wr.drewN _ = w5
              replace hown : OwnI w5 B2 u7 ((Y ++ t) ++ (X.take j).filter (fun x => decide (b ≤ x))) := by rw [← hw5]; exact hown.drewN _
              replace hbel : Below B2 w4 w5 := by rw [← hw5]; exact below_drewN hbel _
              clear hw5 hc hrow BSr s0 s1 s2
              go_wp2_with fail
              exact ⟨⟨j + 1, by omega, by go_num, by rw [HSN.out, if_neg (by rw [d2]; simp)]; exact hown, hbel⟩, by simp [intOf]; omega⟩
          · have hXj : X.take j = X := List.take_of_length_le (by omega)
            rw [hXj, HLX.out, ← HWT.out] at hown
            obtain ⟨q6, d6, rfl, ST⟩ := hown.open_
            have Rr := R4.below hbel hzR
            have BFr := BF4.below hbel hzF
            have hWr : Below w.heap.size w wr := W4.trans (hbel.mono hzW)
            clear BSr s0 s1 s2 hrow
            obtain ⟨f0, f1, f2⟩ := BFr.cell3
            have hrb : -9223372036854775808 ≤ l.sum ∧ l.sum ≤ 9223372036854775807 := by omega
            have Rd := Rr.drew
            have Bd := BFr.drew
            have hwd := hWr.drew
            have hzr' := Rr.lt
            have hTl1 : T.length ≤ 1048576 := by omega
            have CD := fun (w5 : World) (h : IntsAt w5 q6 T) => spec_l04Done q6 T d6 l.sum c w5 h hTl1 hrb
            go_wp2_with fail
            have keepS : ∀ y1 y2 : World, ((w.heap.size < y1.heap.size ∧ y1.cell? ⟨w.heap.size, 0, none⟩ = some (.int .i64 c) ∧ y1.cell? ⟨w.heap.size, 1, none⟩ = some (.int .i64 f) ∧ y1.cell? ⟨w.heap.size, 2, none⟩ = some (.slice p l.length cap)) ∧ OwnS y1 B2 q6 T ∧ Below w.heap.size w y1) → Below y1.heap.size y1 y2 → ((w.heap.size < y2.heap.size ∧ y2.cell? ⟨w.heap.size, 0, none⟩ = some (.int .i64 c) ∧ y2.cell? ⟨w.heap.size, 1, none⟩ = some (.int .i64 f) ∧ y2.cell? ⟨w.heap.size, 2, none⟩ = some (.slice p l.length cap)) ∧ OwnS y2 B2 q6 T ∧ Below w.heap.size w y2) := by
              rintro y1 y2 ⟨⟨s0, s1, s2, s3⟩, s4, s5⟩ hb
              obtain ⟨hc, -⟩ := bcell hb
              have := hb.size
              exact ⟨⟨by omega, (hc _ _ s0).trans s1, (hc _ _ s0).trans s2, (hc _ _ s0).trans s3⟩, s4.below hb, below_st s5 hb (Nat.le_refl _)⟩
            have keepW : ∀ (y : World) (i : Nat) (v : Value), ((w.heap.size < y.heap.size ∧ y.cell? ⟨w.heap.size, 0, none⟩ = some (.int .i64 c) ∧ y.cell? ⟨w.heap.size, 1, none⟩ = some (.int .i64 f) ∧ y.cell? ⟨w.heap.size, 2, none⟩ = some (.slice p l.length cap)) ∧ OwnS y B2 q6 T ∧ Below w.heap.size w y) → ((w.heap.size < (y.setCell ⟨w.heap.size + 1 + 1, i, none⟩ v).heap.size ∧ (y.setCell ⟨w.heap.size + 1 + 1, i, none⟩ v).cell? ⟨w.heap.size, 0, none⟩ = some (.int .i64 c) ∧ (y.setCell ⟨w.heap.size + 1 + 1, i, none⟩ v).cell? ⟨w.heap.size, 1, none⟩ = some (.int .i64 f) ∧ (y.setCell ⟨w.heap.size + 1 + 1, i, none⟩ v).cell? ⟨w.heap.size, 2, none⟩ = some (.slice p l.length cap)) ∧ OwnS (y.setCell ⟨w.heap.size + 1 + 1, i, none⟩ v) B2 q6 T ∧ Below w.heap.size w (y.setCell ⟨w.heap.size + 1 + 1, i, none⟩ v)) := by
              rintro y i v ⟨⟨s0, s1, s2, s3⟩, s4, s5⟩
              have ho : ∀ j, (y.setCell ⟨w.heap.size + 1 + 1, i, none⟩ v).cell? ⟨w.heap.size, j, none⟩ = y.cell? ⟨w.heap.size, j, none⟩ := fun j => World.cell?_setCell_other _ _ _ _ (by intro h'; injection h' with h2; omega)
              exact ⟨⟨by simpa [World.setCell] using s0, (ho 0).trans s1, (ho 1).trans s2, (ho 2).trans s3⟩, s4.offS (g' := w.heap.size + 1 + 1) hzR i v, s5.setCell (p := ⟨w.heap.size + 1 + 1, i, none⟩) (by show w.heap.size ≤ w.heap.size + 1 + 1; omega) _⟩
            have S0 : (w.heap.size < wr.drew.heap.size ∧ wr.drew.cell? ⟨w.heap.size, 0, none⟩ = some (.int .i64 c) ∧ wr.drew.cell? ⟨w.heap.size, 1, none⟩ = some (.int .i64 f) ∧ wr.drew.cell? ⟨w.heap.size, 2, none⟩ = some (.slice p l.length cap)) ∧ OwnS wr.drew B2 q6 T ∧ Below w.heap.size w wr.drew := ⟨⟨Bd.lt, Bd.cell3.1, Bd.cell3.2.1, Bd.cell3.2.2⟩, ST.below (Below.refl _ _).drew, hwd⟩
            go_region_held3 (fun w' => (w.heap.size < w'.heap.size ∧ w'.cell? ⟨w.heap.size, 0, none⟩ = some (.int .i64 c) ∧ w'.cell? ⟨w.heap.size, 1, none⟩ = some (.int .i64 f) ∧ w'.cell? ⟨w.heap.size, 2, none⟩ = some (.slice p l.length cap)) ∧ OwnS w' B2 q6 T ∧ Below w.heap.size w w')
              (first | with_reducible exact S0 | (with_reducible refine keepS _ _ S0 ?_; assumption) | (with_reducible refine keepW _ _ _ (keepW _ _ _ (keepW _ _ _ ?_)); exact keepS _ _ S0 hb5))
              (first | (go_at_call 63; refine (CD _ (by exact S0.2.1.ints)).mono ?_; rintro e w8 ⟨q5, d5, rfl, S5, hb5⟩; have R5 := Rd.keep hb5; obtain ⟨r0, r1', r2⟩ := R5.cell3; have rf := R5.frozen) | (go_at_call 41; refine (spec_l02Revolution c f p l cap _ _ (by exact hI.below hwd) hl HS.out.1 (by exact Bd)).mono ?_; rintro e w' ⟨rfl, rfl⟩))
            all_goals
              have hw5 := below_st hwd hb5 (Nat.le_refl _)
              obtain ⟨e0, e1, e2⟩ := (R5.set3 (.int .i64 (tmC T l.sum c)) (.int .i64 (tmF T l.sum c)) (.slice q5 (tmL T l.sum c).length d5)).cell3
              have S6 := ((S5.offS (g' := w.heap.size + 1 + 1) hzr' 0 (.int .i64 (tmC T l.sum c))).offS (g' := w.heap.size + 1 + 1) hzr' 1 (.int .i64 (tmF T l.sum c))).offS (g' := w.heap.size + 1 + 1) hzr' 2 (.slice q5 (tmL T l.sum c).length d5)
              go_wp2_with fail
              refine bodyPost_ret (v := .tuple #[.agg #[.int .i64 (tmC T l.sum c), .int .i64 (tmF T l.sum c), .slice q5 (tmL T l.sum c).length d5], .int .i64 (tmE 2 T l.sum c)]) (by simp [results, Try.results22, go_sem, e0, e1, e2]) rfl ?_
              rw [hTD, HC.out, HF.out, HL.out, HE.out]
              exact ⟨q5, d5, rfl, S6.mono (by have := hWr.size; exact this), ((hw5.setCell (p := ⟨w.heap.size + 1 + 1, 0, none⟩) (by show w.heap.size ≤ w.heap.size + 1 + 1; omega) _).setCell (p := ⟨w.heap.size + 1 + 1, 1, none⟩) (by show w.heap.size ≤ w.heap.size + 1 + 1; omega) _).setCell (p := ⟨w.heap.size + 1 + 1, 2, none⟩) (by show w.heap.size ≤ w.heap.size + 1 + 1; omega) _⟩
end Go.Proofs.Ytfdcainjppljhaa
namespace Go.Proofs.Ytfdcainjppljhaa
open Go.Deep Go.RowKit Go.Joins Go.ChangeShapes Go.WideShapes

section
variable {H : Type} {enc : TypeId × Value → H} {P : Program} {w : World} {base : Nat} {spare : Nat → Bool} {held : Bool}
theorem open_agg5 {r : Reach} {b0 : Nat} {t : TypeId} {f0 f1 f2 f3 f4 : Field} {v : Value} {d : DataW H} {p : List MemPlace} (hs : P.underlying t = some (.struct #[f0, f1, f2, f3, f4])) (hone : oneCellFields P #[f0, f1, f2, f3, f4] = true) (hC : P.cellsOf t = 5)
    (hv : Value.okWide P w r b0 t v) (h : DataW.Trod enc P w base spare held t v d p) :
    ∃ (v0 v1 v2 v3 v4 : Value) (y0 y1 y2 y3 y4 : DataW H × List MemPlace) (n : Nat), v = .agg #[v0, v1, v2, v3, v4] ∧ d = .agg [y0.1, y1.1, y2.1, y3.1, y4.1] ∧ p = y0.2 ++ (y1.2 ++ (y2.2 ++ (y3.2 ++ y4.2))) ∧
      DataW.trod enc P w base spare held n f0.type [v0] = some y0 ∧ DataW.trod enc P w base spare held n f1.type [v1] = some y1 ∧ DataW.trod enc P w base spare held n f2.type [v2] = some y2 ∧ DataW.trod enc P w base spare held n f3.type [v3] = some y3 ∧ DataW.trod enc P w base spare held n f4.type [v4] = some y4 := by
  obtain ⟨cs, rfl, hsz⟩ := okWide_struct hs hv
  obtain ⟨l⟩ := cs
  match l, hsz.trans hC with
  | [c0, c1, c2, c3, c4], _ =>
    obtain ⟨fuel, hf⟩ := h
    obtain ⟨xs, n, _, hx, _, hlen, hg⟩ := DataW.trod_struct hs hf
    obtain ⟨o0, k0⟩ := hone_of hone 0 f0 rfl
    obtain ⟨o1, k1⟩ := hone_of hone 1 f1 rfl
    obtain ⟨o2, k2⟩ := hone_of hone 2 f2 rfl
    obtain ⟨o3, k3⟩ := hone_of hone 3 f3 rfl
    obtain ⟨o4, k4⟩ := hone_of hone 4 f4 rfl
    match xs, hlen with
    | [y0, y1, y2, y3, y4], _ =>
      simp only [Prod.mk.injEq] at hx
      exact ⟨c0, c1, c2, c3, c4, y0, y1, y2, y3, y4, n, rfl, by simpa using hx.1, by simpa using hx.2, by simpa [Value.cells, o0, k0] using hg 0 f0 rfl, by simpa [Value.cells, o1, k1] using hg 1 f1 rfl, by simpa [Value.cells, o2, k2] using hg 2 f2 rfl, by simpa [Value.cells, o3, k3] using hg 3 f3 rfl, by simpa [Value.cells, o4, k4] using hg 4 f4 rfl⟩
theorem field_int {t : TypeId} {k : IntKind} {n : Nat} {v : Value} {y : DataW H × List MemPlace} (ht : P.underlying t = some (.int k)) (h : DataW.trod enc P w base spare held n t [v] = some y) :
    ∃ x : Int, v = .int k x ∧ (Lit.int k x).wf = true := by
  obtain ⟨x, e, _, wx⟩ := DataW.trod_int ht h
  simp at e
  exact ⟨x, e, wx⟩

theorem open_agg2 {r : Reach} {b0 : Nat} {t : TypeId} {f0 f1 : Field} {v : Value} {d : DataW H} {p : List MemPlace} (hs : P.underlying t = some (.struct #[f0, f1])) (hone : oneCellFields P #[f0, f1] = true) (hC : P.cellsOf t = 2)
    (hv : Value.okWide P w r b0 t v) (h : DataW.Trod enc P w base spare held t v d p) :
    ∃ (v0 v1 : Value) (y0 y1 : DataW H × List MemPlace) (n : Nat), v = .agg #[v0, v1] ∧ d = .agg [y0.1, y1.1] ∧ p = y0.2 ++ y1.2 ∧
      DataW.trod enc P w base spare held n f0.type [v0] = some y0 ∧ DataW.trod enc P w base spare held n f1.type [v1] = some y1 := by
  obtain ⟨cs, rfl, hsz⟩ := okWide_struct hs hv
  obtain ⟨l⟩ := cs
  match l, hsz.trans hC with
  | [c0, c1], _ =>
    obtain ⟨fuel, hf⟩ := h
    obtain ⟨xs, n, _, hx, _, hlen, hg⟩ := DataW.trod_struct hs hf
    obtain ⟨o0, k0⟩ := hone_of hone 0 f0 rfl
    obtain ⟨o1, k1⟩ := hone_of hone 1 f1 rfl
    match xs, hlen with
    | [y0, y1], _ =>
      simp only [Prod.mk.injEq] at hx
      exact ⟨c0, c1, y0, y1, n, rfl, by simpa using hx.1, by simpa using hx.2, by simpa [Value.cells, o0, k0] using hg 0 f0 rfl, by simpa [Value.cells, o1, k1] using hg 1 f1 rfl⟩
theorem open_locked {r : Reach} {b0 : Nat} {t e : TypeId} {f0 f1 : Field} {v : Value} {d : DataW H} {p : List MemPlace} (hs : P.underlying t = some (.struct #[f0, f1])) (he : P.underlying e = some (.int .i64))
    (hone : oneCellFields P #[f0, f1] = true) (hC : P.cellsOf t = 2) (hv : Value.okWide P w r b0 t v) (h : DataW.Trod enc P w base spare held t v d p)
    (e0 : f0.type = e := by rfl) (e1 : f1.type = e := by rfl) :
    ∃ x y : Int, v = .agg #[.int .i64 x, .int .i64 y] ∧ (Lit.int .i64 x).wf = true ∧ (Lit.int .i64 y).wf = true := by
  obtain ⟨v0, v1, y0, y1, n, rfl, -, -, h0, h1⟩ := open_agg2 hs hone hC hv h
  obtain ⟨x0, rfl, w0⟩ := field_int (e0 ▸ he) h0
  obtain ⟨x1, rfl, w1⟩ := field_int (e1 ▸ he) h1
  exact ⟨x0, x1, rfl, w0, w1⟩
theorem open_clock {r : Reach} {b0 : Nat} {t e : TypeId} {f0 f1 f2 f3 f4 : Field} {v : Value} {d : DataW H} {p : List MemPlace} (hs : P.underlying t = some (.struct #[f0, f1, f2, f3, f4])) (he : P.underlying e = some (.int .i64))
    (hone : oneCellFields P #[f0, f1, f2, f3, f4] = true) (hC : P.cellsOf t = 5) (hv : Value.okWide P w r b0 t v) (h : DataW.Trod enc P w base spare held t v d p)
    (e0 : f0.type = e := by rfl) (e1 : f1.type = e := by rfl) (e2 : f2.type = e := by rfl) (e3 : f3.type = e := by rfl) (e4 : f4.type = e := by rfl) :
    ∃ c : Clk, v = c.val ∧ c.wf := by
  obtain ⟨v0, v1, v2, v3, v4, y0, y1, y2, y3, y4, n, rfl, -, -, h0, h1, h2, h3, h4⟩ := open_agg5 hs hone hC hv h
  obtain ⟨x0, rfl, w0⟩ := field_int (e0 ▸ he) h0
  obtain ⟨x1, rfl, w1⟩ := field_int (e1 ▸ he) h1
  obtain ⟨x2, rfl, w2⟩ := field_int (e2 ▸ he) h2
  obtain ⟨x3, rfl, w3⟩ := field_int (e3 ▸ he) h3
  obtain ⟨x4, rfl, w4⟩ := field_int (e4 ▸ he) h4
  exact ⟨⟨x0, x1, x2, x3, x4⟩, rfl, w0, w1, w2, w3, w4⟩
end
end Go.Proofs.Ytfdcainjppljhaa
namespace Go.Proofs.Ytfdcainjppljhaa
open Go.Deep Go.RowKit Go.Joins Go.ChangeShapes Go.WideShapes
/-- A slice of int64: its data pointer, numbers, capacity. -/
structure Num where
  p : Option Addr
  l : List Int
  cap : Nat
def Num.val (x : Num) : Value := .slice x.p x.l.length x.cap
def Num.ok (x : Num) (w : World) : Prop := IntsAt w x.p x.l ∧ x.l.length ≤ maxLen ∧ ∀ n ∈ x.l, (Lit.int .i64 n).wf = true
/-- Flux: its cell, its first change, its gaps. -/
structure Flx where
  cell : Int
  first : Int
  g : Num
def Flx.val (x : Flx) : Value := .agg #[.int .i64 x.cell, .int .i64 x.first, x.g.val]
def Flx.ok (x : Flx) (w : World) : Prop := ((Lit.int .i64 x.cell).wf = true ∧ (Lit.int .i64 x.first).wf = true) ∧ x.g.ok w
section
variable {H : Type} {enc : TypeId × Value → H} {P : Program} {w : World} {base : Nat} {spare : Nat → Bool} {held : Bool}
theorem field_nums {t e : TypeId} {n : Nat} {v : Value} {y : DataW H × List MemPlace} (ht : P.underlying t = some (.slice e)) (he : P.underlying e = some (.int .i64)) (hc : P.cellsOf e = 1)
    (h : DataW.trod enc P w base spare held n t [v] = some y) : ∃ x : Num, v = x.val ∧ x.ok w := by
  rcases open_ints ht he hc h with ⟨hv, -⟩ | ⟨a, len, cap, zs, hv, -, hl, hm, hz, -, hcell, hwf⟩
  · simp at hv
    exact ⟨⟨none, [], 0⟩, by rw [hv]; rfl, IntsAt.nil _ _, Nat.zero_le _, by simp⟩
  · simp at hv
    have hlen : len ≤ zs.length := by rw [hz]; split <;> omega
    refine ⟨⟨some a, zs.take len, cap⟩, ?_, ?_, ?_, fun n hn => hwf n (List.mem_of_mem_take hn)⟩
    · rw [hv]; simp [Num.val]; omega
    · intro hne
      have h0 : 0 < len := by
        rcases Nat.eq_zero_or_pos len with e | e
        · subst e; simp at hne
        · exact e
      refine ⟨a, rfl, ?_, fun i hi => ?_⟩
      · have := World.block_lt_of_cell? w _ (hcell 0 (by omega))
        rw [block_add] at this
        exact this
      · have hi' : i < len := by simp at hi; omega
        rw [hcell i (by omega)]
        simp [List.getD, show i < zs.length by omega]
    · simp; omega
theorem open_nums {t e : TypeId} {r : Reach} {b0 : Nat} {v : Value} {d : DataW H} {p : List MemPlace} (ht : P.underlying t = some (.slice e)) (he : P.underlying e = some (.int .i64)) (hc : P.cellsOf e = 1)
    (hv : Value.okWide P w r b0 t v) (h : DataW.Trod enc P w base spare held t v d p) : ∃ x : Num, v = x.val ∧ x.ok w := by
  obtain ⟨a, len, cap, rfl⟩ := okWide_slice ht hv
  obtain ⟨fuel, hf⟩ := h
  exact field_nums ht he hc (v := .slice a len cap) (by simpa [Value.cells] using hf)
theorem open_agg3 {r : Reach} {b0 : Nat} {t : TypeId} {f0 f1 f2 : Field} {v : Value} {d : DataW H} {p : List MemPlace} (hs : P.underlying t = some (.struct #[f0, f1, f2])) (hone : oneCellFields P #[f0, f1, f2] = true) (hC : P.cellsOf t = 3)
    (hv : Value.okWide P w r b0 t v) (h : DataW.Trod enc P w base spare held t v d p) :
    ∃ (v0 v1 v2 : Value) (y0 y1 y2 : DataW H × List MemPlace) (n : Nat), v = .agg #[v0, v1, v2] ∧ d = .agg [y0.1, y1.1, y2.1] ∧ p = y0.2 ++ (y1.2 ++ y2.2) ∧
      DataW.trod enc P w base spare held n f0.type [v0] = some y0 ∧ DataW.trod enc P w base spare held n f1.type [v1] = some y1 ∧ DataW.trod enc P w base spare held n f2.type [v2] = some y2 := by
  obtain ⟨cs, rfl, hsz⟩ := okWide_struct hs hv
  obtain ⟨l⟩ := cs
  match l, hsz.trans hC with
  | [c0, c1, c2], _ =>
    obtain ⟨fuel, hf⟩ := h
    obtain ⟨xs, n, _, hx, _, hlen, hg⟩ := DataW.trod_struct hs hf
    obtain ⟨o0, k0⟩ := hone_of hone 0 f0 rfl
    obtain ⟨o1, k1⟩ := hone_of hone 1 f1 rfl
    obtain ⟨o2, k2⟩ := hone_of hone 2 f2 rfl
    match xs, hlen with
    | [y0, y1, y2], _ =>
      simp only [Prod.mk.injEq] at hx
      exact ⟨c0, c1, c2, y0, y1, y2, n, rfl, by simpa using hx.1, by simpa using hx.2, by simpa [Value.cells, o0, k0] using hg 0 f0 rfl, by simpa [Value.cells, o1, k1] using hg 1 f1 rfl, by simpa [Value.cells, o2, k2] using hg 2 f2 rfl⟩
theorem open_flux {r : Reach} {b0 : Nat} {t e s : TypeId} {f0 f1 f2 : Field} {v : Value} {d : DataW H} {p : List MemPlace} (hs : P.underlying t = some (.struct #[f0, f1, f2])) (he : P.underlying e = some (.int .i64)) (hsl : P.underlying s = some (.slice e))
    (hone : oneCellFields P #[f0, f1, f2] = true) (hC : P.cellsOf t = 3) (hce : P.cellsOf e = 1) (hv : Value.okWide P w r b0 t v) (h : DataW.Trod enc P w base spare held t v d p)
    (e0 : f0.type = e := by rfl) (e1 : f1.type = e := by rfl) (e2 : f2.type = s := by rfl) :
    ∃ x : Flx, v = x.val ∧ x.ok w := by
  obtain ⟨v0, v1, v2, y0, y1, y2, n, rfl, -, -, h0, h1, h2⟩ := open_agg3 hs hone hC hv h
  obtain ⟨x0, rfl, w0⟩ := field_int (e0 ▸ he) h0
  obtain ⟨x1, rfl, w1⟩ := field_int (e1 ▸ he) h1
  obtain ⟨x2, rfl, w2⟩ := field_nums (e2 ▸ hsl) he hce h2
  exact ⟨⟨x0, x1, x2⟩, rfl, ⟨w0, w1⟩, w2⟩
end
end Go.Proofs.Ytfdcainjppljhaa
namespace Go.Proofs.Ytfdcainjppljhaa
open Go.RowKit
set_option linter.unusedVariables false
/-- A slice of spans lies at p: three cells a span; its numbers lie where it says. -/
def SpansAt (w : World) (p : Option Addr) (L : List Flx) : Prop := L ≠ [] → ∃ a, p = some a ∧ a.block < w.heap.size ∧ ∀ i (h : i < L.length),
  w.cell? (a.add (i * 3)) = some (.int .i64 L[i].cell) ∧ w.cell? ⟨(a.add (i * 3)).block, (a.add (i * 3)).off + 1, none⟩ = some (.int .i64 L[i].first) ∧ w.cell? ⟨(a.add (i * 3)).block, (a.add (i * 3)).off + 2, none⟩ = some L[i].g.val ∧ IntsAt w L[i].g.p L[i].g.l
theorem SpansAt.at_ {w : World} {p : Option Addr} {L : List Flx} (h : SpansAt w p L) {k : Nat} (hk : k < L.length) : ∃ a, p = some a ∧ a.block < w.heap.size ∧
    w.cell? (a.add (k * 3)) = some (.int .i64 L[k].cell) ∧ w.cell? ⟨(a.add (k * 3)).block, (a.add (k * 3)).off + 1, none⟩ = some (.int .i64 L[k].first) ∧ w.cell? ⟨(a.add (k * 3)).block, (a.add (k * 3)).off + 2, none⟩ = some L[k].g.val ∧ IntsAt w L[k].g.p L[k].g.l := by
  obtain ⟨a, ha, hb, hc⟩ := h (by intro e; rw [e] at hk; simp at hk)
  exact ⟨a, ha, hb, hc k hk⟩
def lensL (L : List Flx) : Nat := (L.map fun s => s.g.l.length).sum
theorem lensL_take (L : List Flx) {k : Nat} (h : k < L.length) : lensL (L.take (k + 1)) = lensL (L.take k) + L[k].g.l.length := by
  unfold lensL
  rw [List.take_succ_eq_append_getElem h, List.map_append, List.sum_append]
  simp
theorem lensL_le (L : List Flx) : ∀ k, lensL (L.take k) ≤ lensL L := fun k => by
  have h : lensL L = lensL (L.take k) + lensL (L.drop k) := by
    unfold lensL
    rw [← List.sum_append, ← List.map_append, List.take_append_drop]
  omega
/-- What is left of a size. -/
def szLs (left : Int) (L : List Flx) : Int := if left < L.length + lensL L then -1 else left - L.length - lensL L
set_option maxHeartbeats 2000000 in
set_option maxRecDepth 20000 in
theorem laws_szSpanS (p : Option Addr) (L : List Flx) (cap : Nat) (left : Int) (w : World) (hI : SpansAt w p L) (hl : L.length ≤ maxLen) (hg : ∀ s ∈ L, s.g.l.length ≤ maxLen) (h : 0 ≤ left ∧ left ≤ 1048576) :
    Calls Try.prog 72 #[.slice p L.length cap, .int .i64 left] w fun e w' => e = .returned (.int .i64 (szLs left L)) ∧ Below w.heap.size w w' := by
  have hm : (L.length : Int) ≤ 9223372036854775807 := by unfold maxLen at hl; omega
  by_cases h1 : left < L.length
  · have HV : Hid (szLs left L = -1) := Lib.hid (by unfold szLs; rw [if_pos (by omega)])
    have q1 : IntKind.i64.wrap (left - L.length) = left - L.length := IntWalk.i64_in _ (by omega)
    have hd : decide (left - (L.length : Int) < 0) = true := decide_eq_true (by omega)
    go_enter Try.func72, Try.ntmps72
    go_wp2_with fail
    go_ret
    exact ⟨ret_int (by rw [HV.out]), Below.refl _ _⟩
  have q1 : IntKind.i64.wrap (left - L.length) = left - L.length := IntWalk.i64_in _ (by omega)
  have hd : decide (left - (L.length : Int) < 0) = false := decide_eq_false (by omega)
  go_enter Try.func72, Try.ntmps72
  go_wp2_with fail
  go_loopw [1, 5] (fun s i wr => ∃ k : Nat, k ≤ L.length ∧ i = .int .i64 k ∧ s = .int .i64 (left - L.length - lensL (L.take k)) ∧ 0 ≤ left - L.length - lensL (L.take k) ∧ Below w.heap.size w wr) (fun _ i _ => L.length - (intOf i).toNat)
  case atStart => exact ⟨0, Nat.zero_le _, rfl, by simp [lensL], by simp [lensL]; omega, Below.refl _ _⟩
  case round =>
    obtain ⟨k, hk, rfl, rfl, hpos, hbel⟩ := hrel
    by_cases hlt : k < L.length
    · obtain ⟨a, rfl, hab, c0, c1, c2, hIk⟩ := hI.at_ hlt
      have hab' : (a.add (k * 3)).block < w.heap.size := by rw [Go.ChangeShapes.block_add]; exact hab
      have d0 := (hbel.cell (p := a.add (k * 3)) hab').trans c0
      have d1 := (hbel.cell (p := ⟨(a.add (k * 3)).block, (a.add (k * 3)).off + 1, none⟩) hab').trans c1
      have d2 := (hbel.cell (p := ⟨(a.add (k * 3)).block, (a.add (k * 3)).off + 2, none⟩) hab').trans c2
      have hs := lensL_take L hlt
      have hgl := hg _ (List.getElem_mem hlt)
      obtain ⟨⟨x, y, ⟨pg, lg, cg⟩⟩, es⟩ : ∃ s, L[k] = s := ⟨_, rfl⟩
      rw [es] at d0 d1 d2 hs hgl hIk
      simp only [Num.val] at d0 d1 d2 hs hgl
      obtain ⟨z, ez⟩ : ∃ z, left - L.length - lensL (L.take k) = z := ⟨_, rfl⟩
      rw [ez] at hpos ⊢
      clear es c0 c1 c2
      have hz : szL z lg.length = (if z < lg.length then -1 else z - lg.length) := rfl
      by_cases hzl : z < lg.length
      · rw [if_pos hzl] at hz
        have HZ := Lib.hid hz
        have hle := lensL_le L (k + 1)
        have HV : Hid (szLs left L = -1) := Lib.hid (by unfold szLs; rw [if_pos (by omega)])
        clear hz
        go_wp2_with fail
        refine (laws_szSpan x y pg lg cg z _ (by simpa using hgl) (by omega)).mono ?_
        rintro e w1 ⟨rfl, hb1⟩
        rw [HZ.out]
        have hbel1 := below_st hbel hb1 (Nat.le_refl _)
        go_wp2_with fail
        go_ret
        exact ⟨ret_int (by rw [HV.out]), hbel1⟩
      · rw [if_neg hzl] at hz
        have HZ := Lib.hid hz
        have hdz : decide (z - (lg.length : Int) < 0) = false := decide_eq_false (by omega)
        clear hz
        go_wp2_with fail
        refine (laws_szSpan x y pg lg cg z _ (by simpa using hgl) (by omega)).mono ?_
        rintro e w1 ⟨rfl, hb1⟩
        rw [HZ.out]
        have hbel1 := below_st hbel hb1 (Nat.le_refl _)
        go_wp2_with fail
        exact ⟨⟨k + 1, by omega, by go_num, by congr 1; omega, by omega, hbel1⟩, by simp [intOf]; omega⟩
    · have hk2 : L.take k = L := List.take_of_length_le (by omega)
      rw [hk2] at hpos ⊢
      have HV : Hid (szLs left L = left - L.length - lensL L) := Lib.hid (by unfold szLs; rw [if_neg (by omega)])
      go_wp2_with fail
      go_ret
      exact ⟨ret_int (by rw [HV.out]), hbel⟩
theorem info_span : (Try.prog.info? 36).map (fun i => (i.zero, i.size, i.bytes)) = some (some (.agg #[.int .i64 0, .int .i64 0, .slice none 0 0]), 3, 40) := by kernel_rfl
theorem make_spans (n : Nat) (hn : n ≤ 1048576) (w : World) : (Instr.makeSlice 51 (.int .i64 (n : Int)) (.int .i64 (n : Int))).run Try.prog w = .ok (.slice (some ⟨w.heap.size, 0, none⟩) n n) (w.alloc (.cells (madeCells #[.int .i64 0, .int .i64 0, .slice none 0 0] (n * 3)) 36)) := by
  obtain ⟨i, hi, hzz⟩ := Option.map_eq_some_iff.1 info_span
  simp only [Prod.mk.injEq] at hzz
  obtain ⟨hz, hs, hb⟩ := hzz
  have h := run_make (P := Try.prog) w 51 36 i _ Try.underlying51 hi hz .i64 .i64 (n : Int) (n : Int) (by omega) (Int.le_refl _) (by rw [hb]; omega) (by omega)
  rw [hs] at h
  simpa [Value.cells] using h
theorem Blk.setI {w : World} {g : Nat} {t : TypeId} {cs : Array Value} (h : Blk w g t cs) (i : Nat) (v : Value) : Blk (w.setCell ⟨g, i, none⟩ v) g t (cs.setIfInBounds i v) := by
  have hB' : w.heap[g]? = some (.cells cs t (0, 0)) := h
  unfold Blk
  simp [World.setCell, Array.getElem?_modify, hB']
/-- The first spans of a row of the call's own: copies of L's, their numbers in rows of the call's own. -/
structure SpRow (w : World) (g n : Nat) (L L' : List Flx) : Prop where
  blk : ∃ cs : Array Value, Blk w g 36 cs ∧ cs.size = n * 3 ∧ ∀ j (h : j < L'.length), cs[j * 3]? = some (.int .i64 L'[j].cell) ∧ cs[j * 3 + 1]? = some (.int .i64 L'[j].first) ∧ cs[j * 3 + 2]? = some L'[j].g.val
  same : ∀ j (h : j < L'.length) (h2 : j < L.length), L'[j].cell = L[j].cell ∧ L'[j].first = L[j].first ∧ L'[j].g.l = L[j].g.l
  own : ∀ j (h : j < L'.length), OwnS w (g + 1) L'[j].g.p L'[j].g.l
  some_ : ∀ j (h : j < L'.length), L'[j].g.p ≠ none
  dis : ∀ i j (hi : i < L'.length) (hj : j < L'.length), i < j → ∀ g', ownOf L'[i].g.p L'[i].g.l = some g' → ownOf L'[j].g.p L'[j].g.l ≠ some g'
theorem SpRow.keep {w w' : World} {g n : Nat} {L L' : List Flx} (h : SpRow w g n L L') (hb : Below w.heap.size w w') : SpRow w' g n L L' := by
  obtain ⟨⟨cs, hB, hs, hc⟩, h2, h3, h4, h5⟩ := h
  exact ⟨⟨cs, hB.keep hb, hs, hc⟩, h2, fun j hj => (h3 j hj).below hb, h4, h5⟩
theorem SpRow.push {w : World} {g n : Nat} {L L' : List Flx} (h : SpRow w g n L L') (hn : L'.length < n) {x y : Int} {gq : Nat} {l : List Int} (hL : L'.length < L.length) (hx : L[L'.length].cell = x) (hy : L[L'.length].first = y) (hl : L[L'.length].g.l = l) (hq : RowI w gq l) (hgq : g < gq) (hfr : ∀ j (h : j < L'.length) (g' : Nat), ownOf L'[j].g.p L'[j].g.l = some g' → g' < gq) :
    SpRow (((w.setCell ⟨g, L'.length * 3, none⟩ (.int .i64 x)).setCell ⟨g, L'.length * 3 + 1, none⟩ (.int .i64 y)).setCell ⟨g, L'.length * 3 + 2, none⟩ (.slice (some ⟨gq, 0, none⟩) l.length l.length)) g n L (L' ++ [⟨x, y, ⟨some ⟨gq, 0, none⟩, l, l.length⟩⟩]) := by
  obtain ⟨⟨cs, hB, hs, hc⟩, h2, h3, h4, h5⟩ := h
  refine ⟨⟨_, ((hB.setI _ _).setI _ _).setI _ _, by simp [hs], fun j hj => ?_⟩, fun j hj hj2 => ?_, fun j hj => ?_, fun j hj => ?_, fun i j hi hj hij g' hg' => ?_⟩
  · simp at hj
    by_cases e : j < L'.length
    · obtain ⟨c0, c1, c2⟩ := hc j e
      rw [List.getElem_append_left e]
      refine ⟨?_, ?_, ?_⟩
      · rw [Array.getElem?_setIfInBounds_ne (by omega), Array.getElem?_setIfInBounds_ne (by omega), Array.getElem?_setIfInBounds_ne (by omega)]; exact c0
      · rw [Array.getElem?_setIfInBounds_ne (by omega), Array.getElem?_setIfInBounds_ne (by omega), Array.getElem?_setIfInBounds_ne (by omega)]; exact c1
      · rw [Array.getElem?_setIfInBounds_ne (by omega), Array.getElem?_setIfInBounds_ne (by omega), Array.getElem?_setIfInBounds_ne (by omega)]; exact c2
    · have e2 : j = L'.length := by omega
      subst e2
      have e3 : (L' ++ [(⟨x, y, ⟨some ⟨gq, 0, none⟩, l, l.length⟩⟩ : Flx)])[L'.length]'(by simp) = ⟨x, y, ⟨some ⟨gq, 0, none⟩, l, l.length⟩⟩ := by simp
      rw [e3]
      refine ⟨?_, ?_, ?_⟩
      · rw [Array.getElem?_setIfInBounds_ne (by omega), Array.getElem?_setIfInBounds_ne (by omega), Array.getElem?_setIfInBounds_self_of_lt (by omega)]
      · rw [Array.getElem?_setIfInBounds_ne (by omega), Array.getElem?_setIfInBounds_self_of_lt (by simp; omega)]
      · rw [Array.getElem?_setIfInBounds_self_of_lt (by simp; omega)]; rfl
  · simp at hj
    by_cases e : j < L'.length
    · rw [List.getElem_append_left e]; exact h2 j e hj2
    · have e2 : j = L'.length := by omega
      subst e2
      simp [hx, hy, hl]
  · have ho : ∀ {p' : Option Addr} {l' : List Int}, OwnS w (g + 1) p' l' → OwnS (((w.setCell ⟨g, L'.length * 3, none⟩ (.int .i64 x)).setCell ⟨g, L'.length * 3 + 1, none⟩ (.int .i64 y)).setCell ⟨g, L'.length * 3 + 2, none⟩ (.slice (some ⟨gq, 0, none⟩) l.length l.length)) (g + 1) p' l' := fun h hl => by
      obtain ⟨g', e, hg, hr⟩ := h hl
      exact ⟨g', e, hg, ((hr.off (by omega) _ _).off (by omega) _ _).off (by omega) _ _⟩
    simp at hj
    by_cases e : j < L'.length
    · rw [List.getElem_append_left e]; exact ho (h3 j e)
    · have e2 : j = L'.length := by omega
      subst e2
      have e3 : (L' ++ [(⟨x, y, ⟨some ⟨gq, 0, none⟩, l, l.length⟩⟩ : Flx)])[L'.length]'(by simp) = ⟨x, y, ⟨some ⟨gq, 0, none⟩, l, l.length⟩⟩ := by simp
      rw [e3]
      exact ho (OwnS.of_row hq (by omega))
  · simp at hj
    by_cases e : j < L'.length
    · rw [List.getElem_append_left e]; exact h4 j e
    · have e2 : j = L'.length := by omega
      subst e2
      have e3 : (L' ++ [(⟨x, y, ⟨some ⟨gq, 0, none⟩, l, l.length⟩⟩ : Flx)])[L'.length]'(by simp) = ⟨x, y, ⟨some ⟨gq, 0, none⟩, l, l.length⟩⟩ := by simp
      rw [e3]
      exact fun h => by cases h
  · simp at hi hj
    have hi2 : i < L'.length := by omega
    rw [List.getElem_append_left hi2] at hg'
    by_cases e : j < L'.length
    · rw [List.getElem_append_left e]; exact h5 i j hi2 e hij g' hg'
    · have e2 : j = L'.length := by omega
      subst e2
      have e3 : (L' ++ [(⟨x, y, ⟨some ⟨gq, 0, none⟩, l, l.length⟩⟩ : Flx)])[L'.length]'(by simp) = ⟨x, y, ⟨some ⟨gq, 0, none⟩, l, l.length⟩⟩ := by simp
      rw [e3]
      have hlt := hfr i hi2 g' hg'
      intro h
      unfold ownOf at h
      split at h
      · cases h
      · simp at h; omega
set_option maxHeartbeats 4000000 in
set_option maxRecDepth 20000 in
theorem laws_toSpanS (p : Option Addr) (L : List Flx) (cap : Nat) (w : World) (hI : SpansAt w p L) (hl : L.length ≤ 1048576) (hg : ∀ s ∈ L, s.g.l.length ≤ 1048576) :
    Calls Try.prog 77 #[.slice p L.length cap] w fun e w' => e = .returned (.slice (some ⟨w.heap.size, 0, none⟩) L.length L.length) ∧ (∃ L' : List Flx, L'.length = L.length ∧ SpRow w' w.heap.size L.length L L') ∧ Below w.heap.size w w' := by
  have hmk := make_spans L.length hl
  have R0 : SpRow (w.alloc (.cells (madeCells #[.int .i64 0, .int .i64 0, .slice none 0 0] (L.length * 3)) 36)) w.heap.size L.length L [] :=
    ⟨⟨_, Blk.new _ _ _, size_madeCells _ _, fun j h => by simp at h⟩, fun j h => by simp at h, fun j h => by simp at h, fun j h => by simp at h, fun i j h => by simp at h⟩
  have W0 := (Below.refl w.heap.size w).alloc (Nat.le_refl _) (.cells (madeCells #[.int .i64 0, .int .i64 0, .slice none 0 0] (L.length * 3)) 36)
  have z0 : w.heap.size < (w.alloc (.cells (madeCells #[.int .i64 0, .int .i64 0, .slice none 0 0] (L.length * 3)) 36)).heap.size := by simp
  go_enter Try.func77, Try.ntmps77
  go_wp2_with fail
  generalize w.alloc (.cells (madeCells #[.int .i64 0, .int .i64 0, .slice none 0 0] (L.length * 3)) 36) = w0 at R0 W0 z0 ⊢
  obtain ⟨g, eg⟩ : ∃ g, w.heap.size = g := ⟨_, rfl⟩
  rw [eg] at R0 z0 ⊢
  go_loopw [4] (fun i wr => ∃ (k : Nat) (L' : List Flx), k ≤ L.length ∧ i = .int .i64 k ∧ L'.length = k ∧ SpRow wr g L.length L L' ∧ Below w.heap.size w wr) (fun i _ => L.length - (intOf i).toNat)
  case atStart => exact ⟨0, [], Nat.zero_le _, rfl, rfl, R0, W0⟩
  case round =>
    obtain ⟨k, L', hk, rfl, hk', hR, hbel⟩ := hrel
    by_cases hlt : k < L.length
    · obtain ⟨a, rfl, hab, c0, c1, c2, hIk⟩ := hI.at_ hlt
      have hab' : (a.add (k * 3)).block < w.heap.size := by rw [Go.ChangeShapes.block_add]; exact hab
      have d0 := (hbel.cell (p := a.add (k * 3)) hab').trans c0
      have d1 := (hbel.cell (p := ⟨(a.add (k * 3)).block, (a.add (k * 3)).off + 1, none⟩) hab').trans c1
      have d2 := (hbel.cell (p := ⟨(a.add (k * 3)).block, (a.add (k * 3)).off + 2, none⟩) hab').trans c2
      have hgl := hg _ (List.getElem_mem hlt)
      have hIk2 := hIk.below hbel
      obtain ⟨⟨x, y, ⟨pg, lg, cg⟩⟩, es⟩ : ∃ s, L[k] = s := ⟨_, rfl⟩
      rw [es] at d0 d1 d2 hgl hIk2
      simp only [Num.val] at d0 d1 d2 hgl hIk2
      have HES := Lib.hid es
      clear es c0 c1 c2 hIk
      go_wp2_with fail
      refine (laws_toSpan x y pg lg cg _ hIk2 hgl).mono ?_
      rintro e w1 ⟨gq, rfl, hgq, hrq, hb1⟩
      have hR1 := hR.keep hb1
      have hfr : ∀ j (h : j < L'.length) (g' : Nat), ownOf L'[j].g.p L'[j].g.l = some g' → g' < gq := fun j h g' hg' => Nat.lt_of_lt_of_le (ownOf_at (hR.own j h) hg').2 hgq
      obtain ⟨cs, hB, hs, -⟩ := hR1.blk
      have hB' := hB
      have hbel1 := below_st hbel hb1 (Nat.le_refl _)
      have i0 : k * 3 < cs.size := by omega
      have i1 : k * 3 + 1 < cs.size := by omega
      have i2 : k * 3 + 2 < cs.size := by omega
      have e0 : w1.cell? ⟨g, k * 3, none⟩ = some cs[k * 3] := by rw [hB.cell]; exact Array.getElem?_eq_getElem i0
      have e1 : w1.cell? ⟨g, k * 3 + 1, none⟩ = some cs[k * 3 + 1] := by rw [hB.cell]; exact Array.getElem?_eq_getElem i1
      have e2 : w1.cell? ⟨g, k * 3 + 2, none⟩ = some cs[k * 3 + 2] := by rw [hB.cell]; exact Array.getElem?_eq_getElem i2
      have ef := hB.frozen
      have el := hB.lt
      have hgg : g < gq := by have := hR.blk.choose_spec.1.lt; omega
      generalize cs[k * 3] = v0 at e0
      generalize cs[k * 3 + 1] = v1 at e1
      generalize cs[k * 3 + 2] = v2 at e2
      have hP := hR1.push (x := x) (y := y) (gq := gq) (l := lg) (by omega) (by omega) (by simp only [hk']; rw [HES.out]) (by simp only [hk']; rw [HES.out]) (by simp only [hk']; rw [HES.out]) hrq hgg hfr
      rw [hk'] at hP
      go_wp2_with fail
      exact ⟨⟨k + 1, _, by omega, by go_num, by simp [hk'], hP, ((hbel1.setCell (p := ⟨g, k * 3, none⟩) (by show w.heap.size ≤ g; omega) _).setCell (p := ⟨g, k * 3 + 1, none⟩) (by show w.heap.size ≤ g; omega) _).setCell (p := ⟨g, k * 3 + 2, none⟩) (by show w.heap.size ≤ g; omega) _⟩, by simp [intOf]; omega⟩
    · subst eg
      go_wp2_with fail
      go_ret
      exact ⟨rfl, ⟨L', by omega, hR⟩, hbel⟩
/-- Such a row, as a slice of spans lies. -/
theorem SpRow.spans {w : World} {g n : Nat} {L L' : List Flx} (h : SpRow w g n L L') : SpansAt w (some ⟨g, 0, none⟩) L' := by
  intro hne
  obtain ⟨cs, hB, hs, hc⟩ := h.blk
  refine ⟨⟨g, 0, none⟩, rfl, hB.lt, fun i hi => ?_⟩
  obtain ⟨c0, c1, c2⟩ := hc i hi
  have ha : (⟨g, 0, none⟩ : Addr).add (i * 3) = ⟨g, i * 3, none⟩ := by unfold Addr.add; split <;> simp_all
  rw [ha]
  exact ⟨(hB.cell _).trans c0, (hB.cell _).trans c1, (hB.cell _).trans c2, (h.own i hi).ints⟩
/-- Spans that read alike. -/
def SameS (L L' : List Flx) : Prop := L'.length = L.length ∧ ∀ j (h : j < L'.length) (h2 : j < L.length), L'[j].cell = L[j].cell ∧ L'[j].first = L[j].first ∧ L'[j].g.l = L[j].g.l
theorem SpansAt.below {w w' : World} {p : Option Addr} {L : List Flx} (h : SpansAt w p L) (hb : Below w.heap.size w w') : SpansAt w' p L := by
  intro hne
  obtain ⟨a, ha, hab, hc⟩ := h hne
  refine ⟨a, ha, Nat.lt_of_lt_of_le hab hb.size, fun i hi => ?_⟩
  obtain ⟨c0, c1, c2, hI⟩ := hc i hi
  have hab' : (a.add (i * 3)).block < w.heap.size := by rw [Go.ChangeShapes.block_add]; exact hab
  exact ⟨(hb.cell (p := a.add (i * 3)) hab').trans c0, (hb.cell (p := ⟨(a.add (i * 3)).block, (a.add (i * 3)).off + 1, none⟩) hab').trans c1, (hb.cell (p := ⟨(a.add (i * 3)).block, (a.add (i * 3)).off + 2, none⟩) hab').trans c2, hI.below hb⟩
set_option maxHeartbeats 4000000 in
set_option maxRecDepth 20000 in
theorem laws_eqSpanS_same (p q : Option Addr) (L M : List Flx) (cap dap : Nat) (w : World) (hI : SpansAt w p L) (hJ : SpansAt w q M) (hs : SameS L M) (hl : L.length ≤ 1048576) (hg : ∀ s ∈ L, s.g.l.length ≤ 1048576) :
    Calls Try.prog 78 #[.slice p L.length cap, .slice q M.length dap] w fun e w' => e = .returned (.bool true) ∧ Below w.heap.size w w' := by
  have hlen := hs.1
  have HS := Lib.hid hs.2
  have hne : ((L.length : Int) != (M.length : Int)) = false := by rw [hlen]; simp
  rw [hlen]
  clear hs hne
  go_enter Try.func78, Try.ntmps78
  go_wp2_with fail
  go_loopw [5] (fun i wr => ∃ k : Nat, k ≤ L.length ∧ i = .int .i64 k ∧ Below w.heap.size w wr) (fun i _ => L.length - (intOf i).toNat)
  case atStart => exact ⟨0, Nat.zero_le _, rfl, Below.refl _ _⟩
  case round =>
    obtain ⟨k, hk, rfl, hbel⟩ := hrel
    by_cases hlt : k < L.length
    · obtain ⟨a, rfl, hab, c0, c1, c2, hIk⟩ := (hI.below hbel).at_ hlt
      obtain ⟨b, rfl, hbb, d0, d1, d2, hJk⟩ := (hJ.below hbel).at_ (k := k) (by omega)
      obtain ⟨s0, s1, s2⟩ := HS.out k (by omega) hlt
      have hgl := hg _ (List.getElem_mem hlt)
      obtain ⟨⟨x, y, ⟨pg, lg, cg⟩⟩, es⟩ : ∃ s, L[k] = s := ⟨_, rfl⟩
      obtain ⟨⟨x', y', ⟨pg', lg', cg'⟩⟩, es'⟩ : ∃ s, M[k]'(by omega) = s := ⟨_, rfl⟩
      rw [es] at c0 c1 c2 hIk hgl s0 s1 s2
      rw [es'] at d0 d1 d2 hJk s0 s1 s2
      simp only [Num.val] at c0 c1 c2 hIk hgl s0 s1 s2 d0 d1 d2 hJk
      subst s0
      subst s1
      subst s2
      clear es es'
      go_wp2_with fail
      go_region_with (go_at_call 24; refine (laws_eqSpan_same _ _ _ _ _ _ _ _ (by exact hIk) (by exact hJk) (by omega)).mono ?_; rintro e w1 ⟨rfl, hb1⟩)
      all_goals
        have hbel1 := below_st hbel.drew hb1 (Nat.le_refl _)
        go_wp2_with fail
        go_roundw
        case rel => exact ⟨k + 1, by omega, by go_num, hbel1⟩
        case measure => simp [intOf]; omega
    · go_wp2_with fail
      go_ret
      exact ⟨rfl, hbel⟩
end Go.Proofs.Ytfdcainjppljhaa
