/- Noise is marked: every word of a copy is written over. -/
import Derived.Test.YtfdcainjppljhaaNzC
import Derived.Test.YtfdcainjppljhaaMarksW
import Derived.Test.YtfdcainjppljhaaMakeW
namespace Go.Proofs.Ytfdcainjppljhaa
open Go.RowKit
set_option linter.unusedVariables false
/-- What lies outside of the blocks lo .. hi stays as it was. -/
structure AsideR (lo hi : Nat) (w w' : World) : Prop where
  os : w'.os = w.os
  tape : w'.tape = w.tape
  output : w'.output = w.output
  size : w.heap.size ≤ w'.heap.size
  block : ∀ k, k < w.heap.size → (k < lo ∨ hi ≤ k) → w'.heap[k]? = w.heap[k]?
theorem AsideR.refl (lo hi : Nat) (w : World) : AsideR lo hi w w := ⟨rfl, rfl, rfl, Nat.le_refl _, fun _ _ _ => rfl⟩
theorem AsideR.trans {lo hi : Nat} {a b c : World} (h : AsideR lo hi a b) (k : AsideR lo hi b c) : AsideR lo hi a c :=
  ⟨k.os.trans h.os, k.tape.trans h.tape, k.output.trans h.output, Nat.le_trans h.size k.size, fun i hi ho => (k.block i (Nat.lt_of_lt_of_le hi h.size) ho).trans (h.block i hi ho)⟩
theorem AsideR.of_aside {lo hi : Nat} {o : Option Nat} {w w' : World} (h : Aside o w w') (ho : ∀ g, o = some g → lo ≤ g ∧ g < hi) : AsideR lo hi w w' :=
  ⟨h.os, h.tape, h.output, h.size, fun k hk hko => h.block k hk (fun e => by have := ho k e; omega)⟩
theorem AsideR.of_below {lo hi : Nat} {w w' : World} (h : Below w.heap.size w w') : AsideR lo hi w w' := of_aside (o := none) (Aside.of_below h) (fun g e => by cases e)
theorem AsideR.setCell {lo hi : Nat} (w : World) (g i : Nat) (v : Value) (h1 : lo ≤ g) (h2 : g < hi) : AsideR lo hi w (w.setCell ⟨g, i, none⟩ v) := of_aside (Aside.setCell g i v) (fun g' e => by injection e with e; omega)
theorem AsideR.mono {lo hi lo' hi' : Nat} {w w' : World} (h : AsideR lo hi w w') (h1 : lo' ≤ lo) (h2 : hi ≤ hi') : AsideR lo' hi' w w' :=
  ⟨h.os, h.tape, h.output, h.size, fun k hk ho => h.block k hk (by omega)⟩
theorem AsideR.below {lo hi : Nat} {w w' : World} (h : AsideR lo hi w w') {B : Nat} (hB : B ≤ w.heap.size) (ho : B ≤ lo) : Below B w w' :=
  ⟨h.os, h.tape, h.output, h.size, fun k hk => h.block k (by omega) (.inl (by omega))⟩
theorem Blk.asideR {lo hi : Nat} {w w' : World} {b : Nat} {t : TypeId} {cs : Array Value} (h : Blk w b t cs) (ha : AsideR lo hi w w') (hb : b < lo ∨ hi ≤ b) : Blk w' b t cs := (ha.block b h.lt hb).trans h
theorem RowI.asideR {lo hi : Nat} {w w' : World} {g : Nat} {l : List Int} (h : RowI w g l) (ha : AsideR lo hi w w') (hb : g < lo ∨ hi ≤ g) : RowI w' g l := by
  refine ⟨Nat.lt_of_lt_of_le h.1 ha.size, fun i hi' => ?_⟩
  have e := ha.block g h.1 hb
  obtain ⟨h1, h2⟩ := h.2 i hi'
  refine ⟨?_, ?_⟩
  · unfold World.cell? at h1 ⊢
    simp only at h1 ⊢
    rw [e]; exact h1
  · unfold World.frozen? at h2 ⊢
    simp only at h2 ⊢
    rw [e]; exact h2
theorem OwnS.asideR {lo hi : Nat} {w w' : World} {base : Nat} {p : Option Addr} {l : List Int} (h : OwnS w base p l) (ha : AsideR lo hi w w') (hb : l ≠ [] → ∀ g, p = some ⟨g, 0, none⟩ → g < lo ∨ hi ≤ g) : OwnS w' base p l := fun hl => by
  obtain ⟨g, hp, hg, hr⟩ := h hl
  exact ⟨g, hp, hg, hr.asideR ha (hb hl g hp)⟩
set_option maxHeartbeats 4000000 in
set_option maxRecDepth 20000 in
theorem laws_markSpanS (L L' : List Flx) (g n top : Nat) (k : Int) (w : World) (h : SpRow w g n L L') (hn : n = L'.length) (hl : L'.length ≤ 1048576) (hgl : lensL L' ≤ 1048576) (hk : 0 ≤ k ∧ k ≤ 4000000) (htop : g < top ∧ ∀ j (hj : j < L'.length) (g' : Nat), ownOf L'[j].g.p L'[j].g.l = some g' → g < g' ∧ g' < top) :
    Calls Try.prog 79 #[.slice (some ⟨g, 0, none⟩) L'.length L'.length, .int .i64 k] w fun e w' => e = .returned (.int .i64 (k + 2 * L'.length + lensL L')) ∧ AsideR g top w w' := by
  obtain ⟨⟨cs, hB, hs, hc⟩, -, hown, -, hdis⟩ := h
  subst hn
  go_enter Try.func79, Try.ntmps79
  go_wp2_with fail
  go_loopw [1, 5] (fun s i wr => ∃ (m : Nat) (cs : Array Value), m ≤ L'.length ∧ i = .int .i64 m ∧ s = .int .i64 (k + 2 * m + lensL (L'.take m)) ∧ Blk wr g 36 cs ∧ cs.size = L'.length * 3 ∧ (∀ j (h : j < L'.length), m ≤ j → cs[j * 3 + 2]? = some L'[j].g.val) ∧ Hid (∀ j (h : j < L'.length), m ≤ j → OwnS wr (g + 1) L'[j].g.p L'[j].g.l) ∧ AsideR g top w wr) (fun _ i _ => L'.length - (intOf i).toNat)
  case atStart => exact ⟨0, cs, Nat.zero_le _, rfl, by simp [lensL], hB, hs, fun j hj _ => (hc j hj).2.2, fun j hj _ => hown j hj, AsideR.refl _ _ _⟩
  case round =>
    clear hc hs hown hB cs
    obtain ⟨m, cs, hm, rfl, rfl, hB, hs, hc, hown, ha⟩ := hrel
    by_cases hlt : m < L'.length
    · have ht := lensL_take L' hlt
      have hle := lensL_le L' (m + 1)
      have hcm := hc m hlt (Nat.le_refl _)
      have hom := hown.out m hlt (Nat.le_refl _)
      have htm := htop.2 m hlt
      have hdm := fun j (hj : j < L'.length) (hmj : m < j) => hdis m j hlt hj hmj
      have hrest := fun j (h : j < L'.length) (hmj : m + 1 ≤ j) => hown.out j h (by omega)
      obtain ⟨⟨x, y, ⟨pg, lg, cg⟩⟩, es⟩ : ∃ s, L'[m] = s := ⟨_, rfl⟩
      rw [es] at hcm hom htm ht
      simp only [Num.val] at hcm hom htm ht
      have hdm2 : ∀ j (hj : j < L'.length), m < j → ∀ g', ownOf pg lg = some g' → ownOf L'[j].g.p L'[j].g.l ≠ some g' := fun j hj hmj g' hg' => hdm j hj hmj g' (by rw [es]; exact hg')
      have HD := Lib.hid hdm2
      have HR := Lib.hid hrest
      have HT := Lib.hid htm
      obtain ⟨z, ez⟩ : ∃ z, k + 2 * (m : Int) + lensL (L'.take m) = z := ⟨_, rfl⟩
      have HZ := Lib.hid ez
      have hz : 0 ≤ z ∧ z ≤ 8000000 := by omega
      rw [ez]
      clear es hdm hdm2 hrest htm ez hown
      have i0 : m * 3 < cs.size := by omega
      have i1 : m * 3 + 1 < cs.size := by omega
      have i2 : m * 3 + 2 < cs.size := by omega
      have e0 : wr.cell? ⟨g, m * 3, none⟩ = some cs[m * 3] := by rw [hB.cell]; exact Array.getElem?_eq_getElem i0
      have e1 : wr.cell? ⟨g, m * 3 + 1, none⟩ = some cs[m * 3 + 1] := by rw [hB.cell]; exact Array.getElem?_eq_getElem i1
      have e2 : wr.cell? ⟨g, m * 3 + 2, none⟩ = some (.slice pg lg.length cg) := by rw [hB.cell]; exact hcm
      have ef := hB.frozen
      have el := hB.lt
      have hB2 := (hB.setI (m * 3) (.int .i64 z)).setI (m * 3 + 1) (.int .i64 (z + 1))
      have ho2 := (hom.offS (g' := g) (by omega) (m * 3) (.int .i64 z)).offS (g' := g) (by omega) (m * 3 + 1) (.int .i64 (z + 1))
      have hc2 : ∀ j (h : j < L'.length), m + 1 ≤ j → ((cs.setIfInBounds (m * 3) (.int .i64 z)).setIfInBounds (m * 3 + 1) (.int .i64 (z + 1)))[j * 3 + 2]? = some L'[j].g.val := fun j hj hmj => by
        rw [Array.getElem?_setIfInBounds_ne (by omega), Array.getElem?_setIfInBounds_ne (by omega)]
        exact hc j hj (by omega)
      have HC := Lib.hid hc2
      clear hc hc2 hcm
      generalize cs[m * 3] = v0 at e0
      generalize cs[m * 3 + 1] = v1 at e1
      have q1 : IntKind.i64.wrap (z + 1) = z + 1 := IntWalk.i64_in _ (by omega)
      have q2 : IntKind.i64.wrap (z + 1 + 1) = z + 1 + 1 := IntWalk.i64_in _ (by omega)
      have hlg : lg.length ≤ 9000000 := by omega
      go_wp2_with fail
      generalize ew : (wr.setCell ⟨g, m * 3, none⟩ (.int .i64 z)).setCell ⟨g, m * 3 + 1, none⟩ (.int .i64 (z + 1)) = w2 at hB2 ho2 ⊢
      refine (laws_markInt64S _ _ _ _ _ _ ho2 hlg (by omega)).mono ?_
      rintro e w3 ⟨rfl, -, ha3⟩
      have ha2 : AsideR g top wr w2 := by
        rw [← ew]
        exact (AsideR.setCell _ _ _ _ (Nat.le_refl _) htop.1).trans (AsideR.setCell _ _ _ _ (Nat.le_refl _) htop.1)
      have haR : AsideR g top w w3 := (ha.trans ha2).trans (AsideR.of_aside ha3 (fun g' hg' => by have := HT.out g' hg'; omega))
      have hB3 := hB2.asides ha3 (fun e' => by have := HT.out g e'; omega)
      have HR3 : Hid (∀ j (h : j < L'.length), m + 1 ≤ j → OwnS w3 (g + 1) L'[j].g.p L'[j].g.l) := fun j hj hmj => by
        refine OwnS.asides (w := w2) ?_ ha3 ?_
        · rw [← ew]
          exact ((HR.out j hj hmj).offS (g' := g) (by omega) (m * 3) (.int .i64 z)).offS (g' := g) (by omega) (m * 3 + 1) (.int .i64 (z + 1))
        · intro hne g' hp' he'
          exact HD.out j hj (by omega) g' he' (by unfold ownOf; rw [if_neg hne, hp']; rfl)
      clear hB2 ho2 ha2 ha3 ew e0 e1 e2 ef el
      go_wp2_with fail
      exact ⟨⟨m + 1, _, by omega, by go_num, by congr 1; have := HZ.out; omega, hB3, by simp [hs], HC.out, HR3, haR⟩, by simp [intOf]; omega⟩
    · have e : m = L'.length := by omega
      subst e
      rw [List.take_length]
      go_wp2_with fail
      go_ret
      exact ⟨rfl, ha⟩
theorem lensL_same {L A : List Flx} (h : SameS L A) : lensL A = lensL L := by
  have key : ∀ k, k ≤ L.length → lensL (A.take k) = lensL (L.take k) := by
    intro k
    induction k with
    | zero => intro _; rfl
    | succ k ih =>
      intro hk
      rw [lensL_take A (by rw [h.1]; omega), lensL_take L (by omega), ih (by omega), (h.2 k (by rw [h.1]; omega) (by omega)).2.2]
  have h1 := key L.length (Nat.le_refl _)
  rw [List.take_length, List.take_of_length_le (by rw [h.1]; exact Nat.le_refl _)] at h1
  exact h1
theorem SpRow.asides {w w' : World} {g n : Nat} {L L' : List Flx} {o : Option Nat} (h : SpRow w g n L L') (ha : Aside o w w') (ho : ∀ g', o = some g' → g' < g) : SpRow w' g n L L' := by
  obtain ⟨⟨cs, hB, hs, hc⟩, h2, h3, h4, h5⟩ := h
  refine ⟨⟨cs, hB.asides ha (fun e => by have := ho g e; omega), hs, hc⟩, h2, fun j hj hne => ?_, h4, h5⟩
  obtain ⟨g', hp, hg, hr⟩ := h3 j hj hne
  exact ⟨g', hp, hg, hr.asides ha (fun e => by have := ho g' e; omega)⟩
/-- Where the copy's rows lie. -/
theorem NzC.top {w : World} {base g1 g2 g3 : Nat} {j e : List Int} {L L' : List Flx} (h : NzC w base g1 g2 g3 j e L L') : g3 < w.heap.size ∧ ∀ i (hi : i < L'.length) (g' : Nat), ownOf L'[i].g.p L'[i].g.l = some g' → g3 < g' ∧ g' < w.heap.size := by
  obtain ⟨cs, hB, -⟩ := h.r3.blk
  exact ⟨hB.lt, fun i hi g' hg' => by have := ownOf_at (h.r3.own i hi) hg'; omega⟩
theorem ownOf_some {g : Nat} {l : List Int} {g' : Nat} (h : ownOf (some ⟨g, 0, none⟩) l = some g') : g' = g := by
  unfold ownOf at h
  split at h
  · cases h
  · simp at h; omega
set_option maxHeartbeats 4000000 in
set_option maxRecDepth 20000 in
theorem laws_markNoiseC (d : Int) (base g1 g2 g3 top : Nat) (j e : List Int) (L L' : List Flx) (k : Int) (w : World) (h : NzC w base g1 g2 g3 j e L L') (htop : g3 < top ∧ ∀ i (hi : i < L'.length) (g' : Nat), ownOf L'[i].g.p L'[i].g.l = some g' → g3 < g' ∧ g' < top)
    (hj : j.length ≤ 1048576) (he : e.length ≤ 1048576) (hl : L.length ≤ 1048576) (hs : lensL L ≤ 1048576) (hk : 0 ≤ k ∧ k ≤ 1048577) (htw : top ≤ w.heap.size) :
    Calls Try.prog 38 #[.agg #[.int .i64 d, .slice (some ⟨g1, 0, none⟩) j.length j.length, .slice (some ⟨g2, 0, none⟩) e.length e.length, .slice (some ⟨g3, 0, none⟩) L.length L.length], .int .i64 k] w fun e' w' => e' = .returned (.int .i64 (k + j.length + e.length + 2 * L.length + lensL L)) ∧ AsideR g1 top w w' := by
  obtain ⟨hlen, b1, b2, b3, r1, r2, r3⟩ := h
  have hsm : SameS L L' := ⟨hlen, r3.same⟩
  have hls := lensL_same hsm
  rw [← hlen, ← hls]
  rw [← hlen] at hl
  rw [← hls] at hs
  have hn : L.length = L'.length := hlen.symm
  rw [hn] at r3
  have B0 := Blk.new w 53 #[.int .i64 d, .slice (some ⟨g1, 0, none⟩) j.length j.length, .slice (some ⟨g2, 0, none⟩) e.length e.length, .slice (some ⟨g3, 0, none⟩) L'.length L'.length]
  have hA := (Below.refl w.heap.size w).alloc (Nat.le_refl _) (.cells #[.int .i64 d, .slice (some ⟨g1, 0, none⟩) j.length j.length, .slice (some ⟨g2, 0, none⟩) e.length e.length, .slice (some ⟨g3, 0, none⟩) L'.length L'.length] 53)
  have W0 : AsideR g1 top w (w.alloc (.cells #[.int .i64 d, .slice (some ⟨g1, 0, none⟩) j.length j.length, .slice (some ⟨g2, 0, none⟩) e.length e.length, .slice (some ⟨g3, 0, none⟩) L'.length L'.length] 53)) := AsideR.of_below hA
  replace r1 := r1.below hA
  replace r2 := r2.below hA
  replace r3 := r3.keep hA
  have HT := Lib.hid htop
  have htop1 := htop.1
  have HR : Hid (SpRow (w.alloc (.cells #[.int .i64 d, .slice (some ⟨g1, 0, none⟩) j.length j.length, .slice (some ⟨g2, 0, none⟩) e.length e.length, .slice (some ⟨g3, 0, none⟩) L'.length L'.length] 53)) g3 L'.length L L') := r3
  clear htop hlen hls hA hsm hn r3
  go_enter Try.func38, Try.ntmps38
  go_wp2_with fail
  generalize w.alloc (.cells #[.int .i64 d, .slice (some ⟨g1, 0, none⟩) j.length j.length, .slice (some ⟨g2, 0, none⟩) e.length e.length, .slice (some ⟨g3, 0, none⟩) L'.length L'.length] 53) = w0 at B0 W0 r1 r2 HR ⊢
  refine (laws_markInt64S _ _ _ _ _ _ (OwnS.of_row r1 (Nat.le_refl _)) (by omega) (by omega)).mono ?_
  rintro e' w1 ⟨rfl, -, ha1⟩
  have B1 := B0.asides ha1 (fun e' => by have := ownOf_some e'; omega)
  have r21 := r2.asides ha1 (fun e' => by have := ownOf_some e'; omega)
  have HR1 := Lib.hid (HR.out.asides ha1 (fun g' e' => by have := ownOf_some e'; omega))
  have W1 := W0.trans (AsideR.of_aside ha1 (fun g' e' => by have := ownOf_some e'; omega))
  obtain ⟨c0, c1, c2, c3⟩ := B1.cell4
  go_wp2_with fail
  refine (laws_markInt64S _ _ _ _ _ _ (OwnS.of_row r21 (Nat.le_refl _)) (by omega) (by omega)).mono ?_
  rintro e' w2 ⟨rfl, -, ha2⟩
  have B2 := B1.asides ha2 (fun e' => by have := ownOf_some e'; omega)
  have HR2 := Lib.hid (HR1.out.asides ha2 (fun g' e' => by have := ownOf_some e'; omega))
  have W2 := W1.trans (AsideR.of_aside ha2 (fun g' e' => by have := ownOf_some e'; omega))
  clear c0 c1 c2 c3
  obtain ⟨c0, c1, c2, c3⟩ := B2.cell4
  go_wp2_with fail
  refine (laws_markSpanS L L' g3 L'.length top _ _ HR2.out rfl hl hs (by omega) HT.out).mono ?_
  rintro e' w3 ⟨rfl, ha3⟩
  have W3 := W2.trans (ha3.mono (by omega) (Nat.le_refl _))
  go_wp2_with fail
  go_ret
  exact ⟨rfl, W3⟩
end Go.Proofs.Ytfdcainjppljhaa
