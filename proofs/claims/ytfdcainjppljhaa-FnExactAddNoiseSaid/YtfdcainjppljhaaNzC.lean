/- The copies of noise: what a copy is, and the functions at a copy. -/
import Derived.Test.YtfdcainjppljhaaNzW
import Derived.Test.YtfdcainjppljhaaVnW
namespace Go.Proofs.Ytfdcainjppljhaa
open Go.RowKit
set_option linter.unusedVariables false
theorem lensL_mem {L : List Flx} {s : Flx} (h : s ∈ L) : s.g.l.length ≤ lensL L := by
  unfold lensL
  induction L with
  | nil => simp at h
  | cons x L ih =>
    simp only [List.map_cons, List.sum_cons]
    rcases List.mem_cons.1 h with rfl | h
    · omega
    · have := ih h; omega
/-- A copy of noise: rows of the call's own. -/
structure NzC (w : World) (base g1 g2 g3 : Nat) (j e : List Int) (L L' : List Flx) : Prop where
  len : L'.length = L.length
  b1 : base ≤ g1
  b2 : g1 < g2
  b3 : g2 < g3
  r1 : RowI w g1 j
  r2 : RowI w g2 e
  r3 : SpRow w g3 L.length L L'
theorem NzC.below {w w' : World} {base g1 g2 g3 : Nat} {j e : List Int} {L L' : List Flx} (h : NzC w base g1 g2 g3 j e L L') (hb : Below w.heap.size w w') : NzC w' base g1 g2 g3 j e L L' :=
  ⟨h.len, h.b1, h.b2, h.b3, h.r1.below hb, h.r2.below hb, h.r3.keep hb⟩
theorem NzC.same {w : World} {base g1 g2 g3 : Nat} {j e : List Int} {L L' : List Flx} (h : NzC w base g1 g2 g3 j e L L') : SameS L L' := ⟨h.len, h.r3.same⟩
theorem SameS.mid {L A B : List Flx} (h : SameS L A) (k : SameS L B) : SameS A B := by
  refine ⟨by rw [k.1, h.1], fun i hi hi2 => ?_⟩
  have h1 := h.2 i hi2 (by rw [← h.1]; exact hi2)
  have h2 := k.2 i hi (by rw [← h.1]; exact hi2)
  exact ⟨h2.1.trans h1.1.symm, h2.2.1.trans h1.2.1.symm, h2.2.2.trans h1.2.2.symm⟩
theorem SameS.lens {L A : List Flx} (h : SameS L A) {n : Nat} (hg : ∀ s ∈ L, s.g.l.length ≤ n) : ∀ s ∈ A, s.g.l.length ≤ n := by
  intro s hs
  obtain ⟨i, hi, rfl⟩ := List.getElem_of_mem hs
  have hi2 : i < L.length := by rw [← h.1]; exact hi
  rw [(h.2 i hi hi2).2.2]
  exact hg _ (List.getElem_mem hi2)
theorem spsG_same {L A : List Flx} (h : SameS L A) {i : Nat} (hi : i < A.length) : spsG A i = spsG L i := by
  have hi2 : i < L.length := by rw [← h.1]; exact hi
  unfold spsG
  have e1 := h.2 i hi hi2
  rcases Nat.eq_zero_or_pos i with e | e
  · subst e
    rw [getD_flx hi, getD_flx hi2]
    unfold spanB
    rw [e1.1, e1.2.1, e1.2.2]
  · have e2 := h.2 (i - 1) (by omega) (by omega)
    rw [getD_flx hi, getD_flx hi2, getD_flx (show i - 1 < A.length by omega), getD_flx (show i - 1 < L.length by omega)]
    unfold spanB
    rw [e1.1, e1.2.1, e1.2.2, e2.2.1]
theorem spsB_same {L A : List Flx} (h : SameS L A) : spsB A = spsB L := by
  unfold spsB
  rw [h.1]
  have : ∀ m, m ∈ List.range L.length → spsG A m = spsG L m := fun m hm => spsG_same h (by rw [h.1]; exact List.mem_range.1 hm)
  have key : ∀ (R : List Nat), (∀ m ∈ R, spsG A m = spsG L m) → R.all (spsG A) = R.all (spsG L) := by
    intro R hR
    induction R with
    | nil => rfl
    | cons x R ih => simp only [List.all_cons]; rw [hR x (by simp), ih (fun m hm => hR m (by simp [hm]))]
  exact key _ this
theorem nzB_same {L A : List Flx} (h : SameS L A) (d : Int) (j e : List Int) : nzB d j e A = nzB d j e L := by
  unfold nzB
  rw [spsB_same h, h.1]
section
variable (d : Int) (base g1 g2 g3 : Nat) (j e : List Int) (L L' : List Flx) (w : World)
theorem impl_ValidNoiseC (h : NzC w base g1 g2 g3 j e L L') (hj : j.length ≤ 1048576) (he : e.length ≤ 1048576) (hl : L.length ≤ 1048576) (hg : ∀ s ∈ L, s.g.l.length ≤ 1048576) :
    Calls Try.prog 64 #[.agg #[.int .i64 d, .slice (some ⟨g1, 0, none⟩) j.length j.length, .slice (some ⟨g2, 0, none⟩) e.length e.length, .slice (some ⟨g3, 0, none⟩) L.length L.length]] w fun e' w' => e' = .returned (.bool (nzB d j e L)) ∧ Below w.heap.size w w' := by
  have c := impl_ValidNoise d (some ⟨g1, 0, none⟩) (some ⟨g2, 0, none⟩) (some ⟨g3, 0, none⟩) j e L' j.length e.length L.length w h.r1.ints h.r2.ints h.r3.spans hj he (by rw [h.len]; exact hl) (h.same.lens hg)
  rw [h.len, nzB_same h.same] at c
  exact c
theorem laws_eqNoiseC (k1 k2 k3 : Nat) (base' : Nat) (M : List Flx) (h : NzC w base g1 g2 g3 j e L L') (k : NzC w base' k1 k2 k3 j e L M) (hj : j.length ≤ 1048576) (he : e.length ≤ 1048576) (hl : L.length ≤ 1048576) (hg : ∀ s ∈ L, s.g.l.length ≤ 1048576) :
    Calls Try.prog 37 #[.agg #[.int .i64 d, .slice (some ⟨g1, 0, none⟩) j.length j.length, .slice (some ⟨g2, 0, none⟩) e.length e.length, .slice (some ⟨g3, 0, none⟩) L.length L.length], .agg #[.int .i64 d, .slice (some ⟨k1, 0, none⟩) j.length j.length, .slice (some ⟨k2, 0, none⟩) e.length e.length, .slice (some ⟨k3, 0, none⟩) L.length L.length]] w fun e' w' => e' = .returned (.bool true) ∧ Below w.heap.size w w' := by
  have c := laws_eqNoise_same d (some ⟨g1, 0, none⟩) (some ⟨g2, 0, none⟩) (some ⟨g3, 0, none⟩) (some ⟨k1, 0, none⟩) (some ⟨k2, 0, none⟩) (some ⟨k3, 0, none⟩) j e L' M j.length e.length L.length j.length e.length L.length w h.r1.ints h.r2.ints h.r3.spans k.r1.ints k.r2.ints k.r3.spans (h.same.mid k.same) (by omega) (by omega) (by rw [h.len]; exact hl) (h.same.lens hg)
  rw [h.len, k.len] at c
  exact c
end
theorem laws_toNoiseC (d : Int) (pj pd ps : Option Addr) (j e : List Int) (L : List Flx) (cj cd cs : Nat) (w : World) (h1 : IntsAt w pj j) (h2 : IntsAt w pd e) (h3 : SpansAt w ps L) (hj : j.length ≤ 1048576) (he : e.length ≤ 1048576) (hl : L.length ≤ 1048576) (hg : ∀ s ∈ L, s.g.l.length ≤ 1048576) :
    Calls Try.prog 36 #[.agg #[.int .i64 d, .slice pj j.length cj, .slice pd e.length cd, .slice ps L.length cs]] w fun e' w' => ∃ (g1 g2 g3 : Nat) (L' : List Flx), e' = .returned (.agg #[.int .i64 d, .slice (some ⟨g1, 0, none⟩) j.length j.length, .slice (some ⟨g2, 0, none⟩) e.length e.length, .slice (some ⟨g3, 0, none⟩) L.length L.length]) ∧ NzC w' w.heap.size g1 g2 g3 j e L L' ∧ Below w.heap.size w w' :=
  (laws_toNoise d pj pd ps j e L cj cd cs w h1 h2 h3 hj he hl hg).mono fun e' w' ⟨g1, g2, g3, L', he', hL, b1, b2, b3, r1, r2, r3, hb⟩ => ⟨g1, g2, g3, L', he', ⟨hL, b1, b2, b3, r1, r2, r3⟩, hb⟩
end Go.Proofs.Ytfdcainjppljhaa
