/- FluxText, the program's and the model's. -/
import Derived.Test.YtfdcainjppljhaaDoorTxIW
namespace Go.Proofs.YtfdcainjppljhaaDoor
open Go.RowKit Go.Sort
set_option linter.unusedVariables false
/-- The text of flux; none if it is not valid. -/
def txtV (c f : Int) (l : List Int) : ByteArray := if fluxOk c f l then ⟨(txtL c f l).toArray⟩ else ⟨#[]⟩
theorem txt_join {c f : Int} {l : List Int} (h : fluxOk c f l = true) :
    (⟨(decS c).toArray⟩ : ByteArray) ++ ⟨#[32]⟩ ++ ⟨(decS f).toArray⟩ ++ ⟨#[32]⟩ ++ ⟨(Lib.join ((l.map itoB).map (·.data.toList)) [32]).toArray⟩ = ⟨(txtL c f l).toArray⟩ := by
  obtain ⟨-, hl, hm, -⟩ := fluxOk_bd h
  have hne : l ≠ [] := by intro e; rw [e] at hl; simp at hl
  unfold txtL
  rw [← join_flat l hne (fun x hx => by have := hm x hx; omega)]
  apply ByteArray.ext
  simp
set_option maxHeartbeats 2000000 in
set_option maxRecDepth 20000 in
theorem spec_FluxText (c f : Int) (p : Option Addr) (l : List Int) (cap : Nat) (w : World) (hI : IntsAt w p l) (hl : l.length ≤ 1048576) :
    Calls Tryd.prog 6 #[.agg #[.int .i64 c, .int .i64 f, .slice p l.length cap]] w fun e w' => e = .returned (.string (txtV c f l)) ∧ Below w.heap.size w w' := by
  have B0 := Blk.new w 27 #[.int .i64 c, .int .i64 f, .slice p l.length cap]
  have W0 : Below w.heap.size w (w.alloc (.cells #[.int .i64 c, .int .i64 f, .slice p l.length cap] 27)) := (Below.refl _ _).alloc (Nat.le_refl _) _
  go_enter Tryd.func6, Tryd.ntmps6
  go_wp2_with fail
  refine (spec_l02Ok c f p l cap _ _ (hI.below W0) hl B0).mono ?_
  rintro e w1 ⟨rfl, hb1⟩
  have W1 := below_st W0 hb1 (Nat.le_refl _)
  have B1 := B0.keep hb1
  cases hok : fluxOk c f l
  · have hv : txtV c f l = ⟨#[]⟩ := by unfold txtV; rw [hok]; rfl
    have HV := Lib.hid hv
    clear hok hv
    go_wp2_with fail
    go_ret
    exact ⟨by rw [HV.out]; rfl, W1⟩
  · have hv : txtV c f l = ⟨(txtL c f l).toArray⟩ := by unfold txtV; rw [hok]; rfl
    have HV := Lib.hid hv
    obtain ⟨hc, hl4, hm, -, hf, -⟩ := fluxOk_bd hok
    clear hv
    go_wp2_with fail
    refine (spec_l02Text c f p l cap _ _ (hI.below W1) (by omega) (by omega) (by omega) hm B1).mono ?_
    rintro e w2 ⟨rfl, hb2⟩
    go_wp2_with fail
    go_ret
    exact ⟨by rw [HV.out]; rfl, below_st W1 hb2 (Nat.le_refl _)⟩
set_option maxHeartbeats 4000000 in
set_option maxRecDepth 20000 in
theorem impl_FluxText (c f : Int) (p : Option Addr) (l : List Int) (cap : Nat) (w : World) (hI : IntsAt w p l) (hl : l.length ≤ 1048576) (hT : Tab w) :
    Calls Tryd.prog 8 #[.agg #[.int .i64 c, .int .i64 f, .slice p l.length cap]] w fun e w' => e = .returned (.string (txtV c f l)) ∧ Below w.heap.size w w' := by
  have B0 := Blk.new w 27 #[.int .i64 c, .int .i64 f, .slice p l.length cap]
  have W0 : Below w.heap.size w (w.alloc (.cells #[.int .i64 c, .int .i64 f, .slice p l.length cap] 27)) := (Below.refl _ _).alloc (Nat.le_refl _) _
  obtain ⟨c0, c1, c2⟩ := B0.cell3
  go_enter Tryd.func8, Tryd.ntmps8
  go_wp2_with fail
  clear c0 c1 c2
  obtain ⟨g, eg⟩ : ∃ g, w.heap.size = g := ⟨_, rfl⟩
  have hI0 := hI.below W0
  have hT0 := hT.below W0
  generalize w.alloc (.cells #[.int .i64 c, .int .i64 f, .slice p l.length cap] 27) = w0 at B0 W0 hI0 hT0 ⊢
  rw [eg] at B0 W0 ⊢
  refine (impl_ValidFlux c f p l cap _ hI0 hl).mono ?_
  rintro e w1 ⟨rfl, hb1⟩
  have hg0 := B0.lt
  have W1 := below_st W0 hb1 (by omega)
  have B1 := B0.keep hb1
  have hI1 := hI0.below hb1
  have hT1 := hT0.below hb1
  clear B0 W0 hI0 hT0 hb1 hg0 hI hT
  cases hok : fluxOk c f l
  · have hv : txtV c f l = ⟨#[]⟩ := by unfold txtV; rw [hok]; rfl
    have HV := Lib.hid hv
    clear hok hv
    go_wp2_with fail
    go_ret
    exact ⟨by rw [HV.out]; rfl, by rw [eg]; exact W1⟩
  · have hv : txtV c f l = ⟨(txtL c f l).toArray⟩ := by unfold txtV; rw [hok]; rfl
    have HV := Lib.hid hv
    have htj := txt_join hok
    obtain ⟨hc, hl4, hm, -, hf, -⟩ := fluxOk_bd hok
    have hlc := decS_len (x := c) (by omega)
    have hlf := decS_len (x := f) (by omega)
    have hjl : (Lib.join ((l.map itoB).map (·.data.toList)) [32]).length ≤ 100000 := by
      have hne : l ≠ [] := by intro e; rw [e] at hl4; simp at hl4
      have e := join_flat l hne (fun x hx => by have := hm x hx; omega)
      have e2 := flat_len l (fun x hx => by have := hm x hx; omega)
      rw [← e, List.length_cons] at e2
      omega
    have CA := fun w h => impl_decimal c (by omega) (by omega) w h
    have CB := fun w h => impl_decimal f (by omega) (by omega) w h
    have CJ := fun w h1 h2 => impl_joinNumbers p l cap w h1 hl4 hm h2
    rw [itoa_dec (by omega)] at CA CB
    obtain ⟨DC, eDC⟩ : ∃ D : ByteArray, (⟨(decS c).toArray⟩ : ByteArray) = D := ⟨_, rfl⟩
    obtain ⟨DF, eDF⟩ : ∃ D : ByteArray, (⟨(decS f).toArray⟩ : ByteArray) = D := ⟨_, rfl⟩
    obtain ⟨DJ, eDJ⟩ : ∃ D : ByteArray, (⟨(Lib.join ((l.map itoB).map (·.data.toList)) [32]).toArray⟩ : ByteArray) = D := ⟨_, rfl⟩
    have sc : DC.size ≤ 20 := by rw [← eDC]; simpa [ByteArray.size] using hlc
    have sf : DF.size ≤ 20 := by rw [← eDF]; simpa [ByteArray.size] using hlf
    have sj : DJ.size ≤ 100000 := by rw [← eDJ]; simpa [ByteArray.size] using hjl
    rw [eDC] at CA htj
    rw [eDF] at CB htj
    rw [eDJ] at CJ htj
    have HTJ := Lib.hid htj
    have hs1 : ¬ (9223372036854775807 < DC.size + 1) := by omega
    have hs2 : ¬ (9223372036854775807 < DC.size + 1 + DF.size) := by omega
    have hs3 : ¬ (9223372036854775807 < DC.size + 1 + DF.size + 1) := by omega
    have hs4 : ¬ (9223372036854775807 < DC.size + 1 + DF.size + 1 + DJ.size) := by omega
    clear htj eDC eDF eDJ hok hv hlc hlf hjl
    have KS : ∀ w' w'' : World, ((w'.cell? ⟨g, 0, none⟩ = some (.int .i64 c) ∧ w'.cell? ⟨g, 1, none⟩ = some (.int .i64 f) ∧ w'.cell? ⟨g, 2, none⟩ = some (.slice p l.length cap)) ∧ Blk w' g 27 #[.int .i64 c, .int .i64 f, .slice p l.length cap] ∧ IntsAt w' p l ∧ Tab w' ∧ Below g w w') → Below w'.heap.size w' w'' → ((w''.cell? ⟨g, 0, none⟩ = some (.int .i64 c) ∧ w''.cell? ⟨g, 1, none⟩ = some (.int .i64 f) ∧ w''.cell? ⟨g, 2, none⟩ = some (.slice p l.length cap)) ∧ Blk w'' g 27 #[.int .i64 c, .int .i64 f, .slice p l.length cap] ∧ IntsAt w'' p l ∧ Tab w'' ∧ Below g w w'') :=
      fun w' w'' h hb => ⟨(h.2.1.keep hb).cell3, h.2.1.keep hb, h.2.2.1.below hb, h.2.2.2.1.below hb, below_st h.2.2.2.2 hb (Nat.le_of_eq eg.symm)⟩
    have S0 : ((w1.drew.cell? ⟨g, 0, none⟩ = some (.int .i64 c) ∧ w1.drew.cell? ⟨g, 1, none⟩ = some (.int .i64 f) ∧ w1.drew.cell? ⟨g, 2, none⟩ = some (.slice p l.length cap)) ∧ Blk w1.drew g 27 #[.int .i64 c, .int .i64 f, .slice p l.length cap] ∧ IntsAt w1.drew p l ∧ Tab w1.drew ∧ Below g w w1.drew) := KS w1 w1.drew ⟨B1.cell3, B1, hI1, hT1, W1⟩ ((Below.refl _ _).drew)
    clear B1 hI1 hT1 W1
    go_wp2_with fail
    go_region_held3 (fun w' => (w'.cell? ⟨g, 0, none⟩ = some (.int .i64 c) ∧ w'.cell? ⟨g, 1, none⟩ = some (.int .i64 f) ∧ w'.cell? ⟨g, 2, none⟩ = some (.slice p l.length cap)) ∧ Blk w' g 27 #[.int .i64 c, .int .i64 f, .slice p l.length cap] ∧ IntsAt w' p l ∧ Tab w' ∧ Below g w w')
      (first | with_reducible exact S0 | with_reducible exact S1 | with_reducible exact S2 | with_reducible exact S3 | go_keep)
      (first | (go_at_call 19; (with_reducible refine (CA _ S0.2.2.2.1).mono ?_); rintro e y1 ⟨rfl, hb1⟩; have S1 := KS _ _ S0 hb1) | (go_at_call 19; (with_reducible refine (CB _ S1.2.2.2.1).mono ?_); rintro e y2 ⟨rfl, hb2⟩; have S2 := KS _ _ S1 hb2) | (go_at_call 20; (with_reducible refine (CJ _ S2.2.2.1 S2.2.2.2.1).mono ?_); rintro e y3 ⟨rfl, hb3⟩; have S3 := KS _ _ S2 hb3))
    all_goals
      go_wp2_with fail
      go_ret
      exact ⟨by rw [HV.out, ← HTJ.out]; rfl, by rw [eg]; exact S3.2.2.2.2⟩
end Go.Proofs.YtfdcainjppljhaaDoor
