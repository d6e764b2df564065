/- The text of flux: spec.l02Text. -/
import Derived.Test.YtfdcainjppljhaaDoorTxDW
import Derived.Test.YtfdcainjppljhaaDoorApMW
import Derived.Test.YtfdcainjppljhaaDoorValidW
import Derived.Deep.RegionHeld3
import Derived.Deep.RegionWith
import Derived.Deep.DeepCutAuto
namespace Go.Proofs.YtfdcainjppljhaaDoor
open Go.RowKit
set_option linter.unusedVariables false
def decS (x : Int) : List UInt8 := Lib.decDigits x.toNat
def txtL (c f : Int) (l : List Int) : List UInt8 := (decS c ++ 32 :: decS f) ++ l.flatMap (fun x => 32 :: decS x)
theorem decS_len {x : Int} (h : x ≤ 1000000000) : (decS x).length ≤ 20 := by
  unfold decS
  rw [Lib.decDigits_length]
  exact Lib.nDigits_le20 _ (by omega)
theorem flat_len (l : List Int) (h : ∀ x ∈ l, x ≤ 1000000000) : (l.flatMap (fun x => 32 :: decS x)).length ≤ 21 * l.length := by
  induction l with
  | nil => simp
  | cons a l ih =>
    have h1 := decS_len (h a (by simp))
    have h2 := ih (fun x hx => h x (by simp [hx]))
    rw [List.flatMap_cons, List.length_append, List.length_cons, List.length_cons]
    omega
theorem txtL_len {c f : Int} {l : List Int} (hc : c ≤ 1000000000) (hf : f ≤ 1000000000) (h : ∀ x ∈ l, x ≤ 1000000000) : (txtL c f l).length ≤ 41 + 21 * l.length := by
  have h1 := decS_len hc
  have h2 := decS_len hf
  have h3 := flat_len l h
  unfold txtL
  rw [List.length_append, List.length_append, List.length_cons]
  omega
theorem txtL_snoc (c f : Int) {l : List Int} {k : Nat} (hk : k < l.length) : txtL c f (l.take (k + 1)) = (txtL c f (l.take k) ++ [32]) ++ decS l[k] := by
  unfold txtL
  rw [takeI_snoc hk, List.flatMap_append]
  simp
theorem spec_dec (x : Int) (h : 0 ≤ x ∧ x ≤ 1000000000) (w : World) :
    Calls Tryd.prog 29 #[.int .i64 x] w fun e w' => e = .returned (.string ⟨(decS x).toArray⟩) ∧ Below w.heap.size w w' := by
  have c := spec_l01Dec x.toNat x.toNat (Nat.le_refl _) (by omega) w
  rw [Int.toNat_of_nonneg h.1] at c
  exact c
set_option maxHeartbeats 4000000 in
set_option maxRecDepth 20000 in
theorem spec_l02Text (c f : Int) (p : Option Addr) (l : List Int) (cap g : Nat) (w : World) (hI : IntsAt w p l) (hl : l.length ≤ 4000) (hc : 0 ≤ c ∧ c ≤ 1000000000) (hf : 0 ≤ f ∧ f ≤ 1000000000) (hm : ∀ x ∈ l, 1 ≤ x ∧ x ≤ 2000000)
    (BF : Blk w g 27 #[.int .i64 c, .int .i64 f, .slice p l.length cap]) :
    Calls Tryd.prog 16 #[.pointer (some ⟨g, 0, none⟩)] w fun e w' => e = .returned (.string ⟨(txtL c f l).toArray⟩) ∧ Below w.heap.size w w' := by
  have CA := fun w => spec_dec c hc w
  have CB := fun w => spec_dec f hf w
  have hlc := decS_len hc.2
  have hlf := decS_len hf.2
  obtain ⟨DC, eDC⟩ : ∃ D : ByteArray, D = ⟨(decS c).toArray⟩ := ⟨_, rfl⟩
  obtain ⟨DF, eDF⟩ : ∃ D : ByteArray, D = ⟨(decS f).toArray⟩ := ⟨_, rfl⟩
  rw [← eDC] at CA
  rw [← eDF] at CB
  have sc : DC.size ≤ 20 := by rw [eDC]; simpa [ByteArray.size] using hlc
  have sf : DF.size ≤ 20 := by rw [eDF]; simpa [ByteArray.size] using hlf
  have hT0 : Hid ((DC ++ ⟨#[32]⟩ ++ DF).data.toList = txtL c f (l.take 0)) := Lib.hid (by rw [eDC, eDF]; unfold txtL; simp)
  have hcs := fun w => conv_str (DC ++ ⟨#[32]⟩ ++ DF) w
  have hsz : (DC ++ ⟨#[32]⟩ ++ DF).size ≤ 100 := by rw [ByteArray.size_append, ByteArray.size_append]; have : ({ data := #[32] } : ByteArray).size = 1 := rfl; omega
  have h1 : ({ data := #[32] } : ByteArray).size = 1 := rfl
  have hes : (DC ++ ⟨#[32]⟩ ++ DF).size = DC.size + 1 + DF.size := by rw [ByteArray.size_append, ByteArray.size_append, h1]
  have hs1 : ¬ (9223372036854775807 < DC.size + 1) := by omega
  have hs2 : ¬ (9223372036854775807 < DC.size + 1 + DF.size) := by omega
  obtain ⟨f0, f1, f2⟩ := BF.cell3
  have fl := BF.lt
  clear eDC eDF
  go_enter Tryd.func16, Tryd.ntmps16
  go_wp2_with fail
  go_cut [3] (fun v wx => ∃ B, w.heap.size ≤ B ∧ B ≤ wx.heap.size ∧ OwnM wx B v (txtL c f (l.take 0)) ∧ Below w.heap.size w wx)
  case first =>
    go_region_with (first | (go_at_call 29; (with_reducible refine (CA _).mono ?_); rintro e y ⟨rfl, hb⟩; first | (have B2 := B1.keep hb; have W2 := below_st W1 hb (Nat.le_refl _); obtain ⟨a0, a1, a2⟩ := B2.cell3) | (have B1 : Blk y g 27 #[.int .i64 c, .int .i64 f, .slice p l.length cap] := Blk.keep (w := w.drew) (by exact BF) hb; have W1 : Below w.heap.size w y := below_st (Below.refl _ _).drew hb (Nat.le_refl _); obtain ⟨b0, b1, b2⟩ := B1.cell3)) | (go_at_call 29; (with_reducible refine (CB _).mono ?_); rintro e y ⟨rfl, hb⟩; first | (have B2 := B1.keep hb; have W2 := below_st W1 hb (Nat.le_refl _); obtain ⟨a0, a1, a2⟩ := B2.cell3) | (have B1 : Blk y g 27 #[.int .i64 c, .int .i64 f, .slice p l.length cap] := Blk.keep (w := w.drew) (by exact BF) hb; have W1 : Below w.heap.size w y := below_st (Below.refl _ _).drew hb (Nat.le_refl _); obtain ⟨b0, b1, b2⟩ := B1.cell3)))
    all_goals
      go_wp2_with fail
      go_meet
      refine ⟨y.heap.size, W2.size, by rw [Lib.bytesWorld_size]; omega, ?_, below_st W2 (bytesWorld_below y _ _) (Nat.le_refl _)⟩
      have hO := OwnM.conv y (DC ++ ⟨#[32]⟩ ++ DF) (by omega)
      rw [hes, hT0.out] at hO
      exact hO
  case rest =>
    obtain ⟨B, hB, hBw, hown0, W0⟩ := hcut
    obtain ⟨w0, hwc⟩ : ∃ w0, w0 = wc := ⟨_, rfl⟩
    subst hwc
    have HB : ∀ wy, Below w.heap.size w wy → Blk wy g 27 #[.int .i64 c, .int .i64 f, .slice p l.length cap] := fun wy h => BF.keep h
    have HBH := Lib.hid HB
    clear HB f0 f1 f2 CA CB hcs hT0 hs1 hs2 hsz
    go_wp2_with fail
    go_loopw [3, 4] (fun v i wr => ∃ k : Nat, k ≤ l.length ∧ i = .int .i64 k ∧ OwnM wr B v (txtL c f (l.take k)) ∧ B ≤ wr.heap.size ∧ Below w.heap.size w wr) (fun _ i _ => l.length - (intOf i).toNat)
    case atStart => exact ⟨0, Nat.zero_le _, rfl, hown0, hBw, W0⟩
    case round =>
      clear hown0 hBw W0
      obtain ⟨k, hk, rfl, hown, hz, hbel⟩ := hrel
      have Br := HBH.out _ hbel
      obtain ⟨c0, c1, c2⟩ := Br.cell3
      have hlt0 : (txtL c f (l.take k)).length ≤ 41 + 21 * 4000 := by
        have h := txtL_len (l := l.take k) hc.2 hf.2 (fun x hx => by have := hm x (List.mem_of_mem_take hx); omega)
        rw [List.length_take] at h
        omega
      by_cases hlt : k < l.length
      · obtain ⟨a, ea, hca⟩ := (hI.below hbel).at_ hlt
        have HC : ∀ wy, Below w.heap.size w wy → wy.cell? (a.add k) = some (.int .i64 l[k]) := fun wy h => by
          obtain ⟨a', ea', h'⟩ := (hI.below h).at_ hlt
          rw [ea] at ea'
          injection ea' with e
          subst e
          exact h'
        have hx := hm _ (List.getElem_mem hlt)
        have hsn := txtL_snoc c f hlt
        obtain ⟨x, ex⟩ : ∃ x, l[k] = x := ⟨_, rfl⟩
        rw [ex] at hca HC hx hsn
        have CX := fun w => spec_dec x (by omega) w
        have hlx := decS_len (x := x) (by omega)
        obtain ⟨D, eD⟩ : ∃ D : ByteArray, D = ⟨(decS x).toArray⟩ := ⟨_, rfl⟩
        rw [← eD] at CX
        have sx : D.size ≤ 20 := by rw [eD]; simpa [ByteArray.size] using hlx
        have hst : Hid ((txtL c f (l.take k) ++ [32]) ++ D.data.toList = txtL c f (l.take (k + 1))) := Lib.hid (by rw [hsn, eD])
        have HCH := Lib.hid HC
        obtain ⟨T, eT⟩ : ∃ T, txtL c f (l.take k) = T := ⟨_, rfl⟩
        rw [eT] at hown hlt0 hst
        clear HC hsn eD ex eT hlx h1
        subst ea
        go_wp2_with (first | (at_builtin; refine append_byteM _ rfl (.tmp 27) (.tmp 28) rfl B u3 T 32 rfl rfl hown (by omega) hz ?_; intro v1 w1 hown1 hb1; have hbel1 := hbel.trans (hb1.mono hB); have hz1 := Nat.le_trans hz hb1.size; have B1 := HBH.out _ hbel1; obtain ⟨b0, b1, b2⟩ := B1.cell3; have hc1 := HCH.out _ hbel1) | (go_at_call 29; (refine (CX _).mono ?_); rintro e y ⟨rfl, hby⟩; have hown2 := hown1.below hby; have hz2 := Nat.le_trans hz1 hby.size; have hbel2 := below_st hbel1 hby (Nat.le_refl _)) | (at_builtin; refine append_strM _ rfl (.tmp 30) (.tmp 38) rfl B v1 (T ++ [32]) D rfl rfl hown2 (by simp; omega) hz2 ?_; intro v3 w3 hown3 hb3))
        rw [hst.out] at hown3
        exact ⟨⟨k + 1, by omega, by go_num, hown3, Nat.le_trans hz2 hb3.size, hbel2.trans (hb3.mono hB)⟩, by simp [intOf]; omega⟩
      · have ek : l.take k = l := List.take_of_length_le (by omega)
        rw [ek] at hown hlt0
        have hstr := hown.str
        clear ek hlt0
        go_wp2_with fail
        go_ret
        exact ⟨rfl, hbel⟩
end Go.Proofs.YtfdcainjppljhaaDoor
