/- DecodeFm, DecodeMfm. -/
import Derived.Test.YtkbhdlhkfeaejaaDoorPackW
namespace Go.Proofs.YtkbhdlhkfeaejaaDoor
open Go.RowKit
set_option linter.unusedVariables false
/-- The first k data cells. -/
def oddL (l : List UInt8) (k : Nat) : List UInt8 := (List.range k).map fun i => l.getD (2 * i + 1) 0
theorem oddL_len (l : List UInt8) (k : Nat) : (oddL l k).length = k := by simp [oddL]
theorem oddL_more {s : ByteArray} {k : Nat} (h : 2 * k + 1 < s.size) : oddL s.data.toList (k + 1) = oddL s.data.toList k ++ [s[2 * k + 1]'h] := by
  have : s.data.toList.getD (2 * k + 1) 0 = s[2 * k + 1]'h := by
    rw [List.getD_eq_getElem?_getD, List.getElem?_eq_getElem (by simpa using h)]; rfl
  simp only [oddL, List.range_succ, List.map_append, List.map_cons, List.map_nil, this]
theorem oddL_at {s : ByteArray} {n i : Nat} (h : i < (oddL s.data.toList n).length) (h2 : 2 * i + 1 < s.size) : (oddL s.data.toList n)[i] = s[2 * i + 1]'h2 := by
  have : s.data.toList.getD (2 * i + 1) 0 = s[2 * i + 1]'h2 := by
    rw [List.getD_eq_getElem?_getD, List.getElem?_eq_getElem (by simpa using h2)]; rfl
  simp only [oddL, List.getElem_map, List.getElem_range, this]
theorem oddL_bits {s : ByteArray} (hb : bitsAll s.data.toList = true) {n : Nat} (hn : 2 * n ≤ s.size) : bitsAll (oddL s.data.toList n) = true := by
  unfold bitsAll
  rw [List.all_eq_true]
  intro c hc
  obtain ⟨i, hi, rfl⟩ := List.getElem_of_mem hc
  have hi2 := hi
  rw [oddL_len] at hi2
  rw [oddL_at hi (by omega)]
  exact bits_at hb _
def decB (s : ByteArray) : Bool := cellStr s && decide (s.size % 16 = 0)
def decS (s : ByteArray) : ByteArray := if decB s then ⟨(packL (oddL s.data.toList (s.size / 2)) (s.size / 16)).toArray⟩ else ByteArray.empty
theorem dec_no {s : ByteArray} (h : decB s = false) : decS s = ByteArray.empty := by unfold decS; rw [h]; rfl
theorem dec_yes {s : ByteArray} (h : decB s = true) : decS s = ⟨(packL (oddL s.data.toList (s.size / 2)) (s.size / 16)).toArray⟩ := by unfold decS; rw [h]; rfl
set_option maxHeartbeats 2000000 in
set_option maxRecDepth 20000 in
theorem impl_dataCells (s : ByteArray) (w : World) (hs : s.size ≤ 1048576) :
    Calls Tryd.prog 43 #[.string s] w fun e w' => e = .returned (.tuple #[.string (decS s), .bool (decB s)]) ∧ Below w.heap.size w w' := by
  have ht : (s.size : Int).tmod 16 = ((s.size % 16 : Nat) : Int) := by rw [Int.tmod_eq_emod_of_nonneg (by omega)]; rfl
  have ht2 : (s.size : Int) % 16 = ((s.size % 16 : Nat) : Int) := rfl
  obtain ⟨r, hr⟩ : ∃ r, s.size % 16 = r := ⟨_, rfl⟩
  rw [hr] at ht ht2
  obtain h | h := (Bool.eq_false_or_eq_true (cellStr s)).symm
  · have hb : decB s = false := by unfold decB; rw [h]; rfl
    have H1 := Lib.hid hb
    have H2 := Lib.hid (dec_no hb)
    have H := Lib.hid h
    clear h hr hb
    go_enter Tryd.func43, Tryd.ntmps43
    go_wp2_with (go_at_call 38; refine (impl_isCellString s _ (by omega)).mono ?_; rintro e w1 ⟨rfl, hb⟩; rw [H.out])
    go_ret2
    exact ⟨ret_str_bool (by rw [H2.out]; rfl) (by rw [H1.out]), hb⟩
  by_cases h16 : r = 0
  rotate_left
  · have hne : ((r : Int) != 0) = true := by rw [bne_iff_ne]; omega
    have hb : decB s = false := by unfold decB; rw [hr, decide_eq_false h16, Bool.and_false]
    have H1 := Lib.hid hb
    have H2 := Lib.hid (dec_no hb)
    have H := Lib.hid h
    clear h hr hb
    go_enter Tryd.func43, Tryd.ntmps43
    go_wp2_with (go_at_call 38; refine (impl_isCellString s _ (by omega)).mono ?_; rintro e w1 ⟨rfl, hb⟩; rw [H.out])
    go_ret2
    exact ⟨ret_str_bool (by rw [H2.out]; rfl) (by rw [H1.out]), hb⟩
  subst h16
  have hb : decB s = true := by unfold decB; rw [h, hr]; rfl
  have H1 := Lib.hid hb
  have H2 := Lib.hid (dec_yes hb)
  have H := Lib.hid h
  have hba : bitsAll s.data.toList = true ∧ s.size ≤ 8000 := by
    unfold cellStr at h
    simp at h
    exact ⟨h.2, h.1⟩
  have HBA := Lib.hid hba.1
  have h8 := hba.2
  obtain ⟨n, hn⟩ : ∃ n, 2 * n = s.size := ⟨s.size / 2, by omega⟩
  have hq : (s.size : Int).tdiv 2 = (n : Int) := by rw [Int.tdiv_eq_ediv_of_nonneg (by omega)]; omega
  have hq2 : (s.size : Int) / 2 = (n : Int) := by omega
  clear h hr hb hba
  go_enter Tryd.func43, Tryd.ntmps43
  go_wp2_with (first | (go_at_call 38; refine (impl_isCellString s _ (by omega)).mono ?_; rintro e w1 ⟨rfl, hb1⟩; rw [H.out]) | (at_make; refine make_bytes0 _ rfl _ _ rfl _ n rfl rfl (by omega) (by omega) ?_; intro w2 hown2 hbel2))
  have hb0 := hb1.size
  go_loopw [4, 5] (fun v i wr => ∃ k i0 : Nat, k ≤ n ∧ 2 * k + 1 = i0 ∧ i = .int .i64 i0 ∧ OwnB wr w.heap.size v (oddL s.data.toList k) ∧ Below w.heap.size w wr) (fun _ i _ => s.size - (intOf i).toNat)
  case atStart => exact ⟨0, 1, by omega, rfl, rfl, hown2.mono hb0, hb1.trans (hbel2.mono hb0)⟩
  case round =>
    obtain ⟨k, i0, hk, hi, rfl, hown, hbel⟩ := hrel
    have hz := hbel.size
    by_cases hlt : i0 < s.size
    · have hmore := oddL_more (s := s) (k := k) (by omega)
      have hge : s[2 * k + 1]'(by omega) = s[i0]'hlt := by subst hi; rfl
      rw [hge] at hmore
      have HM := Lib.hid hmore
      clear hmore hge
      go_wp2_with (at_builtin; refine append_byte _ rfl (.tmp 25) (.tmp 29) rfl w.heap.size u4 (oddL s.data.toList k) _ rfl rfl hown (u8_bd _) (by rw [oddL_len]; omega) hz ?_; intro v1 w1 hown1 hbel1)
      rw [b8_toNat, ← HM.out] at hown1
      go_roundw
      case rel => exact ⟨k + 1, i0 + 2, by omega, by omega, by go_num, hown1, hbel.trans (hbel1.mono (Nat.le_refl _))⟩
      case measure => simp [intOf]; omega
    · have hkn : k = n := by omega
      subst hkn
      have hcv := hown.str
      obtain ⟨t, et⟩ : ∃ t : ByteArray, t = ⟨(oddL s.data.toList k).toArray⟩ := ⟨_, rfl⟩
      have htl : t.data.toList = oddL s.data.toList k := by rw [et]
      have htz : t.size = k := by
        have h1 : t.data.toList.length = t.size := rfl
        rw [htl, oddL_len] at h1
        exact h1.symm
      have hob := oddL_bits HBA.out (n := k) (by omega)
      rw [← htl] at hob
      rw [← et] at hcv
      have hby := fun w' => impl_bytesOf t (k / 8) w' (by omega) (by omega) hob
      have e2 := H2.out
      rw [show s.size / 2 = k by omega, show s.size / 16 = k / 8 by omega, ← htl] at e2
      have E2 := Lib.hid e2
      clear e2 htl hob et H2
      go_wp2_with (go_at_call 55; refine (hby _).mono ?_; rintro e w3 ⟨rfl, hb3⟩)
      go_ret2
      exact ⟨ret_str_bool (by rw [E2.out]) (by rw [H1.out]), hbel.trans (hb3.mono hz)⟩
theorem impl_DecodeMfm (s : ByteArray) (w : World) (hs : s.size ≤ 1048576) :
    Calls Tryd.prog 30 #[.string s] w fun e w' => e = .returned (.tuple #[.string (decS s), .bool (decB s)]) ∧ Below w.heap.size w w' := by
  go_enter Tryd.func30, Tryd.ntmps30
  go_wp2_with (go_at_call 43; refine (impl_dataCells s _ hs).mono ?_; rintro e w1 ⟨rfl, hb1⟩)
  go_ret2
  exact ⟨rfl, hb1⟩
end Go.Proofs.YtkbhdlhkfeaejaaDoor
