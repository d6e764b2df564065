/- The model's decimal numerals (l01Dec). -/
import Derived.Test.YtfdcainjppljhaaDoorBase
import Derived.Test.YtfdcainjppljhaaDoorMem
import Derived.Lib.ItoaNum
import Derived.Lib.ItoaLen
import Derived.Deep.RegionWith
namespace Go.Proofs.YtfdcainjppljhaaDoor
open Go.RowKit
set_option linter.unusedVariables false
theorem str_app (a b : List UInt8) : (⟨a.toArray⟩ : ByteArray) ++ ⟨b.toArray⟩ = ⟨(a ++ b).toArray⟩ := by
  apply ByteArray.ext
  simp
theorem str_app' (a : ByteArray) (b : List UInt8) : a ++ (⟨b.toArray⟩ : ByteArray) = ⟨(a.data.toList ++ b).toArray⟩ := by
  apply ByteArray.ext
  simp
theorem str_lit (a : List UInt8) (x : UInt8) : (⟨a.toArray⟩ : ByteArray) ++ ⟨#[x]⟩ = ⟨(a ++ [x]).toArray⟩ := str_app a [x]
/-- 'string([]byte{x})', wherever the row lies. -/
theorem conv_at (w : World) (g : Nat) (n : Int) (hn : 0 ≤ n ∧ n < 256) (h : Blk w g 5 #[.int .u8 n]) :
    (convert 50 9 (.slice (some ⟨g, 0, none⟩) 1 1)).run Tryd.prog w = .ok (.string ⟨#[b8 n]⟩) w := by
  refine run_convert_bytes_back _ _ _ _ ⟨g, 0, none⟩ 1 [b8 n] Tryd.underlying50 Tryd.underlying5 Tryd.underlying9 ?_
  intro j hj
  match j, hj with
  | 0, _ => simp [Addr.add, b8_val hn.1 hn.2, h.cell 0]
theorem Blk_dr {w : World} {g : Nat} {t : TypeId} {cs : Array Value} (h : Blk w g t cs) : Blk w.drew g t cs := h
theorem dig_wrap {r : Nat} (h : r < 10) : IntKind.u8.wrap (48 + (r : Int)) = 48 + (r : Int) := by
  have h1 : ∀ v : Fin 10, IntKind.u8.wrap (48 + (v.val : Int)) = 48 + (v.val : Int) := by decide +kernel
  exact h1 ⟨r, h⟩
theorem dig_small {n : Nat} (h : n < 10) : Lib.decDigits n = [b8 (48 + (n : Int))] := by
  rw [Lib.decDigits, dif_pos h]
  unfold b8
  rw [show (48 + (n : Int)).toNat = 48 + n by omega]
theorem dig_big {n : Nat} (h : ¬ n < 10) : Lib.decDigits n = Lib.decDigits (n / 10) ++ [b8 (48 + ((n % 10 : Nat) : Int))] := by
  rw [Lib.decDigits, dif_neg h]
  unfold b8
  rw [show (48 + ((n % 10 : Nat) : Int)).toNat = 48 + n % 10 by omega]
set_option maxHeartbeats 2000000 in
set_option maxRecDepth 20000 in
theorem spec_l01Dec : ∀ (N n : Nat), n ≤ N → n ≤ 1000000000 → ∀ w : World,
    Calls Tryd.prog 29 #[.int .i64 (n : Int)] w fun e w' => e = .returned (.string ⟨(Lib.decDigits n).toArray⟩) ∧ Below w.heap.size w w' := by
  intro N
  induction N with
  | zero =>
    intro n hn _ w
    have hn0 : n = 0 := by omega
    subst hn0
    have hcv := fun w => conv_one w 48 (by omega)
    have hv : (Lib.decDigits 0).toArray = #[b8 48] := by rw [dig_small (by omega)]; rfl
    rw [hv]
    clear hv
    go_enter Tryd.func29, Tryd.ntmps29
    go_wp2_with fail
    go_ret
    exact ⟨rfl, (Below.refl _ _).alloc (Nat.le_refl _) _⟩
  | succ N ih =>
    intro n hn hb w
    have d0 : decide ((n : Int) < 0) = false := decide_eq_false (by omega)
    by_cases h : n < 10
    · have d1 : decide ((n : Int) < 10) = true := decide_eq_true (by omega)
      have hcv := fun w => conv_one w (48 + (n : Int)) (by omega)
      have q1 : IntKind.i64.wrap (48 + (n : Int)) = 48 + (n : Int) := IntWalk.i64_in _ (by omega)
      have q2 : IntKind.u8.wrap (48 + (n : Int)) = 48 + (n : Int) := dig_wrap h
      rw [dig_small h]
      clear ih
      go_enter Tryd.func29, Tryd.ntmps29
      go_wp2_with fail
      go_ret
      exact ⟨rfl, (Below.refl _ _).alloc (Nat.le_refl _) _⟩
    · have d1 : decide ((n : Int) < 10) = false := decide_eq_false (by omega)
      have IH := fun w => ih (n / 10) (by omega) (by omega) w
      have hr : 0 ≤ ((n % 10 : Nat) : Int) ∧ ((n % 10 : Nat) : Int) < 10 := by omega
      have hx : 0 ≤ 48 + ((n % 10 : Nat) : Int) ∧ 48 + ((n % 10 : Nat) : Int) < 256 := by omega
      have hcv := fun w => conv_one w (48 + ((n % 10 : Nat) : Int)) hx
      have t1 : (n : Int).tdiv 10 = ((n / 10 : Nat) : Int) := by rw [Int.tdiv_eq_ediv_of_nonneg (by omega)]; rfl
      have t2 : (n : Int).tmod 10 = ((n % 10 : Nat) : Int) := by rw [Int.tmod_eq_emod_of_nonneg (by omega)]; rfl
      have t3 : (n : Int) / 10 = ((n / 10 : Nat) : Int) := rfl
      have t4 : (n : Int) % 10 = ((n % 10 : Nat) : Int) := rfl
      have hlen : (Lib.decDigits (n / 10)).length ≤ 20 := by rw [Lib.decDigits_length]; exact Lib.nDigits_le20 _ (by omega)
      rw [dig_big h]
      obtain ⟨q, eq⟩ : ∃ q, n / 10 = q := ⟨_, rfl⟩
      obtain ⟨r, er⟩ : ∃ r, n % 10 = r := ⟨_, rfl⟩
      rw [eq] at IH t1 t3 hlen ⊢
      rw [er] at hr hx hcv t2 t4 ⊢
      have hcy := fun (w : World) (g : Nat) (h : Blk w g 5 #[.int .u8 (48 + (r : Int))]) => conv_at w g _ hx h
      have q1 : IntKind.i64.wrap (48 + (r : Int)) = 48 + (r : Int) := IntWalk.i64_in _ (by omega)
      have q2 : IntKind.u8.wrap (48 + (r : Int)) = 48 + (r : Int) := dig_wrap (by omega)
      have q3 : IntKind.i64.wrap (q : Int) = (q : Int) := IntWalk.i64_in _ (by omega)
      have hqb : (q : Int) ≤ 1000000000 := by omega
      obtain ⟨D, eD⟩ : ∃ D : ByteArray, D = ⟨(Lib.decDigits q).toArray⟩ := ⟨_, rfl⟩
      obtain ⟨B, eB⟩ : ∃ B : ByteArray, B = ⟨#[b8 (48 + (r : Int))]⟩ := ⟨_, rfl⟩
      have hres : Hid ((⟨(Lib.decDigits q ++ [b8 (48 + (r : Int))]).toArray⟩ : ByteArray) = D ++ B) := Lib.hid (by rw [eD, eB]; exact (str_lit _ _).symm)
      have hDs : D.size ≤ 20 := by rw [eD]; simpa [ByteArray.size] using hlen
      have hBs : B.size = 1 := by rw [eB]; rfl
      have hs : ¬ (9223372036854775807 < D.size + B.size) := by omega
      rw [← eD] at IH
      rw [← eB] at hcv hcy
      rw [hres.out]
      have HCY := Lib.hid hcy
      have hcd : (convert 50 9 (.slice (some ⟨w.heap.size, 0, none⟩) 1 1)).run Tryd.prog (w.alloc (.cells #[.int .u8 (48 + (r : Int))] 5)).drew = .ok (.string B) (w.alloc (.cells #[.int .u8 (48 + (r : Int))] 5)).drew := hcy _ _ (Blk_dr (Blk.new w 5 #[.int .u8 (48 + (r : Int))]))
      clear ih eq er h eD eB hlen hcy
      go_enter Tryd.func29, Tryd.ntmps29
      go_wp2_with fail
      go_region_with (go_at_call 29; (with_reducible refine (IH _).mono ?_); rintro e y ⟨rfl, hb1⟩; try (have hcy : (convert 50 9 (.slice (some ⟨w.heap.size, 0, none⟩) 1 1)).run Tryd.prog y = .ok (.string B) y := HCY.out _ _ ((Blk_dr (Blk.new w 5 #[.int .u8 (48 + (r : Int))])).keep hb1)))
      all_goals
        go_wp2_with fail
        go_ret
        refine ⟨rfl, ?_⟩
        first | exact below_st (Below.refl _ _).drew hb1 (Nat.le_refl _) | exact below_al (Below.refl _ _).drew hb1 (Nat.le_refl _) | exact (below_st (Below.refl _ _).drew hb1 (Nat.le_refl _)).alloc (by have := hb1.size; simp at this; omega) _
end Go.Proofs.YtfdcainjppljhaaDoor
