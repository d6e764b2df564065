/- A plain clock recovers cells, plain. -/
import Derived.Test.YtmjmhdjfaamgkaaRecP
import Derived.Test.YtmjmhdjfaamgkaaOnesW
namespace Go.Proofs.Ytmjmhdjfaamgkaa
open Go.RowKit
set_option linter.unusedVariables false
theorem frw {x : Int} (h : -9223372036854775808 ≤ x ∧ x ≤ 9223372036854775807) : IntKind.i64.wrap x = x := IntWalk.i64_in _ h
def plainC (c : Int) : Clk := ⟨c, c, c, 0, 0⟩
theorem plainC_ok {c : Int} (h : 4 ≤ c ∧ c ≤ 200) : (plainC c).valid = true := by
  simp only [Clk.valid, plainC, Bool.and_eq_true, inB_iff]
  omega
/-- One step of a plain clock. -/
theorem plain_step {c k d d' : Int} (hc : 4 ≤ c ∧ c ≤ 200) (hk : 1 ≤ k) (hd : -((c - 1) / 2) ≤ d' ∧ d' ≤ (c - 1) / 2) :
    stN (c * 64) (64 * d) (k * c + d' - d) = k ∧ stP (plainC c) (c * 64) (64 * d) (k * c + d' - d) = c * 64 ∧ stO (plainC c) (c * 64) (64 * d) (k * c + d' - d) = 64 * d' := by
  have hkc : c ≤ k * c := by
    have := Int.mul_le_mul_of_nonneg_right hk (show (0 : Int) ≤ c by omega)
    omega
  have hN : stN (c * 64) (64 * d) (k * c + d' - d) = k := by
    unfold stN
    generalize hx : k * c = x at *
    rw [if_pos (by omega)]
    have e : (x + d' - d) * 64 + 64 * d + c * 64 / 2 = (64 * d' + c * 32) + k * (c * 64) := by
      rw [← Int.mul_assoc, hx]; omega
    rw [e, Int.add_mul_ediv_right _ _ (by omega), Int.ediv_eq_zero_of_lt (by omega) (by omega)]
    omega
  have hE : stE (c * 64) (64 * d) (k * c + d' - d) = 64 * d' := by
    unfold stE
    rw [hN, ← Int.mul_assoc]
    generalize k * c = x
    omega
  refine ⟨hN, rfl, ?_⟩
  unfold stO
  rw [hE]
  show clampI (if (0 : Int) < 0 then _ else 64 * d') (-(c * 64)) (c * 64) = 64 * d'
  rw [if_neg (by omega)]
  unfold clampI
  omega
/-- Times of places, moved. -/
def mvT (c : Int) (z : List (Nat × Int)) : List Int := z.map fun x => (x.1 : Int) * c + c / 2 + x.2
def mvP (z : List (Nat × Int)) : List Nat := z.map (·.1)
def lastZ (z : List (Nat × Int)) : Nat × Int := z.getLastD (0, 0)
theorem plain_run {c N p0 d0 : Int} (hc : 4 ≤ c ∧ c ≤ 200) (hd0 : -((c - 1) / 2) ≤ d0 ∧ d0 ≤ (c - 1) / 2) :
    ∀ (z : List (Nat × Int)) (p : Nat) (d : Int), (∀ x ∈ (p, d) :: z, -((c - 1) / 2) ≤ x.2 ∧ x.2 ≤ (c - 1) / 2) → (∀ x ∈ (p, d) :: z, (x.1 : Int) ≤ 8000) → ((p :: mvP z).Pairwise (· < ·)) → 1 ≤ N - ((lastZ ((p, d) :: z)).1 : Int) + p0 →
    runN (plainC c) (c * 64) (64 * d) (diffW (mvT c ((p, d) :: z)) ++ [(N - ((lastZ ((p, d) :: z)).1 : Int) + p0) * c + d0 - (lastZ ((p, d) :: z)).2]) = gapL (p :: mvP z) ++ [N - ((lastZ ((p, d) :: z)).1 : Int) + p0]
  | [], p, d, hb, _, _, hl => by
    obtain ⟨h1, -, -⟩ := plain_step (d := d) hc hl hd0
    show [stN (c * 64) (64 * d) _] = [_]
    rw [show lastZ [(p, d)] = (p, d) from rfl] at *
    rw [h1]
  | (p', d') :: z, p, d, hb, h8, hp, hl => by
    have hd' := hb (p', d') (by simp)
    have hd := hb (p, d) (by simp)
    have q1 := h8 (p, d) (by simp)
    have q2 := h8 (p', d') (by simp)
    have hpp : p < p' := by
      have := List.rel_of_pairwise_cons hp (show p' ∈ mvP ((p', d') :: z) by simp [mvP])
      exact this
    have hk : (1 : Int) ≤ (p' : Int) - (p : Int) := by omega
    obtain ⟨h1, h2, h3⟩ := plain_step (d := d) hc hk hd'
    have hlz : lastZ ((p, d) :: (p', d') :: z) = lastZ ((p', d') :: z) := rfl
    rw [hlz] at hl ⊢
    have ih := plain_run (N := N) (p0 := p0) hc hd0 z p' d' (fun x hx => hb x (List.mem_cons_of_mem _ hx)) (fun x hx => h8 x (List.mem_cons_of_mem _ hx)) (List.Pairwise.of_cons hp) hl
    have hg : IntKind.i64.wrap (((p' : Int) * c + c / 2 + d') - ((p : Int) * c + c / 2 + d)) = ((p' : Int) - (p : Int)) * c + d' - d := by
      have e1 : 0 ≤ (p' : Int) * c ∧ (p' : Int) * c ≤ 8000 * 200 := ⟨Int.mul_nonneg (by omega) (by omega), Int.mul_le_mul q2 hc.2 (by omega) (by omega)⟩
      have e2 : 0 ≤ (p : Int) * c ∧ (p : Int) * c ≤ 8000 * 200 := ⟨Int.mul_nonneg (by omega) (by omega), Int.mul_le_mul q1 hc.2 (by omega) (by omega)⟩
      simp only at hd hd'
      rw [frw (by omega), Int.sub_mul]
      omega
    show runN (plainC c) (c * 64) (64 * d) (IntKind.i64.wrap (((p' : Int) * c + c / 2 + d') - ((p : Int) * c + c / 2 + d)) :: (diffW (mvT c ((p', d') :: z)) ++ _)) = ((p' : Int) - (p : Int)) :: (gapL (p' :: mvP z) ++ _)
    rw [hg]
    show stN _ _ _ :: runN _ (stP _ _ _ _) (stO _ _ _ _) _ = _
    rw [h1, h2, h3, ih]
/-- The cells between the changes. -/
def cellsG (p : List Nat) : List UInt8 := (gapL p).flatMap fun n => zerosL (n - 1) ++ [49]
theorem zerosL_nat (n : Nat) : zerosL (n : Int) = List.replicate n 48 := by unfold zerosL; simp
theorem take_cells {l : List UInt8} (hb : ∀ x ∈ l, x = 48 ∨ x = 49) : ∀ k, k ≤ l.length →
    (onesL l k = [] → l.take k = List.replicate k 48) ∧
    (∀ p x, onesL l k = p ++ [x] → x < k ∧ zerosL (((p ++ [x]).headD 0 : Nat) : Int) ++ [49] ++ cellsG (p ++ [x]) ++ zerosL ((k : Int) - (x : Int) - 1) = l.take k)
  | 0, _ => ⟨fun _ => by simp, fun p x h => by simp [onesL] at h⟩
  | k + 1, hk => by
    obtain ⟨i1, i2⟩ := take_cells hb k (by omega)
    have hlt : k < l.length := by omega
    have htk : l.take (k + 1) = l.take k ++ [l[k]] := List.take_succ_eq_append_getElem hlt
    have hgd : l.getD k 0 = l[k] := by rw [List.getD_eq_getElem?_getD, List.getElem?_eq_getElem hlt]; rfl
    rcases hb _ (List.getElem_mem hlt) with h0 | h1
    · have hno := onesL_no (l := l) (k := k) (by rw [hgd, h0]; decide)
      rw [hno, htk, h0]
      refine ⟨fun he => ?_, fun p x he => ?_⟩
      · rw [i1 he, List.replicate_succ']
      · obtain ⟨j1, j2⟩ := i2 p x he
        refine ⟨by omega, ?_⟩
        rw [← j2]
        have e := zerosL_succ (n := (k : Int) - (x : Int)) (by omega)
        rw [show ((k + 1 : Nat) : Int) - (x : Int) - 1 = (k : Int) - (x : Int) by omega, ← e]
        simp only [List.append_assoc]
    · have hy := onesL_yes (l := l) (k := k) (by rw [hgd, h1])
      rw [hy, htk, h1]
      refine ⟨fun he => by simp at he, fun p x he => ?_⟩
      have hx := List.append_inj' he rfl
      obtain ⟨rfl, hx2⟩ := hx
      have hxk : k = x := by simpa using hx2
      subst hxk
      refine ⟨by omega, ?_⟩
      rw [show ((k + 1 : Nat) : Int) - (k : Int) - 1 = 0 by omega, show zerosL 0 = [] from rfl, List.append_nil]
      rcases List.eq_nil_or_concat (onesL l k) with e | ⟨q, y, e⟩
      · rw [i1 e, e]
        show zerosL (k : Int) ++ [49] ++ [] = _
        rw [zerosL_nat, List.append_nil]
      · rw [List.concat_eq_append] at e
        obtain ⟨j1, j2⟩ := i2 q y e
        rw [← j2]
        have hh : ((onesL l k ++ [k]).headD 0) = (q ++ [y]).headD 0 := by
          rw [e]
          cases q <;> rfl
        rw [hh]
        have hc : cellsG (onesL l k ++ [k]) = cellsG (q ++ [y]) ++ (zerosL ((k : Int) - (y : Int) - 1) ++ [49]) := by
          unfold cellsG
          rw [e]
          have := gapL_snoc y k q
          rw [this, List.flatMap_append]
          simp
        rw [hc]
        simp only [List.append_assoc]
theorem onesL_lt {l : List UInt8} {k i : Nat} (h : i ∈ onesL l k) : i < k := by
  unfold onesL at h
  exact List.mem_range.1 (List.mem_filter.1 h).1
theorem onesL_up (l : List UInt8) (k : Nat) : (onesL l k).Pairwise (· < ·) := List.Pairwise.filter _ List.pairwise_lt_range
theorem gapL_pos : ∀ {p : List Nat}, p.Pairwise (· < ·) → ∀ n ∈ gapL p, 1 ≤ n
  | [], _, n, hn => by simp [gapL] at hn
  | [a], _, n, hn => by simp [gapL] at hn
  | a :: b :: r, h, n, hn => by
    have hab : a < b := List.rel_of_pairwise_cons h (by simp)
    simp only [gapL, List.mem_cons] at hn
    rcases hn with rfl | hn
    · omega
    · exact gapL_pos (List.Pairwise.of_cons h) n hn
theorem gapL_sum : ∀ (p : List Nat) (a : Nat), (gapL (a :: p)).sum = (((a :: p).getLastD 0 : Nat) : Int) - (a : Int)
  | [], a => by simp [gapL]
  | b :: r, a => by
    have := gapL_sum r b
    rw [show gapL (a :: b :: r) = ((b : Int) - (a : Int)) :: gapL (b :: r) from rfl, List.sum_cons, this]
    show _ = (((b :: r).getLastD 0 : Nat) : Int) - (a : Int)
    omega
theorem mvT_last (c : Int) {z : List (Nat × Int)} (h : z ≠ []) : (mvT c z).getLastD 0 = ((lastZ z).1 : Int) * c + c / 2 + (lastZ z).2 := by
  unfold mvT lastZ
  rw [List.getLastD_eq_getLast?, List.getLastD_eq_getLast?, List.getLast?_map, List.getLast?_eq_some_getLast h]
  rfl
theorem mvP_last {z : List (Nat × Int)} (h : z ≠ []) : (mvP z).getLastD 0 = (lastZ z).1 := by
  unfold mvP lastZ
  rw [List.getLastD_eq_getLast?, List.getLastD_eq_getLast?, List.getLast?_map, List.getLast?_eq_some_getLast h]
  rfl
theorem lastZ_mem {z : List (Nat × Int)} (h : z ≠ []) : lastZ z ∈ z := by
  unfold lastZ
  rw [List.getLastD_eq_getLast?, List.getLast?_eq_some_getLast h]
  exact List.getLast_mem h
theorem mul_bd {p : Nat} {c : Int} (hp : (p : Int) ≤ 8000) (hc : 4 ≤ c ∧ c ≤ 200) : 0 ≤ (p : Int) * c ∧ (p : Int) * c ≤ 1600000 := ⟨Int.mul_nonneg (by omega) (by omega), Int.mul_le_mul hp hc.2 (by omega) (by omega)⟩
/-- The gaps of moved times. -/
theorem mv_gaps {c : Int} (hc : 4 ≤ c ∧ c ≤ 200) {N : Nat} (hN : (N : Int) ≤ 8000) {z : List (Nat × Int)} {p : Nat} {d : Int} (hd : ∀ x ∈ (p, d) :: z, -((c - 1) / 2) ≤ x.2 ∧ x.2 ≤ (c - 1) / 2) (h8 : ∀ x ∈ (p, d) :: z, (x.1 : Int) ≤ 8000) :
    gapsT (mvT c ((p, d) :: z)) ((N : Int) * c) = diffW (mvT c ((p, d) :: z)) ++ [((N : Int) - ((lastZ ((p, d) :: z)).1 : Int) + (p : Int)) * c + d - (lastZ ((p, d) :: z)).2] := by
  have hm := lastZ_mem (z := (p, d) :: z) (by simp)
  have a1 := hd _ hm
  have a2 := mul_bd (h8 _ hm) hc
  have a3 := mul_bd (h8 (p, d) (by simp)) hc
  have a4 := hd (p, d) (by simp)
  have a5 := mul_bd hN hc
  simp only at a3 a4
  unfold gapsT
  rw [mvT_last c (by simp), show (mvT c ((p, d) :: z)).headD 0 = (p : Int) * c + c / 2 + d from rfl, Int.add_mul, Int.sub_mul]
  congr 2
  rw [frw (x := (N : Int) * c - (((lastZ ((p, d) :: z)).1 : Int) * c + c / 2 + (lastZ ((p, d) :: z)).2)) (by omega), frw (by omega)]
  omega
theorem recover_cells {s : ByteArray} {c : Int} (hc : 4 ≤ c ∧ c ≤ 200) (hb : ∀ x ∈ s.data.toList, x = 48 ∨ x = 49) (hN : s.size ≤ 8000) {z : List (Nat × Int)} (hz : mvP z = onesL s.data.toList s.size) (hne : z ≠ [])
    (hd : ∀ x ∈ z, -((c - 1) / 2) ≤ x.2 ∧ x.2 ≤ (c - 1) / 2) (hk : ∀ n ∈ gapL (mvP z) ++ [(s.size : Int) - ((lastZ z).1 : Int) + (((mvP z).headD 0 : Nat) : Int)], n ≤ 99)
    (hok : fluxOk c ((mvT c z).headD 0) (gapsT (mvT c z) ((s.size : Int) * c)) = true) :
    rcE (plainC c) c ((mvT c z).headD 0) (gapsT (mvT c z) ((s.size : Int) * c)) = 0 ∧ rcS (plainC c) c ((mvT c z).headD 0) (gapsT (mvT c z) ((s.size : Int) * c)) = s := by
  obtain ⟨⟨p, d⟩, z, rfl⟩ : ∃ a z', z = a :: z' := by
    cases z with
    | nil => exact absurd rfl hne
    | cons a z => exact ⟨a, z, rfl⟩
  have hup := onesL_up s.data.toList s.size
  have hlts : ∀ x ∈ (p, d) :: z, x.1 < s.size := fun x hx => by
    have : x.1 ∈ mvP ((p, d) :: z) := List.mem_map_of_mem hx
    rw [hz] at this
    exact onesL_lt this
  have h8 : ∀ x ∈ (p, d) :: z, (x.1 : Int) ≤ 8000 := fun x hx => by have := hlts x hx; omega
  have hdp := hd (p, d) (by simp)
  simp only at hdp
  have hpl := hlts (p, d) (by simp)
  simp only at hpl
  have hlz := hlts _ (lastZ_mem hne)
  have hpos := gapL_pos hup
  rw [← hz] at hpos hup
  have hhead : (mvT c ((p, d) :: z)).headD 0 = (c / 2 + d) + (p : Int) * c := by show (p : Int) * c + c / 2 + d = _; omega
  have hq : ((mvT c ((p, d) :: z)).headD 0) / c = (p : Int) := by
    rw [hhead, Int.add_mul_ediv_right _ _ (by omega), Int.ediv_eq_zero_of_lt (by omega) (by omega)]
    omega
  have ho : off0 (plainC c) ((mvT c ((p, d) :: z)).headD 0) = 64 * d := by
    unfold off0
    rw [if_pos (show (plainC c).phase = 0 from rfl), hhead]
    show ((c / 2 + d + (p : Int) * c) % c - c / 2) * 64 = _
    rw [Int.add_mul_emod_self_right, Int.emod_eq_of_lt (by omega) (by omega)]
    omega
  have hrun := plain_run (N := (s.size : Int)) (p0 := (p : Int)) hc hdp z p d hd h8 hup (by omega)
  rw [← mv_gaps hc (N := s.size) (by omega) hd h8] at hrun
  obtain ⟨L, eL⟩ : ∃ L, gapsT (mvT c ((p, d) :: z)) ((s.size : Int) * c) = L := ⟨_, rfl⟩
  obtain ⟨f, ef⟩ : ∃ f, (mvT c ((p, d) :: z)).headD 0 = f := ⟨_, rfl⟩
  rw [eL] at hrun hok ⊢
  rw [ef] at hq ho hok ⊢
  obtain ⟨G, eG⟩ : ∃ G, gapL (p :: mvP z) = G := ⟨_, rfl⟩
  obtain ⟨u, eu⟩ : ∃ u, (lastZ ((p, d) :: z)).1 = u := ⟨_, rfl⟩
  have hcell : (plainC c).cell = c := rfl
  have hns : runN (plainC c) ((plainC c).cell * 64) (off0 (plainC c) f) L = G ++ [(s.size : Int) - (u : Int) + (p : Int)] := by
    rw [ho, hcell, hrun, eG, eu]
  have hmv : mvP ((p, d) :: z) = p :: mvP z := rfl
  rw [hmv, eG, eu] at hk
  rw [hmv, eG] at hpos
  rw [eu] at hlz
  have hrok : runOk (plainC c) f L = true := by
    unfold runOk
    rw [hns, List.all_eq_true]
    intro n hn
    have := hk n hn
    simp only [decide_eq_true_eq]
    omega
  have hsumG : G.sum = (u : Int) - (p : Int) := by
    rw [← eG, gapL_sum, ← hmv, mvP_last (by simp), eu]
  have hlen : (G ++ [(s.size : Int) - (u : Int) + (p : Int)]).length - 1 = G.length := by simp
  have htake : (G ++ [(s.size : Int) - (u : Int) + (p : Int)]).take G.length = G := by simp
  have hlast : lastI (G ++ [(s.size : Int) - (u : Int) + (p : Int)]) = (s.size : Int) - (u : Int) + (p : Int) := by unfold lastI; simp
  have hfit : rcFit (plainC c) f L = true := by
    unfold rcFit
    rw [hns, hcell, hq]
    unfold rcSum
    rw [hlen, htake, hlast, hsumG]
    simp only [decide_eq_true_eq]
    omega
  have hrc : rcOk (plainC c) c f L = true := by unfold rcOk; rw [hok, plainC_ok hc]; rfl
  refine ⟨by unfold rcE; rw [hrc, hrok, hfit]; rfl, ?_⟩
  unfold rcS
  rw [hrc, hrok, hfit]
  show (⟨(rcAll (f / (plainC c).cell) (runN (plainC c) ((plainC c).cell * 64) (off0 (plainC c) f) L)).toArray⟩ : ByteArray) = s
  rw [hns, hcell, hq]
  unfold rcAll rcP
  rw [hlen, htake, hlast]
  obtain ⟨q, y, e⟩ : ∃ q y, onesL s.data.toList s.size = q ++ [y] := by
    rcases List.eq_nil_or_concat (onesL s.data.toList s.size) with e | ⟨q, y, e⟩
    · rw [← hz, hmv] at e; cases e
    · exact ⟨q, y, by rw [e, List.concat_eq_append]⟩
  obtain ⟨-, h2⟩ := (take_cells hb s.size (by simp)).2 q y e
  rw [← e, ← hz, hmv] at h2
  have hy : y = u := by
    have := mvP_last (z := (p, d) :: z) (by simp)
    rw [hz, e, eu] at this
    simpa using this
  rw [hy, List.take_of_length_le (by simp)] at h2
  unfold cellsG at h2
  rw [eG] at h2
  rw [show (s.size : Int) - (u : Int) + (p : Int) - 1 - (p : Int) = (s.size : Int) - (u : Int) - 1 by omega]
  have h3 : zerosL (p : Int) ++ [49] ++ (G.flatMap fun n => zerosL (n - 1) ++ [49]) ++ zerosL ((s.size : Int) - (u : Int) - 1) = s.data.toList := h2
  rw [h3]
theorem sum_ge0 : ∀ {l : List Int}, (∀ y ∈ l, 1 ≤ y) → 0 ≤ l.sum
  | [], _ => by simp
  | a :: l, h => by
    have h1 := h a (by simp)
    have h2 := sum_ge0 fun y hy => h y (List.mem_cons_of_mem _ hy)
    rw [List.sum_cons]
    omega
theorem mem_le_sum : ∀ {l : List Int} {x : Int}, (∀ y ∈ l, 1 ≤ y) → x ∈ l → x ≤ l.sum
  | a :: l, x, h, hx => by
    have hs := sum_ge0 fun y hy => h y (List.mem_cons_of_mem _ hy)
    have h1 := h a (by simp)
    rw [List.sum_cons]
    rcases List.mem_cons.1 hx with rfl | hx
    · omega
    · have := mem_le_sum (fun z hz => h z (List.mem_cons_of_mem _ hz)) hx
      omega
/-- Exact flux: its gaps, their sum, its validity. -/
def exZ (l : List Nat) : List (Nat × Int) := l.map fun p => (p, 0)
theorem exZ_P (l : List Nat) : mvP (exZ l) = l := by unfold mvP exZ; rw [List.map_map]; exact (List.map_congr_left (fun _ _ => rfl)).trans (List.map_id l)
theorem exZ_T (s : List UInt8) (c : Int) (k : Nat) : mvT c (exZ (onesL s k)) = timesZ s c k := by
  unfold mvT exZ timesZ
  rw [List.map_map]
  congr 1
  funext p
  simp
theorem diff_ex {c : Int} (hc : 4 ≤ c ∧ c ≤ 200) : ∀ l : List Nat, (∀ x ∈ l, (x : Int) ≤ 8000) → diffW (mvT c (exZ l)) = (gapL l).map (· * c)
  | [], _ => rfl
  | [_], _ => rfl
  | a :: b :: r, h => by
    have q1 := mul_bd (h a (by simp)) hc
    have q2 := mul_bd (h b (by simp)) hc
    have ih := diff_ex hc (b :: r) (fun x hx => h x (List.mem_cons_of_mem _ hx))
    show IntKind.i64.wrap (((b : Int) * c + c / 2 + 0) - ((a : Int) * c + c / 2 + 0)) :: diffW (mvT c (exZ (b :: r))) = ((b : Int) - (a : Int)) * c :: (gapL (b :: r)).map (· * c)
    rw [ih, frw (by omega), Int.sub_mul]
    congr 1
    omega
theorem gaps_ex {c : Int} (hc : 4 ≤ c ∧ c ≤ 200) {N : Nat} (hN : (N : Int) ≤ 8000) {p : Nat} {l : List Nat} (h : ∀ x ∈ p :: l, (x : Int) ≤ 8000) :
    gapsT (mvT c (exZ (p :: l))) ((N : Int) * c) = (gapL (p :: l) ++ [(N : Int) - (((p :: l).getLastD 0 : Nat) : Int) + (p : Int)]).map (· * c) := by
  have hm : ∀ x ∈ exZ (p :: l), x.2 = 0 ∧ (x.1 : Int) ≤ 8000 := fun x hx => by
    unfold exZ at hx
    obtain ⟨y, hy, rfl⟩ := List.mem_map.1 hx
    exact ⟨rfl, h y hy⟩
  have hl := mvP_last (z := exZ (p :: l)) (by simp [exZ])
  have hz := hm _ (lastZ_mem (z := exZ (p :: l)) (by simp [exZ]))
  rw [exZ_P] at hl
  have e := mv_gaps (z := exZ l) (p := p) (d := 0) hc hN (fun x hx => by have := (hm x hx).1; omega) (fun x hx => (hm x hx).2)
  rw [show exZ (p :: l) = (p, 0) :: exZ l from rfl] at *
  rw [e, show (p, 0) :: exZ l = exZ (p :: l) from rfl, diff_ex hc _ h, List.map_append, List.map_cons, List.map_nil]
  rw [show (p, 0) :: exZ l = exZ (p :: l) from rfl] at hl hz
  rw [hz.1, ← hl]
  congr 2
  omega
theorem mulc_sum (c : Int) : ∀ l : List Int, (l.map (· * c)).sum = l.sum * c
  | [] => by simp
  | a :: l => by rw [List.map_cons, List.sum_cons, List.sum_cons, mulc_sum c l, Int.add_mul]
theorem exact_ok {s : ByteArray} {c : Int} (hc : 4 ≤ c ∧ c ≤ 200) (hN : s.size ≤ 8000) (hne : onesL s.data.toList s.size ≠ []) (h4 : (onesL s.data.toList s.size).length ≤ 4000) :
    fluxOk c ((timesZ s.data.toList c s.size).headD 0) (gapsT (timesZ s.data.toList c s.size) ((s.size : Int) * c)) = true ∧
    (gapsT (timesZ s.data.toList c s.size) ((s.size : Int) * c)).sum = (s.size : Int) * c := by
  have hup := onesL_up s.data.toList s.size
  have hlt : ∀ x ∈ onesL s.data.toList s.size, x < s.size := fun x hx => onesL_lt hx
  rw [← exZ_T]
  generalize onesL s.data.toList s.size = l at *
  obtain ⟨p, l, rfl⟩ : ∃ p l', l = p :: l' := by
    cases l with
    | nil => exact absurd rfl hne
    | cons a l => exact ⟨a, l, rfl⟩
  have hpl := hlt p (by simp)
  have h8 : ∀ x ∈ p :: l, (x : Int) ≤ 8000 := fun x hx => by have := hlt x hx; omega
  have hla : (p :: l).getLastD 0 ∈ p :: l := by
    rw [List.getLastD_eq_getLast?, List.getLast?_eq_some_getLast (by simp)]
    exact List.getLast_mem (by simp)
  have hu := hlt _ hla
  rw [gaps_ex hc (by omega) h8]
  have hsum : (gapL (p :: l) ++ [(s.size : Int) - (((p :: l).getLastD 0 : Nat) : Int) + (p : Int)]).sum = (s.size : Int) := by
    rw [List.sum_append, gapL_sum]
    simp only [List.sum_cons, List.sum_nil]
    omega
  have hpos : ∀ n ∈ gapL (p :: l) ++ [(s.size : Int) - (((p :: l).getLastD 0 : Nat) : Int) + (p : Int)], 1 ≤ n := fun n hn => by
    rcases List.mem_append.1 hn with h | h
    · exact gapL_pos hup n h
    · rw [List.mem_singleton] at h
      omega
  have hsum2 := mulc_sum c (gapL (p :: l) ++ [(s.size : Int) - (((p :: l).getLastD 0 : Nat) : Int) + (p : Int)])
  rw [hsum] at hsum2
  refine ⟨?_, hsum2⟩
  have hlen : (gapL (p :: l) ++ [(s.size : Int) - (((p :: l).getLastD 0 : Nat) : Int) + (p : Int)]).length = (p :: l).length := by
    have e := diffW_len (mvT c (exZ (p :: l)))
    rw [diff_ex hc _ h8] at e
    simp only [List.length_map, mvT, exZ] at e
    simp only [List.length_append, List.length_cons, List.length_nil, e]
    omega
  have hbig : ∀ x ∈ (gapL (p :: l) ++ [(s.size : Int) - (((p :: l).getLastD 0 : Nat) : Int) + (p : Int)]).map (· * c), 1 ≤ x := fun x hx => by
    obtain ⟨n, hn, rfl⟩ := List.mem_map.1 hx
    have := Int.mul_le_mul (hpos n hn) hc.1 (by omega) (by have := hpos n hn; omega)
    omega
  have hlast : ((gapL (p :: l) ++ [(s.size : Int) - (((p :: l).getLastD 0 : Nat) : Int) + (p : Int)]).map (· * c)).getLastD 0 = ((s.size : Int) - (((p :: l).getLastD 0 : Nat) : Int) + (p : Int)) * c := by
    rw [List.map_append]
    simp
  have hNc := mul_bd (p := s.size) (c := c) (by omega) hc
  rw [fluxOk_iff, hsum2, hlast, List.length_map, hlen]
  generalize hLL : (gapL (p :: l) ++ [(s.size : Int) - (((p :: l).getLastD 0 : Nat) : Int) + (p : Int)]).map (· * c) = LL at *
  refine ⟨hc, by simp, h4, ?_, by omega, ?_, ?_⟩
  · unfold gapsIn
    rw [List.all_eq_true]
    intro x hx
    have h1 := hbig x hx
    have h2 := mem_le_sum hbig hx
    rw [hsum2] at h2
    exact inB_iff.2 (by omega)
  · show 0 ≤ (p : Int) * c + c / 2 + 0
    have := mul_bd (h8 p (by simp)) hc
    omega
  · show (p : Int) * c + c / 2 + 0 ≤ _
    have h1 : (1 + (p : Int)) * c ≤ ((s.size : Int) - (((p :: l).getLastD 0 : Nat) : Int) + (p : Int)) * c := Int.mul_le_mul_of_nonneg_right (by omega) (by omega)
    rw [Int.add_mul] at h1
    omega
end Go.Proofs.Ytmjmhdjfaamgkaa
