/- RecoverCells: the specification. -/
import Derived.Test.YtmjmhdjfaamgkaaRecP
import Derived.Deep.QuietTactic
namespace Go.Proofs.Ytmjmhdjfaamgkaa
open Go.RowKit
set_option linter.unusedVariables false
theorem Blk.alloc'' {w : World} {g : Nat} {t : TypeId} {cs : Array Value} (h : Blk w g t cs) (o : Obj) : Blk (w.alloc o) g t cs := h.keep ((Below.refl _ _).alloc (Nat.le_refl _) o)
theorem ret_str_int {a b : ByteArray} {x y : Int} (h : a = b) (h2 : x = y) : Ending.returned (.tuple #[.string a, .int .i64 x]) = .returned (.tuple #[.string b, .int .i64 y]) := by rw [h, h2]
set_option maxHeartbeats 1000000 in
theorem spec_l03Zeros (base : Nat) (v : Value) (L : List UInt8) (n : Int) (w : World) (hown : OwnB w base v L) (hn : n ≤ 100000) (hL : L.length ≤ 100000) (hbase : base ≤ w.heap.size) :
    Calls Try.prog 114 #[v, .int .i64 n] w fun e w' => ∃ v', e = .returned v' ∧ OwnB w' base v' (L ++ zerosL n) ∧ Below base w w' := by
  have hbd : -9223372036854775808 ≤ n ∨ n < -9223372036854775808 := by omega
  go_enter Try.func114, Try.ntmps114
  go_wp2_with fail
  go_loopw [0, 1] (fun v iv wr => ∃ (k : Int) (M : List UInt8), k ≤ n ∧ iv = .int .i64 k ∧ OwnB wr base v M ∧ M ++ zerosL k = L ++ zerosL n ∧ (M.length : Int) + max k 0 ≤ 200000 ∧ Below base w wr) (fun _ iv _ => (intOf iv).toNat)
  case atStart => exact ⟨n, L, Int.le_refl _, rfl, hown, rfl, by omega, Below.refl _ _⟩
  case round =>
    obtain ⟨k, M, hk, rfl, hM, he, hml, hbel⟩ := hrel
    have hz : base ≤ wr.heap.size := by have := hbel.size; omega
    by_cases h0 : 0 < k
    · have hd : decide (0 < k) = true := decide_eq_true h0
      have HE : Hid (M ++ [48] ++ zerosL (k - 1) = L ++ zerosL n) := Lib.hid (by rw [List.append_assoc, zerosL_cons h0]; exact he)
      clear he
      go_wp2_with (at_builtin; refine append_byte _ rfl (.tmp 9) (.tmp 10) rfl base u0 M _ rfl rfl hM (by omega) (by omega) hz ?_; intro v1 w1 hM1 hbel1)
      refine ⟨⟨k - 1, M ++ [48], by omega, by go_num, hM1, HE.out, by simp; omega, hbel.trans hbel1⟩, by simp [intOf]; omega⟩
    · have hd : decide (0 < k) = false := decide_eq_false h0
      have HE : Hid (M = L ++ zerosL n) := Lib.hid (by rw [← he, zerosL_no (by omega), List.append_nil])
      clear he
      go_wp2_with fail
      go_returns
      exact ⟨_, rfl, by rw [← HE.out]; exact hM, hbel⟩
set_option maxHeartbeats 4000000 in
set_option maxRecDepth 20000 in
theorem spec_l03Recover (c : Clk) (cf f : Int) (p : Option Addr) (l : List Int) (cap g : Nat) (w : World) (hI : IntsAt w p l) (hok : fluxOk cf f l = true) (hc : c.valid = true) (hB : Blk w g 24 #[.int .i64 cf, .int .i64 f, .slice p l.length cap]) :
    Calls Try.prog 87 #[.pointer (some ⟨g, 0, none⟩), c.val] w fun e w' => e = .returned (.tuple #[.string (rcS c cf f l), .int .i64 (rcE c cf f l)]) ∧ Below w.heap.size w w' := by
  have hro : rcOk c cf f l = true := by unfold rcOk; rw [hok, hc]; rfl
  have hall := fun w' hI' hB' => spec_l03All c cf f p l cap g w' hI' hok hc hB'
  have hbd := fun n hn => runNs_bd (c := c) (cf := cf) (f := f) (l := l) hok hc n hn
  have hkk := Clk.valid_bd hc
  obtain ⟨-, hlen, -, -, hf, -⟩ := fluxOk_bd hok
  have hgl := hB.lt
  have HR1 : Hid (rcE c cf f l = if runOk c f l then (if rcFit c f l then 0 else 5) else 10) := Lib.hid (by unfold rcE; rw [hro]; rfl)
  have HR2 : Hid (rcS c cf f l = if runOk c f l && rcFit c f l then ⟨(rcAll (f / c.cell) (runN c (c.cell * 64) (off0 c f) l)).toArray⟩ else ByteArray.empty) := Lib.hid (by unfold rcS; rw [hro]; rfl)
  have HFT : Hid (rcFit c f l = decide (rcSum (f / c.cell) (runN c (c.cell * 64) (off0 c f) l) ≤ 8000)) := Lib.hid rfl
  have hrn : runOk c f l = true → runNs c f l = runN c (c.cell * 64) (off0 c f) l := fun h => by unfold runNs; rw [h]; rfl
  have hrl := runN_len c (c.cell * 64) (off0 c f) l
  have hq : f.tdiv c.cell = f / c.cell := Int.tdiv_eq_ediv_of_nonneg (by omega)
  have hqb : 0 ≤ f / c.cell ∧ f / c.cell ≤ 2000000 := ⟨Int.ediv_nonneg (by omega) (by omega), Int.le_trans (Int.ediv_le_self _ (by omega)) (by omega)⟩
  obtain ⟨ca, cb, ch, cp, cs⟩ := c
  simp only [Clk.val] at *
  generalize runN ⟨ca, cb, ch, cp, cs⟩ (ca * 64) (off0 ⟨ca, cb, ch, cp, cs⟩ f) l = ns at *
  generalize runNs ⟨ca, cb, ch, cp, cs⟩ f l = nss at *
  generalize runEs ⟨ca, cb, ch, cp, cs⟩ f l = es at *
  generalize rcS ⟨ca, cb, ch, cp, cs⟩ cf f l = RS at *
  generalize rcE ⟨ca, cb, ch, cp, cs⟩ cf f l = RE at *
  generalize rcFit ⟨ca, cb, ch, cp, cs⟩ f l = RF at *
  generalize runOk ⟨ca, cb, ch, cp, cs⟩ f l = RO at *
  generalize f / ca = a at *
  clear hok hc hro
  have BC := Blk.new w 67 #[.int .i64 ca, .int .i64 cb, .int .i64 ch, .int .i64 cp, .int .i64 cs]
  have BF := hB.alloc'' (.cells #[.int .i64 ca, .int .i64 cb, .int .i64 ch, .int .i64 cp, .int .i64 cs] 67)
  have W0 : Below w.heap.size w (w.alloc (.cells #[.int .i64 ca, .int .i64 cb, .int .i64 ch, .int .i64 cp, .int .i64 cs] 67)) := (Below.refl _ _).alloc (Nat.le_refl _) _
  go_enter Try.func87, Try.ntmps87
  go_wp2_with fail
  generalize w.alloc (.cells #[.int .i64 ca, .int .i64 cb, .int .i64 ch, .int .i64 cp, .int .i64 cs] 67) = w0 at BC BF W0 ⊢
  refine (hall _ (hI.below W0) BF).mono ?_
  rintro e w1 ⟨q, dq, r, dr, rfl, SN, -, hb1⟩
  replace BC := BC.keep hb1
  replace BF := BF.keep hb1
  have z1 := hb1.size
  have z0 := W0.size
  replace W0 := below_st W0 hb1 (Nat.le_refl _)
  cases RO
  · have H1 : Hid (RE = 10) := Lib.hid (by rw [HR1.out]; rfl)
    have H2 : Hid (RS = ByteArray.empty) := Lib.hid (by rw [HR2.out]; rfl)
    go_wp2_with fail
    go_ret2
    exact ⟨ret_str_int (by rw [H2.out]; rfl) (by rw [H1.out]), W0⟩
  obtain rfl := hrn rfl
  have hbn : ∀ n ∈ nss, 1 ≤ n ∧ n ≤ 100 := fun n hn => hbd n hn
  obtain ⟨f0, f1, f2⟩ := BF.cell3
  obtain ⟨c0, c1, c2, c3, c4⟩ := BC.cell5
  have flt := BF.lt
  have clt := BC.lt
  have hca0 : ¬ ca = 0 := by omega
  have qa : IntKind.i64.wrap (f.tdiv ca) = a := by rw [hq, IntWalk.i64_in _ (by omega)]
  go_wp2_with fail
  go_quiet (fail)
  have I1 := SN.ints
  have hN : nss.length = l.length := hrl
  obtain ⟨m, hm⟩ : ∃ m, l.length - 1 = m := ⟨_, rfl⟩
  have hmN : m < nss.length := by omega
  obtain ⟨az, haz, hcz⟩ := I1.at_ hmN
  subst haz
  obtain ⟨z, ez⟩ : ∃ z, nss[m] = z := ⟨_, rfl⟩
  have hzb := hbn _ (List.getElem_mem hmN)
  have hlastz : lastI nss = z := by
    unfold lastI
    rw [← ez, lastD_at (by omega)]
  rw [ez] at hcz hzb
  have hsum0 : rcSum a nss = a + 1 + (nss.take m).sum + max (z - 1 - a) 0 := by unfold rcSum; rw [hN, hm, hlastz]
  have htb := take_sum_bd hbn m
  have HSUM := Lib.hid hsum0
  have HTL := Lib.hid (fun j (hj : j ≤ m) => take_sum_le hbn hj)
  have HBN := Lib.hid hbn
  have HRCL := Lib.hid (fun k hk => rcP_len hqb.1 hbn k hk)
  have HALL : Hid (rcAll a nss = rcP a nss m ++ zerosL (z - 1 - a)) := Lib.hid (by unfold rcAll; rw [hN, hm, hlastz])
  have qm : IntKind.i64.wrap ((l.length : Int) - 1) = (m : Int) := by rw [IntWalk.i64_in _ (by omega)]; omega
  have qm2 : (l.length : Int) - 1 = (m : Int) := by omega
  have im : (m : Int) < (l.length : Int) := by omega
  have qz1 : IntKind.i64.wrap (z - 1) = z - 1 := IntWalk.i64_in _ (by omega)
  have qz2 : IntKind.i64.wrap (z - 1 - a) = z - 1 - a := IntWalk.i64_in _ (by omega)
  have qz3 : IntKind.i64.wrap (a + 1) = a + 1 := IntWalk.i64_in _ (by omega)
  obtain ⟨mx, hmx⟩ : ∃ mx, max 0 (z - 1 - a) = mx := ⟨_, rfl⟩
  have hmxb : 0 ≤ mx ∧ mx ≤ 100 := by omega
  have qz4 : IntKind.i64.wrap (a + 1 + mx) = a + 1 + mx := IntWalk.i64_in _ (by omega)
  have HMX : Hid (max (z - 1 - a) 0 = mx) := Lib.hid (by rw [← hmx]; exact Int.max_comm _ _)
  have EZ := Lib.hid ez
  clear hsum0 hbn hlastz ez hbd hrn hall
  have hz1 := W0.size
  generalize hw2 : (w1.drewN _) = w2
  have W1 : Below w.heap.size w w2 := by rw [← hw2]; exact below_drewN W0 _
  have SN2 : OwnS w2 w0.heap.size (some az) nss := by rw [← hw2]; exact SN
  have I2 := SN2.ints
  have hcz2 : w2.cell? (az.add m) = some (.int .i64 z) := by rw [← hw2]; exact hcz
  clear hcz f0 f1 f2 c0 c1 c2 c3 c4
  go_wp2_with (go_at_call 113; refine (spec_l00Max _ _ _).mono ?_; rintro e w' ⟨rfl, rfl⟩; rw [hmx])
  go_loopw [11, 12] (fun sv iv wr => ∃ k : Nat, k ≤ m ∧ iv = .int .i64 k ∧ sv = .int .i64 (a + 1 + mx + (nss.take k).sum) ∧ wr = w') (fun _ iv _ => m - (intOf iv).toNat)
  case atStart => exact ⟨0, Nat.zero_le _, rfl, by simp, rfl⟩
  case round =>
    obtain ⟨k, hk, rfl, rfl, hwr⟩ := hrel
    subst hwr
    have htk := take_sum_bd HBN.out k
    by_cases hlt : k < m
    · have hkN : k < nss.length := by omega
      obtain ⟨ak, hak, hck⟩ := I2.at_ hkN
      cases hak
      have hs := sumI_take hkN
      have hb := HBN.out _ (List.getElem_mem hkN)
      obtain ⟨y, ey⟩ : ∃ y, nss[k] = y := ⟨_, rfl⟩
      rw [ey] at hck hs hb
      obtain ⟨sk, esk⟩ : ∃ sk, (nss.take k).sum = sk := ⟨_, rfl⟩
      rw [esk] at hs htk ⊢
      have HS := Lib.hid hs
      have q1 : IntKind.i64.wrap (a + 1 + mx + sk + y) = a + 1 + mx + sk + y := IntWalk.i64_in _ (by omega)
      clear hs ey esk
      go_wp2_with fail
      refine ⟨⟨k + 1, by omega, by go_num, ?_, trivial⟩, by simp [intOf]; omega⟩
      rw [HS.out]; exact congrArg (Value.int .i64) (by omega)
    · have hkm : k = m := by omega
      subst hkm
      obtain ⟨sm, esm⟩ : ∃ sm, (nss.take k).sum = sm := ⟨_, rfl⟩
      rw [esm] at htk ⊢
      have hrs : rcSum a nss = a + 1 + mx + sm := by rw [HSUM.out, esm, HMX.out]; omega
      by_cases hfit : 8000 < a + 1 + mx + sm
      · have hd : decide (8000 < a + 1 + mx + sm) = true := decide_eq_true hfit
        have hrf : RF = false := by rw [HFT.out, hrs]; exact decide_eq_false (by omega)
        have H1 : Hid (RE = 5) := Lib.hid (by rw [HR1.out, hrf]; rfl)
        have H2 : Hid (RS = ByteArray.empty) := Lib.hid (by rw [HR2.out, hrf]; rfl)
        go_wp2_with fail
        go_ret2
        exact ⟨ret_str_int (by rw [H2.out]; rfl) (by rw [H1.out]), W1⟩
      · have hd : decide (8000 < a + 1 + mx + sm) = false := decide_eq_false hfit
        have hrf : RF = true := by rw [HFT.out, hrs]; exact decide_eq_true (by omega)
        have H1 : Hid (RE = 0) := Lib.hid (by rw [HR1.out, hrf]; rfl)
        have H2 : Hid (RS = ⟨(rcAll a nss).toArray⟩) := Lib.hid (by rw [HR2.out, hrf]; rfl)
        have HLEN : Hid (∀ j, j ≤ k → ((rcP a nss j).length : Int) ≤ 8000) := Lib.hid fun j hj => by
          have h1 := HRCL.out j (by omega)
          have h2 := HTL.out j hj
          rw [esm] at h2
          omega
        have hr0 : ([] ++ zerosL a) ++ [49] = rcP a nss 0 := by rw [rcP_zero]; rfl
        have hzl := zerosL_len a
        clear esm hrf hrs
        obtain ⟨B, eB⟩ : ∃ B, wr.heap.size = B := ⟨_, rfl⟩
        have hown0 := OwnB.nil0 wr
        rw [eB] at hown0
        have z2 : B + 1 ≤ (wr.alloc (.cells #[] 5)).heap.size := by simp; omega
        have HR0 := Lib.hid hr0
        have hI3 : ∀ wy, Below B wr wy → IntsAt wy (some az) nss := fun wy hb => I2.below (by rw [eB]; exact hb)
        have hbw0 : Below B wr (wr.alloc (.cells #[] 5)) := (Below.refl _ _).alloc (by omega) _
        have hBW : w.heap.size ≤ B := by have := W1.size; omega
        clear hcz2
        go_wp2_with fail
        refine (spec_l03Zeros B _ [] a _ hown0 (by omega) (by simp) (by omega)).mono ?_
        rintro e w3 ⟨v3, rfl, hown3, hb3⟩
        have hz3 : B ≤ w3.heap.size := by have := hb3.size; omega
        have hl3 : ([] ++ zerosL a : List UInt8).length < 65536 := by have := HLEN.out 0 (Nat.zero_le _); rw [← HR0.out, List.length_append] at this; simp at this ⊢; omega
        go_wp2_with (at_builtin; refine append_byte _ rfl (.tmp 60) (.tmp 61) rfl B v3 ([] ++ zerosL a) _ rfl rfl hown3 (by omega) (by omega) hz3 ?_; intro v4 w4 hown4 hb4)
        rw [show b8 49 = (49 : UInt8) from rfl, HR0.out] at hown4
        have hb04 : Below B wr w4 := hbw0.trans (hb3.trans hb4)
        go_loopw [13, 14] (fun v iv wq => ∃ j : Nat, j ≤ k ∧ iv = .int .i64 j ∧ OwnB wq B v (rcP a nss j) ∧ Below B wr wq) (fun _ iv _ => k - (intOf iv).toNat)
        case atStart => exact ⟨0, Nat.zero_le _, rfl, hown4, hb04⟩
        case round =>
          obtain ⟨j, hj, rfl, hown, hbel⟩ := hrel
          have hzq := hbel.size
          rw [eB] at hzq
          have hlj := HLEN.out j hj
          by_cases hjk : j < k
          · have hjN : j < nss.length := by omega
            obtain ⟨aj, haj, hcj⟩ := (hI3 _ hbel).at_ hjN
            cases haj
            have hb := HBN.out _ (List.getElem_mem hjN)
            have hs := rcP_succ a hjN
            have hlj2 := HLEN.out (j + 1) (by omega)
            rw [hs, List.length_append, List.length_append] at hlj2
            obtain ⟨y, ey⟩ : ∃ y, nss[j] = y := ⟨_, rfl⟩
            rw [ey] at hcj hs hb hlj2
            have HS := Lib.hid hs
            have q1 : IntKind.i64.wrap (y - 1) = y - 1 := IntWalk.i64_in _ (by omega)
            have hlj3 : (rcP a nss j ++ zerosL (y - 1)).length < 65536 := by rw [List.length_append]; simp at hlj2; omega
            clear hs ey hlj2
            go_wp2_with fail
            refine (spec_l03Zeros B _ (rcP a nss j) (y - 1) _ hown (by omega) (by omega) hzq).mono ?_
            rintro e w5 ⟨v5, rfl, hown5, hb5⟩
            have hz5 : B ≤ w5.heap.size := by have := hb5.size; omega
            go_wp2_with (at_builtin; refine append_byte _ rfl (.tmp 74) (.tmp 75) rfl B v5 (rcP a nss j ++ zerosL (y - 1)) _ rfl rfl hown5 (by omega) (by omega) hz5 ?_; intro v6 w6 hown6 hb6)
            rw [show b8 49 = (49 : UInt8) from rfl, ← HS.out] at hown6
            go_roundw
            case rel => exact ⟨j + 1, by omega, by go_num, hown6, hbel.trans (hb5.trans hb6)⟩
            case measure => simp [intOf]; omega
          · have hjk2 : j = k := by omega
            subst hjk2
            obtain ⟨aj, haj, hcj⟩ := (hI3 _ hbel).at_ hmN
            cases haj
            rw [EZ.out] at hcj
            go_wp2_with fail
            refine (spec_l03Zeros B _ (rcP a nss j) (z - 1 - a) _ hown (by omega) (by omega) hzq).mono ?_
            rintro e w5 ⟨v5, rfl, hown5, hb5⟩
            have hst := hown5.str
            go_wp2_with fail
            go_ret2
            exact ⟨ret_str_int (by rw [H2.out, HALL.out]) (by rw [H1.out]), W1.trans ((hbel.trans hb5).mono hBW)⟩
end Go.Proofs.Ytmjmhdjfaamgkaa
