/- impl.runClock, with the capacity of the counts. Printed by run3.py from XRun2W. -/
import Derived.Test.YtmjmhdjfaamgkaaRun2W
namespace Go.Proofs.Ytmjmhdjfaamgkaa
open Go.RowKit
theorem OwnI.open2 {w : World} {base : Nat} {v : Value} {l : List Int} (h : OwnI w base v l) : ∃ p cap, v = .slice p l.length cap ∧ OwnS w base p l ∧ l.length ≤ cap := by
  obtain ⟨p, cap, hv, hs⟩ := h.open_
  refine ⟨p, cap, hv, hs, ?_⟩
  rcases h.2 with ⟨hv2, hn⟩ | ⟨g, cap', cur, hv2, -, -, hle, -, -, -⟩
  · omega
  · rw [hv] at hv2
    injection hv2 with _ _ h3
    omega
set_option maxHeartbeats 4000000 in
set_option maxRecDepth 20000 in
theorem impl_runClock2_no (c : Clk) (cf f : Int) (p : Option Addr) (l : List Int) (cap : Nat) (w : World) (hI : IntsAt w p l) (hl : l.length ≤ 1048576) (hno : (fluxOk cf f l && c.valid) = false) :
    Calls Try.prog 88 #[.agg #[.int .i64 cf, .int .i64 f, .slice p l.length cap], c.val] w fun e w' => ∃ q dq r dr, e = .returned (.tuple #[.slice q (cNs c cf f l).length dq, .slice r (cEs c cf f l).length dr, .int .i64 (runCode c cf f l)]) ∧ OwnS w' w.heap.size q (cNs c cf f l) ∧ OwnS w' w.heap.size r (cEs c cf f l) ∧ Below w.heap.size w w' ∧ (cNs c cf f l).length ≤ dq := by
  have HN : Hid (cNs c cf f l = []) := Lib.hid (by unfold cNs; rw [hno]; rfl)
  have HE : Hid (cEs c cf f l = []) := Lib.hid (by unfold cEs; rw [hno]; rfl)
  have HR : Hid (runCode c cf f l = 1) := Lib.hid (by unfold runCode; rw [hno]; rfl)
  have B0 := Blk.new w 24 #[.int .i64 cf, .int .i64 f, .slice p l.length cap]
  have hv : c.valid = Clk.valid ⟨c.cell, c.low, c.high, c.phase, c.speed⟩ := rfl
  unfold Clk.val
  cases h1 : fluxOk cf f l
  · have H := Lib.hid h1
    clear h1 hno hv
    go_enter Try.func88, Try.ntmps88
    go_wp2_with (go_at_call 59; refine (impl_ValidFlux cf f p l cap _ ((hI.alloc _).alloc _) hl).mono ?_; rintro e w1 ⟨rfl, hb1⟩; rw [H.out])
    go_returns
    exact ⟨none, 0, none, 0, by rw [HN.out, HE.out, HR.out]; rfl, by rw [HN.out]; exact OwnS.nil_ _ _ _, by rw [HE.out]; exact OwnS.nil_ _ _ _, ((Below.refl _ _).alloc (Nat.le_refl _) _).trans ((((Below.refl _ _).alloc (Nat.le_refl _) _).trans (hb1.mono (by simp))).mono (by simp)), by first | (rw [HN.out]; exact Nat.zero_le _) | (rw [EN.out, hn]; exact Nat.zero_le _)⟩
  · rw [h1, hv] at hno
    have H := Lib.hid h1
    have H2 : Hid (Clk.valid ⟨c.cell, c.low, c.high, c.phase, c.speed⟩ = false) := Lib.hid (by simpa using hno)
    clear h1 hno hv
    go_enter Try.func88, Try.ntmps88
    go_wp2_with fail
    refine (impl_ValidFlux cf f p l cap _ ((hI.alloc _).alloc _) hl).mono ?_
    rintro e w1 ⟨rfl, hb1⟩
    rw [H.out]
    obtain ⟨j1, -⟩ := bcell hb1
    have hw1 : Below w.heap.size w w1 := ((Below.refl _ _).alloc (Nat.le_refl _) _).trans ((((Below.refl _ _).alloc (Nat.le_refl _) _).trans (hb1.mono (by simp))).mono (by simp))
    go_wp2_with fail
    refine (impl_ValidClock _ _ _ _ _ _).mono ?_
    rintro e w2 ⟨rfl, hb2⟩
    rw [H2.out]
    go_wp2_with fail
    go_returns
    exact ⟨none, 0, none, 0, by rw [HN.out, HE.out, HR.out]; rfl, by rw [HN.out]; exact OwnS.nil_ _ _ _, by rw [HE.out]; exact OwnS.nil_ _ _ _, below_st hw1 hb2 (Nat.le_refl _), by first | (rw [HN.out]; exact Nat.zero_le _) | (rw [EN.out, hn]; exact Nat.zero_le _)⟩
set_option maxHeartbeats 4000000 in
set_option maxRecDepth 20000 in
theorem impl_runClock2 (c : Clk) (cf f : Int) (p : Option Addr) (l : List Int) (cap : Nat) (w : World) (hI : IntsAt w p l) (hl : l.length ≤ 1048576) :
    Calls Try.prog 88 #[.agg #[.int .i64 cf, .int .i64 f, .slice p l.length cap], c.val] w fun e w' => ∃ q dq r dr, e = .returned (.tuple #[.slice q (cNs c cf f l).length dq, .slice r (cEs c cf f l).length dr, .int .i64 (runCode c cf f l)]) ∧ OwnS w' w.heap.size q (cNs c cf f l) ∧ OwnS w' w.heap.size r (cEs c cf f l) ∧ Below w.heap.size w w' ∧ (cNs c cf f l).length ≤ dq := by
  cases hno : (fluxOk cf f l && c.valid)
  · exact impl_runClock2_no c cf f p l cap w hI hl hno
  have hok : fluxOk cf f l = true := by simp at hno; exact hno.1
  have hc : c.valid = true := by simp at hno; exact hno.2
  have rc0 : runCode c cf f l = if runOk c f l then 0 else 10 := by unfold runCode; rw [hno]; rfl
  have en1 : cNs c cf f l = runNs c f l := by unfold cNs; rw [hno]; rfl
  have ee1 : cEs c cf f l = runEs c f l := by unfold cEs; rw [hno]; rfl
  have RC := Lib.hid rc0
  rw [en1, ee1]
  have HOK := Lib.hid hok
  have hvk : Hid (Clk.valid ⟨c.cell, c.low, c.high, c.phase, c.speed⟩ = true) := Lib.hid hc
  clear hno rc0 en1 ee1
  obtain ⟨-, hlen, hm, -, hf, -⟩ := fluxOk_bd hok
  obtain ⟨k1, k2, k3, k4, k5⟩ := Clk.valid_bd hc
  have HM := Lib.hid hm
  have HC := Lib.hid hc
  have HO := off0_bd hc f
  clear hok hm hc
  have hcl : off0 c f = if c.phase = 0 then (f % c.cell - c.cell / 2) * 64 else 0 := rfl
  obtain ⟨O0, eO⟩ : ∃ O0, off0 c f = O0 := ⟨_, rfl⟩
  have hno0 := @runOk_no c f l
  have hyes0 := @runOk_yes c f l
  have en0 : runNs c f l = if runOk c f l then runN c (c.cell * 64) O0 l else [] := by rw [← eO]; rfl
  have ee0 : runEs c f l = if runOk c f l then runE c (c.cell * 64) O0 l else [] := by rw [← eO]; rfl
  have hst := fun P O gp w h1 h2 h3 => impl_step c P O gp w HC.out h1 h2 h3
  unfold Clk.val at hst ⊢
  rw [eO] at hcl HO hno0 hyes0
  clear eO
  have t1 : f.tmod c.cell = f % c.cell := Int.tmod_eq_emod_of_nonneg (by omega)
  have t2 : c.cell.tdiv 2 = c.cell / 2 := Int.tdiv_eq_ediv_of_nonneg (by omega)
  have t3 := Int.emod_nonneg f (b := c.cell) (by omega)
  have t4 := Int.emod_lt_of_pos f (b := c.cell) (by omega)
  have t5 : c.cell / 2 ≤ 100 ∧ 0 ≤ c.cell / 2 := by omega
  obtain ⟨m, em⟩ : ∃ m, f % c.cell = m := ⟨_, rfl⟩
  obtain ⟨h, eh⟩ : ∃ h, c.cell / 2 = h := ⟨_, rfl⟩
  rw [em] at t1 t3 t4 hcl
  rw [eh] at t2 t5 hcl
  clear em eh
  obtain ⟨ka, eka⟩ : ∃ ka, c.cell = ka := ⟨_, rfl⟩
  obtain ⟨kb, ekb⟩ : ∃ kb, c.low = kb := ⟨_, rfl⟩
  obtain ⟨kc, ekc⟩ : ∃ kc, c.high = kc := ⟨_, rfl⟩
  obtain ⟨kd, ekd⟩ : ∃ kd, c.phase = kd := ⟨_, rfl⟩
  obtain ⟨ke, eke⟩ : ∃ ke, c.speed = ke := ⟨_, rfl⟩
  have HP0 : Hid (c.low * 64 ≤ ka * 64 ∧ ka * 64 ≤ c.high * 64) := Lib.hid (by omega)
  simp only [eka, ekb, ekc, ekd, eke] at hcl HO hno0 hyes0 en0 ee0 hst k1 k2 k3 k4 k5 t1 t2 t4 hvk ⊢
  have HO0 : Hid (-(ka * 64) ≤ O0 ∧ O0 ≤ ka * 64) := Lib.hid HO
  have HKB := Lib.hid ekb; have HKC := Lib.hid ekc; have HNO : Hid (∀ k (hk : k < l.length), 100 < stN (stS c (ka * 64) O0 (l.take k)).1 (stS c (ka * 64) O0 (l.take k)).2 (l[k]) → runOk c f l = false) := Lib.hid (fun k hk => hno0 hk); have HYES := Lib.hid hyes0; have EN := Lib.hid en0; have EE := Lib.hid ee0; have HST := Lib.hid hst
  clear eka ekb ekc ekd eke hno0 hyes0 en0 ee0 hst
  have hz0 : ka ≠ 0 := by omega
  by_cases hp : kd = 0
  case pos =>
    subst hp
    rw [if_pos rfl] at hcl
    have HCL : Hid (O0 = 64 * (m - h)) := Lib.hid (by omega)
    have w2q : IntKind.i64.wrap (m - h) = m - h := IntWalk.i64_in _ (by omega)
    clear hcl
    go_enter Try.func88, Try.ntmps88
    go_wp2_with fail
    have BF := (Blk.new w 24 #[.int .i64 cf, .int .i64 f, .slice p l.length cap]).keep ((Below.refl _ (w.alloc (.cells #[.int .i64 cf, .int .i64 f, .slice p l.length cap] 24))).alloc (Nat.le_refl _) (.cells #[.int .i64 ka, .int .i64 kb, .int .i64 kc, .int .i64 0, .int .i64 ke] 67))
    have BC := Blk.new (w.alloc (.cells #[.int .i64 cf, .int .i64 f, .slice p l.length cap] 24)) 67 #[.int .i64 ka, .int .i64 kb, .int .i64 kc, .int .i64 0, .int .i64 ke]
    have esz : (w.alloc (.cells #[.int .i64 cf, .int .i64 f, .slice p l.length cap] 24)).heap.size = w.heap.size + 1 := by simp
    rw [esz] at BC
    have hwb : Below w.heap.size w ((w.alloc (.cells #[.int .i64 cf, .int .i64 f, .slice p l.length cap] 24)).alloc (.cells #[.int .i64 ka, .int .i64 kb, .int .i64 kc, .int .i64 0, .int .i64 ke] 67)) := ((Below.refl _ _).alloc (Nat.le_refl _) _).alloc (by simp) _
    have hsz : ((w.alloc (.cells #[.int .i64 cf, .int .i64 f, .slice p l.length cap] 24)).alloc (.cells #[.int .i64 ka, .int .i64 kb, .int .i64 kc, .int .i64 0, .int .i64 ke] 67)).heap.size = w.heap.size + 1 + 1 := by simp
    generalize (w.alloc (.cells #[.int .i64 cf, .int .i64 f, .slice p l.length cap] 24)).alloc (.cells #[.int .i64 ka, .int .i64 kb, .int .i64 kc, .int .i64 0, .int .i64 ke] 67) = wb at BC BF hwb hsz ⊢
    clear esz
    obtain ⟨B, eB⟩ : ∃ B, wb.heap.size = B := ⟨_, rfl⟩
    have hBw : w.heap.size ≤ B := by omega
    have hgB : w.heap.size < B := by omega
    have hcB : w.heap.size + 1 < B := by omega
    obtain ⟨f0, f1, f2⟩ := BF.cell3
    refine (impl_ValidFlux cf f p l cap _ (hI.below hwb) hl).mono ?_
    rintro e w0 ⟨rfl, hb0⟩
    rw [HOK.out]
    have hw00 := hb0
    rw [eB] at hw00
    have hz0' := hb0.size
    clear hb0 f0 f1 f2
    obtain ⟨d0, d1, d2, d3, d4⟩ := (BC.below hw00 hcB).cell5
    go_wp2_with fail
    refine (impl_ValidClock _ _ _ _ _ _).mono ?_
    rintro e w1 ⟨rfl, hb1⟩
    rw [hvk.out]
    have hw0 := hw00.trans (hb1.mono (by omega))
    have hz1 := hb1.size
    clear hb1 d0 d1 d2 d3 d4
    have hzw1 : w.heap.size < w1.heap.size := by omega
    have hcw1 : w.heap.size + 1 < w1.heap.size := by omega
    have hxB : B ≤ w1.heap.size := by omega
    obtain ⟨f0, f1, f2⟩ := (BF.below hw0 hgB).cell3
    obtain ⟨d0, d1, d2, d3, d4⟩ := (BC.below hw0 hcB).cell5
    have N0 := OwnI.none_ w1 B; have E0 := OwnI.none_ w1 B
    go_wp2_with fail
    go_region
    go_wp2_with fail
    have X3 : Blk (w1.alloc (.cells #[.int .i64 (ka * 64), .int .i64 (64 * (m - h))] 139)).drew w1.heap.size 139 #[.int .i64 (ka * 64), .int .i64 O0] := by rw [HCL.out]; exact Blk.new w1 _ _
    have N3 := (N0.alloc (.cells #[.int .i64 (ka * 64), .int .i64 (64 * (m - h))] 139)).drew; have E3 := (E0.alloc (.cells #[.int .i64 (ka * 64), .int .i64 (64 * (m - h))] 139)).drew; have hw3 := (hw0.alloc (by omega) (.cells #[.int .i64 (ka * 64), .int .i64 (64 * (m - h))] 139)).drew; have hz3 := X3.lt
    generalize (w1.alloc (.cells #[.int .i64 (ka * 64), .int .i64 (64 * (m - h))] 139)).drew = w2 at X3 N3 E3 hw3 hz3 ⊢
    obtain ⟨xb, exb⟩ : ∃ xb, w1.heap.size = xb := ⟨_, rfl⟩
    rw [exb] at X3 hz3 ⊢
    clear f0 f1 f2 d0 d1 d2 d3 d4 N0 E0
    have DJ : ∀ g, (Value.slice none 0 0).ownBlock = some g → (Value.slice none 0 0).ownBlock ≠ some g := by intro g h1; cases h1
    have NX : ∀ g, (Value.slice none 0 0).ownBlock = some g → g ≠ xb := by intro g h1; cases h1
    have EX := NX
    have hxbB : B ≤ xb := by omega
    go_loopw [8, 9, 44] (fun v u i wr => ∃ k : Nat, i = .int .i64 k ∧ Runs c (ka * 64) O0 l B xb wr v u k ∧ Below B wb wr) (fun _ _ i _ => l.length - (intOf i).toNat)
    case atStart => exact ⟨0, rfl, ⟨Nat.zero_le _, by simpa [runN] using N3, by simpa [runE] using E3, DJ, NX, EX, by simpa [stS] using X3, fun j _ h => absurd h (Nat.not_lt_zero _)⟩, hw3⟩
    case round =>
      obtain ⟨k, rfl, hR, hbel⟩ := hrel
      have hk := hR.len
      have hbw : Below w.heap.size w wr := hwb.trans (hbel.mono hBw)
      obtain ⟨f0, f1, f2⟩ := (BF.below hbel hgB).cell3
      obtain ⟨d0, d1, d2, d3, d4⟩ := (BC.below hbel hcB).cell5
      have hzr := hbel.size
      obtain ⟨wo, hwo⟩ : ∃ wo : World, wo = wr := ⟨_, rfl⟩
      subst hwo
      by_cases hlt : k < l.length
      · obtain ⟨a, rfl, hx⟩ := (hI.below hbw).at_ hlt
        have hxw : (a.add k).block < wo.heap.size := World.block_lt_of_cell? wo _ hx
        have hgp := HM.out _ (List.getElem_mem hlt)
        have hsb := stS_bd HC.out (P := ka * 64) (O := O0) HP0.out HO0.out (l.take k)
        have X3 := hR.x
        have hno := HNO.out k hlt
        have hnl : (runN c (ka * 64) O0 (l.take k)).length ≤ 4000 := by rw [runN_len]; simp; omega
        have hel : (runE c (ka * 64) O0 (l.take k)).length ≤ 4000 := by rw [runE_len]; simp; omega
        obtain ⟨gp, egp⟩ : ∃ gp, l[k] = gp := ⟨_, rfl⟩
        obtain ⟨P, eP⟩ : ∃ P, (stS c (ka * 64) O0 (l.take k)).1 = P := ⟨_, rfl⟩
        obtain ⟨O, eO⟩ : ∃ O, (stS c (ka * 64) O0 (l.take k)).2 = O := ⟨_, rfl⟩
        rw [egp] at hx hgp hno
        rw [eP, eO] at hsb X3 hno
        rw [HKB.out, HKC.out] at hsb
        have hst' := HST.out P O gp
        have hnb := stN_bd (P := P) (O := O) (gap := gp) (by omega) hsb.2 hgp
        obtain ⟨q, eq⟩ : ∃ q, stN P O gp = q := ⟨_, rfl⟩
        obtain ⟨r, er⟩ : ∃ r, stE P O gp = r := ⟨_, rfl⟩
        obtain ⟨P2, eP2⟩ : ∃ P2, stP c P O gp = P2 := ⟨_, rfl⟩
        obtain ⟨O2, eO2⟩ : ∃ O2, stO c P O gp = O2 := ⟨_, rfl⟩
        rw [eq, er, eP2, eO2] at hst'
        rw [eq] at hnb hno
        have Hgp := Lib.hid egp; have HP := Lib.hid eP; have HOO := Lib.hid eO; have Hq := Lib.hid eq; have Hr := Lib.hid er; have HP2 := Lib.hid eP2; have HO2 := Lib.hid eO2; have HNO1 := Lib.hid hno
        clear egp eP eO eq er eP2 eO2 hno
        have hN3 := hR.n; have hE3 := hR.e
        have hxl := X3.lt
        obtain ⟨x0, x1⟩ := X3.cell2
        have xf := X3.frozen
        go_wp2_with fail
        refine (hst' _ (by omega) hsb.2 hgp).mono ?_
        rintro e w3 ⟨rfl, hb3⟩
        have hz3' := hb3.size
        have G3 := Blk.new w3 139 #[.int .i64 P2, .int .i64 O2]
        have hbx : Below wo.heap.size wo (w3.alloc (.cells #[.int .i64 P2, .int .i64 O2] 139)) := hb3.alloc hz3' _
        have hg' := hz3'
        have hszW : (w3.alloc (.cells #[.int .i64 P2, .int .i64 O2] 139)).heap.size = w3.heap.size + 1 := by simp
        replace hN3 := hN3.below hbx; replace hE3 := hE3.below hbx; replace X3 := X3.below hbx hxl
        have hbB : Below B wb (w3.alloc (.cells #[.int .i64 P2, .int .i64 O2] 139)) := hbel.trans (hbx.mono (by omega))
        obtain ⟨y0, y1⟩ := G3.cell2
        obtain ⟨x0', x1'⟩ := X3.cell2
        have xf' := X3.frozen
        have hgx := G3.lt
        have hzB : B ≤ (w3.alloc (.cells #[.int .i64 P2, .int .i64 O2] 139)).heap.size := Nat.le_trans (by omega) hbx.size
        by_cases hgt : 100 < q
        · have hq1 : decide (100 < q) = true := by simp [hgt]
          have hbw2 : Below w.heap.size w (w3.alloc (.cells #[.int .i64 P2, .int .i64 O2] 139)) := hwb.trans (hbB.mono hBw)
          have Hgt := Lib.hid hgt
          clear hgt
          go_wp2_with fail
          go_returns
          have hn := HNO1.out Hgt.out
          exact ⟨none, 0, none, 0, by rw [RC.out, EN.out, EE.out, hn]; rfl, by rw [EN.out, hn]; exact OwnS.nil_ _ _ _, by rw [EE.out, hn]; exact OwnS.nil_ _ _ _, hbw2, by first | (rw [HN.out]; exact Nat.zero_le _) | (rw [EN.out, hn]; exact Nat.zero_le _)⟩
        · have hq1 : decide (100 < q) = false := by simp; omega
          have hq2 : q ≤ 100 := by omega
          have o1 : ∀ g, u8.ownBlock = some g → g < wo.heap.size := fun g hg => (hR.n.blk hg).2
          have o2 : ∀ g, u9.ownBlock = some g → g < wo.heap.size := fun g hg => (hR.e.blk hg).2
          go_wp2_with (first | (at_builtin; refine append_int3 _ rfl (.tmp 62) (.tmp 64) rfl B u9 (runE c (ka * 64) O0 (l.take k)) r _ rfl rfl (by first | rfl | simp) E4 (by omega) hz4 ?_; intro v2 w5 j1 j2 j3 j4; have N5 := i1.asides j3 (fun g hg e => D4 g hg e); have X5 := X4.asides j3 (fun e => hR.ex _ e rfl); have G5 := G4.asides j3 (fun e => by have := o2 _ e; omega); have D5 : ∀ g, v1.ownBlock = some g → v2.ownBlock ≠ some g := (fun g hg e => by rcases j4 g e with h6 | h6; exact D4 g hg h6; have := (i1.blk hg).2; omega); have EX5 : ∀ g, v2.ownBlock = some g → g ≠ xb := (fun g hg e => by rcases j4 g hg with h6 | h6; exact hR.ex g h6 e; have := hbx.size; omega); have hbB5 := hbB4.trans j2; obtain ⟨y0', y1'⟩ := G5.cell2; obtain ⟨x0'', x1''⟩ := X5.cell2; have xf'' := X5.frozen; have gf := G5.frozen) | (at_builtin; refine append_int3 _ rfl (.tmp 58) (.tmp 60) rfl B u8 (runN c (ka * 64) O0 (l.take k)) q _ rfl rfl (by first | rfl | simp) hN3 (by omega) hzB ?_; intro v1 w4 i1 i2 i3 i4; have E4 := hE3.asides i3 (fun g hg e => hR.dj g e hg); have X4 := X3.asides i3 (fun e => hR.nx _ e rfl); have G4 := G3.asides i3 (fun e => by have := o1 _ e; omega); have D4 : ∀ g, v1.ownBlock = some g → u9.ownBlock ≠ some g := (fun g hg e => by rcases i4 g hg with h6 | h6; exact hR.dj g h6 e; have := o2 _ e; have := hbx.size; omega); have NX4 : ∀ g, v1.ownBlock = some g → g ≠ xb := (fun g hg e => by rcases i4 g hg with h6 | h6; exact hR.nx g h6 e; have := hbx.size; omega); have hz4 : B ≤ w4.heap.size := Nat.le_trans hzB i2.size; have hbB4 := hbB.trans i2; have z4 := i2.size))
          have hRn := Runs.next hR hlt HP.out HOO.out Hgp.out Hq.out Hr.out HP2.out HO2.out hq2 N5 j1 D5 NX4 EX5 X5
          refine ⟨⟨k + 1, by go_num, hRn, ?_⟩, by simp [intOf]; omega⟩
          exact (hbB5.setCell (p := ⟨xb, 0, none⟩) hxbB _).setCell (p := ⟨xb, 1, none⟩) hxbB _
      · have ekl : k = l.length := by omega
        subst ekl
        have hyes := HYES.out (fun j hj => hR.ok j hj hj)
        have hN3 := hR.n; have hE3 := hR.e
        rw [List.take_length] at hN3 hE3
        obtain ⟨q1, d1', hv1, S1, hcap⟩ := hN3.open2
        obtain ⟨q2, d2', hv2, S2⟩ := hE3.open_
        subst hv1
        subst hv2
        have HY := Lib.hid hyes
        clear hyes
        go_wp2_with fail
        go_returns
        exact ⟨q1, d1', q2, d2', by rw [RC.out, EN.out, EE.out, HY.out]; rfl, by rw [EN.out, HY.out]; exact S1.mono hBw, by rw [EE.out, HY.out]; exact S2.mono hBw, hbw, by rw [EN.out, HY.out]; exact hcap⟩
  case neg =>
    rw [if_neg hp] at hcl
    have HCL := Lib.hid hcl
    have hd : (kd == 0) = false := by simp [hp]
    have hp' := Lib.hid hp
    clear hp
    clear hcl
    go_enter Try.func88, Try.ntmps88
    go_wp2_with fail
    have BF := (Blk.new w 24 #[.int .i64 cf, .int .i64 f, .slice p l.length cap]).keep ((Below.refl _ (w.alloc (.cells #[.int .i64 cf, .int .i64 f, .slice p l.length cap] 24))).alloc (Nat.le_refl _) (.cells #[.int .i64 ka, .int .i64 kb, .int .i64 kc, .int .i64 kd, .int .i64 ke] 67))
    have BC := Blk.new (w.alloc (.cells #[.int .i64 cf, .int .i64 f, .slice p l.length cap] 24)) 67 #[.int .i64 ka, .int .i64 kb, .int .i64 kc, .int .i64 kd, .int .i64 ke]
    have esz : (w.alloc (.cells #[.int .i64 cf, .int .i64 f, .slice p l.length cap] 24)).heap.size = w.heap.size + 1 := by simp
    rw [esz] at BC
    have hwb : Below w.heap.size w ((w.alloc (.cells #[.int .i64 cf, .int .i64 f, .slice p l.length cap] 24)).alloc (.cells #[.int .i64 ka, .int .i64 kb, .int .i64 kc, .int .i64 kd, .int .i64 ke] 67)) := ((Below.refl _ _).alloc (Nat.le_refl _) _).alloc (by simp) _
    have hsz : ((w.alloc (.cells #[.int .i64 cf, .int .i64 f, .slice p l.length cap] 24)).alloc (.cells #[.int .i64 ka, .int .i64 kb, .int .i64 kc, .int .i64 kd, .int .i64 ke] 67)).heap.size = w.heap.size + 1 + 1 := by simp
    generalize (w.alloc (.cells #[.int .i64 cf, .int .i64 f, .slice p l.length cap] 24)).alloc (.cells #[.int .i64 ka, .int .i64 kb, .int .i64 kc, .int .i64 kd, .int .i64 ke] 67) = wb at BC BF hwb hsz ⊢
    clear esz
    obtain ⟨B, eB⟩ : ∃ B, wb.heap.size = B := ⟨_, rfl⟩
    have hBw : w.heap.size ≤ B := by omega
    have hgB : w.heap.size < B := by omega
    have hcB : w.heap.size + 1 < B := by omega
    obtain ⟨f0, f1, f2⟩ := BF.cell3
    refine (impl_ValidFlux cf f p l cap _ (hI.below hwb) hl).mono ?_
    rintro e w0 ⟨rfl, hb0⟩
    rw [HOK.out]
    have hw00 := hb0
    rw [eB] at hw00
    have hz0' := hb0.size
    clear hb0 f0 f1 f2
    obtain ⟨d0, d1, d2, d3, d4⟩ := (BC.below hw00 hcB).cell5
    go_wp2_with fail
    refine (impl_ValidClock _ _ _ _ _ _).mono ?_
    rintro e w1 ⟨rfl, hb1⟩
    rw [hvk.out]
    have hw0 := hw00.trans (hb1.mono (by omega))
    have hz1 := hb1.size
    clear hb1 d0 d1 d2 d3 d4
    have hzw1 : w.heap.size < w1.heap.size := by omega
    have hcw1 : w.heap.size + 1 < w1.heap.size := by omega
    have hxB : B ≤ w1.heap.size := by omega
    obtain ⟨f0, f1, f2⟩ := (BF.below hw0 hgB).cell3
    obtain ⟨d0, d1, d2, d3, d4⟩ := (BC.below hw0 hcB).cell5
    have N0 := OwnI.none_ w1 B; have E0 := OwnI.none_ w1 B
    go_wp2_with fail
    have X3 : Blk (w1.alloc (.cells #[.int .i64 (ka * 64), .int .i64 0] 139)) w1.heap.size 139 #[.int .i64 (ka * 64), .int .i64 O0] := by rw [HCL.out]; exact Blk.new w1 _ _
    have N3 := N0.alloc (.cells #[.int .i64 (ka * 64), .int .i64 0] 139); have E3 := E0.alloc (.cells #[.int .i64 (ka * 64), .int .i64 0] 139); have hw3 := hw0.alloc (by omega) (.cells #[.int .i64 (ka * 64), .int .i64 0] 139); have hz3 := X3.lt
    generalize w1.alloc (.cells #[.int .i64 (ka * 64), .int .i64 0] 139) = w2 at X3 N3 E3 hw3 hz3 ⊢
    obtain ⟨xb, exb⟩ : ∃ xb, w1.heap.size = xb := ⟨_, rfl⟩
    rw [exb] at X3 hz3 ⊢
    clear f0 f1 f2 d0 d1 d2 d3 d4 N0 E0
    have DJ : ∀ g, (Value.slice none 0 0).ownBlock = some g → (Value.slice none 0 0).ownBlock ≠ some g := by intro g h1; cases h1
    have NX : ∀ g, (Value.slice none 0 0).ownBlock = some g → g ≠ xb := by intro g h1; cases h1
    have EX := NX
    have hxbB : B ≤ xb := by omega
    go_loopw [8, 9, 44] (fun v u i wr => ∃ k : Nat, i = .int .i64 k ∧ Runs c (ka * 64) O0 l B xb wr v u k ∧ Below B wb wr) (fun _ _ i _ => l.length - (intOf i).toNat)
    case atStart => exact ⟨0, rfl, ⟨Nat.zero_le _, by simpa [runN] using N3, by simpa [runE] using E3, DJ, NX, EX, by simpa [stS] using X3, fun j _ h => absurd h (Nat.not_lt_zero _)⟩, hw3⟩
    case round =>
      obtain ⟨k, rfl, hR, hbel⟩ := hrel
      have hk := hR.len
      have hbw : Below w.heap.size w wr := hwb.trans (hbel.mono hBw)
      obtain ⟨f0, f1, f2⟩ := (BF.below hbel hgB).cell3
      obtain ⟨d0, d1, d2, d3, d4⟩ := (BC.below hbel hcB).cell5
      have hzr := hbel.size
      obtain ⟨wo, hwo⟩ : ∃ wo : World, wo = wr := ⟨_, rfl⟩
      subst hwo
      by_cases hlt : k < l.length
      · obtain ⟨a, rfl, hx⟩ := (hI.below hbw).at_ hlt
        have hxw : (a.add k).block < wo.heap.size := World.block_lt_of_cell? wo _ hx
        have hgp := HM.out _ (List.getElem_mem hlt)
        have hsb := stS_bd HC.out (P := ka * 64) (O := O0) HP0.out HO0.out (l.take k)
        have X3 := hR.x
        have hno := HNO.out k hlt
        have hnl : (runN c (ka * 64) O0 (l.take k)).length ≤ 4000 := by rw [runN_len]; simp; omega
        have hel : (runE c (ka * 64) O0 (l.take k)).length ≤ 4000 := by rw [runE_len]; simp; omega
        obtain ⟨gp, egp⟩ : ∃ gp, l[k] = gp := ⟨_, rfl⟩
        obtain ⟨P, eP⟩ : ∃ P, (stS c (ka * 64) O0 (l.take k)).1 = P := ⟨_, rfl⟩
        obtain ⟨O, eO⟩ : ∃ O, (stS c (ka * 64) O0 (l.take k)).2 = O := ⟨_, rfl⟩
        rw [egp] at hx hgp hno
        rw [eP, eO] at hsb X3 hno
        rw [HKB.out, HKC.out] at hsb
        have hst' := HST.out P O gp
        have hnb := stN_bd (P := P) (O := O) (gap := gp) (by omega) hsb.2 hgp
        obtain ⟨q, eq⟩ : ∃ q, stN P O gp = q := ⟨_, rfl⟩
        obtain ⟨r, er⟩ : ∃ r, stE P O gp = r := ⟨_, rfl⟩
        obtain ⟨P2, eP2⟩ : ∃ P2, stP c P O gp = P2 := ⟨_, rfl⟩
        obtain ⟨O2, eO2⟩ : ∃ O2, stO c P O gp = O2 := ⟨_, rfl⟩
        rw [eq, er, eP2, eO2] at hst'
        rw [eq] at hnb hno
        have Hgp := Lib.hid egp; have HP := Lib.hid eP; have HOO := Lib.hid eO; have Hq := Lib.hid eq; have Hr := Lib.hid er; have HP2 := Lib.hid eP2; have HO2 := Lib.hid eO2; have HNO1 := Lib.hid hno
        clear egp eP eO eq er eP2 eO2 hno
        have hN3 := hR.n; have hE3 := hR.e
        have hxl := X3.lt
        obtain ⟨x0, x1⟩ := X3.cell2
        have xf := X3.frozen
        go_wp2_with fail
        refine (hst' _ (by omega) hsb.2 hgp).mono ?_
        rintro e w3 ⟨rfl, hb3⟩
        have hz3' := hb3.size
        have G3 := Blk.new w3 139 #[.int .i64 P2, .int .i64 O2]
        have hbx : Below wo.heap.size wo (w3.alloc (.cells #[.int .i64 P2, .int .i64 O2] 139)) := hb3.alloc hz3' _
        have hg' := hz3'
        have hszW : (w3.alloc (.cells #[.int .i64 P2, .int .i64 O2] 139)).heap.size = w3.heap.size + 1 := by simp
        replace hN3 := hN3.below hbx; replace hE3 := hE3.below hbx; replace X3 := X3.below hbx hxl
        have hbB : Below B wb (w3.alloc (.cells #[.int .i64 P2, .int .i64 O2] 139)) := hbel.trans (hbx.mono (by omega))
        obtain ⟨y0, y1⟩ := G3.cell2
        obtain ⟨x0', x1'⟩ := X3.cell2
        have xf' := X3.frozen
        have hgx := G3.lt
        have hzB : B ≤ (w3.alloc (.cells #[.int .i64 P2, .int .i64 O2] 139)).heap.size := Nat.le_trans (by omega) hbx.size
        by_cases hgt : 100 < q
        · have hq1 : decide (100 < q) = true := by simp [hgt]
          have hbw2 : Below w.heap.size w (w3.alloc (.cells #[.int .i64 P2, .int .i64 O2] 139)) := hwb.trans (hbB.mono hBw)
          have Hgt := Lib.hid hgt
          clear hgt
          go_wp2_with fail
          go_returns
          have hn := HNO1.out Hgt.out
          exact ⟨none, 0, none, 0, by rw [RC.out, EN.out, EE.out, hn]; rfl, by rw [EN.out, hn]; exact OwnS.nil_ _ _ _, by rw [EE.out, hn]; exact OwnS.nil_ _ _ _, hbw2, by first | (rw [HN.out]; exact Nat.zero_le _) | (rw [EN.out, hn]; exact Nat.zero_le _)⟩
        · have hq1 : decide (100 < q) = false := by simp; omega
          have hq2 : q ≤ 100 := by omega
          have o1 : ∀ g, u8.ownBlock = some g → g < wo.heap.size := fun g hg => (hR.n.blk hg).2
          have o2 : ∀ g, u9.ownBlock = some g → g < wo.heap.size := fun g hg => (hR.e.blk hg).2
          go_wp2_with (first | (at_builtin; refine append_int3 _ rfl (.tmp 62) (.tmp 64) rfl B u9 (runE c (ka * 64) O0 (l.take k)) r _ rfl rfl (by first | rfl | simp) E4 (by omega) hz4 ?_; intro v2 w5 j1 j2 j3 j4; have N5 := i1.asides j3 (fun g hg e => D4 g hg e); have X5 := X4.asides j3 (fun e => hR.ex _ e rfl); have G5 := G4.asides j3 (fun e => by have := o2 _ e; omega); have D5 : ∀ g, v1.ownBlock = some g → v2.ownBlock ≠ some g := (fun g hg e => by rcases j4 g e with h6 | h6; exact D4 g hg h6; have := (i1.blk hg).2; omega); have EX5 : ∀ g, v2.ownBlock = some g → g ≠ xb := (fun g hg e => by rcases j4 g hg with h6 | h6; exact hR.ex g h6 e; have := hbx.size; omega); have hbB5 := hbB4.trans j2; obtain ⟨y0', y1'⟩ := G5.cell2; obtain ⟨x0'', x1''⟩ := X5.cell2; have xf'' := X5.frozen; have gf := G5.frozen) | (at_builtin; refine append_int3 _ rfl (.tmp 58) (.tmp 60) rfl B u8 (runN c (ka * 64) O0 (l.take k)) q _ rfl rfl (by first | rfl | simp) hN3 (by omega) hzB ?_; intro v1 w4 i1 i2 i3 i4; have E4 := hE3.asides i3 (fun g hg e => hR.dj g e hg); have X4 := X3.asides i3 (fun e => hR.nx _ e rfl); have G4 := G3.asides i3 (fun e => by have := o1 _ e; omega); have D4 : ∀ g, v1.ownBlock = some g → u9.ownBlock ≠ some g := (fun g hg e => by rcases i4 g hg with h6 | h6; exact hR.dj g h6 e; have := o2 _ e; have := hbx.size; omega); have NX4 : ∀ g, v1.ownBlock = some g → g ≠ xb := (fun g hg e => by rcases i4 g hg with h6 | h6; exact hR.nx g h6 e; have := hbx.size; omega); have hz4 : B ≤ w4.heap.size := Nat.le_trans hzB i2.size; have hbB4 := hbB.trans i2; have z4 := i2.size))
          have hRn := Runs.next hR hlt HP.out HOO.out Hgp.out Hq.out Hr.out HP2.out HO2.out hq2 N5 j1 D5 NX4 EX5 X5
          refine ⟨⟨k + 1, by go_num, hRn, ?_⟩, by simp [intOf]; omega⟩
          exact (hbB5.setCell (p := ⟨xb, 0, none⟩) hxbB _).setCell (p := ⟨xb, 1, none⟩) hxbB _
      · have ekl : k = l.length := by omega
        subst ekl
        have hyes := HYES.out (fun j hj => hR.ok j hj hj)
        have hN3 := hR.n; have hE3 := hR.e
        rw [List.take_length] at hN3 hE3
        obtain ⟨q1, d1', hv1, S1, hcap⟩ := hN3.open2
        obtain ⟨q2, d2', hv2, S2⟩ := hE3.open_
        subst hv1
        subst hv2
        have HY := Lib.hid hyes
        clear hyes
        go_wp2_with fail
        go_returns
        exact ⟨q1, d1', q2, d2', by rw [RC.out, EN.out, EE.out, HY.out]; rfl, by rw [EN.out, HY.out]; exact S1.mono hBw, by rw [EE.out, HY.out]; exact S2.mono hBw, hbw, by rw [EN.out, HY.out]; exact hcap⟩
end Go.Proofs.Ytmjmhdjfaamgkaa
