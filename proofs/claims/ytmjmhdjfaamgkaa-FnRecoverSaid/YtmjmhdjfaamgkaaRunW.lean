/- The clock over all gaps: spec.l03All, impl.runClock. -/
import Derived.Test.YtmjmhdjfaamgkaaRevW
import Derived.Test.YtmjmhdjfaamgkaaMarksW
import Derived.Test.YtmjmhdjfaamgkaaTwoOwn
import Derived.Test.YtmjmhdjfaamgkaaRunP
import Derived.Test.YtmjmhdjfaamgkaaStep2W
import Derived.Deep.RegionHeld3
import Derived.Deep.DeepCutAuto
namespace Go.Proofs.Ytmjmhdjfaamgkaa
open Go.RowKit
theorem Blk_drew' {w : World} {g : Nat} {t : TypeId} {cs : Array Value} (h : Blk w g t cs) : Blk w.drew g t cs := h
theorem Clk.valid_bd {c : Clk} (h : c.valid = true) : (4 ≤ c.cell ∧ c.cell ≤ 200) ∧ (2 ≤ c.low ∧ c.low ≤ c.cell) ∧ (c.cell ≤ c.high ∧ c.high ≤ 400) ∧ (0 ≤ c.phase ∧ c.phase ≤ 64) ∧ (0 ≤ c.speed ∧ c.speed ≤ 64) := by
  simp only [Clk.valid, Bool.and_eq_true, inB_iff] at h
  omega
/-- What is known of a clock that runs, behind the first gaps. -/
structure Runs (c : Clk) (P O : Int) (l : List Int) (B xb : Nat) (wr : World) (v u : Value) (k : Nat) : Prop where
  len : k ≤ l.length
  n : OwnI wr B v (runN c P O (l.take k))
  e : OwnI wr B u (runE c P O (l.take k))
  dj : ∀ g, v.ownBlock = some g → u.ownBlock ≠ some g
  nx : ∀ g, v.ownBlock = some g → g ≠ xb
  ex : ∀ g, u.ownBlock = some g → g ≠ xb
  x : Blk wr xb 139 #[.int .i64 (stS c P O (l.take k)).1, .int .i64 (stS c P O (l.take k)).2]
  ok : ∀ j (hj : j < l.length), j < k → stN (stS c P O (l.take j)).1 (stS c P O (l.take j)).2 (l[j]) ≤ 100
/-- Two stores into the state, the rows kept. -/
theorem Runs.next {c : Clk} {P0 O0 P O gp q r P2 O2 : Int} {l : List Int} {B xb : Nat} {wr w1 : World} {v u v1 u1 : Value} {k : Nat} (h : Runs c P0 O0 l B xb wr v u k) (hk : k < l.length)
    (hP : (stS c P0 O0 (l.take k)).1 = P) (hO : (stS c P0 O0 (l.take k)).2 = O) (hg : l[k] = gp) (hq : stN P O gp = q) (hr : stE P O gp = r) (hP2 : stP c P O gp = P2) (hO2 : stO c P O gp = O2) (hle : q ≤ 100)
    (hn : OwnI w1 B v1 (runN c P0 O0 (l.take k) ++ [q])) (he : OwnI w1 B u1 (runE c P0 O0 (l.take k) ++ [r]))
    (hd : ∀ g, v1.ownBlock = some g → u1.ownBlock ≠ some g) (hnx : ∀ g, v1.ownBlock = some g → g ≠ xb) (hex : ∀ g, u1.ownBlock = some g → g ≠ xb) {a b : Value} (hx : Blk w1 xb 139 #[a, b]) :
    Runs c P0 O0 l B xb ((w1.setCell ⟨xb, 0, none⟩ (.int .i64 P2)).setCell ⟨xb, 1, none⟩ (.int .i64 O2)) v1 u1 (k + 1) := by
  have ha : Aside (some xb) w1 ((w1.setCell ⟨xb, 0, none⟩ (.int .i64 P2)).setCell ⟨xb, 1, none⟩ (.int .i64 O2)) := (Aside.setCell xb 0 _).trans (Aside.setCell xb 1 _)
  refine ⟨hk, ?_, ?_, hd, hnx, hex, ?_, fun j hj hjk => ?_⟩
  · rw [takeI_snoc hk, runN_snoc, hP, hO, hg, hq]
    exact hn.asides ha (fun g hg e => hnx g hg (by injection e with e; exact e.symm))
  · rw [takeI_snoc hk, runE_snoc, hP, hO, hg, hr]
    exact he.asides ha (fun g hg e => hex g hg (by injection e with e; exact e.symm))
  · rw [takeI_snoc hk, stS_snoc, hP, hO, hg, hP2, hO2]
    have hB' : w1.heap[xb]? = some (.cells #[a, b] 139 (0, 0)) := hx
    unfold Blk
    simp [World.setCell, Array.getElem?_modify, hB']
  · by_cases e : j = k
    · subst e; rw [hP, hO, hg, hq]; exact hle
    · exact h.ok j hj (by omega)
theorem Blk.set2 {w : World} {g : Nat} {t : TypeId} {a b : Value} (h : Blk w g t #[a, b]) (x y : Value) : Blk ((w.setCell ⟨g, 0, none⟩ x).setCell ⟨g, 1, none⟩ y) g t #[x, y] := by
  have hB' : w.heap[g]? = some (.cells #[a, b] t (0, 0)) := h
  unfold Blk
  simp [World.setCell, Array.getElem?_modify, hB']
theorem Blk.set1 {w : World} {g : Nat} {t : TypeId} {a b : Value} (h : Blk w g t #[a, b]) (v : Value) : Blk (w.setCell ⟨g, 1, none⟩ v) g t #[a, v] := by
  have hB' : w.heap[g]? = some (.cells #[a, b] t (0, 0)) := h
  unfold Blk
  simp [World.setCell, Array.getElem?_modify, hB']
set_option maxHeartbeats 4000000 in
set_option maxRecDepth 20000 in
theorem spec_l03All (c : Clk) (cf f : Int) (p : Option Addr) (l : List Int) (cap g : Nat) (w : World) (hI : IntsAt w p l) (hok : fluxOk cf f l = true) (hc : c.valid = true) (hB : Blk w g 24 #[.int .i64 cf, .int .i64 f, .slice p l.length cap]) :
    Calls Try.prog 112 #[.pointer (some ⟨g, 0, none⟩), c.val] w fun e w' => ∃ q dq r dr, e = .returned (.tuple #[.slice q (runNs c f l).length dq, .slice r (runEs c f l).length dr, .bool (runOk c f l)]) ∧ OwnS w' w.heap.size q (runNs c f l) ∧ OwnS w' w.heap.size r (runEs c f l) ∧ Below w.heap.size w w' := by
  obtain ⟨-, hlen, hm, -, hf, -⟩ := fluxOk_bd hok
  obtain ⟨k1, k2, k3, k4, k5⟩ := Clk.valid_bd hc
  have HM := Lib.hid hm
  have HC := Lib.hid hc
  have HO := off0_bd hc f
  have hgl := hB.lt
  clear hok hm hc
  have hcl : off0 c f = if c.phase = 0 then (f % c.cell - c.cell / 2) * 64 else 0 := rfl
  obtain ⟨O0, eO⟩ : ∃ O0, off0 c f = O0 := ⟨_, rfl⟩
  have hno0 := @runOk_no c f l
  have hyes0 := @runOk_yes c f l
  have en0 : runNs c f l = if runOk c f l then runN c (c.cell * 64) O0 l else [] := by rw [← eO]; rfl
  have ee0 : runEs c f l = if runOk c f l then runE c (c.cell * 64) O0 l else [] := by rw [← eO]; rfl
  have hst := fun P O gp w h1 h2 h3 => spec_l03Step c P O gp w HC.out h1 h2 h3
  unfold Clk.val at hst ⊢
  rw [eO] at hcl HO hno0 hyes0
  clear eO
  have t1 : f.tmod c.cell = f % c.cell := Int.tmod_eq_emod_of_nonneg (by omega)
  have t2 : c.cell.tdiv 2 = c.cell / 2 := Int.tdiv_eq_ediv_of_nonneg (by omega)
  have t3 := Int.emod_nonneg f (b := c.cell) (by omega)
  have t4 := Int.emod_lt_of_pos f (b := c.cell) (by omega)
  have t5 : c.cell / 2 ≤ 100 ∧ 0 ≤ c.cell / 2 := by omega
  obtain ⟨m, em⟩ : ∃ m, f % c.cell = m := ⟨_, rfl⟩
  obtain ⟨h, eh⟩ : ∃ h, c.cell / 2 = h := ⟨_, rfl⟩
  rw [em] at t1 t3 t4 hcl
  rw [eh] at t2 t5 hcl
  clear em eh
  obtain ⟨ka, eka⟩ : ∃ ka, c.cell = ka := ⟨_, rfl⟩
  obtain ⟨kb, ekb⟩ : ∃ kb, c.low = kb := ⟨_, rfl⟩
  obtain ⟨kc, ekc⟩ : ∃ kc, c.high = kc := ⟨_, rfl⟩
  obtain ⟨kd, ekd⟩ : ∃ kd, c.phase = kd := ⟨_, rfl⟩
  obtain ⟨ke, eke⟩ : ∃ ke, c.speed = ke := ⟨_, rfl⟩
  have HP0 : Hid (c.low * 64 ≤ ka * 64 ∧ ka * 64 ≤ c.high * 64) := Lib.hid (by omega)
  simp only [eka, ekb, ekc, ekd, eke] at hcl HO hno0 hyes0 en0 ee0 hst k1 k2 k3 k4 k5 t1 t2 t4 ⊢
  have HO0 : Hid (-(ka * 64) ≤ O0 ∧ O0 ≤ ka * 64) := Lib.hid HO
  have HKB := Lib.hid ekb; have HKC := Lib.hid ekc; have HNO : Hid (∀ k (hk : k < l.length), 100 < stN (stS c (ka * 64) O0 (l.take k)).1 (stS c (ka * 64) O0 (l.take k)).2 (l[k]) → runOk c f l = false) := Lib.hid (fun k hk => hno0 hk); have HYES := Lib.hid hyes0; have EN := Lib.hid en0; have EE := Lib.hid ee0; have HST := Lib.hid hst
  clear eka ekb ekc ekd eke hno0 hyes0 en0 ee0 hst
  have hz0 : ka ≠ 0 := by omega
  by_cases hp : kd = 0
  case pos =>
    subst hp
    rw [if_pos rfl] at hcl
    have HCL := Lib.hid hcl
    have w2q : IntKind.i64.wrap (m - h) = m - h := IntWalk.i64_in _ (by omega)
    clear hcl
    go_enter Try.func112, Try.ntmps112
    go_wp2_with fail
    have BC := Blk.new w 67 #[.int .i64 ka, .int .i64 kb, .int .i64 kc, .int .i64 0, .int .i64 ke]
    have BF := hB.keep ((Below.refl _ w).alloc (Nat.le_refl _) (.cells #[.int .i64 ka, .int .i64 kb, .int .i64 kc, .int .i64 0, .int .i64 ke] 67))
    have hwb : Below w.heap.size w (w.alloc (.cells #[.int .i64 ka, .int .i64 kb, .int .i64 kc, .int .i64 0, .int .i64 ke] 67)) := (Below.refl _ _).alloc (Nat.le_refl _) _
    have hsz : (w.alloc (.cells #[.int .i64 ka, .int .i64 kb, .int .i64 kc, .int .i64 0, .int .i64 ke] 67)).heap.size = w.heap.size + 1 := by simp
    generalize w.alloc (.cells #[.int .i64 ka, .int .i64 kb, .int .i64 kc, .int .i64 0, .int .i64 ke] 67) = wb at BC BF hwb hsz ⊢
    have N0 := (OwnI.nil0 wb).alloc (.cells #[] 2)
    have E0 := (OwnI.nil0 (wb.alloc (.cells #[] 2))).mono (base' := wb.heap.size) (by simp)
    have hw0 : Below wb.heap.size wb ((wb.alloc (.cells #[] 2)).alloc (.cells #[] 2)) := ((Below.refl _ _).alloc (Nat.le_refl _) _).alloc (by simp) _
    have e2 : (wb.alloc (.cells #[] 2)).heap.size = w.heap.size + 1 + 1 := by simp [hsz]
    have hz2 : w.heap.size + 3 ≤ ((wb.alloc (.cells #[] 2)).alloc (.cells #[] 2)).heap.size := by simp [hsz]
    rw [e2] at E0
    generalize (wb.alloc (.cells #[] 2)).alloc (.cells #[] 2) = w0 at N0 E0 hw0 hz2 ⊢
    rw [hsz] at N0 E0 hw0
    clear e2
    obtain ⟨B, eB⟩ : ∃ B, w.heap.size + 1 = B := ⟨_, rfl⟩
    have hBw : w.heap.size ≤ B := by omega
    have hgB : g < B := by omega
    have hcB : w.heap.size < B := by omega
    refine (spec_l03Start ka kb kc 0 ke _ k1).mono ?_
    rintro e w1 ⟨rfl, hb1⟩
    replace N0 := N0.below hb1
    replace E0 := E0.below hb1
    replace hw0 := hw0.trans (hb1.mono (by omega))
    have hz1 := hb1.size
    clear hb1
    have hzw1 : w.heap.size < w1.heap.size := by omega
    have hgw1 : g < w1.heap.size := by omega
    have hxB : B < w1.heap.size := by omega
    have hxB1 : B + 1 < w1.heap.size := by omega
    rw [eB] at N0 E0 hw0
    obtain ⟨f0, f1, f2⟩ := (BF.below hw0 (by omega)).cell3
    obtain ⟨d0, d1, d2, d3, d4⟩ := (BC.below hw0 (by omega)).cell5
    have X2 := Blk.new w1 139 #[.int .i64 (ka * 64), .int .i64 0]
    have N2 := N0.alloc (.cells #[.int .i64 (ka * 64), .int .i64 0] 139)
    have E2 := E0.alloc (.cells #[.int .i64 (ka * 64), .int .i64 0] 139)
    have hw2 := hw0.alloc (by omega) (.cells #[.int .i64 (ka * 64), .int .i64 0] 139)
    go_wp2_with fail
    go_region
    go_wp2_with fail
    have X3 : Blk (w1.alloc (.cells #[.int .i64 (ka * 64), .int .i64 ((m - h) * 64)] 139)).drew w1.heap.size 139 #[.int .i64 (ka * 64), .int .i64 O0] := by rw [HCL.out]; exact Blk.new w1 _ _
    have N3 := (N0.alloc (.cells #[.int .i64 (ka * 64), .int .i64 ((m - h) * 64)] 139)).drew; have E3 := (E0.alloc (.cells #[.int .i64 (ka * 64), .int .i64 ((m - h) * 64)] 139)).drew; have hw3 := (hw0.alloc (by omega) (.cells #[.int .i64 (ka * 64), .int .i64 ((m - h) * 64)] 139)).drew; have hz3 := X3.lt
    clear X2 N2 E2 hw2
    generalize (w1.alloc (.cells #[.int .i64 (ka * 64), .int .i64 ((m - h) * 64)] 139)).drew = w2 at X3 N3 E3 hw3 hz3 ⊢
    obtain ⟨xb, exb⟩ : ∃ xb, w1.heap.size = xb := ⟨_, rfl⟩
    rw [exb] at X3 hz3 ⊢
    clear f0 f1 f2 d0 d1 d2 d3 d4
    have DJ : ∀ g, (Value.slice (some ⟨B, 0, none⟩) 0 0).ownBlock = some g → (Value.slice (some ⟨B + 1, 0, none⟩) 0 0).ownBlock ≠ some g := by intro g h1 h2; simp [Value.ownBlock] at h1 h2; omega
    have NX : ∀ g, (Value.slice (some ⟨B, 0, none⟩) 0 0).ownBlock = some g → g ≠ xb := by intro g h1; simp [Value.ownBlock] at h1; omega
    have EX : ∀ g, (Value.slice (some ⟨B + 1, 0, none⟩) 0 0).ownBlock = some g → g ≠ xb := by intro g h1; simp [Value.ownBlock] at h1; omega
    have hxbB : B ≤ xb := by omega
    go_loopw [7, 8, 10] (fun v u i wr => ∃ k : Nat, i = .int .i64 k ∧ Runs c (ka * 64) O0 l B xb wr v u k ∧ Below B wb wr) (fun _ _ i _ => l.length - (intOf i).toNat)
    case atStart => exact ⟨0, rfl, ⟨Nat.zero_le _, by simpa [runN] using N3, by simpa [runE] using E3, DJ, NX, EX, by simpa [stS] using X3, fun j _ h => absurd h (Nat.not_lt_zero _)⟩, hw3⟩
    case round =>
      obtain ⟨k, rfl, hR, hbel⟩ := hrel
      have hk := hR.len
      have hbw : Below w.heap.size w wr := hwb.trans (hbel.mono hBw)
      obtain ⟨f0, f1, f2⟩ := (BF.below hbel hgB).cell3
      obtain ⟨d0, d1, d2, d3, d4⟩ := (BC.below hbel hcB).cell5
      have hzr := hbel.size
      obtain ⟨wo, hwo⟩ : ∃ wo : World, wo = wr := ⟨_, rfl⟩
      subst hwo
      by_cases hlt : k < l.length
      · obtain ⟨a, rfl, hx⟩ := (hI.below hbw).at_ hlt
        have hxw : (a.add k).block < wo.heap.size := World.block_lt_of_cell? wo _ hx
        have hgp := HM.out _ (List.getElem_mem hlt)
        have hsb := stS_bd HC.out (P := ka * 64) (O := O0) HP0.out HO0.out (l.take k)
        have X3 := hR.x
        have hno := HNO.out k hlt
        have hnl : (runN c (ka * 64) O0 (l.take k)).length ≤ 4000 := by rw [runN_len]; simp; omega
        have hel : (runE c (ka * 64) O0 (l.take k)).length ≤ 4000 := by rw [runE_len]; simp; omega
        obtain ⟨gp, egp⟩ : ∃ gp, l[k] = gp := ⟨_, rfl⟩
        obtain ⟨P, eP⟩ : ∃ P, (stS c (ka * 64) O0 (l.take k)).1 = P := ⟨_, rfl⟩
        obtain ⟨O, eO⟩ : ∃ O, (stS c (ka * 64) O0 (l.take k)).2 = O := ⟨_, rfl⟩
        rw [egp] at hx hgp hno
        rw [eP, eO] at hsb X3 hno
        rw [HKB.out, HKC.out] at hsb
        have hst' := HST.out P O gp
        have hnb := stN_bd (P := P) (O := O) (gap := gp) (by omega) hsb.2 hgp
        obtain ⟨q, eq⟩ : ∃ q, stN P O gp = q := ⟨_, rfl⟩
        obtain ⟨r, er⟩ : ∃ r, stE P O gp = r := ⟨_, rfl⟩
        obtain ⟨P2, eP2⟩ : ∃ P2, stP c P O gp = P2 := ⟨_, rfl⟩
        obtain ⟨O2, eO2⟩ : ∃ O2, stO c P O gp = O2 := ⟨_, rfl⟩
        rw [eq, er, eP2, eO2] at hst'
        rw [eq] at hnb hno
        have Hgp := Lib.hid egp; have HP := Lib.hid eP; have HOO := Lib.hid eO; have Hq := Lib.hid eq; have Hr := Lib.hid er; have HP2 := Lib.hid eP2; have HO2 := Lib.hid eO2; have HNO1 := Lib.hid hno
        clear egp eP eO eq er eP2 eO2 hno
        have hN3 := hR.n; have hE3 := hR.e
        have hxl := X3.lt
        obtain ⟨x0, x1⟩ := X3.cell2
        have xf := X3.frozen
        go_wp2_with fail
        go_cut [11, 12, 13] (fun v11 v12 v13 wx => ∃ g', v11 = .int .i64 q ∧ v12 = .int .i64 r ∧ v13 = .pointer (some ⟨g', 0, none⟩) ∧ wo.heap.size ≤ g' ∧ Blk wx g' 139 #[.int .i64 P2, .int .i64 O2] ∧ Below wo.heap.size wo wx)
        case first =>
          have mk : ∀ y : World, Below wo.heap.size wo y → (Below wo.heap.size wo y ∧ (y.cell? ⟨w.heap.size, 0, none⟩ = some (.int .i64 ka) ∧ y.cell? ⟨w.heap.size, 1, none⟩ = some (.int .i64 kb) ∧ y.cell? ⟨w.heap.size, 2, none⟩ = some (.int .i64 kc) ∧ y.cell? ⟨w.heap.size, 3, none⟩ = some (.int .i64 0) ∧ y.cell? ⟨w.heap.size, 4, none⟩ = some (.int .i64 ke)) ∧ (y.cell? ⟨xb, 0, none⟩ = some (.int .i64 P) ∧ y.cell? ⟨xb, 1, none⟩ = some (.int .i64 O)) ∧ y.cell? ⟨g, 2, none⟩ = some (.slice (some a) l.length cap) ∧ y.cell? (a.add k) = some (.int .i64 gp)) := by
            intro y hy
            obtain ⟨hc, -⟩ := bcell hy
            exact ⟨hy, ⟨(hc _ _ (by omega)).trans d0, (hc _ _ (by omega)).trans d1, (hc _ _ (by omega)).trans d2, (hc _ _ (by omega)).trans d3, (hc _ _ (by omega)).trans d4⟩, ⟨(hc _ _ hxl).trans x0, (hc _ _ hxl).trans x1⟩, (hc _ _ (by omega)).trans f2, (hy.cell (p := a.add k) hxw).trans hx⟩
          have keepS : ∀ y1 y2 : World, (Below wo.heap.size wo y1 ∧ (y1.cell? ⟨w.heap.size, 0, none⟩ = some (.int .i64 ka) ∧ y1.cell? ⟨w.heap.size, 1, none⟩ = some (.int .i64 kb) ∧ y1.cell? ⟨w.heap.size, 2, none⟩ = some (.int .i64 kc) ∧ y1.cell? ⟨w.heap.size, 3, none⟩ = some (.int .i64 0) ∧ y1.cell? ⟨w.heap.size, 4, none⟩ = some (.int .i64 ke)) ∧ (y1.cell? ⟨xb, 0, none⟩ = some (.int .i64 P) ∧ y1.cell? ⟨xb, 1, none⟩ = some (.int .i64 O)) ∧ y1.cell? ⟨g, 2, none⟩ = some (.slice (some a) l.length cap) ∧ y1.cell? (a.add k) = some (.int .i64 gp)) → Below y1.heap.size y1 y2 → (Below wo.heap.size wo y2 ∧ (y2.cell? ⟨w.heap.size, 0, none⟩ = some (.int .i64 ka) ∧ y2.cell? ⟨w.heap.size, 1, none⟩ = some (.int .i64 kb) ∧ y2.cell? ⟨w.heap.size, 2, none⟩ = some (.int .i64 kc) ∧ y2.cell? ⟨w.heap.size, 3, none⟩ = some (.int .i64 0) ∧ y2.cell? ⟨w.heap.size, 4, none⟩ = some (.int .i64 ke)) ∧ (y2.cell? ⟨xb, 0, none⟩ = some (.int .i64 P) ∧ y2.cell? ⟨xb, 1, none⟩ = some (.int .i64 O)) ∧ y2.cell? ⟨g, 2, none⟩ = some (.slice (some a) l.length cap) ∧ y2.cell? (a.add k) = some (.int .i64 gp)) := fun y1 y2 h hb => mk _ (below_st h.1 hb (Nat.le_refl _))
          have keepT : ∀ (y : World) (g' : Nat) (p q : Value), (Below wo.heap.size wo y ∧ (y.cell? ⟨w.heap.size, 0, none⟩ = some (.int .i64 ka) ∧ y.cell? ⟨w.heap.size, 1, none⟩ = some (.int .i64 kb) ∧ y.cell? ⟨w.heap.size, 2, none⟩ = some (.int .i64 kc) ∧ y.cell? ⟨w.heap.size, 3, none⟩ = some (.int .i64 0) ∧ y.cell? ⟨w.heap.size, 4, none⟩ = some (.int .i64 ke)) ∧ (y.cell? ⟨xb, 0, none⟩ = some (.int .i64 P) ∧ y.cell? ⟨xb, 1, none⟩ = some (.int .i64 O)) ∧ y.cell? ⟨g, 2, none⟩ = some (.slice (some a) l.length cap) ∧ y.cell? (a.add k) = some (.int .i64 gp)) → wo.heap.size ≤ g' → (Below wo.heap.size wo ((y.setCell ⟨g', 0, none⟩ p).setCell ⟨g', 1, none⟩ q) ∧ (((y.setCell ⟨g', 0, none⟩ p).setCell ⟨g', 1, none⟩ q).cell? ⟨w.heap.size, 0, none⟩ = some (.int .i64 ka) ∧ ((y.setCell ⟨g', 0, none⟩ p).setCell ⟨g', 1, none⟩ q).cell? ⟨w.heap.size, 1, none⟩ = some (.int .i64 kb) ∧ ((y.setCell ⟨g', 0, none⟩ p).setCell ⟨g', 1, none⟩ q).cell? ⟨w.heap.size, 2, none⟩ = some (.int .i64 kc) ∧ ((y.setCell ⟨g', 0, none⟩ p).setCell ⟨g', 1, none⟩ q).cell? ⟨w.heap.size, 3, none⟩ = some (.int .i64 0) ∧ ((y.setCell ⟨g', 0, none⟩ p).setCell ⟨g', 1, none⟩ q).cell? ⟨w.heap.size, 4, none⟩ = some (.int .i64 ke)) ∧ (((y.setCell ⟨g', 0, none⟩ p).setCell ⟨g', 1, none⟩ q).cell? ⟨xb, 0, none⟩ = some (.int .i64 P) ∧ ((y.setCell ⟨g', 0, none⟩ p).setCell ⟨g', 1, none⟩ q).cell? ⟨xb, 1, none⟩ = some (.int .i64 O)) ∧ ((y.setCell ⟨g', 0, none⟩ p).setCell ⟨g', 1, none⟩ q).cell? ⟨g, 2, none⟩ = some (.slice (some a) l.length cap) ∧ ((y.setCell ⟨g', 0, none⟩ p).setCell ⟨g', 1, none⟩ q).cell? (a.add k) = some (.int .i64 gp)) := fun y g' p q h hg => mk _ ((h.1.setCell hg _).setCell hg _)
          have S0 := mk wo.drew (Below.refl _ _).drew
          go_region_held3 (fun w' => Below wo.heap.size wo w' ∧ (w'.cell? ⟨w.heap.size, 0, none⟩ = some (.int .i64 ka) ∧ w'.cell? ⟨w.heap.size, 1, none⟩ = some (.int .i64 kb) ∧ w'.cell? ⟨w.heap.size, 2, none⟩ = some (.int .i64 kc) ∧ w'.cell? ⟨w.heap.size, 3, none⟩ = some (.int .i64 0) ∧ w'.cell? ⟨w.heap.size, 4, none⟩ = some (.int .i64 ke)) ∧ (w'.cell? ⟨xb, 0, none⟩ = some (.int .i64 P) ∧ w'.cell? ⟨xb, 1, none⟩ = some (.int .i64 O)) ∧ w'.cell? ⟨g, 2, none⟩ = some (.slice (some a) l.length cap) ∧ w'.cell? (a.add k) = some (.int .i64 gp))
            (first | exact S0 | exact mk _ ((Below.refl _ _).alloc (Nat.le_refl _) _).drew | (refine keepS _ _ ?_ ((Below.refl _ _).alloc (Nat.le_refl _) _); (first | exact S0 | exact s3.out | assumption)) | (refine keepT _ _ _ _ ?_ ?_; (first | exact s3.out | assumption); (first | omega | (simp; omega) | simp)) | (refine keepS _ _ ?_ (by assumption); first | exact S0 | assumption) | go_keep)
            (first | (go_at_call 125; refine (hst' _ (by omega) hsb.2 hgp).mono ?_; rintro e w3 ⟨rfl, hb3⟩; have z3 := hb3.size; (try simp at z3); (try ((have y3 := (Blk_drew' (Blk.new _ 139 #[.int .i64 0, .int .i64 0])).keep hb3; (try simp at y3)); obtain ⟨u0', u1'⟩ := y3.cell2; have u2' := y3.frozen)); have s3 := Lib.hid (keepS _ _ (by first | exact S0 | exact mk _ ((Below.refl _ _).alloc (Nat.le_refl _) _).drew | assumption) hb3)))
          all_goals
            go_wp2_with fail
            go_meet
            have hw1 : Below wo.heap.size wo w3 := by
              refine Below.trans ?_ (hb3.mono ?_)
              · go_grown
              · simp; try omega
            have hz31 := hw1.size
            refine ⟨_, rfl, rfl, rfl, ?_, ?_, ?_⟩
            · omega
            · first | exact Blk.set2 y3 _ _ | exact Blk.new _ _ _ | exact Blk.set2 (Blk.new _ _ _) _ _
            · go_grown
        case rest =>
          obtain ⟨g', rfl, rfl, rfl, hg', G3, hbx⟩ := hcut
          obtain ⟨wx, hwc⟩ : ∃ wx, wx = wc := ⟨_, rfl⟩
          subst hwc
          have hzx := hbx.size
          replace hN3 := hN3.below hbx; replace hE3 := hE3.below hbx; replace X3 := X3.below hbx hxl
          have hbB : Below B wb wx := hbel.trans (hbx.mono (by omega))
          obtain ⟨y0, y1⟩ := G3.cell2
          obtain ⟨x0', x1'⟩ := X3.cell2
          have xf' := X3.frozen
          have hgx := G3.lt
          have hzB : B ≤ wx.heap.size := Nat.le_trans (by omega) hbx.size
          by_cases hgt : 100 < q
          · have hq1 : decide (100 < q) = true := by simp [hgt]
            have hbw2 : Below w.heap.size w wx := hwb.trans (hbB.mono hBw)
            have Hgt := Lib.hid hgt
            clear hgt
            go_wp2_with fail
            go_returns
            have hn := HNO1.out Hgt.out
            exact ⟨none, 0, none, 0, by rw [EN.out, EE.out, hn]; rfl, by rw [EN.out, hn]; exact OwnS.nil_ _ _ _, by rw [EE.out, hn]; exact OwnS.nil_ _ _ _, hbw2⟩
          · have hq1 : decide (100 < q) = false := by simp; omega
            have hq2 : q ≤ 100 := by omega
            have o1 : ∀ g, u7.ownBlock = some g → g < wo.heap.size := fun g hg => (hR.n.blk hg).2
            have o2 : ∀ g, u8.ownBlock = some g → g < wo.heap.size := fun g hg => (hR.e.blk hg).2
            go_wp2_with (first | (at_builtin; refine append_int3 _ rfl (.tmp 63) (.tmp 65) rfl B u8 (runE c (ka * 64) O0 (l.take k)) r _ rfl rfl (by first | rfl | simp) E4 (by omega) hz4 ?_; intro v2 w5 j1 j2 j3 j4; have N5 := i1.asides j3 (fun g hg e => D4 g hg e); have X5 := X4.asides j3 (fun e => hR.ex _ e rfl); have G5 := G4.asides j3 (fun e => by have := o2 _ e; omega); have D5 : ∀ g, v1.ownBlock = some g → v2.ownBlock ≠ some g := (fun g hg e => by rcases j4 g e with h6 | h6; exact D4 g hg h6; have := (i1.blk hg).2; omega); have EX5 : ∀ g, v2.ownBlock = some g → g ≠ xb := (fun g hg e => by rcases j4 g hg with h6 | h6; exact hR.ex g h6 e; have := hbx.size; omega); have hbB5 := hbB4.trans j2; obtain ⟨y0', y1'⟩ := G5.cell2; obtain ⟨x0'', x1''⟩ := X5.cell2; have xf'' := X5.frozen; have gf := G5.frozen) | (at_builtin; refine append_int3 _ rfl (.tmp 59) (.tmp 61) rfl B u7 (runN c (ka * 64) O0 (l.take k)) q _ rfl rfl (by first | rfl | simp) hN3 (by omega) hzB ?_; intro v1 w4 i1 i2 i3 i4; have E4 := hE3.asides i3 (fun g hg e => hR.dj g e hg); have X4 := X3.asides i3 (fun e => hR.nx _ e rfl); have G4 := G3.asides i3 (fun e => by have := o1 _ e; omega); have D4 : ∀ g, v1.ownBlock = some g → u8.ownBlock ≠ some g := (fun g hg e => by rcases i4 g hg with h6 | h6; exact hR.dj g h6 e; have := o2 _ e; have := hbx.size; omega); have NX4 : ∀ g, v1.ownBlock = some g → g ≠ xb := (fun g hg e => by rcases i4 g hg with h6 | h6; exact hR.nx g h6 e; have := hbx.size; omega); have hz4 : B ≤ w4.heap.size := Nat.le_trans hzB i2.size; have hbB4 := hbB.trans i2; have z4 := i2.size))
            have hRn := Runs.next hR hlt HP.out HOO.out Hgp.out Hq.out Hr.out HP2.out HO2.out hq2 N5 j1 D5 NX4 EX5 X5
            refine ⟨⟨k + 1, by go_num, hRn, ?_⟩, by simp [intOf]; omega⟩
            exact (hbB5.setCell (p := ⟨xb, 0, none⟩) hxbB _).setCell (p := ⟨xb, 1, none⟩) hxbB _
      · have ekl : k = l.length := by omega
        subst ekl
        have hyes := HYES.out (fun j hj => hR.ok j hj hj)
        have hN3 := hR.n; have hE3 := hR.e
        rw [List.take_length] at hN3 hE3
        obtain ⟨q1, d1', hv1, S1⟩ := hN3.open_
        obtain ⟨q2, d2', hv2, S2⟩ := hE3.open_
        subst hv1
        subst hv2
        have HY := Lib.hid hyes
        clear hyes
        go_wp2_with fail
        go_returns
        exact ⟨q1, d1', q2, d2', by rw [EN.out, EE.out, HY.out]; rfl, by rw [EN.out, HY.out]; exact S1.mono hBw, by rw [EE.out, HY.out]; exact S2.mono hBw, hbw⟩
  case neg =>
    rw [if_neg hp] at hcl
    have HCL := Lib.hid hcl
    have hd : (kd == 0) = false := by simp [hp]
    have hp' := Lib.hid hp
    clear hp
    clear hcl
    go_enter Try.func112, Try.ntmps112
    go_wp2_with fail
    have BC := Blk.new w 67 #[.int .i64 ka, .int .i64 kb, .int .i64 kc, .int .i64 kd, .int .i64 ke]
    have BF := hB.keep ((Below.refl _ w).alloc (Nat.le_refl _) (.cells #[.int .i64 ka, .int .i64 kb, .int .i64 kc, .int .i64 kd, .int .i64 ke] 67))
    have hwb : Below w.heap.size w (w.alloc (.cells #[.int .i64 ka, .int .i64 kb, .int .i64 kc, .int .i64 kd, .int .i64 ke] 67)) := (Below.refl _ _).alloc (Nat.le_refl _) _
    have hsz : (w.alloc (.cells #[.int .i64 ka, .int .i64 kb, .int .i64 kc, .int .i64 kd, .int .i64 ke] 67)).heap.size = w.heap.size + 1 := by simp
    generalize w.alloc (.cells #[.int .i64 ka, .int .i64 kb, .int .i64 kc, .int .i64 kd, .int .i64 ke] 67) = wb at BC BF hwb hsz ⊢
    have N0 := (OwnI.nil0 wb).alloc (.cells #[] 2)
    have E0 := (OwnI.nil0 (wb.alloc (.cells #[] 2))).mono (base' := wb.heap.size) (by simp)
    have hw0 : Below wb.heap.size wb ((wb.alloc (.cells #[] 2)).alloc (.cells #[] 2)) := ((Below.refl _ _).alloc (Nat.le_refl _) _).alloc (by simp) _
    have e2 : (wb.alloc (.cells #[] 2)).heap.size = w.heap.size + 1 + 1 := by simp [hsz]
    have hz2 : w.heap.size + 3 ≤ ((wb.alloc (.cells #[] 2)).alloc (.cells #[] 2)).heap.size := by simp [hsz]
    rw [e2] at E0
    generalize (wb.alloc (.cells #[] 2)).alloc (.cells #[] 2) = w0 at N0 E0 hw0 hz2 ⊢
    rw [hsz] at N0 E0 hw0
    clear e2
    obtain ⟨B, eB⟩ : ∃ B, w.heap.size + 1 = B := ⟨_, rfl⟩
    have hBw : w.heap.size ≤ B := by omega
    have hgB : g < B := by omega
    have hcB : w.heap.size < B := by omega
    refine (spec_l03Start ka kb kc kd ke _ k1).mono ?_
    rintro e w1 ⟨rfl, hb1⟩
    replace N0 := N0.below hb1
    replace E0 := E0.below hb1
    replace hw0 := hw0.trans (hb1.mono (by omega))
    have hz1 := hb1.size
    clear hb1
    have hzw1 : w.heap.size < w1.heap.size := by omega
    have hgw1 : g < w1.heap.size := by omega
    have hxB : B < w1.heap.size := by omega
    have hxB1 : B + 1 < w1.heap.size := by omega
    rw [eB] at N0 E0 hw0
    obtain ⟨f0, f1, f2⟩ := (BF.below hw0 (by omega)).cell3
    obtain ⟨d0, d1, d2, d3, d4⟩ := (BC.below hw0 (by omega)).cell5
    have X2 := Blk.new w1 139 #[.int .i64 (ka * 64), .int .i64 0]
    have N2 := N0.alloc (.cells #[.int .i64 (ka * 64), .int .i64 0] 139)
    have E2 := E0.alloc (.cells #[.int .i64 (ka * 64), .int .i64 0] 139)
    have hw2 := hw0.alloc (by omega) (.cells #[.int .i64 (ka * 64), .int .i64 0] 139)
    go_wp2_with fail
    have X3 : Blk (w1.alloc (.cells #[.int .i64 (ka * 64), .int .i64 0] 139)) w1.heap.size 139 #[.int .i64 (ka * 64), .int .i64 O0] := by rw [HCL.out]; exact X2
    have N3 := N2; have E3 := E2; have hw3 := hw2; have hz3 := X3.lt
    clear X2 N2 E2 hw2
    generalize w1.alloc (.cells #[.int .i64 (ka * 64), .int .i64 0] 139) = w2 at X3 N3 E3 hw3 hz3 ⊢
    obtain ⟨xb, exb⟩ : ∃ xb, w1.heap.size = xb := ⟨_, rfl⟩
    rw [exb] at X3 hz3 ⊢
    clear f0 f1 f2 d0 d1 d2 d3 d4
    have DJ : ∀ g, (Value.slice (some ⟨B, 0, none⟩) 0 0).ownBlock = some g → (Value.slice (some ⟨B + 1, 0, none⟩) 0 0).ownBlock ≠ some g := by intro g h1 h2; simp [Value.ownBlock] at h1 h2; omega
    have NX : ∀ g, (Value.slice (some ⟨B, 0, none⟩) 0 0).ownBlock = some g → g ≠ xb := by intro g h1; simp [Value.ownBlock] at h1; omega
    have EX : ∀ g, (Value.slice (some ⟨B + 1, 0, none⟩) 0 0).ownBlock = some g → g ≠ xb := by intro g h1; simp [Value.ownBlock] at h1; omega
    have hxbB : B ≤ xb := by omega
    go_loopw [7, 8, 10] (fun v u i wr => ∃ k : Nat, i = .int .i64 k ∧ Runs c (ka * 64) O0 l B xb wr v u k ∧ Below B wb wr) (fun _ _ i _ => l.length - (intOf i).toNat)
    case atStart => exact ⟨0, rfl, ⟨Nat.zero_le _, by simpa [runN] using N3, by simpa [runE] using E3, DJ, NX, EX, by simpa [stS] using X3, fun j _ h => absurd h (Nat.not_lt_zero _)⟩, hw3⟩
    case round =>
      obtain ⟨k, rfl, hR, hbel⟩ := hrel
      have hk := hR.len
      have hbw : Below w.heap.size w wr := hwb.trans (hbel.mono hBw)
      obtain ⟨f0, f1, f2⟩ := (BF.below hbel hgB).cell3
      obtain ⟨d0, d1, d2, d3, d4⟩ := (BC.below hbel hcB).cell5
      have hzr := hbel.size
      obtain ⟨wo, hwo⟩ : ∃ wo : World, wo = wr := ⟨_, rfl⟩
      subst hwo
      by_cases hlt : k < l.length
      · obtain ⟨a, rfl, hx⟩ := (hI.below hbw).at_ hlt
        have hxw : (a.add k).block < wo.heap.size := World.block_lt_of_cell? wo _ hx
        have hgp := HM.out _ (List.getElem_mem hlt)
        have hsb := stS_bd HC.out (P := ka * 64) (O := O0) HP0.out HO0.out (l.take k)
        have X3 := hR.x
        have hno := HNO.out k hlt
        have hnl : (runN c (ka * 64) O0 (l.take k)).length ≤ 4000 := by rw [runN_len]; simp; omega
        have hel : (runE c (ka * 64) O0 (l.take k)).length ≤ 4000 := by rw [runE_len]; simp; omega
        obtain ⟨gp, egp⟩ : ∃ gp, l[k] = gp := ⟨_, rfl⟩
        obtain ⟨P, eP⟩ : ∃ P, (stS c (ka * 64) O0 (l.take k)).1 = P := ⟨_, rfl⟩
        obtain ⟨O, eO⟩ : ∃ O, (stS c (ka * 64) O0 (l.take k)).2 = O := ⟨_, rfl⟩
        rw [egp] at hx hgp hno
        rw [eP, eO] at hsb X3 hno
        rw [HKB.out, HKC.out] at hsb
        have hst' := HST.out P O gp
        have hnb := stN_bd (P := P) (O := O) (gap := gp) (by omega) hsb.2 hgp
        obtain ⟨q, eq⟩ : ∃ q, stN P O gp = q := ⟨_, rfl⟩
        obtain ⟨r, er⟩ : ∃ r, stE P O gp = r := ⟨_, rfl⟩
        obtain ⟨P2, eP2⟩ : ∃ P2, stP c P O gp = P2 := ⟨_, rfl⟩
        obtain ⟨O2, eO2⟩ : ∃ O2, stO c P O gp = O2 := ⟨_, rfl⟩
        rw [eq, er, eP2, eO2] at hst'
        rw [eq] at hnb hno
        have Hgp := Lib.hid egp; have HP := Lib.hid eP; have HOO := Lib.hid eO; have Hq := Lib.hid eq; have Hr := Lib.hid er; have HP2 := Lib.hid eP2; have HO2 := Lib.hid eO2; have HNO1 := Lib.hid hno
        clear egp eP eO eq er eP2 eO2 hno
        have hN3 := hR.n; have hE3 := hR.e
        have hxl := X3.lt
        obtain ⟨x0, x1⟩ := X3.cell2
        have xf := X3.frozen
        go_wp2_with fail
        go_cut [11, 12, 13] (fun v11 v12 v13 wx => ∃ g', v11 = .int .i64 q ∧ v12 = .int .i64 r ∧ v13 = .pointer (some ⟨g', 0, none⟩) ∧ wo.heap.size ≤ g' ∧ Blk wx g' 139 #[.int .i64 P2, .int .i64 O2] ∧ Below wo.heap.size wo wx)
        case first =>
          have mk : ∀ y : World, Below wo.heap.size wo y → (Below wo.heap.size wo y ∧ (y.cell? ⟨w.heap.size, 0, none⟩ = some (.int .i64 ka) ∧ y.cell? ⟨w.heap.size, 1, none⟩ = some (.int .i64 kb) ∧ y.cell? ⟨w.heap.size, 2, none⟩ = some (.int .i64 kc) ∧ y.cell? ⟨w.heap.size, 3, none⟩ = some (.int .i64 kd) ∧ y.cell? ⟨w.heap.size, 4, none⟩ = some (.int .i64 ke)) ∧ (y.cell? ⟨xb, 0, none⟩ = some (.int .i64 P) ∧ y.cell? ⟨xb, 1, none⟩ = some (.int .i64 O)) ∧ y.cell? ⟨g, 2, none⟩ = some (.slice (some a) l.length cap) ∧ y.cell? (a.add k) = some (.int .i64 gp)) := by
            intro y hy
            obtain ⟨hc, -⟩ := bcell hy
            exact ⟨hy, ⟨(hc _ _ (by omega)).trans d0, (hc _ _ (by omega)).trans d1, (hc _ _ (by omega)).trans d2, (hc _ _ (by omega)).trans d3, (hc _ _ (by omega)).trans d4⟩, ⟨(hc _ _ hxl).trans x0, (hc _ _ hxl).trans x1⟩, (hc _ _ (by omega)).trans f2, (hy.cell (p := a.add k) hxw).trans hx⟩
          have keepS : ∀ y1 y2 : World, (Below wo.heap.size wo y1 ∧ (y1.cell? ⟨w.heap.size, 0, none⟩ = some (.int .i64 ka) ∧ y1.cell? ⟨w.heap.size, 1, none⟩ = some (.int .i64 kb) ∧ y1.cell? ⟨w.heap.size, 2, none⟩ = some (.int .i64 kc) ∧ y1.cell? ⟨w.heap.size, 3, none⟩ = some (.int .i64 kd) ∧ y1.cell? ⟨w.heap.size, 4, none⟩ = some (.int .i64 ke)) ∧ (y1.cell? ⟨xb, 0, none⟩ = some (.int .i64 P) ∧ y1.cell? ⟨xb, 1, none⟩ = some (.int .i64 O)) ∧ y1.cell? ⟨g, 2, none⟩ = some (.slice (some a) l.length cap) ∧ y1.cell? (a.add k) = some (.int .i64 gp)) → Below y1.heap.size y1 y2 → (Below wo.heap.size wo y2 ∧ (y2.cell? ⟨w.heap.size, 0, none⟩ = some (.int .i64 ka) ∧ y2.cell? ⟨w.heap.size, 1, none⟩ = some (.int .i64 kb) ∧ y2.cell? ⟨w.heap.size, 2, none⟩ = some (.int .i64 kc) ∧ y2.cell? ⟨w.heap.size, 3, none⟩ = some (.int .i64 kd) ∧ y2.cell? ⟨w.heap.size, 4, none⟩ = some (.int .i64 ke)) ∧ (y2.cell? ⟨xb, 0, none⟩ = some (.int .i64 P) ∧ y2.cell? ⟨xb, 1, none⟩ = some (.int .i64 O)) ∧ y2.cell? ⟨g, 2, none⟩ = some (.slice (some a) l.length cap) ∧ y2.cell? (a.add k) = some (.int .i64 gp)) := fun y1 y2 h hb => mk _ (below_st h.1 hb (Nat.le_refl _))
          have keepT : ∀ (y : World) (g' : Nat) (p q : Value), (Below wo.heap.size wo y ∧ (y.cell? ⟨w.heap.size, 0, none⟩ = some (.int .i64 ka) ∧ y.cell? ⟨w.heap.size, 1, none⟩ = some (.int .i64 kb) ∧ y.cell? ⟨w.heap.size, 2, none⟩ = some (.int .i64 kc) ∧ y.cell? ⟨w.heap.size, 3, none⟩ = some (.int .i64 kd) ∧ y.cell? ⟨w.heap.size, 4, none⟩ = some (.int .i64 ke)) ∧ (y.cell? ⟨xb, 0, none⟩ = some (.int .i64 P) ∧ y.cell? ⟨xb, 1, none⟩ = some (.int .i64 O)) ∧ y.cell? ⟨g, 2, none⟩ = some (.slice (some a) l.length cap) ∧ y.cell? (a.add k) = some (.int .i64 gp)) → wo.heap.size ≤ g' → (Below wo.heap.size wo ((y.setCell ⟨g', 0, none⟩ p).setCell ⟨g', 1, none⟩ q) ∧ (((y.setCell ⟨g', 0, none⟩ p).setCell ⟨g', 1, none⟩ q).cell? ⟨w.heap.size, 0, none⟩ = some (.int .i64 ka) ∧ ((y.setCell ⟨g', 0, none⟩ p).setCell ⟨g', 1, none⟩ q).cell? ⟨w.heap.size, 1, none⟩ = some (.int .i64 kb) ∧ ((y.setCell ⟨g', 0, none⟩ p).setCell ⟨g', 1, none⟩ q).cell? ⟨w.heap.size, 2, none⟩ = some (.int .i64 kc) ∧ ((y.setCell ⟨g', 0, none⟩ p).setCell ⟨g', 1, none⟩ q).cell? ⟨w.heap.size, 3, none⟩ = some (.int .i64 kd) ∧ ((y.setCell ⟨g', 0, none⟩ p).setCell ⟨g', 1, none⟩ q).cell? ⟨w.heap.size, 4, none⟩ = some (.int .i64 ke)) ∧ (((y.setCell ⟨g', 0, none⟩ p).setCell ⟨g', 1, none⟩ q).cell? ⟨xb, 0, none⟩ = some (.int .i64 P) ∧ ((y.setCell ⟨g', 0, none⟩ p).setCell ⟨g', 1, none⟩ q).cell? ⟨xb, 1, none⟩ = some (.int .i64 O)) ∧ ((y.setCell ⟨g', 0, none⟩ p).setCell ⟨g', 1, none⟩ q).cell? ⟨g, 2, none⟩ = some (.slice (some a) l.length cap) ∧ ((y.setCell ⟨g', 0, none⟩ p).setCell ⟨g', 1, none⟩ q).cell? (a.add k) = some (.int .i64 gp)) := fun y g' p q h hg => mk _ ((h.1.setCell hg _).setCell hg _)
          have S0 := mk wo.drew (Below.refl _ _).drew
          go_region_held3 (fun w' => Below wo.heap.size wo w' ∧ (w'.cell? ⟨w.heap.size, 0, none⟩ = some (.int .i64 ka) ∧ w'.cell? ⟨w.heap.size, 1, none⟩ = some (.int .i64 kb) ∧ w'.cell? ⟨w.heap.size, 2, none⟩ = some (.int .i64 kc) ∧ w'.cell? ⟨w.heap.size, 3, none⟩ = some (.int .i64 kd) ∧ w'.cell? ⟨w.heap.size, 4, none⟩ = some (.int .i64 ke)) ∧ (w'.cell? ⟨xb, 0, none⟩ = some (.int .i64 P) ∧ w'.cell? ⟨xb, 1, none⟩ = some (.int .i64 O)) ∧ w'.cell? ⟨g, 2, none⟩ = some (.slice (some a) l.length cap) ∧ w'.cell? (a.add k) = some (.int .i64 gp))
            (first | exact S0 | exact mk _ ((Below.refl _ _).alloc (Nat.le_refl _) _).drew | (refine keepS _ _ ?_ ((Below.refl _ _).alloc (Nat.le_refl _) _); (first | exact S0 | exact s3.out | assumption)) | (refine keepT _ _ _ _ ?_ ?_; (first | exact s3.out | assumption); (first | omega | (simp; omega) | simp)) | (refine keepS _ _ ?_ (by assumption); first | exact S0 | assumption) | go_keep)
            (first | (go_at_call 125; refine (hst' _ (by omega) hsb.2 hgp).mono ?_; rintro e w3 ⟨rfl, hb3⟩; have z3 := hb3.size; (try simp at z3); (try ((have y3 := (Blk_drew' (Blk.new _ 139 #[.int .i64 0, .int .i64 0])).keep hb3; (try simp at y3)); obtain ⟨u0', u1'⟩ := y3.cell2; have u2' := y3.frozen)); have s3 := Lib.hid (keepS _ _ (by first | exact S0 | exact mk _ ((Below.refl _ _).alloc (Nat.le_refl _) _).drew | assumption) hb3)))
          all_goals
            go_wp2_with fail
            go_meet
            have hw1 : Below wo.heap.size wo w3 := by
              refine Below.trans ?_ (hb3.mono ?_)
              · go_grown
              · simp; try omega
            have hz31 := hw1.size
            refine ⟨_, rfl, rfl, rfl, ?_, ?_, ?_⟩
            · omega
            · first | exact Blk.set2 y3 _ _ | exact Blk.new _ _ _ | exact Blk.set2 (Blk.new _ _ _) _ _
            · go_grown
        case rest =>
          obtain ⟨g', rfl, rfl, rfl, hg', G3, hbx⟩ := hcut
          obtain ⟨wx, hwc⟩ : ∃ wx, wx = wc := ⟨_, rfl⟩
          subst hwc
          have hzx := hbx.size
          replace hN3 := hN3.below hbx; replace hE3 := hE3.below hbx; replace X3 := X3.below hbx hxl
          have hbB : Below B wb wx := hbel.trans (hbx.mono (by omega))
          obtain ⟨y0, y1⟩ := G3.cell2
          obtain ⟨x0', x1'⟩ := X3.cell2
          have xf' := X3.frozen
          have hgx := G3.lt
          have hzB : B ≤ wx.heap.size := Nat.le_trans (by omega) hbx.size
          by_cases hgt : 100 < q
          · have hq1 : decide (100 < q) = true := by simp [hgt]
            have hbw2 : Below w.heap.size w wx := hwb.trans (hbB.mono hBw)
            have Hgt := Lib.hid hgt
            clear hgt
            go_wp2_with fail
            go_returns
            have hn := HNO1.out Hgt.out
            exact ⟨none, 0, none, 0, by rw [EN.out, EE.out, hn]; rfl, by rw [EN.out, hn]; exact OwnS.nil_ _ _ _, by rw [EE.out, hn]; exact OwnS.nil_ _ _ _, hbw2⟩
          · have hq1 : decide (100 < q) = false := by simp; omega
            have hq2 : q ≤ 100 := by omega
            have o1 : ∀ g, u7.ownBlock = some g → g < wo.heap.size := fun g hg => (hR.n.blk hg).2
            have o2 : ∀ g, u8.ownBlock = some g → g < wo.heap.size := fun g hg => (hR.e.blk hg).2
            go_wp2_with (first | (at_builtin; refine append_int3 _ rfl (.tmp 63) (.tmp 65) rfl B u8 (runE c (ka * 64) O0 (l.take k)) r _ rfl rfl (by first | rfl | simp) E4 (by omega) hz4 ?_; intro v2 w5 j1 j2 j3 j4; have N5 := i1.asides j3 (fun g hg e => D4 g hg e); have X5 := X4.asides j3 (fun e => hR.ex _ e rfl); have G5 := G4.asides j3 (fun e => by have := o2 _ e; omega); have D5 : ∀ g, v1.ownBlock = some g → v2.ownBlock ≠ some g := (fun g hg e => by rcases j4 g e with h6 | h6; exact D4 g hg h6; have := (i1.blk hg).2; omega); have EX5 : ∀ g, v2.ownBlock = some g → g ≠ xb := (fun g hg e => by rcases j4 g hg with h6 | h6; exact hR.ex g h6 e; have := hbx.size; omega); have hbB5 := hbB4.trans j2; obtain ⟨y0', y1'⟩ := G5.cell2; obtain ⟨x0'', x1''⟩ := X5.cell2; have xf'' := X5.frozen; have gf := G5.frozen) | (at_builtin; refine append_int3 _ rfl (.tmp 59) (.tmp 61) rfl B u7 (runN c (ka * 64) O0 (l.take k)) q _ rfl rfl (by first | rfl | simp) hN3 (by omega) hzB ?_; intro v1 w4 i1 i2 i3 i4; have E4 := hE3.asides i3 (fun g hg e => hR.dj g e hg); have X4 := X3.asides i3 (fun e => hR.nx _ e rfl); have G4 := G3.asides i3 (fun e => by have := o1 _ e; omega); have D4 : ∀ g, v1.ownBlock = some g → u8.ownBlock ≠ some g := (fun g hg e => by rcases i4 g hg with h6 | h6; exact hR.dj g h6 e; have := o2 _ e; have := hbx.size; omega); have NX4 : ∀ g, v1.ownBlock = some g → g ≠ xb := (fun g hg e => by rcases i4 g hg with h6 | h6; exact hR.nx g h6 e; have := hbx.size; omega); have hz4 : B ≤ w4.heap.size := Nat.le_trans hzB i2.size; have hbB4 := hbB.trans i2; have z4 := i2.size))
            have hRn := Runs.next hR hlt HP.out HOO.out Hgp.out Hq.out Hr.out HP2.out HO2.out hq2 N5 j1 D5 NX4 EX5 X5
            refine ⟨⟨k + 1, by go_num, hRn, ?_⟩, by simp [intOf]; omega⟩
            exact (hbB5.setCell (p := ⟨xb, 0, none⟩) hxbB _).setCell (p := ⟨xb, 1, none⟩) hxbB _
      · have ekl : k = l.length := by omega
        subst ekl
        have hyes := HYES.out (fun j hj => hR.ok j hj hj)
        have hN3 := hR.n; have hE3 := hR.e
        rw [List.take_length] at hN3 hE3
        obtain ⟨q1, d1', hv1, S1⟩ := hN3.open_
        obtain ⟨q2, d2', hv2, S2⟩ := hE3.open_
        subst hv1
        subst hv2
        have HY := Lib.hid hyes
        clear hyes
        go_wp2_with fail
        go_returns
        exact ⟨q1, d1', q2, d2', by rw [EN.out, EE.out, HY.out]; rfl, by rw [EN.out, HY.out]; exact S1.mono hBw, by rw [EE.out, HY.out]; exact S2.mono hBw, hbw⟩
end Go.Proofs.Ytmjmhdjfaamgkaa
