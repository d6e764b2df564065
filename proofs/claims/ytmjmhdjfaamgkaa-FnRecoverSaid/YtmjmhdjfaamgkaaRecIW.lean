/- RecoverCells: the program's contract. Printed by reciw.py. -/
import Derived.Test.YtmjmhdjfaamgkaaRecSW
import Derived.Test.YtmjmhdjfaamgkaaRun3W
import Derived.Test.YtmjmhdjfaamgkaaBldW
import Derived.Test.YtmjmhdjfaamgkaaRevW
import Derived.Deep.QuietTactic
namespace Go.Proofs.Ytmjmhdjfaamgkaa
open Go.RowKit
set_option linter.unusedVariables false
theorem OwnI.one (w : World) (x : Int) : OwnI (w.alloc (.cells #[.int .i64 x] 2)) w.heap.size (.slice (some ⟨w.heap.size, 0, none⟩) 1 1) [x] := by
  refine ⟨rfl, .inr ⟨w.heap.size, 1, #[.int .i64 x], rfl, Nat.le_refl _, Blk.new _ _ _, Nat.le_refl _, by unfold maxLen; omega, rfl, rfl⟩⟩
/-- 'append(s, t..)'. -/
theorem append_ints {ops : Array Oper} {rest : List Oper} {o : Oper} {a : Act} {Q : Exit → Act → World → Prop} (w : World) (hg : o.guard = none) (s x : Operand)
    (ho : o.op = .call { callee := .builtin .append, args := #[s, x], argTypes := #[22, 22] })
    (base : Nat) (v : Value) (l M : List Int) (ad : Addr) (m c : Nat) (hs : a.eval s = v) (hx : a.eval x = .slice (some ad) m c) (hm : M.length = m)
    (hM : ∀ j (h : j < M.length), w.cell? (ad.add j) = some (.int .i64 M[j]))
    (hown : OwnI w base v l) (hlen : l.length + m ≤ 10000000) (hbase : base ≤ w.heap.size)
    (h : ∀ v' w', OwnI w' base v' (l ++ M) → Below base w w' → wpList Try.prog ops Q rest (a.put o.dst v') w') :
    wpList Try.prog ops Q (o :: rest) a w := by
  obtain ⟨i, hi, hz, hsz, hby⟩ := info_parts info_i64
  refine wpList_append_own _ hg s x 22 ho base 2 i (.int .i64 0) 1 8 Try.underlying22 hi hz hsz hby rfl (by decide) v l.length (l.map (Value.int .i64)) hs hown
    ad m c (M.map (Value.int .i64)) hx (by simp [hm]) ?_ ?_ (by unfold maxLen; omega) (by omega) hbase ?_
  · intro j u hj
    rw [List.getElem?_map] at hj
    rcases Nat.lt_or_ge j M.length with hlt | hge
    · rw [List.getElem?_eq_getElem hlt] at hj
      simp at hj
      subst hj
      exact hM j hlt
    · rw [List.getElem?_eq_none hge] at hj; simp at hj
  · intro u hu
    simp at hu
    obtain ⟨y, -, rfl⟩ := hu
    rfl
  · intro v' w' h1 h2 _
    refine h v' w' ?_ ?_
    · unfold OwnI
      rw [List.map_append, List.length_append, hm]
      exact h1
    · refine (Below.refl base w).grown h2 hbase ?_
      intro k hk
      rcases hown.2 with ⟨rfl, _⟩ | ⟨g, cap, cur, rfl, hbg, _⟩
      · simp [Value.ownBlock] at hk
      · simp [Value.ownBlock] at hk; omega
theorem bldAt_keep {T e : TypeId} {B b : Nat} {p : Value} {bs : List Value} {w w' : World} (h : Lib.BuilderAt T e B b p bs w) (hb : Below w.heap.size w w') : Lib.BuilderAt T e B b p bs w' := by
  have hlt := h.lt
  obtain ⟨hB, v, hk, ⟨h1, h2⟩, hne⟩ := h
  refine ⟨hB, v, (hb.block b hlt).trans hk, ⟨h1, ?_⟩, hne⟩
  rcases h2 with h2 | ⟨g, cap, cur, hv, hg, hh, r⟩
  · exact .inl h2
  · refine .inr ⟨g, cap, cur, hv, hg, ?_, r⟩
    rw [hb.block g]
    · exact hh
    · rcases Nat.lt_or_ge g w.heap.size with hlt | hge
      · exact hlt
      · rw [Array.getElem?_eq_none hge] at hh; cases hh
theorem bld_keep {T e : TypeId} {B b : Nat} {bs : List Value} {w w' : World} (h : Lib.IsBuilder T e B b bs w) (hb : Below w.heap.size w w') : Lib.IsBuilder T e B b bs w' :=
  h.elim (fun h => .inl (bldAt_keep h hb)) (fun h => .inr (bldAt_keep h hb))
theorem bld_str (l1 l2 : List UInt8) : Lib.byteCells l1 ++ Lib.strCells ((⟨l2.toArray⟩ : ByteArray) ++ ⟨#[49]⟩) = Lib.byteCells (l1 ++ l2 ++ [49]) := by
  rw [Lib.strCells_eq, ByteArray.data_append]
  simp [Lib.byteCells]
theorem bld_str0 (l1 l2 : List UInt8) : Lib.byteCells l1 ++ Lib.strCells (⟨l2.toArray⟩ : ByteArray) = Lib.byteCells (l1 ++ l2) := by
  rw [Lib.strCells_eq]
  simp [Lib.byteCells]
theorem zeros_size (y : Int) : ((⟨(zerosL y).toArray⟩ : ByteArray) ++ ⟨#[49]⟩).size = y.toNat + 1 := by
  rw [ByteArray.size_append]
  show (zerosL y).toArray.size + 1 = _
  simp [zerosL]
theorem zeros_size0 (y : Int) : (⟨(zerosL y).toArray⟩ : ByteArray).size = y.toNat := by
  show (zerosL y).toArray.size = _
  simp [zerosL]
def rcM (a : Int) (ns : List Int) : Nat → List UInt8
  | 0 => []
  | k + 1 => rcP a ns k
theorem rc_no {c : Clk} {cf f : Int} {l : List Int} (h : runCode c cf f l ≠ 0) : rcS c cf f l = ByteArray.empty ∧ rcE c cf f l = runCode c cf f l := by
  unfold runCode rcS rcE rcOk at *
  cases h1 : (fluxOk cf f l && c.valid)
  · simp
  · cases h2 : runOk c f l
    · simp
    · rw [h1, h2] at h; simp at h
theorem rc_yes {c : Clk} {cf f : Int} {l : List Int} (h : runCode c cf f l = 0) : (fluxOk cf f l = true ∧ c.valid = true ∧ runOk c f l = true) ∧ cNs c cf f l = runN c (c.cell * 64) (off0 c f) l ∧ runNs c f l = runN c (c.cell * 64) (off0 c f) l ∧
    rcE c cf f l = (if rcSum (f / c.cell) (runN c (c.cell * 64) (off0 c f) l) ≤ 8000 then 0 else 5) ∧
    rcS c cf f l = (if rcSum (f / c.cell) (runN c (c.cell * 64) (off0 c f) l) ≤ 8000 then ⟨(rcAll (f / c.cell) (runN c (c.cell * 64) (off0 c f) l)).toArray⟩ else ByteArray.empty) := by
  have h0 : (fluxOk cf f l && c.valid) = true ∧ runOk c f l = true := by
    unfold runCode at h
    cases h1 : (fluxOk cf f l && c.valid)
    · rw [h1] at h; simp at h
    · cases h2 : runOk c f l
      · rw [h1, h2] at h; simp at h
      · exact ⟨rfl, rfl⟩
  obtain ⟨h1, h2⟩ := h0
  have h3 : runNs c f l = runN c (c.cell * 64) (off0 c f) l := by unfold runNs; rw [h2]; rfl
  have h1' := h1
  rw [Bool.and_eq_true] at h1
  refine ⟨⟨h1.1, h1.2, h2⟩, ?_, h3, ?_, ?_⟩
  · unfold cNs; rw [h1', if_pos rfl, h3]
  · unfold rcE rcOk rcFit; rw [h1', h2]; simp
  · unfold rcS rcOk rcFit; rw [h1', h2]; simp
set_option maxHeartbeats 8000000 in
set_option maxRecDepth 20000 in
theorem impl_RecoverCells (c : Clk) (cf f : Int) (p : Option Addr) (l : List Int) (cap : Nat) (w : World) (hI : IntsAt w p l) (hl : l.length ≤ 1048576) :
    Calls Try.prog 46 #[.agg #[.int .i64 cf, .int .i64 f, .slice p l.length cap], c.val] w fun e w' => e = .returned (.tuple #[.string (rcS c cf f l), .int .i64 (rcE c cf f l)]) ∧ Below w.heap.size w w' := by
  have hrun := fun w' hI' => impl_runClock2 c cf f p l cap w' hI' hl
  by_cases hr : runCode c cf f l = 0
  rotate_left
  · obtain ⟨h1, h2⟩ := rc_no hr
    rw [h1, h2]
    obtain ⟨r, er⟩ : ∃ r, runCode c cf f l = r := ⟨_, rfl⟩
    rw [er] at hr ⊢
    simp only [er] at hrun
    clear er h1 h2
    generalize cNs c cf f l = N at *
    generalize cEs c cf f l = E at *
    obtain ⟨ca, cb, ch, cp, cs⟩ := c
    simp only [Clk.val] at *
    have hq : (r == 0) = false := by simp [hr]
    go_enter Try.func46, Try.ntmps46
    go_wp2_with fail
    have W0 : Below w.heap.size w ((w.alloc (.cells #[.int .i64 cf, .int .i64 f, .slice p l.length cap] 24)).alloc (.cells #[.int .i64 ca, .int .i64 cb, .int .i64 ch, .int .i64 cp, .int .i64 cs] 67)) := ((Below.refl _ _).alloc (Nat.le_refl _) _).alloc (by simp) _
    refine (hrun _ (hI.below W0)).mono ?_
    rintro e w1 ⟨q, dq, r', dr, rfl, -, -, hb1, -⟩
    replace W0 := below_st W0 hb1 (Nat.le_refl _)
    go_wp2_with fail
    go_ret2
    exact ⟨rfl, W0⟩
  obtain ⟨⟨hok, hv, hro⟩, eN, eN2, hE, hS⟩ := rc_yes hr
  simp only [hr, eN] at hrun
  have hbn := fun n hn => runNs_bd (c := c) (cf := cf) (f := f) (l := l) hok hv n hn
  rw [eN2] at hbn
  have hkk := Clk.valid_bd hv
  obtain ⟨-, hlen, -, -, hf, -⟩ := fluxOk_bd hok
  have hN := runN_len c (c.cell * 64) (off0 c f) l
  have hq : f.tdiv c.cell = f / c.cell := Int.tdiv_eq_ediv_of_nonneg (by omega)
  have hqb : 0 ≤ f / c.cell ∧ f / c.cell ≤ 2000000 := ⟨Int.ediv_nonneg (by omega) (by omega), Int.le_trans (Int.ediv_le_self _ (by omega)) (by omega)⟩
  have HE := Lib.hid hE; have HS := Lib.hid hS
  clear hE hS eN eN2 hr hok hro
  generalize rcS c cf f l = RS at *
  generalize rcE c cf f l = RE at *
  generalize cEs c cf f l = E at *
  generalize runN c (c.cell * 64) (off0 c f) l = ns at *
  generalize f / c.cell = a at *
  obtain ⟨ca, cb, ch, cp, cs⟩ := c
  simp only [Clk.val] at *
  rw [hN] at hrun
  have hca0 : ¬ ca = 0 := by omega
  have qa : IntKind.i64.wrap (f.tdiv ca) = a := by rw [hq, IntWalk.i64_in _ (by omega)]
  obtain ⟨m, hm⟩ : ∃ m, l.length - 1 = m := ⟨_, rfl⟩
  have hmN : m < ns.length := by omega
  obtain ⟨z, ez⟩ : ∃ z, ns[m] = z := ⟨_, rfl⟩
  have hzb := hbn _ (List.getElem_mem hmN)
  have hlastz : lastI ns = z := by
    unfold lastI
    rw [← ez, lastD_at (by omega)]
  rw [ez] at hzb
  have hsum0 : rcSum a ns = a + 1 + (ns.take m).sum + max (z - 1 - a) 0 := by unfold rcSum; rw [hN, hm, hlastz]
  have htb := take_sum_bd hbn m
  have HALL : Hid (rcAll a ns = rcP a ns m ++ zerosL (z - 1 - a)) := Lib.hid (by unfold rcAll; rw [hN, hm, hlastz])
  rw [hsum0] at HE HS
  have qm : IntKind.i64.wrap ((l.length : Int) - 1) = (m : Int) := by rw [IntWalk.i64_in _ (by omega)]; omega
  have qm2 : (l.length : Int) - 1 = (m : Int) := by omega
  have im : (m : Int) < (l.length : Int) := by omega
  have im2 : m < l.length := by omega
  have im3 : m ≤ l.length := by omega
  obtain ⟨mx, hmx⟩ : ∃ mx, max (z - 1 - a) 0 = mx := ⟨_, rfl⟩
  have hmxb : 0 ≤ mx ∧ mx ≤ 100 := by omega
  have hmz : zerosL (z - 1 - a) = zerosL mx := by unfold zerosL; congr 1; omega
  rw [hmz] at HALL
  obtain ⟨sm, esm⟩ : ∃ sm, (ns.take m).sum = sm := ⟨_, rfl⟩
  rw [hmx, esm] at HE HS
  rw [esm] at htb
  have qz1 : IntKind.i64.wrap (z - 1) = z - 1 := IntWalk.i64_in _ (by omega)
  have qz2 : IntKind.i64.wrap (z - 1 - a) = z - 1 - a := IntWalk.i64_in _ (by omega)
  have qz3 : IntKind.i64.wrap (a + 1) = a + 1 := IntWalk.i64_in _ (by omega)
  have qz4 : IntKind.i64.wrap (a + 1 + sm) = a + 1 + sm := IntWalk.i64_in _ (by omega)
  have qz5 : IntKind.i64.wrap (a + 1 + sm + mx) = a + 1 + sm + mx := IntWalk.i64_in _ (by omega)
  have HN := Lib.hid hN
  have EZ := Lib.hid ez
  have HBN := Lib.hid hbn
  have ESM := Lib.hid esm
  clear hsum0 hlastz ez hbn hmz hN esm
  have hW : Below w.heap.size w ((w.alloc (.cells #[.int .i64 cf, .int .i64 f, .slice p l.length cap] 24)).alloc (.cells #[.int .i64 ca, .int .i64 cb, .int .i64 ch, .int .i64 cp, .int .i64 cs] 67)) := ((Below.refl _ _).alloc (Nat.le_refl _) _).alloc (by simp) _
  have BF := (Blk.new w 24 #[.int .i64 cf, .int .i64 f, .slice p l.length cap]).keep ((Below.refl _ (w.alloc (.cells #[.int .i64 cf, .int .i64 f, .slice p l.length cap] 24))).alloc (Nat.le_refl _) (.cells #[.int .i64 ca, .int .i64 cb, .int .i64 ch, .int .i64 cp, .int .i64 cs] 67))
  have BC := Blk.new (w.alloc (.cells #[.int .i64 cf, .int .i64 f, .slice p l.length cap] 24)) 67 #[.int .i64 ca, .int .i64 cb, .int .i64 ch, .int .i64 cp, .int .i64 cs]
  have e1 : (w.alloc (.cells #[.int .i64 cf, .int .i64 f, .slice p l.length cap] 24)).heap.size = w.heap.size + 1 := by simp
  rw [e1] at BC
  clear e1
  go_enter Try.func46, Try.ntmps46
  go_wp2_with fail
  generalize (w.alloc (.cells #[.int .i64 cf, .int .i64 f, .slice p l.length cap] 24)).alloc (.cells #[.int .i64 ca, .int .i64 cb, .int .i64 ch, .int .i64 cp, .int .i64 cs] 67) = w0 at BF BC hW ⊢
  refine (hrun _ (hI.below hW)).mono ?_
  rintro e w1 ⟨q, dq, r', dr, rfl, SN, -, hb1, hcap⟩
  have hcapm : m ≤ dq := by omega
  replace BF := BF.keep hb1
  replace BC := BC.keep hb1
  have z0 := hW.size
  have z1 := hb1.size
  replace hW := below_st hW hb1 (Nat.le_refl _)
  clear hb1 hrun
  obtain ⟨g, rfl, hg, hrow⟩ := SN (by intro e; rw [e] at hmN; simp at hmN)
  obtain ⟨f0, f1, f2⟩ := BF.cell3
  obtain ⟨c0, c1, c2, c3, c4⟩ := BC.cell5
  have flt := BF.lt
  have clt := BC.lt
  have hlm : (ns.take m).length = m := by rw [List.length_take]; omega
  obtain ⟨M1, hM1⟩ : ∃ M1, m + 1 = M1 := ⟨_, rfl⟩
  have hZl : ([a] ++ ns.take m).length = M1 := by rw [List.length_append, hlm]; simp; omega
  have hM0 : ∀ j (h : j < (ns.take m).length), (w1.alloc (.cells #[.int .i64 a] 2)).cell? ((⟨g, 0, none⟩ : Addr).add j) = some (.int .i64 (ns.take m)[j]) := fun j h => by
    have hj : j < ns.length := by rw [hlm] at h; omega
    obtain ⟨ad, had, hc⟩ := (hrow.alloc (.cells #[.int .i64 a] 2)).ints.at_ hj
    injection had with had
    subst had
    rw [List.getElem_take]
    exact hc
  have hO := OwnI.one w1 a
  have HZL := Lib.hid hZl
  clear hZl
  go_wp2_with (at_builtin; refine append_ints _ rfl (.tmp 35) (.tmp 38) rfl w1.heap.size _ [a] (ns.take m) ⟨g, 0, none⟩ m dq rfl rfl hlm hM0 hO (by simp; omega) (by simp) ?_; intro v w2 hZ hb2; obtain ⟨qz, dz, rfl, SZ⟩ := hZ.open_; rw [HZL.out])
  have hW2 : Below w.heap.size w w2 := (hW.alloc (by omega) _).trans (hb2.mono (by omega))
  have hrow2 : RowI w2 g ns := hrow.aside hrow.lt (((Below.refl _ w1).alloc (Nat.le_refl _) (.cells #[.int .i64 a] 2)).trans hb2)
  have z2 : w1.heap.size ≤ w2.heap.size := by have := hb2.size; simp at this; omega
  have htot : ∀ n, Calls Try.prog 75 #[.slice (some ⟨g, 0, none⟩) m dq] (w2.drewN n) fun e w'' => e = .returned (.int .i64 sm) ∧ ∃ k, w'' = w2.drewN k := fun n => by
    have h1 := impl_total (some ⟨g, 0, none⟩) (ns.take m) dq (w2.drewN n) (fun hne => by
      refine ⟨⟨g, 0, none⟩, rfl, hrow2.lt, fun i h => ?_⟩
      have hj : i < ns.length := by rw [hlm] at h; omega
      obtain ⟨ad, had, hc⟩ := hrow2.ints.at_ hj
      injection had with had
      subst had
      rw [List.getElem_take]
      exact hc) (by rw [hlm]; omega) (fun k => by
      rw [List.take_take]
      have := take_sum_bd HBN.out (min k m)
      rw [HN.out] at this
      omega)
    rw [hlm, ESM.out] at h1
    exact h1.mono fun e w'' ⟨h, h2⟩ => ⟨h, n, h2⟩
  obtain ⟨hcz, -⟩ := hrow2.cell hmN
  rw [EZ.out] at hcz
  have hg2 := hrow2.lt
  have hrep : ∀ y w', 0 ≤ y → y ≤ 1000000 → Calls Try.prog 90 #[.string ⟨#[48]⟩, .int .i64 y] w' fun e w'' => e = .returned (.string ⟨(zerosL y).toArray⟩) ∧ Below w'.heap.size w' w'' := fun y w' h0 h1 => by
    obtain ⟨n, rfl⟩ := Int.eq_ofNat_of_zero_le h0
    have := strings_RepeatZ n w' (by omega)
    unfold zerosL
    exact this
  go_quiet (exact htot _)
  by_cases h8 : a + 1 + sm + mx ≤ 8000
  rotate_left
  · have h1 : RE = 5 := by rw [HE.out, if_neg h8]
    have h2 : RS = ByteArray.empty := by rw [HS.out, if_neg h8]
    have hd : decide (8000 < a + 1 + sm + mx) = true := decide_eq_true (by omega)
    go_wp2_with fail
    go_ret2
    exact ⟨ret_str_int (by first | rfl | (rw [h2]; rfl)) (by first | rfl | rw [h1]), below_drewN hW2 _⟩
  have hd : decide (8000 < a + 1 + sm + mx) = false := decide_eq_false (by omega)
  have h1 : RE = 0 := by rw [HE.out, if_pos h8]
  have h2 : RS = ⟨(rcAll a ns).toArray⟩ := by rw [HS.out, if_pos h8]
  subst h1
  rw [HALL.out] at h2
  have HRS := Lib.hid h2
  clear h2 HS HE HALL
  generalize hw3 : w2.drewN _ = w3
  replace hW2 : Below w.heap.size w w3 := by rw [← hw3]; exact below_drewN hW2 _
  replace hrow2 : RowI w3 g ns := by rw [← hw3]; exact hrow2
  replace SZ : OwnS w3 w1.heap.size qz ([a] ++ ns.take m) := by rw [← hw3]; exact SZ
  have z3 : w1.heap.size ≤ w3.heap.size := by rw [← hw3]; exact z2
  clear hw3 hcz htot z2 hg2 f0 f1 f2 c0 c1 c2 c3 c4 flt clt hM0 hO
  have hIB := Lib.fresh_isBuilder 108 5 w3
  replace hW2 := hW2.alloc (show w.heap.size ≤ w3.heap.size from hW2.size) (.cells #[.pointer none, .slice none 0 0] 108)
  go_wp2_with fail
  obtain ⟨B, eB⟩ : ∃ B, w3.heap.size = B := ⟨_, rfl⟩
  have hzB : B ≤ (w3.alloc (.cells #[.pointer none, .slice none 0 0] 108)).heap.size := by simp; omega
  have hB3 : Below B w3 (w3.alloc (.cells #[.pointer none, .slice none 0 0] 108)) := eB ▸ (Below.refl _ w3).alloc (Nat.le_refl _) _
  generalize w3.alloc (.cells #[.pointer none, .slice none 0 0] 108) = w4 at *
  rw [eB] at hIB z3 ⊢
  obtain ⟨gz, rfl, hgz, hrz0⟩ := SZ (by simp)
  have hgzB : gz < B := by have := hrz0.lt; omega
  have hgB : g < B := by have := hrow2.lt; omega
  have hrz := hrz0.aside hgzB hB3
  have hrow4 := hrow2.aside hgB hB3
  clear hrz0 hrow2 hB3 SZ eB
  have hcell : ∀ k, (h : k < M1) → ∀ wr, Below B w4 wr → ∃ y0 y : Int, wr.cell? ⟨gz, k, none⟩ = some (.int .i64 y0) ∧ (y0 = if 0 < k then y + 1 else y) ∧ (0 ≤ y ∧ y ≤ 1000000) ∧ (rcM a ns k).length ≤ 200000000 ∧ rcM a ns (k + 1) = rcM a ns k ++ zerosL y ++ [49] := fun k hk wr hbel => by
    have hr1 := hrz.aside hgzB hbel
    obtain ⟨hc, -⟩ := hr1.cell (k := k) (by rw [HZL.out]; exact hk)
    cases k with
    | zero => exact ⟨a, a, hc, by simp, by omega, by simp [rcM], by show rcP a ns 0 = [] ++ zerosL a ++ [49]; rw [rcP_zero]; rfl⟩
    | succ j =>
      have hj : j < ns.length := by have := HN.out; omega
      have hz : ([a] ++ ns.take m)[j + 1]'(by rw [HZL.out]; exact hk) = ns[j] := by simp
      rw [hz] at hc
      have hb := HBN.out _ (List.getElem_mem hj)
      have hl := rcP_len hqb.1 HBN.out j (by omega)
      have hs := take_sum_bd HBN.out j
      have hnl := HN.out
      refine ⟨ns[j], ns[j] - 1, hc, by simp, by omega, ?_, ?_⟩
      · show (rcP a ns j).length ≤ _
        omega
      · show rcP a ns (j + 1) = rcP a ns j ++ _ ++ _
        exact rcP_succ a hj
  have hcl := Lib.hid hcell
  have hrp := Lib.hid hrep
  clear hcell hrep
  go_wp2_with fail
  go_loopw [60] (fun i wr => ∃ k : Nat, k ≤ M1 ∧ i = .int .i64 k ∧ Lib.IsBuilder 108 5 B B (Lib.byteCells (rcM a ns k)) wr ∧ Below B w4 wr) (fun i _ => M1 - (intOf i).toNat)
  case atStart => exact ⟨0, Nat.zero_le _, rfl, hIB, Below.refl _ _⟩
  case round =>
    obtain ⟨k, hk, rfl, hib, hbel⟩ := hrel
    have hzr : B ≤ wr.heap.size := by have := hbel.size; omega
    by_cases hlt : k < M1
    · obtain ⟨y0, y, hc, hy0, hyb, hlen, hnext⟩ := hcl.out k hlt wr hbel
      have HNX := Lib.hid hnext
      clear hnext
      have hwr : ∀ w5, Below wr.heap.size wr w5 → Calls Try.prog 89 #[.pointer (some ⟨B, 0, none⟩), .string (⟨(zerosL y).toArray⟩ ++ ⟨#[49]⟩)] w5 fun e w' => (∃ n, e = .returned (.tuple #[.int .i64 n, .nilIface])) ∧ Lib.IsBuilder 108 5 B B (Lib.byteCells (rcM a ns (k + 1))) w' ∧ Below B w4 w' := fun w5 hb5 => by
        have hs5 := hb5.size
        refine (builder_WriteString B B _ _ w5 (bld_keep hib hb5) (by rw [zeros_size, Lib.byteCells_length]; omega) (by omega)).mono ?_
        rintro e w' ⟨rfl, h1, h2⟩
        rw [bld_str, ← HNX.out] at h1
        exact ⟨⟨_, rfl⟩, .inr h1, (hbel.trans (hb5.mono hzr)).trans h2⟩
      have HW := Lib.hid hwr
      clear hwr
      have hno : ¬ 9223372036854775807 < (zerosL y).length + 1 := by rw [zerosL_len]; omega
      rcases Nat.eq_zero_or_pos k with hk0 | hk0
      · subst hk0
        rw [if_neg (Nat.lt_irrefl 0)] at hy0
        subst hy0
        go_wp2_with (first | (go_at_call 90; refine (hrp.out y0 _ (by omega) (by omega)).mono ?_; rintro e w5 ⟨rfl, hb5⟩) | (go_at_call 89; refine (HW.out _ hb5).mono ?_; rintro e w6 ⟨⟨n6, rfl⟩, hib6, hbel6⟩))
        exact ⟨⟨1, by omega, by go_num, hib6, hbel6⟩, by simp [intOf]; omega⟩
      · have hd : decide ((0 : Int) < (k : Int)) = true := decide_eq_true (by omega)
        rw [if_pos hk0] at hy0
        subst hy0
        have qy : IntKind.i64.wrap (y + 1 - 1) = y := by rw [IntWalk.i64_in _ (by omega)]; omega
        go_wp2_with (first | (go_at_call 90; refine (hrp.out y _ (by omega) (by omega)).mono ?_; rintro e w5 ⟨rfl, hb5⟩) | (go_at_call 89; refine (HW.out _ hb5).mono ?_; rintro e w6 ⟨⟨n6, rfl⟩, hib6, hbel6⟩))
        exact ⟨⟨k + 1, by omega, by go_num, hib6, hbel6⟩, by simp [intOf]; omega⟩
    · have hk2 : k = M1 := by omega
      subst hk2
      obtain ⟨j, ej⟩ : ∃ j, k = j + 1 := ⟨m, hM1.symm⟩
      obtain ⟨hcz, -⟩ := (hrow4.aside hgB hbel).cell hmN
      rw [EZ.out] at hcz
      have hmj : j = m := by omega
      have hib' : Lib.IsBuilder 108 5 B B (Lib.byteCells (rcP a ns m)) wr := by rw [ej, hmj] at hib; exact hib
      have hlen : (rcP a ns m).length ≤ 200000000 := by
        have hl := rcP_len hqb.1 HBN.out m (by omega)
        rw [ESM.out] at hl
        omega
      have hwr : ∀ w5, Below wr.heap.size wr w5 → Calls Try.prog 89 #[.pointer (some ⟨B, 0, none⟩), .string (⟨(zerosL mx).toArray⟩)] w5 fun e w' => (∃ n, e = .returned (.tuple #[.int .i64 n, .nilIface])) ∧ Lib.IsBuilder 108 5 B B (Lib.byteCells (rcP a ns m ++ zerosL mx)) w' ∧ Below B w4 w' := fun w5 hb5 => by
        have hs5 := hb5.size
        refine (builder_WriteString B B _ _ w5 (bld_keep hib' hb5) (by rw [zeros_size0, Lib.byteCells_length]; omega) (by omega)).mono ?_
        rintro e w' ⟨rfl, h1, h2⟩
        rw [bld_str0] at h1
        exact ⟨⟨_, rfl⟩, .inr h1, (hbel.trans (hb5.mono hzr)).trans h2⟩
      have HW := Lib.hid hwr
      clear hwr hib hib' ej hmj
      have im4 : (m : Int) < (l.length : Int) := by omega
      go_wp2_with (first | (go_at_call 90; refine (hrp.out mx _ (by omega) (by omega)).mono ?_; rintro e w5 ⟨rfl, hb5⟩) | (go_at_call 89; refine (HW.out _ hb5).mono ?_; rintro e w6 ⟨⟨n6, rfl⟩, hib6, hbel6⟩) | (go_at_call 91; refine (Try.Builder_String_any B B _ _ hib6 (by have := hbel6.size; omega)).mono ?_; rintro e w7 ⟨rfl, hb7⟩))
      go_ret2
      exact ⟨ret_str_int (by first | exact HRS.out.symm | (rw [HRS.out]; rfl)) rfl, hW2.trans ((hbel6.trans hb7).mono (by have := hW2.size; have := z3; have := hW.size; omega))⟩
end Go.Proofs.Ytmjmhdjfaamgkaa
