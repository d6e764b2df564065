/- Whether noise is valid: what it says (plain), and the model's own test (spec). -/
import Derived.Test.YtfdcainjppljhaaNkW
import Derived.Test.YtfdcainjppljhaaSpsW
namespace Go.Proofs.Ytfdcainjppljhaa
open Go.RowKit
set_option linter.unusedVariables false
def flx0 : Flx := ⟨0, 0, ⟨none, [], 0⟩⟩
def spanB (s : Flx) : Bool := spanOk s.cell s.first s.g.l
def spsG (L : List Flx) (i : Nat) : Bool := spanB (L.getD i flx0) && (i == 0 || decide ((L.getD (i - 1) flx0).first ≤ (L.getD i flx0).cell))
def spsB (L : List Flx) : Bool := (List.range L.length).all (spsG L)
theorem spsB_no {L : List Flx} {k : Nat} (hk : k < L.length) (h : spsG L k = false) : spsB L = false := by
  unfold spsB
  exact List.all_eq_false.2 ⟨k, List.mem_range.2 hk, by rw [h]; decide⟩
theorem spsB_yes {L : List Flx} (h : ∀ k, k < L.length → spsG L k = true) : spsB L = true := by
  unfold spsB
  exact List.all_eq_true.2 fun k hk => h k (List.mem_range.1 hk)
theorem getD_flx {L : List Flx} {k : Nat} (hk : k < L.length) : L.getD k flx0 = L[k] := by rw [List.getD_eq_getElem?_getD, List.getElem?_eq_getElem hk]; rfl
def nzB (d : Int) (j e : List Int) (L : List Flx) : Bool := inB d (-100) 100 && (jitOk j && (risesB e 0 3999 && (decide (L.length ≤ 8) && spsB L)))
set_option maxHeartbeats 8000000 in
set_option maxRecDepth 20000 in
theorem spec_l04SpanQ (a b : Int) (p : Option Addr) (t : List Int) (cap g o : Nat) (w : World) (hI : IntsAt w p t) (hl : t.length ≤ 1048576) (h0 : w.cell? ⟨g, o, none⟩ = some (.int .i64 a)) (h1 : w.cell? ⟨g, o + 1, none⟩ = some (.int .i64 b)) (h2 : w.cell? ⟨g, o + 2, none⟩ = some (.slice p t.length cap)) :
    Calls Try.prog 62 #[.pointer (some ⟨g, o, none⟩)] w fun e w' => e = .returned (.bool (spanOk a b t)) ∧ ∃ n, w' = w.drewN n := by
  obtain hB | hB := (Bool.eq_false_or_eq_true (inB b 0 2000000)).symm
  · have hqb := fun w n => l00In_q b 0 2000000 w n
    simp only [hB] at hqb
    have HV : Hid (spanOk a b t = false) := Lib.hid (by
      cases h : spanOk a b t
      · rfl
      · have := spanOk_bd h
        rw [inB_yes (by omega)] at hB; cases hB)
    clear hB
    go_enter Try.func62, Try.ntmps62
    go_wp2_with fail
    go_quiet (exact hqb _ _)
    go_wp2_with fail
    go_ret
    exact ⟨ret_bool (by rw [HV.out]), ⟨_, rfl⟩⟩
  have hbb := inB_iff.1 hB
  have hqb := fun w n => l00In_q b 0 2000000 w n
  simp only [hB] at hqb
  have q1 : IntKind.i64.wrap (b - 1) = b - 1 := IntWalk.i64_in _ (by omega)
  obtain hA | hA := (Bool.eq_false_or_eq_true (inB a 0 b)).symm
  · have hqa := fun w n => l00In_q a 0 b w n
    simp only [hA] at hqa
    have HV : Hid (spanOk a b t = false) := Lib.hid (by unfold spanOk; rw [hA]; rfl)
    clear hA hB
    go_enter Try.func62, Try.ntmps62
    go_wp2_with fail
    go_quiet (first | with_reducible exact hqb _ _ | with_reducible exact hqa _ _)
    go_wp2_with fail
    go_ret
    exact ⟨ret_bool (by rw [HV.out]), ⟨_, rfl⟩⟩
  have hqa := fun w n => l00In_q a 0 b w n
  simp only [hA] at hqa
  have HV : Hid (spanOk a b t = risesB t a (b - 1)) := Lib.hid (by unfold spanOk; rw [hA, decide_eq_true hbb.2]; rfl)
  have hr : ∀ n, Calls Try.prog 90 #[.slice p t.length cap, .int .i64 a, .int .i64 (b - 1)] (w.drewN n) fun e w'' => e = .returned (.bool (risesB t a (b - 1))) ∧ ∃ m, w'' = w.drewN m := fun n =>
    (spec_l00RisesQ p t cap a (b - 1) (w.drewN n) hI hl).mono fun e w'' ⟨h, m, hm⟩ => ⟨h, n + m, by rw [hm]; simp [World.drewN, Nat.add_assoc]⟩
  generalize risesB t a (b - 1) = r at HV hr
  clear hA hB
  go_enter Try.func62, Try.ntmps62
  go_wp2_with fail
  go_quiet (first | with_reducible exact hqb _ _ | with_reducible exact hqa _ _ | with_reducible exact hr _)
  go_wp2_with fail
  go_ret
  exact ⟨ret_bool (by rw [HV.out]), ⟨_, rfl⟩⟩
theorem addr_cell {w : World} {p : Addr} {v : Value} (h : w.cell? p = some v) : p = ⟨p.block, p.off, none⟩ := by
  obtain ⟨b, o, s⟩ := p
  cases s with
  | none => rfl
  | some s => unfold World.cell? at h; split at h <;> simp at h
set_option maxHeartbeats 4000000 in
set_option maxRecDepth 20000 in
theorem spec_l04Ok (d : Int) (pj pd ps : Option Addr) (j e : List Int) (L : List Flx) (cj cd cs : Nat) (g : Nat) (w : World) (B0 : Blk w g 53 #[.int .i64 d, .slice pj j.length cj, .slice pd e.length cd, .slice ps L.length cs]) (h1 : IntsAt w pj j) (h2 : IntsAt w pd e) (h3 : SpansAt w ps L) (hj : j.length ≤ 1048576) (he : e.length ≤ 1048576) (hl : L.length ≤ 1048576) (hg : ∀ s ∈ L, s.g.l.length ≤ 1048576) :
    Calls Try.prog 73 #[.pointer (some ⟨g, 0, none⟩)] w fun e' w' => e' = .returned (.bool (nzB d j e L)) ∧ Below w.heap.size w w' := by
  have W0 := Below.refl w.heap.size w
  obtain ⟨c0, c1, c2, c3⟩ := B0.cell4
  obtain k1 | k1 := (Bool.eq_false_or_eq_true (inB d (-100) 100)).symm
  · have H1 := Lib.hid k1
    have HV : Hid (nzB d j e L = false) := Lib.hid (by unfold nzB; rw [k1]; rfl)
    clear k1
    go_enter Try.func73, Try.ntmps73
    go_wp2_with fail
    refine (spec_l04Drift d _).mono ?_
    rintro e' w1 ⟨rfl, hb1⟩
    rw [H1.out]
    have W1 := below_st W0 hb1 (Nat.le_refl _)
    go_wp2_with fail
    go_ret
    exact ⟨ret_bool (by rw [HV.out]), W1⟩
  obtain k2 | k2 := (Bool.eq_false_or_eq_true (jitOk j)).symm
  · have H1 := Lib.hid k1
    have H2 := Lib.hid k2
    have HV : Hid (nzB d j e L = false) := Lib.hid (by unfold nzB; rw [k1, k2]; rfl)
    clear k1 k2
    go_enter Try.func73, Try.ntmps73
    go_wp2_with fail
    refine (spec_l04Drift d _).mono ?_
    rintro e' w1 ⟨rfl, hb1⟩
    rw [H1.out]
    have B1 := B0.keep hb1
    have W1 := below_st W0 hb1 (Nat.le_refl _)
    clear c0 c1 c2 c3
    obtain ⟨c0, c1, c2, c3⟩ := B1.cell4
    go_wp2_with fail
    refine (spec_l04Jitter _ _ _ _ (h1.below W1) hj).mono ?_
    rintro e' w2 ⟨rfl, hb2⟩
    rw [H2.out]
    have W2 := below_st W1 hb2 (Nat.le_refl _)
    go_wp2_with fail
    go_ret
    exact ⟨ret_bool (by rw [HV.out]), W2⟩
  have H1 := Lib.hid k1
  have H2 := Lib.hid k2
  obtain k3 | k3 := (Bool.eq_false_or_eq_true (risesB e 0 3999)).symm
  · have H3 := Lib.hid k3
    have HV : Hid (nzB d j e L = false) := Lib.hid (by unfold nzB; rw [k1, k2, k3]; rfl)
    clear k1 k2 k3
    go_enter Try.func73, Try.ntmps73
    go_wp2_with fail
    refine (spec_l04Drift d _).mono ?_
    rintro e' w1 ⟨rfl, hb1⟩
    rw [H1.out]
    have B1 := B0.keep hb1
    have W1 := below_st W0 hb1 (Nat.le_refl _)
    clear c0 c1 c2 c3
    obtain ⟨c0, c1, c2, c3⟩ := B1.cell4
    go_wp2_with fail
    refine (spec_l04Jitter _ _ _ _ (h1.below W1) hj).mono ?_
    rintro e' w2 ⟨rfl, hb2⟩
    rw [H2.out]
    have B2 := B1.keep hb2
    have W2 := below_st W1 hb2 (Nat.le_refl _)
    clear c0 c1 c2 c3
    obtain ⟨c0, c1, c2, c3⟩ := B2.cell4
    go_wp2_with fail
    refine (spec_l04Drops _ _ _ _ (h2.below W2) he).mono ?_
    rintro e' w3 ⟨rfl, hb3⟩
    rw [H3.out]
    have W3 := below_st W2 hb3 (Nat.le_refl _)
    go_wp2_with fail
    go_ret
    exact ⟨ret_bool (by rw [HV.out]), W3⟩
  have H3 := Lib.hid k3
  have HN : Hid (nzB d j e L = (decide (L.length ≤ 8) && spsB L)) := Lib.hid (by unfold nzB; rw [k1, k2, k3]; rfl)
  clear k1 k2 k3
  go_enter Try.func73, Try.ntmps73
  go_wp2_with fail
  refine (spec_l04Drift d _).mono ?_
  rintro e' w1 ⟨rfl, hb1⟩
  rw [H1.out]
  have B1 := B0.keep hb1
  have W1 := below_st W0 hb1 (Nat.le_refl _)
  clear c0 c1 c2 c3
  obtain ⟨c0, c1, c2, c3⟩ := B1.cell4
  go_wp2_with fail
  refine (spec_l04Jitter _ _ _ _ (h1.below W1) hj).mono ?_
  rintro e' w2 ⟨rfl, hb2⟩
  rw [H2.out]
  have B2 := B1.keep hb2
  have W2 := below_st W1 hb2 (Nat.le_refl _)
  clear c0 c1 c2 c3
  obtain ⟨c0, c1, c2, c3⟩ := B2.cell4
  go_wp2_with fail
  refine (spec_l04Drops _ _ _ _ (h2.below W2) he).mono ?_
  rintro e' w3 ⟨rfl, hb3⟩
  rw [H3.out]
  have B3 := B2.keep hb3
  have W3 := below_st W2 hb3 (Nat.le_refl _)
  clear c0 c1 c2 c3 hb1 hb2 hb3 B1 B2 W0 W1 W2
  obtain ⟨c0, c1, c2, c3⟩ := B3.cell4
  by_cases h8 : L.length ≤ 8
  rotate_left
  · have hd : decide ((8 : Int) < (L.length : Int)) = true := decide_eq_true (by omega)
    go_wp2_with fail
    go_ret
    exact ⟨ret_bool (by rw [HN.out, decide_eq_false h8]; rfl), W3⟩
  have hd : decide ((8 : Int) < (L.length : Int)) = false := decide_eq_false (by omega)
  have HN2 : Hid (nzB d j e L = spsB L) := Lib.hid (by rw [HN.out, decide_eq_true h8]; rfl)
  go_wp2_with fail
  go_loopw [3] (fun i wr => ∃ k : Nat, k ≤ L.length ∧ i = .int .i64 k ∧ Hid (∀ m, m < k → spsG L m = true) ∧ Below w.heap.size w wr ∧ Blk wr g 53 #[.int .i64 d, .slice pj j.length cj, .slice pd e.length cd, .slice ps L.length cs]) (fun i _ => L.length - (intOf i).toNat)
  case atStart => exact ⟨0, Nat.zero_le _, rfl, fun m h => absurd h (Nat.not_lt_zero _), W3, B3⟩
  case round =>
    clear c0 c1 c2 c3
    obtain ⟨k, hk, rfl, HA, hbel, hB⟩ := hrel
    by_cases hlt : k < L.length
    · obtain ⟨a, hpa, hab, c0, c1, c2, hIk⟩ := (h3.below hbel).at_ hlt
      have hgl := hg _ (List.getElem_mem hlt)
      have hG : spsG L k = (spanB L[k] && (k == 0 || decide ((L.getD (k - 1) flx0).first ≤ L[k].cell))) := by unfold spsG; rw [getD_flx hlt]
      have hprev : k = 0 ∨ ∃ z, (0 < k ∧ (L.getD (k - 1) flx0).first = z ∧ wr.cell? ⟨(a.add ((k - 1) * 3)).block, (a.add ((k - 1) * 3)).off + 1, none⟩ = some (.int .i64 z)) := by
        rcases Nat.eq_zero_or_pos k with h | h
        · exact .inl h
        · obtain ⟨a', ha', -, -, e1, -⟩ := (h3.below hbel).at_ (k := k - 1) (by omega)
          rw [hpa] at ha'
          injection ha' with ha'
          subst ha'
          exact .inr ⟨_, h, by rw [getD_flx (show k - 1 < L.length by omega)], e1⟩
      subst hpa
      obtain ⟨⟨x, y, ⟨pg, lg, cg⟩⟩, es⟩ : ∃ s, L[k] = s := ⟨_, rfl⟩
      rw [es] at c0 c1 c2 hIk hgl hG
      simp only [Num.val] at c0 c1 c2 hIk hgl
      have HG0 : Hid (spsG L k = (spanOk x y lg && (k == 0 || decide ((L.getD (k - 1) flx0).first ≤ x)))) := Lib.hid hG
      clear hG es
      obtain ⟨b0, b1, b2, b3⟩ := hB.cell4
      have hpk : a.add (k * 3) = ⟨(a.add (k * 3)).block, (a.add (k * 3)).off, none⟩ := addr_cell c0
      have hq : ∀ n, Calls Try.prog 62 #[.pointer (some (a.add (k * 3)))] (wr.drewN n) fun e w'' => e = .returned (.bool (spanOk x y lg)) ∧ ∃ m, w'' = wr.drewN m := fun n => by
        have h := spec_l04SpanQ x y pg lg cg (a.add (k * 3)).block (a.add (k * 3)).off (wr.drewN n) hIk hgl (hpk ▸ c0) c1 c2
        rw [← hpk] at h
        exact h.mono fun e w'' ⟨h1, m, h2⟩ => ⟨h1, n + m, by rw [h2]; simp [World.drewN, Nat.add_assoc]⟩
      clear hpk
      obtain hs | hs := (Bool.eq_false_or_eq_true (spanOk x y lg)).symm
      · have HV : Hid (spsB L = false) := Lib.hid (spsB_no hlt (by rw [HG0.out, hs]; rfl))
        simp only [hs] at hq
        clear hs hprev
        go_wp2_with fail
        go_quiet (with_reducible exact hq _)
        go_wp2_with fail
        go_ret
        exact ⟨ret_bool (by rw [HN2.out, HV.out]), below_drewN hbel _⟩
      · simp only [hs] at hq
        rcases hprev with hk0 | ⟨z, hkp, hzf, hzc⟩
        · have HN1 : Hid (spsG L k = true) := Lib.hid (by rw [HG0.out, hs, hk0]; rfl)
          subst hk0
          clear hs
          simp only [Nat.zero_mul, Addr.add_zero'] at hq c0 c1 c2
          go_wp2_with fail
          go_quiet (with_reducible exact hq _)
          go_wp2_with fail
          exact ⟨⟨1, by omega, by go_num, fun m hm => by rw [show m = 0 by omega]; exact HN1.out, below_drewN hbel _, hB⟩, by simp [intOf]; omega⟩
        · have d0 : decide ((0 : Int) < (k : Int)) = true := decide_eq_true (by omega)
          have i0 : 0 ≤ (k : Int) - 1 := by omega
          have i1 : (k : Int) - 1 < (L.length : Int) := by omega
          have qk : IntKind.i64.wrap ((k : Int) - 1) = (k : Int) - 1 := IntWalk.i64_in _ (by omega)
          have hk1 : (k == 0) = false := by simp; omega
          by_cases hxz : x < z
          · have HV : Hid (spsB L = false) := Lib.hid (spsB_no hlt (by rw [HG0.out, hs, hk1, hzf, decide_eq_false (by omega : ¬ z ≤ x)]; rfl))
            have d1 : decide (x < z) = true := decide_eq_true hxz
            clear hs hzf hk1
            go_wp2_with fail
            go_quiet (with_reducible exact hq _)
            go_wp2_with fail
            go_ret
            exact ⟨ret_bool (by rw [HN2.out, HV.out]), below_drewN hbel _⟩
          · have HN1 : Hid (spsG L k = true) := Lib.hid (by rw [HG0.out, hs, hk1, hzf, decide_eq_true (by omega : z ≤ x)]; rfl)
            have d1 : decide (x < z) = false := decide_eq_false hxz
            clear hs hzf hk1
            go_wp2_with fail
            go_quiet (with_reducible exact hq _)
            go_wp2_with fail
            exact ⟨⟨k + 1, by omega, by go_num, fun m hm => by rcases Nat.lt_or_ge m k with h | h; exact HA.out m h; rw [show m = k by omega]; exact HN1.out, below_drewN hbel _, hB⟩, by simp [intOf]; omega⟩
    · have HV : Hid (spsB L = true) := Lib.hid (spsB_yes fun m hm => HA.out m (by omega))
      obtain ⟨b0, b1, b2, b3⟩ := hB.cell4
      go_wp2_with fail
      go_ret
      exact ⟨ret_bool (by rw [HN2.out, HV.out]), hbel⟩

end Go.Proofs.Ytfdcainjppljhaa
