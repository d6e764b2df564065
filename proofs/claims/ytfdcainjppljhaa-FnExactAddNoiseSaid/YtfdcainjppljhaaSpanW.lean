/- Spans: their copies, sizes, comparison, marks; the two tests of a span; slices.Clone at int64. -/
import Derived.Test.YtfdcainjppljhaaMarksW
import Derived.Test.YtfdcainjppljhaaTimesW
import Derived.BigQuiet
import Derived.Deep.QuietTactic
import Derived.Lib.SliceRun
namespace Go.Proofs.Ytfdcainjppljhaa
open Go.RowKit
set_option linter.unusedVariables false
set_option maxHeartbeats 400000 in
set_option maxRecDepth 20000 in
theorem laws_toSpan (c f : Int) (p : Option Addr) (l : List Int) (cap : Nat) (w : World) (hI : IntsAt w p l) (hl : l.length ≤ 1048576) :
    Calls Try.prog 23 #[.agg #[.int .i64 c, .int .i64 f, .slice p l.length cap]] w fun e w' => ∃ g, e = .returned (.agg #[.int .i64 c, .int .i64 f, .slice (some ⟨g, 0, none⟩) l.length l.length]) ∧ w.heap.size ≤ g ∧ RowI w' g l ∧ Below w.heap.size w w' := by
  go_enter Try.func23, Try.ntmps23
  go_wp2_with (go_at_call 45; refine (laws_toInt64S _ _ _ _ (((hI.alloc _).alloc _).alloc _) hl).mono ?_; rintro e w1 ⟨rfl, hr1, hb1⟩; have z1 := hb1.size; simp at z1; have B1 := (Blk.new _ 36 #[.int .i64 c, .int .i64 f, .slice none 0 0]).keep hb1; simp at B1; obtain ⟨g0, g1, g2⟩ := B1.cell3; have k1 := B1.frozen; simp at hr1; have C1 := (((Blk.new _ 36 #[.int .i64 0, .int .i64 0, .slice none 0 0]).keep ((Below.refl _ _).alloc (Nat.le_refl _) _)).keep hb1); simp at C1; obtain ⟨g3, g4, g5⟩ := C1.cell3; have k2 := C1.frozen; obtain ⟨e3, e4, e5⟩ := cells3_after g3 g4 g5 (w.heap.size + 1 + 1) (by omega))
  refine bodyPost_ret (v := .agg #[.int .i64 c, .int .i64 f, .slice (some ⟨w.heap.size + 1 + 1 + 1, 0, none⟩) l.length l.length]) (by simp [results, Try.results23, go_sem, e3, e4, e5]) rfl ⟨_, rfl, by omega, ?_, ?_⟩
  · exact (((hr1.off (by omega) _ _).off (by omega) _ _).off (by omega) _ _).off (by omega) _ _
  · have hw1 := below_al (((Below.refl w.heap.size w).alloc (Nat.le_refl _) _).alloc (by simp) _) hb1 (Nat.le_refl _)
    go_grown
set_option maxHeartbeats 400000 in
theorem laws_szSpan (c f : Int) (p : Option Addr) (l : List Int) (cap : Nat) (left : Int) (w : World) (hl : l.length ≤ maxLen) (h : 0 ≤ left ∧ left ≤ 1048576) :
    Calls Try.prog 21 #[.agg #[.int .i64 c, .int .i64 f, .slice p l.length cap], .int .i64 left] w fun e w' => e = .returned (.int .i64 (szL left l.length)) ∧ Below w.heap.size w w' := by
  have hz : -1 ≤ szL left l.length ∧ (szL left l.length < 0 → szL left l.length = -1) := by unfold szL; split <;> omega
  obtain ⟨z, ez⟩ : ∃ z, szL left l.length = z := ⟨_, rfl⟩
  rw [ez] at hz ⊢
  have H := Lib.hid ez
  clear ez
  go_enter Try.func21, Try.ntmps21
  go_wp2_with (go_at_call 39; refine (laws_szInt64S _ _ _ _ _ hl h).mono ?_; rintro e w1 ⟨rfl, hb1⟩; rw [H.out])
  all_goals
    go_ret
    exact ⟨ret_int (by omega), below_al (Below.refl _ _) hb1 (Nat.le_refl _)⟩
set_option maxHeartbeats 400000 in
theorem laws_eqSpan_same (c f : Int) (p q : Option Addr) (l : List Int) (cap dap : Nat) (w : World) (hI : IntsAt w p l) (hJ : IntsAt w q l) (hl : l.length ≤ 9000000) :
    Calls Try.prog 24 #[.agg #[.int .i64 c, .int .i64 f, .slice p l.length cap], .agg #[.int .i64 c, .int .i64 f, .slice q l.length dap]] w fun e w' => e = .returned (.bool true) ∧ Below w.heap.size w w' := by
  go_enter Try.func24, Try.ntmps24
  go_wp2_with (go_at_call 53; refine (laws_eqInt64S p q l l cap dap _ ((hI.alloc _).alloc _) ((hJ.alloc _).alloc _) hl).mono ?_; rintro e w1 ⟨rfl, hb1⟩; rw [decide_eq_true rfl])
  go_ret
  refine ⟨rfl, below_al (((Below.refl _ _).alloc (Nat.le_refl _) _)) hb1 (Nat.le_refl _)⟩
set_option maxHeartbeats 1000000 in
theorem laws_markSpan (c f : Int) (p : Option Addr) (l : List Int) (cap : Nat) (k : Int) (base : Nat) (w : World) (hS : OwnS w base p l) (hl : l.length ≤ 9000000) (hk : 0 ≤ k ∧ k ≤ 9000000) :
    Calls Try.prog 25 #[.agg #[.int .i64 c, .int .i64 f, .slice p l.length cap], .int .i64 k] w fun e w' => e = .returned (.int .i64 (k + l.length)) ∧ OwnS w' base p (mkL k l.length) ∧ Aside (ownOf p l) w w' := by
  go_enter Try.func25, Try.ntmps25
  go_wp2_with (go_at_call 54; refine (laws_markInt64S p l cap k base _ (hS.below ((Below.refl _ _).alloc (Nat.le_refl _) _)) hl hk).mono ?_; rintro e w1 ⟨rfl, h1, h2⟩)
  go_ret
  exact ⟨rfl, h1, (Aside.of_below ((Below.refl _ _).alloc (Nat.le_refl _) _)).trans h2⟩
theorem drewN_more {w wr : World} (h : ∃ n, wr = w.drewN n) (m : Nat) : ∃ n, wr.drewN m = w.drewN n := by
  obtain ⟨n, rfl⟩ := h
  exact ⟨n + m, by simp [World.drewN, Nat.add_assoc]⟩
set_option maxHeartbeats 1000000 in
set_option maxRecDepth 20000 in
theorem spec_l00RisesQ (p : Option Addr) (l : List Int) (cap : Nat) (lo hi : Int) (w : World) (hI : IntsAt w p l) (hl : l.length ≤ 1048576) :
    Calls Try.prog 90 #[.slice p l.length cap, .int .i64 lo, .int .i64 hi] w fun e w' => e = .returned (.bool (risesB l lo hi)) ∧ ∃ n, w' = w.drewN n := by
  go_enter Try.func90, Try.ntmps90
  go_wp2_with fail
  go_loopw [7] (fun i wr => ∃ k : Nat, k ≤ l.length ∧ i = .int .i64 k ∧ risesK l lo hi k ∧ ∃ n, wr = w.drewN n) (fun i _ => l.length - (intOf i).toNat)
  case atStart => exact ⟨0, Nat.zero_le _, rfl, fun i _ h => absurd h (Nat.not_lt_zero _), ⟨0, rfl⟩⟩
  case round =>
    obtain ⟨k, hk, rfl, hr, hbel⟩ := hrel
    have hIr : IntsAt wr p l := by obtain ⟨n0, hn0⟩ := hbel; rw [hn0]; exact hI
    by_cases hlt : k < l.length
    · obtain ⟨a, rfl, hx⟩ := hIr.at_ hlt
      have hno := @risesB_no l lo hi k hlt
      have HR := Lib.hid hr
      clear hr
      obtain ⟨x, ex⟩ : ∃ x, l[k] = x := ⟨_, rfl⟩
      rw [ex] at hx hno
      have EX := Lib.hid ex
      have HN := Lib.hid hno
      clear ex hno
      cases hin : inB x lo hi
      · have HI := Lib.hid hin
        have hq := fun w n => l00In_q x lo hi w n
        simp only [hin] at hq
        clear hin
        go_wp2_with fail
        go_quiet (exact hq _ _)
        go_wp2_with fail
        go_ret
        exact ⟨ret_bool (HN.out (.inl HI.out)).symm, drewN_more hbel _⟩
      · have HI := Lib.hid hin
        have hq := fun w n => l00In_q x lo hi w n
        simp only [hin] at hq
        clear hin
        by_cases h0 : k = 0
        · subst h0
          have hx0 : wr.cell? a = some (.int .i64 x) := by rw [Addr.add_zero'] at hx; exact hx
          go_wp2_with fail
          go_quiet (exact hq _ _)
          go_wp2_with fail
          refine ⟨⟨1, by omega, rfl, ?_, drewN_more hbel _⟩, by simp [intOf]; omega⟩
          intro i h hi1
          have : i = 0 := by omega
          subst this
          exact ⟨by rw [EX.out]; exact HI.out, fun h => absurd h (by omega)⟩
        · obtain ⟨a', ha', hy⟩ := hIr.at_ (k := k - 1) (by omega)
          cases ha'
          obtain ⟨y, ey⟩ : ∃ y, l[k - 1]'(by omega) = y := ⟨_, rfl⟩
          rw [ey] at hy
          have EY := Lib.hid ey
          clear ey
          have g0 : decide (0 < (k : Int)) = true := by simp; omega
          have g1 : decide (0 < k) = true := by simp; omega
          have i0 : 1 ≤ (k : Int) := by omega
          have i1 : 0 ≤ (k : Int) - 1 := by omega
          have i2 : (k : Int) - 1 < (l.length : Int) := by omega
          have q1 : IntKind.i64.wrap ((k : Int) - 1) = (k : Int) - 1 := IntWalk.i64_in _ (by omega)
          by_cases hyx : x ≤ y
          · have hd : decide (x ≤ y) = true := by simp [hyx]
            go_wp2_with fail
            go_quiet (exact hq _ _)
            go_wp2_with fail
            go_ret
            exact ⟨ret_bool (HN.out (.inr ⟨by omega, by rw [EY.out]; omega⟩)).symm, drewN_more hbel _⟩
          · have hd : decide (x ≤ y) = false := by simp; omega
            go_wp2_with fail
            go_quiet (exact hq _ _)
            go_wp2_with fail
            refine ⟨⟨k + 1, by omega, by go_num, ?_, drewN_more hbel _⟩, by simp [intOf]; omega⟩
            intro i h hi1
            by_cases e : i = k
            · subst e
              exact ⟨by rw [EX.out]; exact HI.out, fun _ => by rw [EX.out, EY.out]; omega⟩
            · exact HR.out i h (by omega)
    · have e : k = l.length := by omega
      subst e
      have HR := Lib.hid hr
      clear hr
      go_wp2_with fail
      go_ret
      exact ⟨ret_bool (risesK_all.2 HR.out).symm, hbel⟩
/-- 'append(s, t..)'. -/
theorem append_ints {ops : Array Oper} {rest : List Oper} {o : Oper} {a : Act} {Q : Exit → Act → World → Prop} (w : World) (hg : o.guard = none) (s x : Operand)
    (ho : o.op = .call { callee := .builtin .append, args := #[s, x], argTypes := #[22, 22] })
    (base : Nat) (v : Value) (l M : List Int) (ad : Addr) (m c : Nat) (hs : a.eval s = v) (hx : a.eval x = .slice (some ad) m c) (hm : M.length = m)
    (hM : ∀ j (h : j < M.length), w.cell? (ad.add j) = some (.int .i64 M[j]))
    (hown : OwnI w base v l) (hlen : l.length + m ≤ 10000000) (hbase : base ≤ w.heap.size)
    (h : ∀ v' w', OwnI w' base v' (l ++ M) → Below base w w' → wpList Try.prog ops Q rest (a.put o.dst v') w') :
    wpList Try.prog ops Q (o :: rest) a w := by
  obtain ⟨i, hi, hz, hsz, hby⟩ := info_parts info_i64
  refine wpList_append_own _ hg s x 22 ho base 2 i (.int .i64 0) 1 8 Try.underlying22 hi hz hsz hby rfl (by decide) v l.length (l.map (Value.int .i64)) hs hown
    ad m c (M.map (Value.int .i64)) hx (by simp [hm]) ?_ ?_ (by unfold maxLen; omega) (by omega) hbase ?_
  · intro j u hj
    rw [List.getElem?_map] at hj
    rcases Nat.lt_or_ge j M.length with hlt | hge
    · rw [List.getElem?_eq_getElem hlt] at hj
      simp at hj
      subst hj
      exact hM j hlt
    · rw [List.getElem?_eq_none hge] at hj; simp at hj
  · intro u hu
    simp at hu
    obtain ⟨y, -, rfl⟩ := hu
    rfl
  · intro v' w' h1 h2 _
    refine h v' w' ?_ ?_
    · unfold OwnI
      rw [List.map_append, List.length_append, hm]
      exact h1
    · refine (Below.refl base w).grown h2 hbase ?_
      intro k hk
      rcases hown.2 with ⟨rfl, _⟩ | ⟨g, cap, cur, rfl, hbg, _⟩
      · simp [Value.ownBlock] at hk
      · simp [Value.ownBlock] at hk; omega
/-- A span is valid. -/
def spanOk (a b : Int) (t : List Int) : Bool := inB a 0 b && (decide (b ≤ 2000000) && risesB t a (b - 1))
theorem spanOk_bd {a b : Int} {t : List Int} (h : spanOk a b t = true) : 0 ≤ a ∧ a ≤ b ∧ b ≤ 2000000 ∧ risesB t a (b - 1) = true := by
  unfold spanOk at h
  simp only [Bool.and_eq_true, decide_eq_true_eq, inB_iff] at h
  exact ⟨h.1.1, h.1.2, h.2.1, h.2.2⟩
set_option maxHeartbeats 1000000 in
theorem impl_validSpan (a b : Int) (p : Option Addr) (t : List Int) (cap : Nat) (w : World) (hI : IntsAt w p t) (hl : t.length ≤ 1048576) :
    Calls Try.prog 59 #[.agg #[.int .i64 a, .int .i64 b, .slice p t.length cap]] w fun e w' => e = .returned (.bool (spanOk a b t)) ∧ Below w.heap.size w w' := by
  have hA := (Below.refl w.heap.size w).alloc (Nat.le_refl _) (.cells #[.int .i64 a, .int .i64 b, .slice p t.length cap] 36)
  obtain h1 | h1 := (Bool.eq_false_or_eq_true (inB a 0 b)).symm
  · have H1 := Lib.hid h1
    have HV : Hid (spanOk a b t = false) := Lib.hid (by unfold spanOk; rw [h1]; rfl)
    clear h1
    go_enter Try.func59, Try.ntmps59
    go_wp2_with (go_at_call 48; refine (within_any _ _ _ _).mono ?_; rintro e w' ⟨rfl, rfl⟩; rw [H1.out])
    go_ret
    exact ⟨ret_bool (by rw [HV.out]), hA⟩
  have hb := inB_iff.1 h1
  by_cases h2 : b ≤ 2000000
  · have q1 : IntKind.i64.wrap (b - 1) = b - 1 := IntWalk.i64_in _ (by omega)
    have H1 := Lib.hid h1
    have HV : Hid (spanOk a b t = risesB t a (b - 1)) := Lib.hid (by unfold spanOk; rw [h1, decide_eq_true h2]; rfl)
    clear h1
    go_enter Try.func59, Try.ntmps59
    go_wp2_with (first | (go_at_call 48; refine (within_any _ _ _ _).mono ?_; rintro e w' ⟨rfl, rfl⟩; rw [H1.out]) | (go_at_call 88; refine (impl_rises p t cap a (b - 1) _ (hI.below hA) hl).mono ?_; rintro e w1 ⟨rfl, hb1⟩))
    go_ret
    exact ⟨ret_bool (by rw [HV.out]), below_st hA hb1 (Nat.le_refl _)⟩
  · have H1 := Lib.hid h1
    have HV : Hid (spanOk a b t = false) := Lib.hid (by unfold spanOk; rw [h1, decide_eq_false h2]; rfl)
    clear h1
    go_enter Try.func59, Try.ntmps59
    go_wp2_with (go_at_call 48; refine (within_any _ _ _ _).mono ?_; rintro e w' ⟨rfl, rfl⟩; rw [H1.out])
    go_ret
    exact ⟨ret_bool (by rw [HV.out]), hA⟩
set_option maxHeartbeats 8000000 in
set_option maxRecDepth 20000 in
theorem spec_l04Span (a b : Int) (p : Option Addr) (t : List Int) (cap g o : Nat) (w : World) (hI : IntsAt w p t) (hl : t.length ≤ 1048576) (h0 : w.cell? ⟨g, o, none⟩ = some (.int .i64 a)) (h1 : w.cell? ⟨g, o + 1, none⟩ = some (.int .i64 b)) (h2 : w.cell? ⟨g, o + 2, none⟩ = some (.slice p t.length cap)) :
    Calls Try.prog 62 #[.pointer (some ⟨g, o, none⟩)] w fun e w' => e = .returned (.bool (spanOk a b t)) ∧ Below w.heap.size w w' := by
  obtain hB | hB := (Bool.eq_false_or_eq_true (inB b 0 2000000)).symm
  · have hqb := fun w n => l00In_q b 0 2000000 w n
    simp only [hB] at hqb
    have HV : Hid (spanOk a b t = false) := Lib.hid (by
      cases h : spanOk a b t
      · rfl
      · have := spanOk_bd h
        rw [inB_yes (by omega)] at hB; cases hB)
    clear hB
    go_enter Try.func62, Try.ntmps62
    go_wp2_with fail
    go_quiet (exact hqb _ _)
    go_wp2_with fail
    go_ret
    exact ⟨ret_bool (by rw [HV.out]), below_drewN (Below.refl _ _) _⟩
  have hbb := inB_iff.1 hB
  have hqb := fun w n => l00In_q b 0 2000000 w n
  simp only [hB] at hqb
  have q1 : IntKind.i64.wrap (b - 1) = b - 1 := IntWalk.i64_in _ (by omega)
  obtain hA | hA := (Bool.eq_false_or_eq_true (inB a 0 b)).symm
  · have hqa := fun w n => l00In_q a 0 b w n
    simp only [hA] at hqa
    have HV : Hid (spanOk a b t = false) := Lib.hid (by unfold spanOk; rw [hA]; rfl)
    clear hA hB
    go_enter Try.func62, Try.ntmps62
    go_wp2_with fail
    go_quiet (first | with_reducible exact hqb _ _ | with_reducible exact hqa _ _)
    go_wp2_with fail
    go_ret
    exact ⟨ret_bool (by rw [HV.out]), below_drewN (Below.refl _ _) _⟩
  have hqa := fun w n => l00In_q a 0 b w n
  simp only [hA] at hqa
  have HV : Hid (spanOk a b t = risesB t a (b - 1)) := Lib.hid (by unfold spanOk; rw [hA, decide_eq_true hbb.2]; rfl)
  have hr : ∀ n, Calls Try.prog 90 #[.slice p t.length cap, .int .i64 a, .int .i64 (b - 1)] (w.drewN n) fun e w'' => e = .returned (.bool (risesB t a (b - 1))) ∧ ∃ m, w'' = w.drewN m := fun n =>
    (spec_l00RisesQ p t cap a (b - 1) (w.drewN n) hI hl).mono fun e w'' ⟨h, m, hm⟩ => ⟨h, n + m, by rw [hm]; simp [World.drewN, Nat.add_assoc]⟩
  generalize risesB t a (b - 1) = r at HV hr
  clear hA hB
  go_enter Try.func62, Try.ntmps62
  go_wp2_with fail
  go_quiet (first | with_reducible exact hqb _ _ | with_reducible exact hqa _ _ | with_reducible exact hr _)
  go_wp2_with fail
  go_ret
  exact ⟨ret_bool (by rw [HV.out]), below_drewN (Below.refl _ _) _⟩
set_option maxHeartbeats 1000000 in
set_option maxRecDepth 20000 in
/-- slices.Clone. -/
theorem slices_CloneI (p : Option Addr) (t : List Int) (cap : Nat) (w : World) (hI : IntsAt w p t) (hl : t.length ≤ 1048576) :
    Calls Try.prog 60 #[.slice p t.length cap] w fun e w' => ∃ v, e = .returned v ∧ OwnI w' w.heap.size v t ∧ Below w.heap.size w w' := by
  have q22 : ∀ (w : World) (a : Option Addr) (n c n' c' : Nat), (binOp .eql 22 (.slice a n c) (.slice none n' c')).run Try.prog w = .ok (.bool a.isNone) w := fun w a n c n' c' => Lib.run_eql_slice_nil w _ _ a n c n' c' Try.underlying22
  cases p with
  | none =>
    have ht : t = [] := by
      cases t with
      | nil => rfl
      | cons x t => obtain ⟨a, h, -⟩ := hI (by simp); cases h
    subst ht
    go_enter Try.func60, Try.ntmps60
    go_wp2_with fail
    go_ret
    exact ⟨_, rfl, OwnI.none_ _ _, Below.refl _ _⟩
  | some a =>
    have hM : ∀ j (h : j < t.length), (w.alloc (.cells #[] 2)).cell? (a.add j) = some (.int .i64 t[j]) := fun j h => by
      obtain ⟨ad, had, hc⟩ := (hI.alloc (.cells #[] 2)).at_ h
      injection had with had
      subst had
      exact hc
    have h0 := OwnI.nil0 w
    go_enter Try.func60, Try.ntmps60
    go_wp2_with (at_builtin; refine append_ints _ rfl (.tmp 5) (.tmp 6) rfl w.heap.size _ [] t a t.length cap rfl rfl rfl hM h0 (by simp; omega) (by simp) ?_; intro v w2 hZ hb2)
    go_ret
    exact ⟨_, rfl, hZ, ((Below.refl _ _).alloc (Nat.le_refl _) _).trans hb2⟩
end Go.Proofs.Ytfdcainjppljhaa
