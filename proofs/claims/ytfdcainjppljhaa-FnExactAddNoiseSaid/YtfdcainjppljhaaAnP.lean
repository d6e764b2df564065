/- AddNoise: what it computes; the steps' contracts over a state. -/
import Derived.Test.YtfdcainjppljhaaDrift6W
import Derived.Test.YtfdcainjppljhaaJitt6W
import Derived.Test.YtfdcainjppljhaaDrop6W
import Derived.Test.YtfdcainjppljhaaWeakW
import Derived.Test.YtfdcainjppljhaaNzC
namespace Go.Proofs.Ytfdcainjppljhaa
open Go.RowKit
set_option linter.unusedVariables false
/-- Flux and a code. -/
structure FxS where
  c : Int
  f : Int
  l : List Int
  e : Int
def drS (c f : Int) (l : List Int) (d : Int) : FxS :=
  ⟨fxC (fluxOk c f l && inB d (-100) 100) (driftL f l d) (l.sum * (1000 + d) / 1000) c, fxF (fluxOk c f l && inB d (-100) 100) (driftL f l d) (l.sum * (1000 + d) / 1000) c, fxL (fluxOk c f l && inB d (-100) 100) (driftL f l d) (l.sum * (1000 + d) / 1000) c, fxE (fluxOk c f l && inB d (-100) 100) (driftL f l d) (l.sum * (1000 + d) / 1000) c⟩
def jiT (s : FxS) (js : List Int) : FxS :=
  ⟨fxC (fluxOk s.c s.f s.l && jitOk js) (jitL s.f s.l js) s.l.sum s.c, fxF (fluxOk s.c s.f s.l && jitOk js) (jitL s.f s.l js) s.l.sum s.c, fxL (fluxOk s.c s.f s.l && jitOk js) (jitL s.f s.l js) s.l.sum s.c, fxE (fluxOk s.c s.f s.l && jitOk js) (jitL s.f s.l js) s.l.sum s.c⟩
def jiS (s : FxS) (js : List Int) : FxS := if s.e = 0 then jiT s js else s
def dpT (s : FxS) (js : List Int) : FxS :=
  ⟨fxC (drV s.c s.f s.l js) (drT s.f s.l js) s.l.sum s.c, fxF (drV s.c s.f s.l js) (drT s.f s.l js) s.l.sum s.c, fxL (drV s.c s.f s.l js) (drT s.f s.l js) s.l.sum s.c, drE s.c s.f s.l js⟩
def dpS (s : FxS) (js : List Int) : FxS := if s.e = 0 then dpT s js else s
def weF (s : FxS) (x : Flx) : FxS :=
  ⟨fxC (weV s.c s.f s.l x.cell x.first x.g.l) (weT s.f s.l x.cell x.first x.g.l) s.l.sum s.c, fxF (weV s.c s.f s.l x.cell x.first x.g.l) (weT s.f s.l x.cell x.first x.g.l) s.l.sum s.c, fxL (weV s.c s.f s.l x.cell x.first x.g.l) (weT s.f s.l x.cell x.first x.g.l) s.l.sum s.c, weE s.c s.f s.l x.cell x.first x.g.l⟩
def weS (s : FxS) (x : Flx) : FxS := if s.e = 0 then weF s x else s
def anB (c f : Int) (l : List Int) (d : Int) (j e : List Int) : FxS := dpS (jiS (drS c f l d) j) e
def anK (s : FxS) (L : List Flx) (k : Nat) : FxS := (L.take k).foldl weS s
def anOk (c f : Int) (l : List Int) (d : Int) (j e : List Int) (L : List Flx) : Bool := fluxOk c f l && nzB d j e L
def anS (c f : Int) (l : List Int) (d : Int) (j e : List Int) (L : List Flx) : FxS := if anOk c f l d j e L then anK (anB c f l d j e) L L.length else ⟨0, 0, [], 1⟩
theorem anK_zero (s : FxS) (L : List Flx) : anK s L 0 = s := rfl
theorem anK_succ (s : FxS) (L : List Flx) {k : Nat} (hk : k < L.length) : anK s L (k + 1) = weS (anK s L k) L[k] := by
  unfold anK
  rw [List.take_succ_eq_append_getElem hk, List.foldl_append]
  rfl
theorem anK_stop (s : FxS) (L : List Flx) (k : Nat) (h : (anK s L k).e ≠ 0) : ∀ m, k ≤ m → m ≤ L.length → anK s L m = anK s L k := by
  intro m
  induction m with
  | zero => intro h1 _; rw [show k = 0 by omega]
  | succ m ih =>
    intro h1 h2
    rcases Nat.lt_or_ge m k with h3 | h3
    · rw [show k = m + 1 by omega]
    · have e := ih h3 (by omega)
      rw [anK_succ s L (by omega), e]
      unfold weS
      rw [if_neg h]
theorem weS_same {x y : Flx} (h : x.cell = y.cell ∧ x.first = y.first ∧ x.g.l = y.g.l) (s : FxS) : weS s x = weS s y := by
  unfold weS weF
  rw [h.1, h.2.1, h.2.2]
theorem anK_same {L A : List Flx} (h : SameS L A) (s : FxS) : ∀ k, k ≤ L.length → anK s A k = anK s L k := by
  intro k
  induction k with
  | zero => intro _; rfl
  | succ k ih =>
    intro hk
    rw [anK_succ s A (by rw [h.1]; omega), anK_succ s L (by omega), ih (by omega)]
    exact weS_same (h.2 k (by rw [h.1]; omega) (by omega)) _
theorem anS_same {L A : List Flx} (h : SameS L A) (c f : Int) (l : List Int) (d : Int) (j e : List Int) : anS c f l d j e A = anS c f l d j e L := by
  unfold anS anOk
  rw [nzB_same h, h.1, anK_same h _ _ (Nat.le_refl _)]
theorem drS_len (c f : Int) (l : List Int) (d : Int) : (drS c f l d).l.length ≤ l.length := Nat.le_trans (fxL_len _ _ _ _) (by rw [drift_len]; exact Nat.le_refl _)
theorem jiS_len (s : FxS) (js : List Int) : (jiS s js).l.length ≤ s.l.length := by
  unfold jiS
  split
  · exact Nat.le_trans (fxL_len _ _ _ _) (by rw [jit_len]; exact Nat.le_refl _)
  · exact Nat.le_refl _
theorem dpS_len (s : FxS) (js : List Int) : (dpS s js).l.length ≤ s.l.length := by
  unfold dpS
  split
  · exact Nat.le_trans (fxL_len _ _ _ _) (drT_len _ _ _)
  · exact Nat.le_refl _
theorem weS_len (s : FxS) (x : Flx) : (weS s x).l.length ≤ x.g.l.length + s.l.length := by
  unfold weS
  split
  · have h := weL_len s.c s.f s.l x.cell x.first x.g.l (rev := s.l.sum) (cell := s.c)
    have e : (weF s x).l = fxL (weV s.c s.f s.l x.cell x.first x.g.l) (weT s.f s.l x.cell x.first x.g.l) s.l.sum s.c := rfl
    rw [e]
    omega
  · omega
theorem anB_len (c f : Int) (l : List Int) (d : Int) (j e : List Int) : (anB c f l d j e).l.length ≤ l.length := Nat.le_trans (dpS_len _ _) (Nat.le_trans (jiS_len _ _) (drS_len _ _ _ _))
theorem anK_len (s : FxS) (L : List Flx) : ∀ k, k ≤ L.length → (anK s L k).l.length ≤ s.l.length + lensL (L.take k) := by
  intro k
  induction k with
  | zero => intro _; simp [anK, lensL]
  | succ k ih =>
    intro hk
    rw [anK_succ s L (by omega), lensL_take L (by omega)]
    have h1 := weS_len (anK s L k) L[k]
    have h2 := ih (by omega)
    omega
theorem anS_len (c f : Int) (l : List Int) (d : Int) (j e : List Int) (L : List Flx) : (anS c f l d j e L).l.length ≤ l.length + lensL L := by
  unfold anS
  split
  · have h1 := anK_len (anB c f l d j e) L L.length (Nat.le_refl _)
    have h2 := anB_len c f l d j e
    rw [List.take_length] at h1
    omega
  · simp
theorem impl_AddDriftS (c f : Int) (p : Option Addr) (l : List Int) (cap : Nat) (d : Int) (w : World) (hI : IntsAt w p l) (hl : l.length ≤ 1048576) :
    Calls Try.prog 65 #[.agg #[.int .i64 c, .int .i64 f, .slice p l.length cap], .int .i64 d] w fun e w' => ∃ (q : Option Addr) (dq : Nat), e = .returned (.tuple #[.agg #[.int .i64 (drS c f l d).c, .int .i64 (drS c f l d).f, .slice q (drS c f l d).l.length dq], .int .i64 (drS c f l d).e]) ∧ OwnS w' w.heap.size q (drS c f l d).l ∧ Below w.heap.size w w' :=
  impl_AddDrift c f p l cap d w hI hl
theorem impl_AddJitterS (c f : Int) (p : Option Addr) (l : List Int) (cap : Nat) (z : Int) (pj : Option Addr) (js : List Int) (capj : Nat) (w : World) (hI : IntsAt w p l) (hl : l.length ≤ 1048576) (hJ : IntsAt w pj js) (hjl : js.length ≤ 1048576) :
    Calls Try.prog 30 #[.agg #[.int .i64 c, .int .i64 f, .slice p l.length cap], .slice pj js.length capj] w fun e w' => ∃ (q : Option Addr) (dq : Nat), e = .returned (.tuple #[.agg #[.int .i64 (jiT ⟨c, f, l, z⟩ js).c, .int .i64 (jiT ⟨c, f, l, z⟩ js).f, .slice q (jiT ⟨c, f, l, z⟩ js).l.length dq], .int .i64 (jiT ⟨c, f, l, z⟩ js).e]) ∧ OwnS w' w.heap.size q (jiT ⟨c, f, l, z⟩ js).l ∧ Below w.heap.size w w' :=
  impl_AddJitter c f p l cap pj js capj w hI hl hJ hjl
theorem impl_DropChangesS (c f : Int) (p : Option Addr) (l : List Int) (cap : Nat) (z : Int) (pj : Option Addr) (js : List Int) (capj : Nat) (w : World) (hI : IntsAt w p l) (hl : l.length ≤ 1048576) (hJ : IntsAt w pj js) (hjl : js.length ≤ 1048576) :
    Calls Try.prog 33 #[.agg #[.int .i64 c, .int .i64 f, .slice p l.length cap], .slice pj js.length capj] w fun e w' => ∃ (q : Option Addr) (dq : Nat), e = .returned (.tuple #[.agg #[.int .i64 (dpT ⟨c, f, l, z⟩ js).c, .int .i64 (dpT ⟨c, f, l, z⟩ js).f, .slice q (dpT ⟨c, f, l, z⟩ js).l.length dq], .int .i64 (dpT ⟨c, f, l, z⟩ js).e]) ∧ OwnS w' w.heap.size q (dpT ⟨c, f, l, z⟩ js).l ∧ Below w.heap.size w w' :=
  impl_DropChanges c f p l cap pj js capj w hI hl hJ hjl
theorem impl_WeakenFluxS (c f : Int) (p : Option Addr) (l : List Int) (cap : Nat) (z : Int) (a b : Int) (pt : Option Addr) (t : List Int) (capt : Nat) (w : World) (hI : IntsAt w p l) (hT : IntsAt w pt t) (hlt : l.length + t.length ≤ 1048576) (hcap : pt = none → capt = 0) :
    Calls Try.prog 17 #[.agg #[.int .i64 c, .int .i64 f, .slice p l.length cap], .agg #[.int .i64 a, .int .i64 b, .slice pt t.length capt]] w fun e w' => ∃ (q : Option Addr) (dq : Nat), e = .returned (.tuple #[.agg #[.int .i64 (weF ⟨c, f, l, z⟩ ⟨a, b, ⟨pt, t, capt⟩⟩).c, .int .i64 (weF ⟨c, f, l, z⟩ ⟨a, b, ⟨pt, t, capt⟩⟩).f, .slice q (weF ⟨c, f, l, z⟩ ⟨a, b, ⟨pt, t, capt⟩⟩).l.length dq], .int .i64 (weF ⟨c, f, l, z⟩ ⟨a, b, ⟨pt, t, capt⟩⟩).e]) ∧ OwnS w' w.heap.size q (weF ⟨c, f, l, z⟩ ⟨a, b, ⟨pt, t, capt⟩⟩).l ∧ Below w.heap.size w w' :=
  impl_WeakenFlux c f p l cap a b pt t capt w hI hT hlt hcap
theorem spec_AddDriftS (c f : Int) (p : Option Addr) (l : List Int) (cap : Nat) (d : Int) (w : World) (hI : IntsAt w p l) (hl : l.length ≤ 1048576) :
    Calls Try.prog 74 #[.agg #[.int .i64 c, .int .i64 f, .slice p l.length cap], .int .i64 d] w fun e w' => ∃ (q : Option Addr) (dq : Nat), e = .returned (.tuple #[.agg #[.int .i64 (drS c f l d).c, .int .i64 (drS c f l d).f, .slice q (drS c f l d).l.length dq], .int .i64 (drS c f l d).e]) ∧ OwnS w' w.heap.size q (drS c f l d).l ∧ Below w.heap.size w w' :=
  spec_AddDrift c f p l cap d w hI hl
theorem spec_AddJitterS (c f : Int) (p : Option Addr) (l : List Int) (cap : Nat) (z : Int) (pj : Option Addr) (js : List Int) (capj : Nat) (w : World) (hI : IntsAt w p l) (hl : l.length ≤ 1048576) (hJ : IntsAt w pj js) (hjl : js.length ≤ 1048576) :
    Calls Try.prog 75 #[.agg #[.int .i64 c, .int .i64 f, .slice p l.length cap], .slice pj js.length capj] w fun e w' => ∃ (q : Option Addr) (dq : Nat), e = .returned (.tuple #[.agg #[.int .i64 (jiT ⟨c, f, l, z⟩ js).c, .int .i64 (jiT ⟨c, f, l, z⟩ js).f, .slice q (jiT ⟨c, f, l, z⟩ js).l.length dq], .int .i64 (jiT ⟨c, f, l, z⟩ js).e]) ∧ OwnS w' w.heap.size q (jiT ⟨c, f, l, z⟩ js).l ∧ Below w.heap.size w w' :=
  spec_AddJitter c f p l cap pj js capj w hI hl hJ hjl
theorem spec_DropChangesS (c f : Int) (p : Option Addr) (l : List Int) (cap : Nat) (z : Int) (pj : Option Addr) (js : List Int) (capj : Nat) (w : World) (hI : IntsAt w p l) (hl : l.length ≤ 1048576) (hJ : IntsAt w pj js) (hjl : js.length ≤ 1048576) :
    Calls Try.prog 76 #[.agg #[.int .i64 c, .int .i64 f, .slice p l.length cap], .slice pj js.length capj] w fun e w' => ∃ (q : Option Addr) (dq : Nat), e = .returned (.tuple #[.agg #[.int .i64 (dpT ⟨c, f, l, z⟩ js).c, .int .i64 (dpT ⟨c, f, l, z⟩ js).f, .slice q (dpT ⟨c, f, l, z⟩ js).l.length dq], .int .i64 (dpT ⟨c, f, l, z⟩ js).e]) ∧ OwnS w' w.heap.size q (dpT ⟨c, f, l, z⟩ js).l ∧ Below w.heap.size w w' :=
  spec_DropChanges c f p l cap pj js capj w hI hl hJ hjl
theorem spec_WeakenFluxS (c f : Int) (p : Option Addr) (l : List Int) (cap : Nat) (z : Int) (a b : Int) (pt : Option Addr) (t : List Int) (capt : Nat) (w : World) (hI : IntsAt w p l) (hT : IntsAt w pt t) (hlt : l.length + t.length ≤ 1048576) (hcap : pt = none → capt = 0) :
    Calls Try.prog 22 #[.agg #[.int .i64 c, .int .i64 f, .slice p l.length cap], .agg #[.int .i64 a, .int .i64 b, .slice pt t.length capt]] w fun e w' => ∃ (q : Option Addr) (dq : Nat), e = .returned (.tuple #[.agg #[.int .i64 (weF ⟨c, f, l, z⟩ ⟨a, b, ⟨pt, t, capt⟩⟩).c, .int .i64 (weF ⟨c, f, l, z⟩ ⟨a, b, ⟨pt, t, capt⟩⟩).f, .slice q (weF ⟨c, f, l, z⟩ ⟨a, b, ⟨pt, t, capt⟩⟩).l.length dq], .int .i64 (weF ⟨c, f, l, z⟩ ⟨a, b, ⟨pt, t, capt⟩⟩).e]) ∧ OwnS w' w.heap.size q (weF ⟨c, f, l, z⟩ ⟨a, b, ⟨pt, t, capt⟩⟩).l ∧ Below w.heap.size w w' :=
  spec_WeakenFlux c f p l cap a b pt t capt w hI hT hlt hcap
end Go.Proofs.Ytfdcainjppljhaa
