/- Facts on the translation as a whole that every law's row asks, each proved once: the head's words, the tables. No function is walked here. -/
import Derived.Test.YtfdcainjppljhaaDoorRows
import Derived.JoinedOf
import Derived.KernelRfl
import Derived.ProofKit
namespace Go.Proofs.YtfdcainjppljhaaDoor
set_option maxRecDepth 100000

theorem head_signs : (behindMainWord (wordsSigns Tryd.prog.initOrder.toList)).head? = some "cut".toList := by
  rw [show Tryd.prog.initOrder = String.ofList _ from rfl, String.toList_ofList]
  kernel_rfl
theorem head_cut : ∃ rest, behindMainWord (wordsSigns Tryd.prog.initOrder.toList) = "cut".toList :: rest := by
  have h := head_signs
  cases e : behindMainWord (wordsSigns Tryd.prog.initOrder.toList) with
  | nil => rw [e] at h; cases h
  | cons a l =>
    rw [e] at h
    simp only [List.head?_cons, Option.some.injEq] at h
    exact ⟨l, by rw [h]⟩
theorem strip_cut (rest : List (List Char)) : stripLifts liftWords ("cut".toList :: rest) = ([], "cut".toList :: rest) := by kernel_rfl
theorem head_lifts_of {P : Program} {rest : List (List Char)} (h : behindMainWord (wordsSigns P.initOrder.toList) = "cut".toList :: rest) : P.headLifts = [] := by
  unfold Program.headLifts
  rw [h, strip_cut]
  rfl
theorem may_enter_of {P : Program} {rest : List (List Char)} (h : behindMainWord (wordsSigns P.initOrder.toList) = "cut".toList :: rest)
    (h1 : P.laysLater = false) (h2 : P.bearsReflect = false) (h3 : P.doorFits [] = true) : P.mayEnter = true := by
  unfold Program.mayEnter
  rw [h]
  dsimp only
  rw [strip_cut, h1, h2, h3]
  simp
theorem lifts_final_of {P : Program} {rest : List (List Char)} (h : behindMainWord (wordsSigns P.initOrder.toList) = "cut".toList :: rest) : P.liftsFinal = false := by
  unfold Program.liftsFinal
  rw [h, head_lifts_of h]
  kernel_rfl
theorem make_cut_of {P : Program} {rest : List (List Char)} (h : behindMainWord (wordsSigns P.initOrder.toList) = "cut".toList :: rest) : P.make = some .cut := by
  unfold Program.make
  rw [h]
  kernel_rfl
theorem may_enter : Tryd.prog.mayEnter = true := by
  obtain ⟨rest, h⟩ := head_cut
  exact may_enter_of h (by kernel_rfl) (by kernel_rfl) (by kernel_rfl)
theorem lifts_final : Tryd.prog.liftsFinal = false := by
  obtain ⟨rest, h⟩ := head_cut
  exact lifts_final_of h
theorem make_cut : Tryd.prog.make = some .cut := by
  obtain ⟨rest, h⟩ := head_cut
  exact make_cut_of h
theorem own : ownKnob Tryd.prog.godebug = none := by kernel_rfl
theorem laidOut : laidOutB Tryd.prog = true := by kernel_rfl
theorem mapsRow : mapsRowed Tryd.prog = true := by kernel_rfl
theorem plain_keys : Tryd.prog.plainKeys = true := by kernel_rfl
theorem stops_heard : Tryd.prog.stopsHeard = true := by kernel_rfl
end Go.Proofs.YtfdcainjppljhaaDoor
