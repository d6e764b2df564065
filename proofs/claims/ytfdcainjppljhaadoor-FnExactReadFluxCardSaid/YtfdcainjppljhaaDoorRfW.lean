/- ReadFlux: readDecimal, splitNumbers, strings.Split at a blank. -/
import Derived.Test.YtfdcainjppljhaaDoorClnW
import Derived.Shelf.Strings.SplitCore
namespace Go.Proofs.YtfdcainjppljhaaDoor
open Go.RowKit Go.Sort
set_option linter.unusedVariables false
/-- The library's variables that the road reads. -/
def Vrs (w : World) : Prop := Tab w ∧ (∃ te pe, w.cell? ⟨2, 0, none⟩ = some (.iface te pe)) ∧ (∃ te pe, w.cell? ⟨3, 0, none⟩ = some (.iface te pe))
theorem Vrs.below {w w' : World} (h : Vrs w) (hb : Below w.heap.size w w') : Vrs w' := by
  obtain ⟨h1, ⟨te, pe, h2⟩, te', pe', h3⟩ := h
  exact ⟨h1.below hb, ⟨te, pe, (hb.cell (p := ⟨2, 0, none⟩) (World.block_lt_of_cell? _ _ h2)).trans h2⟩, te', pe', (hb.cell (p := ⟨3, 0, none⟩) (World.block_lt_of_cell? _ _ h3)).trans h3⟩
theorem decV_ok {p : List UInt8} {v : Int} (h : Lib.parseIntB 64 p = .ok v) : decV p = if Lib.itoa v = p then some v else none := by unfold decV; rw [h]
theorem decV_not {p : List UInt8} (h : ∀ v, Lib.parseIntB 64 p ≠ .ok v) : decV p = none := by
  unfold decV
  split
  · rename_i v e
    exact absurd e (h v)
  · rfl
set_option maxHeartbeats 1000000 in
theorem impl_readDecimal (s : ByteArray) (w : World) (hs : s.size ≤ 1048576) (hV : Vrs w) :
    Calls Tryd.prog 35 #[.string s] w fun e w' => e = .returned (.tuple #[.int .i64 ((decV s.data.toList).getD 0), .bool (decV s.data.toList).isSome]) ∧ Below w.heap.size w w' := by
  obtain ⟨hT, ⟨te, pe, hE⟩, te', pe', hR⟩ := hV
  cases hp : Lib.parseIntB 64 s.data.toList
  · rename_i v
    have c := Tryd.strconv_ParseInt_10_at64_ok s (by omega) v hp w
    have hb0 := Lib.parseIntB_bounds hp
    have e63 : (2 : Nat) ^ (64 - 1) = 9223372036854775808 := by decide
    rw [e63] at hb0
    have hdc := impl_decimal v (by omega) (by omega)
    have hdv := decV_ok hp
    clear hp e63
    by_cases he : Lib.itoa v = s.data.toList
    · have hse : (⟨(Lib.itoa v).toArray⟩ : ByteArray) = s := by rw [he]
      rw [if_pos he] at hdv
      have H := Lib.hid hdv
      rw [hse] at hdc
      clear hdv he hse
      go_enter Tryd.func35, Tryd.ntmps35
      go_wp2_with fail
      refine c.mono ?_
      rintro e w1 ⟨rfl, hw⟩
      have hb : Below w.heap.size w w1 := by
        rcases hw with rfl | ⟨t, rfl⟩
        · exact Below.refl _ _
        · exact bytesWorld_below w _ t
      clear hw
      go_wp2_with fail
      refine (hdc _ (hT.below hb)).mono ?_
      rintro e w2 ⟨rfl, hb2⟩
      go_wp2_with fail
      go_returns
      exact ⟨by rw [H.out]; rfl, below_st hb hb2 (Nat.le_refl _)⟩
    · rw [if_neg he] at hdv
      have H := Lib.hid hdv
      obtain ⟨D, eD⟩ : ∃ D : ByteArray, (⟨(Lib.itoa v).toArray⟩ : ByteArray) = D := ⟨_, rfl⟩
      have hne : D ≠ s := fun e => he (by rw [← e, ← eD])
      have hbq : (D.toList == s.toList) = false := by
        rw [Lib.toList_data, Lib.toList_data]
        simp only [beq_eq_false_iff_ne, ne_eq]
        intro e
        exact hne (ByteArray.ext (Array.toList_inj.1 e))
      rw [eD] at hdc
      clear hdv he eD
      go_enter Tryd.func35, Tryd.ntmps35
      go_wp2_with fail
      refine c.mono ?_
      rintro e w1 ⟨rfl, hw⟩
      have hb : Below w.heap.size w w1 := by
        rcases hw with rfl | ⟨t, rfl⟩
        · exact Below.refl _ _
        · exact bytesWorld_below w _ t
      clear hw
      go_wp2_with fail
      refine (hdc _ (hT.below hb)).mono ?_
      rintro e w2 ⟨rfl, hb2⟩
      go_wp2_with fail
      go_returns
      exact ⟨by rw [H.out]; rfl, below_st hb hb2 (Nat.le_refl _)⟩
  · have H := Lib.hid (decV_not (p := s.data.toList) (fun v e => by rw [hp] at e; cases e))
    have c : Calls Tryd.prog 41 #[.string s, .int .i64 10, .int .i64 64] w fun e w' => ∃ N, e = .returned (.tuple #[.int .i64 0, .iface 98 (.pointer (some ⟨N, 0, none⟩))]) ∧ Below w.heap.size w w' :=
      (Any.strconv_ParseInt_10_at64_syntax Tryd.laysC174 s (by omega) hp (.iface te pe) w hE (.inr ⟨te, pe, rfl⟩)).mono fun e w' ⟨N, h1, h2, h3, h4⟩ => ⟨N, h1, h4⟩
    clear hp
    go_enter Tryd.func35, Tryd.ntmps35
    go_wp2_with fail
    refine c.mono ?_
    rintro e w1 ⟨N, rfl, hb⟩
    go_wp2_with fail
    go_returns
    exact ⟨by rw [H.out]; rfl, hb⟩
  · have H := Lib.hid (decV_not (p := s.data.toList) (fun v e => by rw [hp] at e; cases e))
    have c := Tryd.strconv_ParseInt_10_at64_range s (by omega) hp (.iface te' pe') w hR (.inr ⟨te', pe', rfl⟩)
    clear hp
    go_enter Tryd.func35, Tryd.ntmps35
    go_wp2_with fail
    refine c.mono ?_
    rintro e w1 ⟨N, rfl, -, -, hb⟩
    go_wp2_with fail
    go_returns
    exact ⟨by rw [H.out]; rfl, hb⟩
/-- strings.Split at a blank. -/
theorem split_cutB (s : ByteArray) : Lib.splitB ⟨#[32]⟩ 0 (Lib.countB s ⟨#[32]⟩) s = cutB s := by
  apply eq_of_data
  rw [Lib.splitB_data, cutB_data]
  exact split_cut _
set_option maxRecDepth 20000 in
theorem strings_Split1 (s : ByteArray) (w : World) (hs : s.size ≤ 1048576) :
    Calls Tryd.prog 34 #[.string s, .string ⟨#[32]⟩] w fun e w' => e = .returned (.slice (some ⟨w.heap.size, 0, none⟩) (cutB s).length (cutB s).length) ∧ w' = w.alloc (.cells ((cutB s).map Value.string).toArray 9) := by
  have h1 : 1 ≤ (⟨#[32]⟩ : ByteArray).size := by decide
  have hle := Lib.countB_le ⟨#[32]⟩ h1 s.size s (Nat.le_refl _)
  have hlen := Lib.splitB_all ⟨#[32]⟩ h1 0 _ s rfl
  have hcl := split_cutB s
  have c : Calls Tryd.prog 40 #[.string s, .string ⟨#[32]⟩, .int .i64 0, .int .i64 (-1)] w fun e w' => e = .returned (.slice (some ⟨w.heap.size, 0, none⟩) (Lib.splitB ⟨#[32]⟩ 0 (Lib.countB s ⟨#[32]⟩ + 1 - 1) s).length (Lib.countB s ⟨#[32]⟩ + 1)) ∧ w' = w.alloc (.cells (Lib.cellsOf (Lib.splitB ⟨#[32]⟩ 0 (Lib.countB s ⟨#[32]⟩ + 1 - 1) s) (Lib.countB s ⟨#[32]⟩ + 1)) 9) :=
    Any.strings_genSplit_core Tryd.lays221 (by kernel_rfl) s ⟨#[32]⟩ 0 (-1) (Lib.countB s ⟨#[32]⟩ + 1) w (by omega) h1 (Nat.zero_le _)
      (fun x cs hx => by have h := Tryd.strings_Index_one x 32 (w.alloc (.cells cs 9)); rw [← Lib.index_one] at h; exact h) (by have h := Tryd.strings_Count_one s 32 w; rw [show Lib.countByte s.data.toList 32 = Lib.count s.data.toList [32] from (Lib.count_one 32 _).symm] at h; exact h) (by decide) (by decide) (by rw [if_pos (by decide)]; omega)
  rw [show Lib.countB s ⟨#[32]⟩ + 1 - 1 = Lib.countB s ⟨#[32]⟩ by omega, ← hlen, Lib.cellsOf_full, hcl] at c
  clear hlen hle hcl
  go_enter Tryd.func34, Tryd.ntmps34
  go_wp2_with fail
  refine c.mono ?_
  rintro e w' ⟨rfl, rfl⟩
  go_wp2_with fail
  go_ret
  exact ⟨rfl, rfl⟩
theorem OwnI.open2 {w : World} {base : Nat} {v : Value} {l : List Int} (h : OwnI w base v l) : ∃ p cap, v = .slice p l.length cap ∧ OwnS w base p l ∧ l.length ≤ cap := by
  rcases h.2 with ⟨hv, hn⟩ | ⟨g, cap, cur, hv, hbg, hh, hle, hsz, _, ht⟩
  · have hl : l = [] := List.eq_nil_of_length_eq_zero hn
    subst hl
    exact ⟨none, 0, hv, fun h => absurd rfl h, Nat.le_refl _⟩
  · obtain ⟨p, c, hv2, hS⟩ := h.open_
    rw [hv] at hv2
    injection hv2 with e1 e2 e3
    subst e3
    exact ⟨p, cap, by rw [hv, e1], hS, hle⟩
theorem piece_le {l p : List UInt8} (h : p ∈ cutL l) : p.length ≤ l.length := by
  have h1 := cut_len l
  have h2 : ∀ ps : List (List UInt8), p ∈ ps → p.length ≤ (ps.map List.length).sum := by
    intro ps
    induction ps with
    | nil => intro h; cases h
    | cons a r ih =>
      intro h
      simp only [List.map_cons, List.sum_cons]
      rcases List.mem_cons.1 h with rfl | h
      · omega
      · have := ih h; omega
  have h3 := h2 _ h
  have h4 : 1 ≤ (cutL l).length := List.length_pos_iff.2 (cutL_ne l)
  omega
/-- The numbers, if all pieces are. -/
def spL (s : ByteArray) : List Int := if decAll (cutL s.data.toList) then decL (cutL s.data.toList) else []
theorem decL_len (ps : List (List UInt8)) : (decL ps).length = ps.length := by unfold decL; rw [List.length_map]
set_option maxHeartbeats 2000000 in
set_option maxRecDepth 20000 in
theorem impl_splitNumbers (s : ByteArray) (w : World) (hs : s.size ≤ 1048576) (hV : Vrs w) :
    Calls Tryd.prog 24 #[.string s, .string ⟨#[32]⟩] w fun e w' => ∃ (q : Option Addr) (d : Nat), e = .returned (.tuple #[.slice q (spL s).length d, .bool (decAll (cutL s.data.toList))]) ∧ OwnS w' w.heap.size q (spL s) ∧ (spL s).length ≤ d ∧ Below w.heap.size w w' := by
  obtain ⟨xs, exs⟩ : ∃ xs, cutB s = xs := ⟨_, rfl⟩
  have hxd : xs.map (·.data.toList) = cutL s.data.toList := by rw [← exs]; exact cutB_data s
  have hxl : xs.length = (cutL s.data.toList).length := by rw [← hxd, List.length_map]
  have hxk : ∀ k (h : k < xs.length), xs[k].data.toList = (cutL s.data.toList)[k]'(by omega) := fun k h => by
    have : (xs.map (·.data.toList))[k]'(by simpa using h) = (cutL s.data.toList)[k]'(by omega) := by congr 1
    rw [← this, List.getElem_map]
  have hcl := cut_le s.data.toList
  have hLs : s.data.toList.length = s.size := rfl
  have hsz : ∀ k (h : k < xs.length), xs[k].size ≤ 1048576 := fun k h => by
    have h1 : xs[k].data.toList ∈ cutL s.data.toList := by rw [hxk k h]; exact List.getElem_mem _
    have h2 := piece_le h1
    have h3 : xs[k].data.toList.length = xs[k].size := rfl
    omega
  have hSp := strings_Split1 s w hs
  rw [exs] at hSp
  have BT := Blk.new w 9 (xs.map Value.string).toArray
  have W1 : Below w.heap.size w (w.alloc (.cells (xs.map Value.string).toArray 9)) := (Below.refl _ _).alloc (Nat.le_refl _) _
  have z1 : (w.alloc (.cells (xs.map Value.string).toArray 9)).heap.size = w.heap.size + 1 := by simp
  clear exs
  obtain ⟨ps, eps⟩ : ∃ ps, cutL s.data.toList = ps := ⟨_, rfl⟩
  have hspl : spL s = if decAll ps then decL ps else [] := by unfold spL; rw [eps]
  rw [eps] at hxl hcl ⊢
  have hxk2 : ∀ k (h : k < xs.length) (h2 : k < ps.length), xs[k].data.toList = ps[k] := fun k h h2 => by subst eps; exact hxk k h
  have HXK := Lib.hid hxk2
  have HSZ := Lib.hid hsz
  have HSP := Lib.hid hspl
  clear hxk hxk2 hsz hspl eps hxd
  go_enter Tryd.func24, Tryd.ntmps24
  go_wp2_with fail
  refine hSp.mono ?_
  rintro e w1 ⟨rfl, rfl⟩
  generalize w.alloc (.cells (xs.map Value.string).toArray 9) = w1 at BT W1 z1 ⊢
  clear hSp
  have hn0 : OwnI w1 w1.heap.size (.slice none 0 0) [] := OwnI.none_ _ _
  go_wp2_with fail
  go_loopw [6, 15] (fun v iv wr => ∃ k : Nat, k ≤ xs.length ∧ iv = .int .i64 k ∧ OwnI wr w1.heap.size v ((decL ps).take k) ∧ Hid (∀ j (h : j < ps.length), j < k → (decV ps[j]).isSome = true) ∧ Below w1.heap.size w1 wr) (fun _ iv _ => xs.length - (intOf iv).toNat)
  case atStart => exact ⟨0, Nat.zero_le _, rfl, by simpa using hn0, Lib.hid (fun j _ h => absurd h (by omega)), Below.refl _ _⟩
  case round =>
    clear hn0
    obtain ⟨k, hk, rfl, hown, HA, hbel⟩ := hrel
    have hbw : Below w.heap.size w wr := W1.trans (hbel.mono (by omega))
    have hdl := decL_len ps
    by_cases hlt : k < xs.length
    · have hcw : wr.cell? ⟨w.heap.size, k, none⟩ = some (.string xs[k]) := by
        rw [(BT.below hbel (by omega)).cell k]
        simp [hlt]
      have hps : xs[k].data.toList = ps[k]'(by omega) := HXK.out k hlt (by omega)
      have hrd := fun wy h => impl_readDecimal xs[k] wy (HSZ.out k hlt) h
      rw [hps] at hrd
      obtain ⟨x, ex⟩ : ∃ x, xs[k] = x := ⟨_, rfl⟩
      rw [ex] at hcw hrd
      have hVr := hV.below hbw
      have htk : Hid ((decL ps).take (k + 1) = (decL ps).take k ++ [(decV (ps[k]'(by omega))).getD 0]) := Lib.hid (by
        rw [List.take_succ_eq_append_getElem (by omega)]
        unfold decL
        rw [List.getElem_map])
      have hdk := Lib.hid (rfl : (decV (ps[k]'(by omega))).isSome = (decV (ps[k]'(by omega))).isSome)
      obtain ⟨y, ey⟩ : ∃ y, decV (ps[k]'(by omega)) = y := ⟨_, rfl⟩
      have hey := Lib.hid ey
      rw [ey] at hrd htk
      clear hps ex ey hdk
      go_wp2_with fail
      refine (hrd _ hVr).mono ?_
      rintro e w2 ⟨rfl, hb2⟩
      have hbw2 := below_st hbw hb2 (Nat.le_refl _)
      have hbel2 := below_st hbel hb2 (Nat.le_refl _)
      have hown2 := hown.below hb2
      have hz2 : w1.heap.size ≤ w2.heap.size := hbel2.size
      clear hrd hcw
      cases y with
      | none =>
        have hno : Hid (decAll ps = false) := Lib.hid (by
          unfold decAll
          exact List.all_eq_false.2 ⟨_, List.getElem_mem (show k < ps.length by omega), by rw [hey.out]; decide⟩)
        have hsp : Hid (spL s = []) := Lib.hid (by rw [HSP.out, hno.out]; rfl)
        go_wp2_with fail
        go_returns
        refine ⟨none, 0, ?_, by rw [hsp.out]; exact OwnS.nil_ _ _ _, by rw [hsp.out]; exact Nat.le_refl _, hbw2⟩
        rw [hno.out, hsp.out]; rfl
      | some x0 =>
        have hA2 : Hid (∀ j (h : j < ps.length), j < k + 1 → (decV ps[j]).isSome = true) := Lib.hid (fun j h h2 => by
          by_cases e : j = k
          · subst e; rw [hey.out]; rfl
          · exact HA.out j h (by omega))
        have q1 : IntKind.i64.wrap ((k : Int) + 1) = (k : Int) + 1 := IntWalk.i64_in _ (by omega)
        have hll : ((decL ps).take k).length ≤ 2000000 := by rw [List.length_take]; omega
        obtain ⟨T, eT⟩ : ∃ T, (decL ps).take k = T := ⟨_, rfl⟩
        rw [eT] at hown2 hll htk
        go_wp2_with (at_builtin; refine append_int _ rfl (.tmp 26) (.tmp 28) rfl w1.heap.size u6 T x0 rfl rfl hown2 (by omega) hz2 ?_; intro v3 w3 hown3 hb3)
        exact ⟨⟨k + 1, by omega, by go_num, by rw [htk.out]; exact hown3, hA2, hbel2.trans hb3⟩, by simp [intOf]; omega⟩
    · have hke : (decL ps).take k = decL ps := List.take_of_length_le (by omega)
      rw [hke] at hown
      have hyes : Hid (decAll ps = true) := Lib.hid (by
        unfold decAll
        refine List.all_eq_true.2 fun p hp => ?_
        obtain ⟨j, hj, rfl⟩ := List.getElem_of_mem hp
        exact HA.out j hj (by omega))
      have hsp : Hid (spL s = decL ps) := Lib.hid (by rw [HSP.out, hyes.out]; rfl)
      obtain ⟨q, d, rfl, hS, hle⟩ := hown.open2
      clear hke
      go_wp2_with fail
      go_returns
      refine ⟨q, d, ?_, by rw [hsp.out]; exact hS.mono (by omega), by rw [hsp.out]; exact hle, hbw⟩
      rw [hyes.out, hsp.out]; rfl
end Go.Proofs.YtfdcainjppljhaaDoor
