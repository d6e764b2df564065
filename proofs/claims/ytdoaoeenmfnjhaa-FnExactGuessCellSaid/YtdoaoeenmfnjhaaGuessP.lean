/- GuessCell, plain: the greatest length to which the gaps fit best. -/
import Derived.Test.YtdoaoeenmfnjhaaFluxP
namespace Go.Proofs.Ytdoaoeenmfnjhaa
/-- The distance of a gap from the next multiple of a length, of at least one. -/
def farI (c g : Int) : Int := if g < c then c - g else min (g % c) (c - g % c)
def farL (c : Int) (l : List Int) : Int := (l.map (farI c)).sum
theorem farL_snoc (c : Int) (l : List Int) (x : Int) : farL c (l ++ [x]) = farL c l + farI c x := by simp [farL]
theorem farI_bd {c g : Int} (hc : 4 ≤ c ∧ c ≤ 200) (hg : 1 ≤ g) : 0 ≤ farI c g ∧ farI c g ≤ 200 := by
  have h1 := Int.emod_nonneg g (b := c) (by omega)
  have h2 := Int.emod_lt_of_pos g (b := c) (by omega)
  unfold farI
  split <;> omega
theorem farL_bd {c : Int} {l : List Int} (hc : 4 ≤ c ∧ c ≤ 200) (hl : ∀ x ∈ l, 1 ≤ x ∧ x ≤ 2000000) : 0 ≤ farL c l ∧ farL c l ≤ 200 * l.length := by
  have := sumI_bd (l := l.map (farI c)) (lo := 0) (hi := 200) (fun y hy => by
    obtain ⟨x, hx, rfl⟩ := List.mem_map.1 hy
    have := farI_bd hc (hl x hx).1
    omega)
  unfold farL
  rw [List.length_map] at this
  omega
theorem mul_small {x b : Int} (hx : 0 ≤ x ∧ x ≤ 800000) (hb : 0 ≤ b ∧ b ≤ 200) : 0 ≤ x * b ∧ x * b ≤ 160000000 := by
  refine ⟨Int.mul_nonneg hx.1 hb.1, ?_⟩
  have := Int.mul_le_mul (a := x) (b := b) (c := 800000) (d := 200) hx.2 hb.2 hb.1 (by omega)
  omega
/-- b is the greatest of the lengths that fit best. -/
def best (l : List Int) (lo hi b : Int) : Prop := (lo ≤ b ∧ b ≤ hi) ∧ ∀ d, lo ≤ d → d ≤ hi → farL b l * d ≤ farL d l * b ∧ (b < d → farL b l * d < farL d l * b)
theorem best_unique {l : List Int} {lo hi b b' : Int} (h : best l lo hi b) (h' : best l lo hi b') : b = b' := by
  obtain ⟨⟨h1, h2⟩, h3⟩ := h
  obtain ⟨⟨h1', h2'⟩, h3'⟩ := h'
  rcases Int.lt_trichotomy b b' with hlt | heq | hgt
  · have := (h3 b' h1' h2').2 hlt
    have := (h3' b h1 h2).1
    omega
  · exact heq
  · have := (h3' b h1 h2).2 hgt
    have := (h3 b' h1' h2').1
    omega
theorem best_one (l : List Int) (b : Int) : best l b b b := by
  refine ⟨⟨Int.le_refl _, Int.le_refl _⟩, fun d h1 h2 => ?_⟩
  have : d = b := by omega
  subst this
  exact ⟨Int.le_refl _, fun h => absurd h (by omega)⟩
theorem best_up {l : List Int} {lo c b : Int} (h0 : 1 ≤ lo) (hc : lo < c) (h : best l lo (c - 1) b) :
    (farL c l * b ≤ farL b l * c → best l lo c c) ∧ (¬ farL c l * b ≤ farL b l * c → best l lo c b) := by
  obtain ⟨⟨h1, h2⟩, h3⟩ := h
  refine ⟨fun hle => ⟨⟨by omega, Int.le_refl _⟩, fun d hd1 hd2 => ⟨?_, fun hcd => absurd hcd (by omega)⟩⟩, fun hn => ⟨⟨h1, by omega⟩, fun d hd1 hd2 => ?_⟩⟩
  · by_cases e : d = c
    · subst e; exact Int.le_refl _
    · have hd := (h3 d hd1 (by omega)).1
      have p1 := Int.mul_le_mul_of_nonneg_right hle (show 0 ≤ d by omega)
      have p2 := Int.mul_le_mul_of_nonneg_right hd (show 0 ≤ c by omega)
      refine Int.le_of_mul_le_mul_right (a := b) ?_ (by omega)
      calc farL c l * d * b = farL c l * b * d := by rw [Int.mul_assoc, Int.mul_comm d b, ← Int.mul_assoc]
        _ ≤ farL b l * c * d := p1
        _ = farL b l * d * c := by rw [Int.mul_assoc, Int.mul_comm c d, ← Int.mul_assoc]
        _ ≤ farL d l * b * c := p2
        _ = farL d l * c * b := by rw [Int.mul_assoc, Int.mul_comm b c, ← Int.mul_assoc]
  · by_cases e : d = c
    · subst e; omega
    · exact h3 d hd1 (by omega)
theorem best_down {l : List Int} {hi c b : Int} (h0 : 1 ≤ c) (hc : c < hi) (h : best l (c + 1) hi b) :
    (farL c l * b < farL b l * c → best l c hi c) ∧ (¬ farL c l * b < farL b l * c → best l c hi b) := by
  obtain ⟨⟨h1, h2⟩, h3⟩ := h
  refine ⟨fun hle => ⟨⟨Int.le_refl _, by omega⟩, fun d hd1 hd2 => ?_⟩, fun hn => ⟨⟨by omega, h2⟩, fun d hd1 hd2 => ?_⟩⟩
  · by_cases e : d = c
    · subst e; exact ⟨Int.le_refl _, fun h => absurd h (by omega)⟩
    · have hd := (h3 d (by omega) hd2).1
      have p1 := Int.mul_lt_mul_of_pos_right hle (show 0 < d by omega)
      have p2 := Int.mul_le_mul_of_nonneg_right hd (show 0 ≤ c by omega)
      have key : farL c l * d * b < farL d l * c * b := by
        calc farL c l * d * b = farL c l * b * d := by rw [Int.mul_assoc, Int.mul_comm d b, ← Int.mul_assoc]
          _ < farL b l * c * d := p1
          _ = farL b l * d * c := by rw [Int.mul_assoc, Int.mul_comm c d, ← Int.mul_assoc]
          _ ≤ farL d l * b * c := p2
          _ = farL d l * c * b := by rw [Int.mul_assoc, Int.mul_comm b c, ← Int.mul_assoc]
      have key2 : farL c l * d < farL d l * c := Int.lt_of_mul_lt_mul_right key (by omega)
      exact ⟨Int.le_of_lt key2, fun _ => key2⟩
  · by_cases e : d = c
    · subst e; exact ⟨by omega, fun h => absurd h (by omega)⟩
    · exact h3 d (by omega) hd2
/-- What GuessCell answers. -/
def guessR (c f : Int) (l : List Int) (b x : Int) : Prop := (fluxOk c f l = true ∧ best l 4 200 b ∧ x = 0) ∨ (fluxOk c f l = false ∧ b = 0 ∧ x = 1)
theorem guessR_unique {c f : Int} {l : List Int} {b x b' x' : Int} (h : guessR c f l b x) (h' : guessR c f l b' x') : b' = b ∧ x' = x := by
  rcases h with ⟨h1, h2, rfl⟩ | ⟨h1, rfl, rfl⟩
  · rcases h' with ⟨_, h2', rfl⟩ | ⟨h1', _⟩
    · exact ⟨best_unique h2' h2, rfl⟩
    · rw [h1] at h1'; cases h1'
  · rcases h' with ⟨h1', _⟩ | ⟨_, rfl, rfl⟩
    · rw [h1] at h1'; cases h1'
    · exact ⟨rfl, rfl⟩
end Go.Proofs.Ytdoaoeenmfnjhaa
