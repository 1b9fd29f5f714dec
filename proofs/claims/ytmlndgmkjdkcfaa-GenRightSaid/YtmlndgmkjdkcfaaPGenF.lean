/- The plain generator: who goes to a place from a standstill, either way. No program in sight. -/
import Derived.Test.YtmlndgmkjdkcfaaPGenE
namespace Go.Proofs.Ytmlndgmkjdkcfaa
set_option linter.unusedVariables false
set_option linter.unusedSimpArgs false

/-- between where it began and its place, and able to stop there -/
def btw (l : LimS) (g : GenS) (c t s : Int) : Prop :=
  safeB l g = true ∧ ((c ≤ t ∧ c ≤ g.p ∧ goesUp l g t s) ∨ (t ≤ c ∧ g.p ≤ c ∧ goesUp (turnL l) (turnG g) (-t) s))

theorem step_safe (l : LimS) (g : GenS) (x : Int) (hr : rightB l = true) (hs : safeB l g = true) : safeB l (stepG l g x) = true :=
  (step_keeps l g (stepG l g x) hr hs rfl (step_between l g x hr hs).1 (step_between l g x hr hs).2).1

theorem btw_step (l : LimS) (g : GenS) (c t s : Int) (p' v' : Int) (hr : rightB l = true) (ht : l.lo ≤ t ∧ t ≤ l.hi) (h1 : 1 ≤ s) (hb : btw l g c t s) (hp : g.p ≠ t) (hg : stepG l g (toG l g t s) = ⟨p', v'⟩) :
    btw l ⟨p', v'⟩ c t s ∧ max (t - p') (p' - t) < max (t - g.p) (g.p - t) ∧ min c t ≤ p' ∧ p' ≤ max c t ∧ max v' (-v') ≤ s ∧ max v' (-v') ≤ l.v := by
  obtain ⟨hs, hb⟩ := hb
  have hss := step_safe l g (toG l g t s) hr hs
  rw [hg] at hss
  rcases hb with ⟨hct, hcp, hu⟩ | ⟨hct, hcp, hu⟩
  · have hlt : g.p < t := by have := hu.1; omega
    have h := goes_up l g t s hr hs ht h1 hu hlt
    rw [hg] at h
    obtain ⟨h2, h3, h4⟩ := h
    have h5 := h2
    obtain ⟨e1, e2, e3, e4, e5⟩ := h5
    simp only at e1 e2 e3 e4 h3 h4
    exact ⟨⟨hss, .inl ⟨hct, by show c ≤ p'; omega, h2⟩⟩, by omega, by omega, by omega, by omega, by omega⟩
  · have hr' : rightB (turnL l) = true := by rw [right_turn]; exact hr
    have hs' : safeB (turnL l) (turnG g) = true := safe_turn_of l g hr hs
    have hlt : (turnG g).p < -t := by have := hu.1; simp only [turnG] at *; omega
    have h := goes_up (turnL l) (turnG g) (-t) s hr' hs' (by simp only [turnL]; omega) h1 hu hlt
    rw [to_turn l g t s hr, step_turn l g (toG l g t s) hr hs, hg] at h
    obtain ⟨h2, h3, h4⟩ := h
    have h5 := h2
    obtain ⟨e1, e2, e3, e4, e5⟩ := h5
    simp only [turnG, turnL] at e1 e2 e3 e4 h3 h4
    exact ⟨⟨hss, .inr ⟨hct, by show p' ≤ c; omega, h2⟩⟩, by omega, by omega, by omega, by omega, by omega⟩

theorem btw_start (l : LimS) (c t s : Int) (hs : safeB l ⟨c, 0⟩ = true) (hr : rightB l = true) (h1 : 1 ≤ s) : btw l ⟨c, 0⟩ c t s := by
  have hy := rightB_yes hr
  refine ⟨hs, ?_⟩
  by_cases h : c ≤ t
  · refine .inl ⟨h, Int.le_refl _, ?_⟩
    unfold goesUp
    simp only
    rw [slw_le 0 0 l.d (by omega)]
    omega
  · refine .inr ⟨by omega, Int.le_refl _, ?_⟩
    unfold goesUp turnL turnG
    simp only [Int.neg_zero]
    rw [slw_le 0 0 l.d (by omega)]
    omega

end Go.Proofs.Ytmlndgmkjdkcfaa
