/- The plain generator: a safe one stays safe. No program in sight. -/
import Derived.Test.YtgbcefdlmockoaaPGenB
namespace Go.Proofs.Ytgbcefdlmockoaa
set_option linter.unusedVariables false
set_option linter.unusedSimpArgs false

/-- who goes at no more than it may stops within its room -/
theorem up_room (l : LimS) (hr : rightB l = true) (v room x : Int) (hv : 0 ≤ v ∧ v ≤ 1048576) (hs : slw v 0 l.d ≤ room) (h0 : 0 ≤ x) (hx : x ≤ upHi l v room) : x + slw x 0 l.d ≤ room := by
  have hy := rightB_yes hr
  have hn := slw_nonneg v 0 l.d (by omega) (by omega)
  have hb := upHi_bd l v room hv hr
  unfold upHi at hx
  by_cases c : x ≤ upLo l v
  · unfold upLo at c
    by_cases z : v - l.d ≤ 0
    · have : x = 0 := by omega
      subst this
      rw [slw_le 0 0 l.d (by omega)]
      omega
    · have h1 := slw_far v 0 l.d (by omega) (by omega)
      have h2 := slw_mono 0 l.d (by omega) (by omega) x (v - l.d) (by omega)
      omega
  · exact (rch_iff room l.d x (by omega) (by omega) (by omega)).1 (by omega)

theorem up_gain (l : LimS) (hr : rightB l = true) (v room x : Int) (hv : 0 ≤ v ∧ v ≤ 1048576) (h0 : upLo l v ≤ x) (hx : x ≤ upHi l v room) : v - l.d ≤ x ∧ x ≤ v + l.a ∧ 0 ≤ x ∧ (x ≤ l.v ∨ x ≤ max (v - l.d) 0) ∧ x ≤ 1048576 := by
  have hy := rightB_yes hr
  have hb := upHi_bd l v room hv hr
  unfold upHi at hx
  unfold upLo at h0 hx
  omega

theorem step_between (l : LimS) (g : GenS) (x : Int) (hr : rightB l = true) (hs : safeB l g = true) : mayLo l g ≤ (stepG l g x).v ∧ (stepG l g x).v ≤ mayHi l g := by
  have := may_bd l g hr hs
  show mayLo l g ≤ max (mayLo l g) (min (mayHi l g) x) ∧ max (mayLo l g) (min (mayHi l g) x) ≤ mayHi l g
  omega

/-- all that a step keeps: P9.2 -/
theorem step_keeps (l : LimS) (g : GenS) (n : GenS) (hr : rightB l = true) (hs : safeB l g = true) (hn : n.p = g.p + n.v) (h1 : mayLo l g ≤ n.v) (h2 : n.v ≤ mayHi l g) :
    safeB l n = true ∧ n.v - g.v ≤ max l.a l.d ∧ -(n.v - g.v) ≤ max l.a l.d ∧ ¬ (n.v < 0 ∧ 0 < g.v) ∧ ¬ (0 < n.v ∧ g.v < 0) ∧ (max n.v (-n.v) ≤ l.v ∨ max n.v (-n.v) ≤ max (max g.v (-g.v) - l.d) 0) := by
  have hy := rightB_yes hr
  have hz := safeB_yes hs
  have mk : (l.lo ≤ n.p ∧ n.p ≤ l.hi ∧ -1048576 ≤ n.v ∧ n.v ≤ 1048576 ∧ (0 ≤ n.v → slw n.v 0 l.d ≤ l.hi - n.p) ∧ (n.v < 0 → slw (-n.v) 0 l.d ≤ n.p - l.lo)) → safeB l n = true := fun h => decide_eq_true h
  unfold mayLo at h1
  unfold mayHi at h2
  by_cases c1 : 0 < g.v
  · simp only [c1, if_true] at h1 h2
    have hg := up_gain l hr g.v (l.hi - g.p) n.v (by omega) h1 h2
    have ho := up_room l hr g.v (l.hi - g.p) n.v (by omega) (hz.2.2.2.2.1 (by omega)) hg.2.2.1 h2
    have hp := slw_nonneg n.v 0 l.d (by omega) (by omega)
    refine ⟨mk ⟨by omega, by omega, by omega, by omega, fun _ => by omega, fun _ => by omega⟩, by omega, by omega, by omega, by omega, by omega⟩
  · by_cases c2 : g.v < 0
    · simp only [c1, c2, if_true, if_false] at h1 h2
      have hg := up_gain l hr (-g.v) (g.p - l.lo) (-n.v) (by omega) (by omega) (by omega)
      have ho := up_room l hr (-g.v) (g.p - l.lo) (-n.v) (by omega) (hz.2.2.2.2.2 c2) hg.2.2.1 (by omega)
      have hp := slw_nonneg (-n.v) 0 l.d (by omega) (by omega)
      refine ⟨mk ⟨by omega, by omega, by omega, by omega, fun h => ?_, fun _ => by omega⟩, by omega, by omega, by omega, by omega, by omega⟩
      have : n.v = 0 := by omega
      rw [this, slw_le 0 0 l.d (by omega)]
      omega
    · simp only [c1, c2, if_false] at h1 h2
      have hg0 : g.v = 0 := by omega
      have hlo := upLo_bd l 0 (by omega) hr
      by_cases c3 : 0 ≤ n.v
      · have hg := up_gain l hr 0 (l.hi - g.p) n.v (by omega) (by omega) h2
        have ho := up_room l hr 0 (l.hi - g.p) n.v (by omega) (by rw [slw_le 0 0 l.d (by omega)]; omega) c3 h2
        have hp := slw_nonneg n.v 0 l.d (by omega) (by omega)
        refine ⟨mk ⟨by omega, by omega, by omega, by omega, fun _ => by omega, fun _ => by omega⟩, by omega, by omega, by omega, by omega, by omega⟩
      · have hg := up_gain l hr 0 (g.p - l.lo) (-n.v) (by omega) (by omega) (by omega)
        have ho := up_room l hr 0 (g.p - l.lo) (-n.v) (by omega) (by rw [slw_le 0 0 l.d (by omega)]; omega) (by omega) (by omega)
        have hp := slw_nonneg (-n.v) 0 l.d (by omega) (by omega)
        refine ⟨mk ⟨by omega, by omega, by omega, by omega, fun _ => by omega, fun _ => by omega⟩, by omega, by omega, by omega, by omega, by omega⟩

end Go.Proofs.Ytgbcefdlmockoaa
