/- The plain generator: who wants to stop; cycles. No program in sight. -/
import Derived.Test.YtmlndgmkjdkcfaaPGenF
namespace Go.Proofs.Ytmlndgmkjdkcfaa
set_option linter.unusedVariables false
set_option linter.unusedSimpArgs false

/-- cycles till the speed is 0 -/
def cyc (v d : Int) : Int := (v + d - 1) / d
theorem cyc0 (d : Int) (hd : 1 ≤ d) : cyc 0 d = 0 := Int.ediv_eq_zero_of_lt (by omega) (by omega)
theorem cyc1 (v d : Int) (hd : 1 ≤ d) (hv : 0 < v) : cyc v d = cyc (max 0 (v - d)) d + 1 := by
  unfold cyc
  by_cases c : v - d ≤ 0
  · rw [show max 0 (v - d) = 0 by omega, show (0 + d - 1) / d = 0 from Int.ediv_eq_zero_of_lt (by omega) (by omega), show v + d - 1 = (v - 1) + d from by omega, Int.add_ediv_of_dvd_right (Int.dvd_refl _), Int.ediv_self (by omega), Int.ediv_eq_zero_of_lt (by omega) (by omega)]
  · rw [show max 0 (v - d) = v - d by omega, show v + d - 1 = (v - d + d - 1) + d from by omega, Int.add_ediv_of_dvd_right (Int.dvd_refl _), Int.ediv_self (by omega)]
theorem cyc_bnd (v d : Int) (hv : 0 ≤ v) (hd : 1 ≤ d) : 0 ≤ cyc v d ∧ cyc v d ≤ v ∧ (0 < v → 0 < cyc v d) := by
  have hq := quo_mul (v + d - 1) d hd (by omega)
  have h1 := Int.ediv_nonneg (a := v + d - 1) (b := d) (by omega) (by omega)
  have hm : d * 1 ≤ d * d := Int.mul_le_mul_of_nonneg_left hd (by omega)
  refine ⟨h1, ?_, ?_⟩
  · unfold cyc
    by_cases c : (v + d - 1) / d ≤ v
    · exact c
    · have h2 : d * (v + 1) ≤ d * ((v + d - 1) / d) := Int.mul_le_mul_of_nonneg_left (by omega) (by omega)
      rw [Int.mul_add] at h2
      have h3 : 1 * v ≤ d * v := Int.mul_le_mul_of_nonneg_right hd hv
      omega
  · intro h0
    unfold cyc
    have h2 := Int.ediv_le_ediv (c := d) (by omega) (show d ≤ v + d - 1 by omega)
    rw [Int.ediv_self (by omega)] at h2
    omega
theorem slw_step (v d : Int) (hd : 1 ≤ d) (hv : 0 < v) : slw v 0 d = max 0 (v - d) + slw (max 0 (v - d)) 0 d := by
  by_cases c : v - d ≤ 0
  · rw [show max 0 (v - d) = 0 by omega, slw_near v 0 d hd (by omega), slw_near 0 0 d hd (by omega)]; omega
  · rw [show max 0 (v - d) = v - d by omega, slw_far v 0 d hd (by omega)]

/-- the speed behind a cycle in which it wants to stop -/
theorem stop_step (l : LimS) (g : GenS) (hr : rightB l = true) (hs : safeB l g = true) :
    stepG l g 0 = if 0 ≤ g.v then ⟨g.p + max 0 (g.v - l.d), max 0 (g.v - l.d)⟩ else ⟨g.p - max 0 (-g.v - l.d), -max 0 (-g.v - l.d)⟩ := by
  have hy := rightB_yes hr
  have hb := may_bd l g hr hs
  have hz := safeB_yes hs
  unfold stepG
  simp only
  by_cases c1 : 0 < g.v
  · have h1 : mayLo l g = upLo l g.v := by unfold mayLo; rw [if_pos c1]
    have h2 := upLo_bd l g.v (by omega) hr
    rw [if_pos (by omega), show max (mayLo l g) (min (mayHi l g) 0) = max 0 (g.v - l.d) by rw [h1]; unfold upLo at *; omega]
  · by_cases c2 : g.v < 0
    · have h1 : mayHi l g = -upLo l (-g.v) := by unfold mayHi; rw [if_neg c1, if_pos c2]
      have h2 := upLo_bd l (-g.v) (by omega) hr
      rw [if_neg (by omega), show max (mayLo l g) (min (mayHi l g) 0) = -max 0 (-g.v - l.d) by rw [h1] at hb ⊢; unfold upLo at *; omega]
      rfl
    · have h1 : mayLo l g = -upHi l 0 (g.p - l.lo) := by unfold mayLo; rw [if_neg c1, if_neg c2]
      have h2 : mayHi l g = upHi l 0 (l.hi - g.p) := by unfold mayHi; rw [if_neg c1, if_neg c2]
      have h3 := upHi_bd l 0 (g.p - l.lo) (by omega) hr
      have h4 := upHi_bd l 0 (l.hi - g.p) (by omega) hr
      have h5 := upLo_bd l 0 (by omega) hr
      rw [if_pos (by omega), show max (mayLo l g) (min (mayHi l g) 0) = max 0 (g.v - l.d) by omega]

/-- the way that it has still to go -/
def wayS (v d : Int) : Int := if v < 0 then -slw (-v) 0 d else slw v 0 d
/-- going on to stop at e, in c cycles -/
def ends (l : LimS) (g : GenS) (e c : Int) : Prop := safeB l g = true ∧ g.p + wayS g.v l.d = e ∧ cyc (max g.v (-g.v)) l.d = c

theorem ends_step (l : LimS) (g : GenS) (e c p' v' : Int) (hr : rightB l = true) (h : ends l g e c) (h0 : g.v ≠ 0) (hg : stepG l g 0 = ⟨p', v'⟩) : ends l ⟨p', v'⟩ e (c - 1) := by
  obtain ⟨hs, he, hc⟩ := h
  have hy := rightB_yes hr
  have hss := step_safe l g 0 hr hs
  have hst := stop_step l g hr hs
  rw [hg] at hss hst
  by_cases c1 : 0 ≤ g.v
  · rw [if_pos c1] at hst
    have e1 : p' = g.p + max 0 (g.v - l.d) := congrArg GenS.p hst
    have e2 : v' = max 0 (g.v - l.d) := congrArg GenS.v hst
    refine ⟨hss, ?_, ?_⟩
    · show p' + wayS v' l.d = e
      have h1 := slw_step g.v l.d (by omega) (by omega)
      unfold wayS at he ⊢
      rw [if_neg (by omega)] at he
      rw [if_neg (by omega), e1, e2]
      omega
    · show cyc (max v' (-v')) l.d = c - 1
      have h1 := cyc1 g.v l.d (by omega) (by omega)
      rw [show max v' (-v') = max 0 (g.v - l.d) by omega]
      rw [show max g.v (-g.v) = g.v by omega] at hc
      omega
  · rw [if_neg c1] at hst
    have e1 : p' = g.p - max 0 (-g.v - l.d) := congrArg GenS.p hst
    have e2 : v' = -max 0 (-g.v - l.d) := congrArg GenS.v hst
    refine ⟨hss, ?_, ?_⟩
    · show p' + wayS v' l.d = e
      have h1 := slw_step (-g.v) l.d (by omega) (by omega)
      unfold wayS at he ⊢
      rw [if_pos (by omega)] at he
      by_cases z : v' < 0
      · rw [if_pos z, show -v' = max 0 (-g.v - l.d) by omega]
        omega
      · rw [if_neg z, show v' = 0 by omega, slw_near 0 0 l.d (by omega) (by omega)]
        rw [show max 0 (-g.v - l.d) = 0 by omega, slw_near 0 0 l.d (by omega) (by omega)] at h1
        omega
    · show cyc (max v' (-v')) l.d = c - 1
      have h1 := cyc1 (-g.v) l.d (by omega) (by omega)
      rw [show max v' (-v') = max 0 (-g.v - l.d) by omega]
      rw [show max g.v (-g.v) = -g.v by omega] at hc
      omega

theorem ends_rest (l : LimS) (g : GenS) (e c : Int) (hr : rightB l = true) (h : ends l g e c) (h0 : g.v = 0) : c = 0 ∧ g.p = e ∧ stepG l g 0 = g := by
  obtain ⟨hs, he, hc⟩ := h
  have hy := rightB_yes hr
  have hst := stop_step l g hr hs
  rw [h0, show max (0 : Int) (-0) = 0 by omega, cyc0 l.d (by omega)] at hc
  unfold wayS at he
  rw [h0, if_neg (by omega), slw_near 0 0 l.d (by omega) (by omega)] at he
  rw [h0, if_pos (by omega), show max 0 (0 - l.d) = 0 by omega] at hst
  refine ⟨hc.symm, by omega, ?_⟩
  rw [hst]
  cases g
  simp only at h0
  simp [h0]
theorem ends_goes (l : LimS) (g : GenS) (e c : Int) (hr : rightB l = true) (h : ends l g e c) (h0 : g.v ≠ 0) : 0 < c := by
  obtain ⟨hs, he, hc⟩ := h
  have hy := rightB_yes hr
  have := (cyc_bnd (max g.v (-g.v)) l.d (by omega) (by omega)).2.2 (by omega)
  omega

end Go.Proofs.Ytmlndgmkjdkcfaa
