/- The plain generator: who goes to a place from a standstill. No program in sight. -/
import Derived.Test.YtgbcefdlmockoaaPGenD
namespace Go.Proofs.Ytgbcefdlmockoaa
set_option linter.unusedVariables false
set_option linter.unusedSimpArgs false

/-- upwards: not beyond the place, and able to stop there; no faster than is wanted -/
def goesUp (l : LimS) (g : GenS) (t s : Int) : Prop := g.p ≤ t ∧ 0 ≤ g.v ∧ g.v ≤ s ∧ g.v ≤ l.v ∧ slw g.v 0 l.d ≤ t - g.p

theorem goes_up (l : LimS) (g : GenS) (t s : Int) (hr : rightB l = true) (hs : safeB l g = true) (ht : l.lo ≤ t ∧ t ≤ l.hi) (h1 : 1 ≤ s) (hu : goesUp l g t s) (hp : g.p < t) :
    goesUp l (stepG l g (toG l g t s)) t s ∧ g.p < (stepG l g (toG l g t s)).p ∧ 0 ≤ (stepG l g (toG l g t s)).v := by
  obtain ⟨hp0, hv0, hvs, hvl, hsl⟩ := hu
  have hy := rightB_yes hr
  have hz := safeB_yes hs
  have hcl : clampL l t = t := by unfold clampL; omega
  have hto : toG l g t s = min (rch (t - g.p) l.d) (spd s) := by
    rw [toG_way, hcl]
    unfold toW
    rw [if_neg (by omega), show awayB (t - g.p) g.v = false from decide_eq_false (by omega)]
    simp only [Bool.false_eq_true, if_false]
    unfold towardI
    rw [if_neg (by omega), show max (t - g.p) (-(t - g.p)) = t - g.p by omega]
  have hr1 : 1 ≤ rch (t - g.p) l.d := (rch_iff _ _ 1 (by omega) (by omega) (by omega)).2 (by rw [slw_near 1 0 l.d (by omega) (by omega)]; omega)
  have hr2 : 1 ≤ rch (l.hi - g.p) l.d := (rch_iff _ _ 1 (by omega) (by omega) (by omega)).2 (by rw [slw_near 1 0 l.d (by omega) (by omega)]; omega)
  have hb := rch_bd (t - g.p) l.d
  have hlo : mayLo l g ≤ upLo l g.v ∧ (0 < g.v → mayLo l g = upLo l g.v) := by
    unfold mayLo
    by_cases c : 0 < g.v
    · rw [if_pos c]
      exact ⟨Int.le_refl _, fun _ => rfl⟩
    · rw [if_neg c, if_neg (by omega)]
      have h2 := upLo_bd l 0 (by omega) hr
      have h3 := upHi_bd l 0 (g.p - l.lo) (by omega) hr
      have h4 := upLo_bd l g.v (by omega) hr
      exact ⟨by omega, fun h => absurd h c⟩
  have hhi : mayHi l g = upHi l g.v (l.hi - g.p) := by
    unfold mayHi
    by_cases c : 0 < g.v
    · rw [if_pos c]
    · rw [if_neg c, if_neg (by omega), show g.v = 0 by omega]
  have hup : upHi l g.v (l.hi - g.p) = max (upLo l g.v) (min (min (g.v + l.a) l.v) (rch (l.hi - g.p) l.d)) := rfl
  have hul : upLo l g.v = max 0 (g.v - l.d) := rfl
  obtain ⟨x, hx⟩ : ∃ x, (stepG l g (toG l g t s)).v = x := ⟨_, rfl⟩
  have hx1 : x = max (mayLo l g) (min (mayHi l g) (min (rch (t - g.p) l.d) (spd s))) := by rw [← hx, ← hto]; rfl
  have hxp : (stepG l g (toG l g t s)).p = g.p + x := by rw [← hx]; rfl
  have hsp : spd s = min s 1048576 := by unfold spd; omega
  have hx2 : 1 ≤ x := by omega
  have hx3 : x ≤ upLo l g.v ∨ x ≤ rch (t - g.p) l.d := by omega
  have hx4 : x ≤ s := by omega
  have hx5 : x ≤ l.v := by omega
  have hx6 : x + slw x 0 l.d ≤ t - g.p := by
    rcases hx3 with h | h
    · have h5 := slw_far g.v 0 l.d (by omega) (by omega)
      have h6 := slw_mono 0 l.d (by omega) (by omega) x (g.v - l.d) (by omega)
      omega
    · exact (rch_iff _ _ x (by omega) (by omega) (by omega)).1 h
  have hn := slw_nonneg x 0 l.d (by omega) (by omega)
  unfold goesUp
  rw [hx, hxp]
  refine ⟨⟨by omega, by omega, by omega, by omega, by omega⟩, by omega, by omega⟩

end Go.Proofs.Ytgbcefdlmockoaa

namespace Go.Proofs.Ytgbcefdlmockoaa
set_option linter.unusedVariables false
set_option linter.unusedSimpArgs false

/-- between where it began and its place, and able to stop there -/
def btw (l : LimS) (g : GenS) (c t s : Int) : Prop :=
  safeB l g = true ∧ ((c ≤ t ∧ c ≤ g.p ∧ goesUp l g t s) ∨ (t ≤ c ∧ g.p ≤ c ∧ goesUp (turnL l) (turnG g) (-t) s))

theorem step_safe (l : LimS) (g : GenS) (x : Int) (hr : rightB l = true) (hs : safeB l g = true) : safeB l (stepG l g x) = true :=
  (step_keeps l g (stepG l g x) hr hs rfl (step_between l g x hr hs).1 (step_between l g x hr hs).2).1

theorem btw_step (l : LimS) (g : GenS) (c t s : Int) (p' v' : Int) (hr : rightB l = true) (ht : l.lo ≤ t ∧ t ≤ l.hi) (h1 : 1 ≤ s) (hb : btw l g c t s) (hp : g.p ≠ t) (hg : stepG l g (toG l g t s) = ⟨p', v'⟩) :
    btw l ⟨p', v'⟩ c t s ∧ max (t - p') (p' - t) < max (t - g.p) (g.p - t) ∧ min c t ≤ p' ∧ p' ≤ max c t ∧ max v' (-v') ≤ s ∧ max v' (-v') ≤ l.v := by
  obtain ⟨hs, hb⟩ := hb
  have hss := step_safe l g (toG l g t s) hr hs
  rw [hg] at hss
  rcases hb with ⟨hct, hcp, hu⟩ | ⟨hct, hcp, hu⟩
  · have hlt : g.p < t := by have := hu.1; omega
    have h := goes_up l g t s hr hs ht h1 hu hlt
    rw [hg] at h
    obtain ⟨h2, h3, h4⟩ := h
    have h5 := h2
    obtain ⟨e1, e2, e3, e4, e5⟩ := h5
    simp only at e1 e2 e3 e4 h3 h4
    exact ⟨⟨hss, .inl ⟨hct, by show c ≤ p'; omega, h2⟩⟩, by omega, by omega, by omega, by omega, by omega⟩
  · have hr' : rightB (turnL l) = true := by rw [right_turn]; exact hr
    have hs' : safeB (turnL l) (turnG g) = true := safe_turn_of l g hr hs
    have hlt : (turnG g).p < -t := by have := hu.1; simp only [turnG] at *; omega
    have h := goes_up (turnL l) (turnG g) (-t) s hr' hs' (by simp only [turnL]; omega) h1 hu hlt
    rw [to_turn l g t s hr, step_turn l g (toG l g t s) hr hs, hg] at h
    obtain ⟨h2, h3, h4⟩ := h
    have h5 := h2
    obtain ⟨e1, e2, e3, e4, e5⟩ := h5
    simp only [turnG, turnL] at e1 e2 e3 e4 h3 h4
    exact ⟨⟨hss, .inr ⟨hct, by show p' ≤ c; omega, h2⟩⟩, by omega, by omega, by omega, by omega, by omega⟩

theorem btw_start (l : LimS) (c t s : Int) (hs : safeB l ⟨c, 0⟩ = true) (hr : rightB l = true) (h1 : 1 ≤ s) : btw l ⟨c, 0⟩ c t s := by
  have hy := rightB_yes hr
  refine ⟨hs, ?_⟩
  by_cases h : c ≤ t
  · refine .inl ⟨h, Int.le_refl _, ?_⟩
    unfold goesUp
    simp only
    rw [slw_le 0 0 l.d (by omega)]
    omega
  · refine .inr ⟨by omega, Int.le_refl _, ?_⟩
    unfold goesUp turnL turnG
    simp only [Int.neg_zero]
    rw [slw_le 0 0 l.d (by omega)]
    omega

end Go.Proofs.Ytgbcefdlmockoaa

namespace Go.Proofs.Ytgbcefdlmockoaa
set_option linter.unusedVariables false
set_option linter.unusedSimpArgs false

/-- cycles till the speed is 0 -/
def cyc (v d : Int) : Int := (v + d - 1) / d
theorem cyc0 (d : Int) (hd : 1 ≤ d) : cyc 0 d = 0 := Int.ediv_eq_zero_of_lt (by omega) (by omega)
theorem cyc1 (v d : Int) (hd : 1 ≤ d) (hv : 0 < v) : cyc v d = cyc (max 0 (v - d)) d + 1 := by
  unfold cyc
  by_cases c : v - d ≤ 0
  · rw [show max 0 (v - d) = 0 by omega, show (0 + d - 1) / d = 0 from Int.ediv_eq_zero_of_lt (by omega) (by omega), show v + d - 1 = (v - 1) + d from by omega, Int.add_ediv_of_dvd_right (Int.dvd_refl _), Int.ediv_self (by omega), Int.ediv_eq_zero_of_lt (by omega) (by omega)]
  · rw [show max 0 (v - d) = v - d by omega, show v + d - 1 = (v - d + d - 1) + d from by omega, Int.add_ediv_of_dvd_right (Int.dvd_refl _), Int.ediv_self (by omega)]
theorem cyc_bnd (v d : Int) (hv : 0 ≤ v) (hd : 1 ≤ d) : 0 ≤ cyc v d ∧ cyc v d ≤ v ∧ (0 < v → 0 < cyc v d) := by
  have hq := quo_mul (v + d - 1) d hd (by omega)
  have h1 := Int.ediv_nonneg (a := v + d - 1) (b := d) (by omega) (by omega)
  have hm : d * 1 ≤ d * d := Int.mul_le_mul_of_nonneg_left hd (by omega)
  refine ⟨h1, ?_, ?_⟩
  · unfold cyc
    by_cases c : (v + d - 1) / d ≤ v
    · exact c
    · have h2 : d * (v + 1) ≤ d * ((v + d - 1) / d) := Int.mul_le_mul_of_nonneg_left (by omega) (by omega)
      rw [Int.mul_add] at h2
      have h3 : 1 * v ≤ d * v := Int.mul_le_mul_of_nonneg_right hd hv
      omega
  · intro h0
    unfold cyc
    have h2 := Int.ediv_le_ediv (c := d) (by omega) (show d ≤ v + d - 1 by omega)
    rw [Int.ediv_self (by omega)] at h2
    omega
theorem slw_step (v d : Int) (hd : 1 ≤ d) (hv : 0 < v) : slw v 0 d = max 0 (v - d) + slw (max 0 (v - d)) 0 d := by
  by_cases c : v - d ≤ 0
  · rw [show max 0 (v - d) = 0 by omega, slw_near v 0 d hd (by omega), slw_near 0 0 d hd (by omega)]; omega
  · rw [show max 0 (v - d) = v - d by omega, slw_far v 0 d hd (by omega)]

/-- the speed behind a cycle in which it wants to stop -/
theorem stop_step (l : LimS) (g : GenS) (hr : rightB l = true) (hs : safeB l g = true) :
    stepG l g 0 = if 0 ≤ g.v then ⟨g.p + max 0 (g.v - l.d), max 0 (g.v - l.d)⟩ else ⟨g.p - max 0 (-g.v - l.d), -max 0 (-g.v - l.d)⟩ := by
  have hy := rightB_yes hr
  have hb := may_bd l g hr hs
  have hz := safeB_yes hs
  unfold stepG
  simp only
  by_cases c1 : 0 < g.v
  · have h1 : mayLo l g = upLo l g.v := by unfold mayLo; rw [if_pos c1]
    have h2 := upLo_bd l g.v (by omega) hr
    rw [if_pos (by omega), show max (mayLo l g) (min (mayHi l g) 0) = max 0 (g.v - l.d) by rw [h1]; unfold upLo at *; omega]
  · by_cases c2 : g.v < 0
    · have h1 : mayHi l g = -upLo l (-g.v) := by unfold mayHi; rw [if_neg c1, if_pos c2]
      have h2 := upLo_bd l (-g.v) (by omega) hr
      rw [if_neg (by omega), show max (mayLo l g) (min (mayHi l g) 0) = -max 0 (-g.v - l.d) by rw [h1] at hb ⊢; unfold upLo at *; omega]
      rfl
    · have h1 : mayLo l g = -upHi l 0 (g.p - l.lo) := by unfold mayLo; rw [if_neg c1, if_neg c2]
      have h2 : mayHi l g = upHi l 0 (l.hi - g.p) := by unfold mayHi; rw [if_neg c1, if_neg c2]
      have h3 := upHi_bd l 0 (g.p - l.lo) (by omega) hr
      have h4 := upHi_bd l 0 (l.hi - g.p) (by omega) hr
      have h5 := upLo_bd l 0 (by omega) hr
      rw [if_pos (by omega), show max (mayLo l g) (min (mayHi l g) 0) = max 0 (g.v - l.d) by omega]

/-- the way that it has still to go -/
def wayS (v d : Int) : Int := if v < 0 then -slw (-v) 0 d else slw v 0 d
/-- going on to stop at e, in c cycles -/
def ends (l : LimS) (g : GenS) (e c : Int) : Prop := safeB l g = true ∧ g.p + wayS g.v l.d = e ∧ cyc (max g.v (-g.v)) l.d = c

theorem ends_step (l : LimS) (g : GenS) (e c p' v' : Int) (hr : rightB l = true) (h : ends l g e c) (h0 : g.v ≠ 0) (hg : stepG l g 0 = ⟨p', v'⟩) : ends l ⟨p', v'⟩ e (c - 1) := by
  obtain ⟨hs, he, hc⟩ := h
  have hy := rightB_yes hr
  have hss := step_safe l g 0 hr hs
  have hst := stop_step l g hr hs
  rw [hg] at hss hst
  by_cases c1 : 0 ≤ g.v
  · rw [if_pos c1] at hst
    have e1 : p' = g.p + max 0 (g.v - l.d) := congrArg GenS.p hst
    have e2 : v' = max 0 (g.v - l.d) := congrArg GenS.v hst
    refine ⟨hss, ?_, ?_⟩
    · show p' + wayS v' l.d = e
      have h1 := slw_step g.v l.d (by omega) (by omega)
      unfold wayS at he ⊢
      rw [if_neg (by omega)] at he
      rw [if_neg (by omega), e1, e2]
      omega
    · show cyc (max v' (-v')) l.d = c - 1
      have h1 := cyc1 g.v l.d (by omega) (by omega)
      rw [show max v' (-v') = max 0 (g.v - l.d) by omega]
      rw [show max g.v (-g.v) = g.v by omega] at hc
      omega
  · rw [if_neg c1] at hst
    have e1 : p' = g.p - max 0 (-g.v - l.d) := congrArg GenS.p hst
    have e2 : v' = -max 0 (-g.v - l.d) := congrArg GenS.v hst
    refine ⟨hss, ?_, ?_⟩
    · show p' + wayS v' l.d = e
      have h1 := slw_step (-g.v) l.d (by omega) (by omega)
      unfold wayS at he ⊢
      rw [if_pos (by omega)] at he
      by_cases z : v' < 0
      · rw [if_pos z, show -v' = max 0 (-g.v - l.d) by omega]
        omega
      · rw [if_neg z, show v' = 0 by omega, slw_near 0 0 l.d (by omega) (by omega)]
        rw [show max 0 (-g.v - l.d) = 0 by omega, slw_near 0 0 l.d (by omega) (by omega)] at h1
        omega
    · show cyc (max v' (-v')) l.d = c - 1
      have h1 := cyc1 (-g.v) l.d (by omega) (by omega)
      rw [show max v' (-v') = max 0 (-g.v - l.d) by omega]
      rw [show max g.v (-g.v) = -g.v by omega] at hc
      omega

theorem ends_rest (l : LimS) (g : GenS) (e c : Int) (hr : rightB l = true) (h : ends l g e c) (h0 : g.v = 0) : c = 0 ∧ g.p = e ∧ stepG l g 0 = g := by
  obtain ⟨hs, he, hc⟩ := h
  have hy := rightB_yes hr
  have hst := stop_step l g hr hs
  rw [h0, show max (0 : Int) (-0) = 0 by omega, cyc0 l.d (by omega)] at hc
  unfold wayS at he
  rw [h0, if_neg (by omega), slw_near 0 0 l.d (by omega) (by omega)] at he
  rw [h0, if_pos (by omega), show max 0 (0 - l.d) = 0 by omega] at hst
  refine ⟨hc.symm, by omega, ?_⟩
  rw [hst]
  cases g
  simp only at h0
  simp [h0]
theorem ends_goes (l : LimS) (g : GenS) (e c : Int) (hr : rightB l = true) (h : ends l g e c) (h0 : g.v ≠ 0) : 0 < c := by
  obtain ⟨hs, he, hc⟩ := h
  have hy := rightB_yes hr
  have := (cyc_bnd (max g.v (-g.v)) l.d (by omega) (by omega)).2.2 (by omega)
  omega

end Go.Proofs.Ytgbcefdlmockoaa

namespace Go.Proofs.Ytgbcefdlmockoaa
set_option linter.unusedVariables false
set_option linter.unusedSimpArgs false

theorem toG_up (l : LimS) (g : GenS) (t s : Int) (ht : l.lo ≤ t ∧ t ≤ l.hi) (hv : 0 ≤ g.v) (hp : g.p < t) : toG l g t s = min (rch (t - g.p) l.d) (spd s) := by
  have hcl : clampL l t = t := by unfold clampL; omega
  rw [toG_way, hcl]
  unfold toW
  rw [if_neg (by omega), show awayB (t - g.p) g.v = false from decide_eq_false (by omega)]
  simp only [Bool.false_eq_true, if_false]
  unfold towardI
  rw [if_neg (by omega), show max (t - g.p) (-(t - g.p)) = t - g.p by omega]
theorem toG_back (l : LimS) (g : GenS) (t s : Int) (ht : l.lo ≤ t ∧ t ≤ l.hi) (hv : 0 < g.v) (hp : t ≤ g.p) : toG l g t s = 0 := by
  have hcl : clampL l t = t := by unfold clampL; omega
  rw [toG_way, hcl]
  unfold toW
  by_cases c : t - g.p = 0
  · rw [if_pos c]
  · rw [if_neg c, show awayB (t - g.p) g.v = true from decide_eq_true (by omega)]
    simp
theorem toG_here (l : LimS) (g : GenS) (t s : Int) (ht : l.lo ≤ t ∧ t ≤ l.hi) (hp : g.p = t) : toG l g t s = 0 := by
  have hcl : clampL l t = t := by unfold clampL; omega
  rw [toG_way, hcl]
  unfold toW
  rw [if_pos (by omega)]

theorem may_up (l : LimS) (g : GenS) (hr : rightB l = true) (hv : 0 ≤ g.v ∧ g.v ≤ 1048576) :
    mayLo l g ≤ upLo l g.v ∧ (0 < g.v → mayLo l g = upLo l g.v) ∧ mayHi l g = upHi l g.v (l.hi - g.p) := by
  refine ⟨?_, ?_, ?_⟩
  · unfold mayLo
    by_cases c : 0 < g.v
    · rw [if_pos c]
      exact Int.le_refl _
    · rw [if_neg c, if_neg (by omega)]
      have h2 := upLo_bd l 0 (by omega) hr
      have h3 := upHi_bd l 0 (g.p - l.lo) (by omega) hr
      have h4 := upLo_bd l g.v (by omega) hr
      omega
  · intro c
    unfold mayLo
    rw [if_pos c]
  · unfold mayHi
    by_cases c : 0 < g.v
    · rw [if_pos c]
    · rw [if_neg c, if_neg (by omega), show g.v = 0 by omega]

/-- going up towards a place and able to stop there: at least one count nearer, and able to stop there still -/
theorem near_up (l : LimS) (g : GenS) (t s : Int) (hr : rightB l = true) (hs : safeB l g = true) (ht : l.lo ≤ t ∧ t ≤ l.hi) (h1 : 1 ≤ s) (hv : 0 ≤ g.v) (hsl : slw g.v 0 l.d ≤ t - g.p) (hp : g.p < t) :
    ∃ x, stepG l g (toG l g t s) = ⟨g.p + x, x⟩ ∧ 1 ≤ x ∧ x + slw x 0 l.d ≤ t - g.p := by
  have hy := rightB_yes hr
  have hz := safeB_yes hs
  have hto := toG_up l g t s ht hv hp
  have hm := may_up l g hr (by omega)
  have hr1 : 1 ≤ rch (t - g.p) l.d := (rch_iff _ _ 1 (by omega) (by omega) (by omega)).2 (by rw [slw_near 1 0 l.d (by omega) (by omega)]; omega)
  have hr2 : 1 ≤ rch (l.hi - g.p) l.d := (rch_iff _ _ 1 (by omega) (by omega) (by omega)).2 (by rw [slw_near 1 0 l.d (by omega) (by omega)]; omega)
  have hb := rch_bd (t - g.p) l.d
  have hup : upHi l g.v (l.hi - g.p) = max (upLo l g.v) (min (min (g.v + l.a) l.v) (rch (l.hi - g.p) l.d)) := rfl
  have hul : upLo l g.v = max 0 (g.v - l.d) := rfl
  obtain ⟨x, hx⟩ : ∃ x, (stepG l g (toG l g t s)).v = x := ⟨_, rfl⟩
  have hx1 : x = max (mayLo l g) (min (mayHi l g) (min (rch (t - g.p) l.d) (spd s))) := by rw [← hx, ← hto]; rfl
  have hxe : stepG l g (toG l g t s) = ⟨g.p + x, x⟩ := by rw [← hx]; rfl
  have hsp : spd s = min s 1048576 := by unfold spd; omega
  obtain ⟨m1, m2, m3⟩ := hm
  rw [m3, hup] at hx1
  have hx2 : 1 ≤ x := by omega
  have hx3 : x ≤ upLo l g.v ∨ x ≤ rch (t - g.p) l.d := by omega
  refine ⟨x, hxe, hx2, ?_⟩
  rcases hx3 with h | h
  · have h5 := slw_far g.v 0 l.d (by omega) (by omega)
    have h6 := slw_mono 0 l.d (by omega) (by omega) x (g.v - l.d) (by omega)
    omega
  · exact (rch_iff _ _ x (by omega) (by omega) (by omega)).1 h

/-- going up and not able to stop at the place: it loses what it may -/
theorem far_up (l : LimS) (g : GenS) (t s : Int) (hr : rightB l = true) (hs : safeB l g = true) (ht : l.lo ≤ t ∧ t ≤ l.hi) (h1 : 1 ≤ s) (hv : 0 < g.v) (hsl : t - g.p < slw g.v 0 l.d) :
    stepG l g (toG l g t s) = ⟨g.p + max 0 (g.v - l.d), max 0 (g.v - l.d)⟩ := by
  have hy := rightB_yes hr
  have hz := safeB_yes hs
  by_cases hp : g.p < t
  · have hto := toG_up l g t s ht (by omega) hp
    have hm := may_up l g hr (by omega)
    have hd : l.d < g.v := by
      by_cases c : g.v ≤ l.d
      · rw [slw_near g.v 0 l.d (by omega) (by omega)] at hsl
        omega
      · omega
    have h5 := slw_far g.v 0 l.d (by omega) (by omega)
    have h6 : rch (t - g.p) l.d < g.v - l.d := by
      by_cases c : rch (t - g.p) l.d < g.v - l.d
      · exact c
      · have := (rch_iff (t - g.p) l.d (g.v - l.d) (by omega) (by omega) (by omega)).1 (by omega)
        omega
    have hul : upLo l g.v = max 0 (g.v - l.d) := rfl
    have hub := upHi_bd l g.v (l.hi - g.p) (by omega) hr
    have hx : max (mayLo l g) (min (mayHi l g) (toG l g t s)) = max 0 (g.v - l.d) := by
      rw [hto, hm.2.1 hv, hm.2.2]
      omega
    unfold stepG
    simp only [hx]
  · rw [toG_back l g t s ht hv (by omega)]
    have := stop_step l g hr hs
    rw [if_pos (by omega)] at this
    exact this

/-- not there yet: N cycles at most -/
def upN (l : LimS) (g : GenS) (t N : Int) : Prop :=
  0 ≤ g.v ∧ ((slw g.v 0 l.d ≤ t - g.p ∧ t - g.p + 1 ≤ N) ∨ (0 < g.v ∧ t - g.p < slw g.v 0 l.d ∧ cyc g.v l.d + slw g.v 0 l.d - (t - g.p) + 1 ≤ N))
def landed (g : GenS) (t : Int) : Prop := g.p = t ∧ g.v = 0
def landsN (l : LimS) (g : GenS) (t N : Int) : Prop := safeB l g = true ∧ ((landed g t ∧ 0 ≤ N) ∨ upN l g t N ∨ upN (turnL l) (turnG g) (-t) N)

theorem up_step (l : LimS) (g : GenS) (t s N : Int) (hr : rightB l = true) (hs : safeB l g = true) (ht : l.lo ≤ t ∧ t ≤ l.hi) (h1 : 1 ≤ s) (hn : ¬ landed g t) (h : upN l g t N) :
    landsN l (stepG l g (toG l g t s)) t (N - 1) := by
  have hy := rightB_yes hr
  have hz := safeB_yes hs
  refine ⟨step_safe l g _ hr hs, ?_⟩
  obtain ⟨hv, h⟩ := h
  rcases h with ⟨hsl, hN⟩ | ⟨hv0, hsl, hN⟩
  · by_cases hp : g.p < t
    · obtain ⟨x, hx, hx1, hx2⟩ := near_up l g t s hr hs ht h1 hv hsl hp
      rw [hx]
      have hnn := slw_nonneg x 0 l.d (by omega) (by omega)
      refine .inr (.inl ⟨by show 0 ≤ x; omega, .inl ⟨by show slw x 0 l.d ≤ t - (g.p + x); omega, by show t - (g.p + x) + 1 ≤ N - 1; omega⟩⟩)
    · have hnn := slw_nonneg g.v 0 l.d (by omega) (by omega)
      have hpt : g.p = t := by omega
      have hv0 : 0 < g.v := by
        by_cases c : g.v = 0
        · exact absurd ⟨hpt, c⟩ hn
        · omega
      have hd : g.v ≤ l.d := by
        by_cases c : g.v ≤ l.d
        · exact c
        · have h5 := slw_far g.v 0 l.d (by omega) (by omega)
          have h6 := slw_nonneg (g.v - l.d) 0 l.d (by omega) (by omega)
          omega
      rw [toG_here l g t s ht hpt]
      have h7 := stop_step l g hr hs
      rw [if_pos hv, show max 0 (g.v - l.d) = 0 by omega] at h7
      rw [h7]
      exact .inl ⟨⟨by show g.p + 0 = t; omega, rfl⟩, by omega⟩
  · rw [far_up l g t s hr hs ht h1 hv0 hsl]
    have h5 := slw_step g.v l.d (by omega) hv0
    have h6 := cyc1 g.v l.d (by omega) hv0
    obtain ⟨x, hx⟩ : ∃ x, max 0 (g.v - l.d) = x := ⟨_, rfl⟩
    rw [hx] at h5 h6 ⊢
    by_cases c : 0 < x
    · exact .inr (.inl ⟨by show 0 ≤ x; omega, .inr ⟨c, by show t - (g.p + x) < slw x 0 l.d; omega, by show cyc x l.d + slw x 0 l.d - (t - (g.p + x)) + 1 ≤ N - 1; omega⟩⟩)
    · obtain rfl : x = 0 := by omega
      rw [cyc0 l.d (by omega)] at h6
      rw [slw_near 0 0 l.d (by omega) (by omega)] at h5
      refine .inr (.inr ⟨by show (0 : Int) ≤ -0; omega, .inl ⟨?_, ?_⟩⟩)
      · show slw (-0) 0 l.d ≤ -t - -(g.p + 0)
        rw [slw_near (-0) 0 l.d (by omega) (by omega)]
        omega
      · show -t - -(g.p + 0) + 1 ≤ N - 1
        omega

theorem lands_turn (l : LimS) (g : GenS) (t N : Int) (hr : rightB l = true) (h : landsN (turnL l) (turnG g) (-t) N) : landsN l g t N := by
  obtain ⟨hs, h⟩ := h
  rw [safe_turn l g hr] at hs
  refine ⟨hs, ?_⟩
  rcases h with ⟨hl, hN⟩ | h | h
  · refine .inl ⟨?_, hN⟩
    unfold landed turnG at hl
    unfold landed
    simp only at hl
    omega
  · exact .inr (.inr h)
  · rw [turnL_turn, turnG_turn, Int.neg_neg] at h
    exact .inr (.inl h)

theorem lands_step (l : LimS) (g : GenS) (t s N : Int) (p' v' : Int) (hr : rightB l = true) (ht : l.lo ≤ t ∧ t ≤ l.hi) (h1 : 1 ≤ s) (hn : ¬ landed g t) (h : landsN l g t N) (hg : stepG l g (toG l g t s) = ⟨p', v'⟩) :
    landsN l ⟨p', v'⟩ t (N - 1) := by
  obtain ⟨hs, h⟩ := h
  rw [← hg]
  rcases h with ⟨hl, _⟩ | h | h
  · exact absurd hl hn
  · exact up_step l g t s N hr hs ht h1 hn h
  · have hr' : rightB (turnL l) = true := by rw [right_turn]; exact hr
    have hs' : safeB (turnL l) (turnG g) = true := safe_turn_of l g hr hs
    have hn' : ¬ landed (turnG g) (-t) := fun hl => hn (by unfold landed turnG at hl; unfold landed; simp only at hl; omega)
    have hst := up_step (turnL l) (turnG g) (-t) s N hr' hs' (by simp only [turnL]; omega) h1 hn' h
    rw [to_turn l g t s hr, step_turn l g (toG l g t s) hr hs] at hst
    exact lands_turn l _ t (N - 1) hr hst

theorem lands_pos (l : LimS) (g : GenS) (t N : Int) (hr : rightB l = true) (hn : ¬ landed g t) (h : landsN l g t N) : 1 ≤ N := by
  have hy := rightB_yes hr
  obtain ⟨hs, h⟩ := h
  rcases h with ⟨hl, _⟩ | ⟨hv, h⟩ | ⟨hv, h⟩
  · exact absurd hl hn
  · have h1 := slw_nonneg g.v 0 l.d (by omega) (by omega)
    have h2 := cyc_bnd g.v l.d hv (by omega)
    omega
  · have h1 := slw_nonneg (turnG g).v 0 (turnL l).d (by simp only [turnL]; omega) (by omega)
    have h2 := cyc_bnd (turnG g).v (turnL l).d hv (by simp only [turnL]; omega)
    omega

theorem up_start (l : LimS) (g : GenS) (t : Int) (hr : rightB l = true) (hv : 0 < g.v ∨ g.v = 0 ∧ g.p ≤ t) : upN l g t (cyc g.v l.d + slw g.v 0 l.d + max (t - g.p) (g.p - t) + 1) := by
  have hy := rightB_yes hr
  have h1 := slw_nonneg g.v 0 l.d (by omega) (by omega)
  have h2 := cyc_bnd g.v l.d (by omega) (by omega)
  refine ⟨by omega, ?_⟩
  by_cases c : slw g.v 0 l.d ≤ t - g.p
  · exact .inl ⟨c, by omega⟩
  · rcases hv with z | ⟨z, z2⟩
    · exact .inr ⟨z, by omega, by omega⟩
    · rw [z, slw_near 0 0 l.d (by omega) (by omega)] at c
      omega
theorem lands_start (l : LimS) (g : GenS) (t : Int) (hr : rightB l = true) (hs : safeB l g = true) : landsN l g t (cyc (max g.v (-g.v)) l.d + slw (max g.v (-g.v)) 0 l.d + max (t - g.p) (g.p - t) + 1) := by
  refine ⟨hs, .inr ?_⟩
  by_cases c : 0 < g.v ∨ g.v = 0 ∧ g.p ≤ t
  · rw [show max g.v (-g.v) = g.v by omega]
    exact .inl (up_start l g t hr c)
  · have h := up_start (turnL l) (turnG g) (-t) (by rw [right_turn]; exact hr) (by simp only [turnG]; omega)
    simp only [turnL, turnG] at h
    rw [show max g.v (-g.v) = -g.v by omega, show max (t - g.p) (g.p - t) = max (-t - -g.p) (-g.p - -t) by omega]
    exact .inr h
theorem lands_rest (l : LimS) (g : GenS) (t s N : Int) (hr : rightB l = true) (ht : l.lo ≤ t ∧ t ≤ l.hi) (hl : landed g t) (h : landsN l g t N) : stepG l g (toG l g t s) = g := by
  rw [toG_here l g t s ht hl.1]
  have hst := stop_step l g hr h.1
  have hy := rightB_yes hr
  rw [hl.2, if_pos (by omega), show max 0 (0 - l.d) = 0 by omega] at hst
  rw [hst]
  have h2 := hl.2
  cases g
  simp only at h2
  simp [h2]

end Go.Proofs.Ytgbcefdlmockoaa
