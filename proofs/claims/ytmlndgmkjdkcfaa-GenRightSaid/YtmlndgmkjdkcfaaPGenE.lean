/- The plain generator: who goes to a place from a standstill. No program in sight. -/
import Derived.Test.YtmlndgmkjdkcfaaPGenD
namespace Go.Proofs.Ytmlndgmkjdkcfaa
set_option linter.unusedVariables false
set_option linter.unusedSimpArgs false

/-- upwards: not beyond the place, and able to stop there; no faster than is wanted -/
def goesUp (l : LimS) (g : GenS) (t s : Int) : Prop := g.p ≤ t ∧ 0 ≤ g.v ∧ g.v ≤ s ∧ g.v ≤ l.v ∧ slw g.v 0 l.d ≤ t - g.p

theorem goes_up (l : LimS) (g : GenS) (t s : Int) (hr : rightB l = true) (hs : safeB l g = true) (ht : l.lo ≤ t ∧ t ≤ l.hi) (h1 : 1 ≤ s) (hu : goesUp l g t s) (hp : g.p < t) :
    goesUp l (stepG l g (toG l g t s)) t s ∧ g.p < (stepG l g (toG l g t s)).p ∧ 0 ≤ (stepG l g (toG l g t s)).v := by
  obtain ⟨hp0, hv0, hvs, hvl, hsl⟩ := hu
  have hy := rightB_yes hr
  have hz := safeB_yes hs
  have hcl : clampL l t = t := by unfold clampL; omega
  have hto : toG l g t s = min (rch (t - g.p) l.d) (spd s) := by
    rw [toG_way, hcl]
    unfold toW
    rw [if_neg (by omega), show awayB (t - g.p) g.v = false from decide_eq_false (by omega)]
    simp only [Bool.false_eq_true, if_false]
    unfold towardI
    rw [if_neg (by omega), show max (t - g.p) (-(t - g.p)) = t - g.p by omega]
  have hr1 : 1 ≤ rch (t - g.p) l.d := (rch_iff _ _ 1 (by omega) (by omega) (by omega)).2 (by rw [slw_near 1 0 l.d (by omega) (by omega)]; omega)
  have hr2 : 1 ≤ rch (l.hi - g.p) l.d := (rch_iff _ _ 1 (by omega) (by omega) (by omega)).2 (by rw [slw_near 1 0 l.d (by omega) (by omega)]; omega)
  have hb := rch_bd (t - g.p) l.d
  have hlo : mayLo l g ≤ upLo l g.v ∧ (0 < g.v → mayLo l g = upLo l g.v) := by
    unfold mayLo
    by_cases c : 0 < g.v
    · rw [if_pos c]
      exact ⟨Int.le_refl _, fun _ => rfl⟩
    · rw [if_neg c, if_neg (by omega)]
      have h2 := upLo_bd l 0 (by omega) hr
      have h3 := upHi_bd l 0 (g.p - l.lo) (by omega) hr
      have h4 := upLo_bd l g.v (by omega) hr
      exact ⟨by omega, fun h => absurd h c⟩
  have hhi : mayHi l g = upHi l g.v (l.hi - g.p) := by
    unfold mayHi
    by_cases c : 0 < g.v
    · rw [if_pos c]
    · rw [if_neg c, if_neg (by omega), show g.v = 0 by omega]
  have hup : upHi l g.v (l.hi - g.p) = max (upLo l g.v) (min (min (g.v + l.a) l.v) (rch (l.hi - g.p) l.d)) := rfl
  have hul : upLo l g.v = max 0 (g.v - l.d) := rfl
  obtain ⟨x, hx⟩ : ∃ x, (stepG l g (toG l g t s)).v = x := ⟨_, rfl⟩
  have hx1 : x = max (mayLo l g) (min (mayHi l g) (min (rch (t - g.p) l.d) (spd s))) := by rw [← hx, ← hto]; rfl
  have hxp : (stepG l g (toG l g t s)).p = g.p + x := by rw [← hx]; rfl
  have hsp : spd s = min s 1048576 := by unfold spd; omega
  have hx2 : 1 ≤ x := by omega
  have hx3 : x ≤ upLo l g.v ∨ x ≤ rch (t - g.p) l.d := by omega
  have hx4 : x ≤ s := by omega
  have hx5 : x ≤ l.v := by omega
  have hx6 : x + slw x 0 l.d ≤ t - g.p := by
    rcases hx3 with h | h
    · have h5 := slw_far g.v 0 l.d (by omega) (by omega)
      have h6 := slw_mono 0 l.d (by omega) (by omega) x (g.v - l.d) (by omega)
      omega
    · exact (rch_iff _ _ x (by omega) (by omega) (by omega)).1 h
  have hn := slw_nonneg x 0 l.d (by omega) (by omega)
  unfold goesUp
  rw [hx, hxp]
  refine ⟨⟨by omega, by omega, by omega, by omega, by omega⟩, by omega, by omega⟩

end Go.Proofs.Ytmlndgmkjdkcfaa
