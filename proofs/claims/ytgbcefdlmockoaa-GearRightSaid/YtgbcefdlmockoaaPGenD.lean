/- The plain generator: turned round; who goes to a place from a standstill. No program in sight. -/
import Derived.Test.YtgbcefdlmockoaaPGenC
namespace Go.Proofs.Ytgbcefdlmockoaa
set_option linter.unusedVariables false
set_option linter.unusedSimpArgs false

/-- limits with the axis turned round -/
def turnL (l : LimS) : LimS := ⟨l.v, l.a, l.d, -l.hi, -l.lo⟩
def turnG (g : GenS) : GenS := ⟨-g.p, -g.v⟩
theorem turnG_turn (g : GenS) : turnG (turnG g) = g := by
  cases g
  simp [turnG]
theorem right_turn (l : LimS) : rightB (turnL l) = rightB l := by
  rw [Bool.eq_iff_iff]
  constructor
  · intro h
    have h := rightB_yes h
    simp only [turnL] at h
    exact decide_eq_true (by omega)
  · intro h
    have h := rightB_yes h
    exact decide_eq_true (by simp only [turnL]; omega)
theorem turnL_turn (l : LimS) : turnL (turnL l) = l := by
  cases l
  simp [turnL]
theorem safe_turn_of (l : LimS) (g : GenS) (hr : rightB l = true) (h : safeB l g = true) : safeB (turnL l) (turnG g) = true := by
  have hy := rightB_yes hr
  have hz := safeB_yes h
  refine decide_eq_true ?_
  simp only [turnL, turnG, Int.neg_neg]
  refine ⟨by omega, by omega, by omega, by omega, fun h0 => ?_, fun h0 => ?_⟩
  · by_cases c : g.v = 0
    · rw [c, Int.neg_zero, slw_le 0 0 l.d (by omega)]
      omega
    · have := hz.2.2.2.2.2 (by omega)
      omega
  · have := hz.2.2.2.2.1 (by omega)
    omega
theorem safe_turn (l : LimS) (g : GenS) (hr : rightB l = true) : safeB (turnL l) (turnG g) = safeB l g := by
  rw [Bool.eq_iff_iff]
  constructor
  · intro h
    have := safe_turn_of (turnL l) (turnG g) (by rw [right_turn]; exact hr) h
    rwa [turnL_turn, turnG_turn] at this
  · exact safe_turn_of l g hr
theorem mayLo_turn (l : LimS) (g : GenS) : mayLo (turnL l) (turnG g) = -mayHi l g := by
  unfold mayLo mayHi upHi upLo turnL turnG
  simp only
  by_cases c : 0 < g.v
  · have c1 : ¬ 0 < -g.v := by omega
    have c2 : -g.v < 0 := by omega
    simp only [c, c1, c2, if_true, if_false, Int.neg_neg]
    rw [show -g.p - -l.hi = l.hi - g.p by omega]
  · by_cases c3 : g.v < 0
    · have c1 : 0 < -g.v := by omega
      simp only [c, c1, c3, if_true, if_false, Int.neg_neg]
    · have c1 : ¬ 0 < -g.v := by omega
      have c2 : ¬ -g.v < 0 := by omega
      simp only [c, c1, c2, c3, if_false]
      rw [show -g.p - -l.hi = l.hi - g.p by omega]
theorem mayHi_turn (l : LimS) (g : GenS) : mayHi (turnL l) (turnG g) = -mayLo l g := by
  unfold mayLo mayHi upHi upLo turnL turnG
  simp only
  by_cases c : 0 < g.v
  · have c1 : ¬ 0 < -g.v := by omega
    have c2 : -g.v < 0 := by omega
    simp only [c, c1, c2, if_true, if_false, Int.neg_neg]
  · by_cases c3 : g.v < 0
    · have c1 : 0 < -g.v := by omega
      simp only [c, c1, c3, if_true, if_false, Int.neg_neg]
      rw [show -l.lo - -g.p = g.p - l.lo by omega]
    · have c1 : ¬ 0 < -g.v := by omega
      have c2 : ¬ -g.v < 0 := by omega
      simp only [c, c1, c2, c3, if_false, Int.neg_neg]
      rw [show -l.lo - -g.p = g.p - l.lo by omega]
theorem step_turn (l : LimS) (g : GenS) (x : Int) (hr : rightB l = true) (hs : safeB l g = true) : stepG (turnL l) (turnG g) (-x) = turnG (stepG l g x) := by
  have hb := may_bd l g hr hs
  unfold stepG
  simp only [mayLo_turn, mayHi_turn]
  simp only [turnG]
  rw [show max (-mayHi l g) (min (-mayLo l g) (-x)) = -max (mayLo l g) (min (mayHi l g) x) by omega]
  rw [show -g.p + -max (mayLo l g) (min (mayHi l g) x) = -(g.p + max (mayLo l g) (min (mayHi l g) x)) by omega]
/-- what is wanted, by the way -/
def toW (way v d s : Int) : Int := if way = 0 then 0 else if awayB way v then 0 else towardI way (min (rch (max way (-way)) d) (spd s))
theorem toG_way (l : LimS) (g : GenS) (t s : Int) : toG l g t s = toW (clampL l t - g.p) g.v l.d s := rfl
theorem awayB_turn (way v : Int) : awayB (-way) (-v) = awayB way v := by
  rw [Bool.eq_iff_iff]
  simp only [awayB, decide_eq_true_eq]
  omega
theorem towardI_turn (way v : Int) (h : way ≠ 0) : towardI (-way) v = -towardI way v := by
  unfold towardI
  by_cases c : way < 0
  · rw [if_pos c, if_neg (by omega)]
    omega
  · rw [if_neg c, if_pos (by omega)]
theorem toW_turn (way v d s : Int) : toW (-way) (-v) d s = -toW way v d s := by
  unfold toW
  by_cases c : way = 0
  · rw [if_pos c, if_pos (by omega)]
    rfl
  · rw [if_neg c, if_neg (by omega), awayB_turn, towardI_turn way _ c, show max (-way) (- -way) = max way (-way) by omega]
    split
    · rfl
    · rfl
theorem clampL_turn (l : LimS) (t : Int) (hr : rightB l = true) : clampL (turnL l) (-t) = -clampL l t := by
  have hy := rightB_yes hr
  unfold clampL turnL
  simp only
  omega
theorem to_turn (l : LimS) (g : GenS) (t v : Int) (hr : rightB l = true) : toG (turnL l) (turnG g) (-t) v = -toG l g t v := by
  rw [toG_way, toG_way, clampL_turn l t hr, ← toW_turn]
  show toW (-clampL l t - -g.p) (-g.v) l.d v = toW (-(clampL l t - g.p)) (-g.v) l.d v
  rw [show -clampL l t - -g.p = -(clampL l t - g.p) by omega]

end Go.Proofs.Ytgbcefdlmockoaa
