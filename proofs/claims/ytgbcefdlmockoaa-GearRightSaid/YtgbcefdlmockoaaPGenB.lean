/- The plain generator: bounds; what is wanted to come to a place, or by one. No program in sight. -/
import Derived.Test.YtgbcefdlmockoaaPGen
namespace Go.Proofs.Ytgbcefdlmockoaa
set_option linter.unusedVariables false
set_option linter.unusedSimpArgs false

theorem may_bd (l : LimS) (g : GenS) (hr : rightB l = true) (hs : safeB l g = true) : -1048576 ≤ mayLo l g ∧ mayLo l g ≤ mayHi l g ∧ mayHi l g ≤ 1048576 := by
  have hy := rightB_yes hr
  have hz := safeB_yes hs
  unfold mayLo mayHi
  by_cases c1 : 0 < g.v
  · have h1 := upLo_bd l g.v (by omega) hr
    have h2 := upHi_bd l g.v (l.hi - g.p) (by omega) hr
    simp only [c1, if_true]
    omega
  · by_cases c2 : g.v < 0
    · have h1 := upLo_bd l (-g.v) (by omega) hr
      have h2 := upHi_bd l (-g.v) (g.p - l.lo) (by omega) hr
      simp only [c1, c2, if_true, if_false]
      omega
    · have h1 := upLo_bd l 0 (by omega) hr
      have h2 := upHi_bd l 0 (l.hi - g.p) (by omega) hr
      have h3 := upHi_bd l 0 (g.p - l.lo) (by omega) hr
      simp only [c1, c2, if_false]
      omega

/-- a speed in the direction of a way -/
def towardI (way v : Int) : Int := if way < 0 then -v else v
/-- does it go the other way? -/
def awayB (way v : Int) : Bool := decide (0 < way ∧ v < 0 ∨ way < 0 ∧ 0 < v)
/-- a place within the limits -/
def clampL (l : LimS) (t : Int) : Int := max l.lo (min l.hi t)
/-- what is wanted to come to a place, of a right and safe one -/
def toG (l : LimS) (g : GenS) (t v : Int) : Int :=
  let way := clampL l t - g.p
  if way = 0 then 0 else if awayB way g.v then 0 else towardI way (min (rch (max way (-way)) l.d) (spd v))
/-- what is wanted to come by a place and stop at another one, of a right and safe one -/
def byG (l : LimS) (g : GenS) (t u s v : Int) : Int :=
  let way := clampL l t - g.p
  let fin := clampL l s - g.p
  if way = 0 then 0 else if fin = 0 then 0 else if awayB way fin then 0 else if awayB way g.v then 0 else towardI way (min (pas (max way (-way)) (spd u) l.d) (min (rch (max fin (-fin)) l.d) (spd v)))

theorem clampL_bd (l : LimS) (t : Int) (h : rightB l = true) : l.lo ≤ clampL l t ∧ clampL l t ≤ l.hi := by
  have := rightB_yes h
  unfold clampL
  omega

end Go.Proofs.Ytgbcefdlmockoaa
