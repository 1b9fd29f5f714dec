/- The plain generator: limits, what it may do, a step. No program in sight. -/
import Derived.Test.YtgbcefdlmockoaaPBrake
namespace Go.Proofs.Ytgbcefdlmockoaa
set_option linter.unusedVariables false
set_option linter.unusedSimpArgs false

/-- limits: speed, gain, loss, least and greatest place -/
structure LimS where
  v : Int
  a : Int
  d : Int
  lo : Int
  hi : Int
structure GenS where
  p : Int
  v : Int

def rightB (l : LimS) : Bool := decide (1 ≤ l.v ∧ l.v ≤ 1048576 ∧ 1 ≤ l.a ∧ l.a ≤ 1048576 ∧ 1 ≤ l.d ∧ l.d ≤ 1048576 ∧ -1099511627776 ≤ l.lo ∧ l.lo ≤ l.hi ∧ l.hi ≤ 1099511627776)
theorem rightB_yes {l : LimS} (h : rightB l = true) : 1 ≤ l.v ∧ l.v ≤ 1048576 ∧ 1 ≤ l.a ∧ l.a ≤ 1048576 ∧ 1 ≤ l.d ∧ l.d ≤ 1048576 ∧ -1099511627776 ≤ l.lo ∧ l.lo ≤ l.hi ∧ l.hi ≤ 1099511627776 := of_decide_eq_true h
/-- can it stop within its limits? -/
def safeB (l : LimS) (g : GenS) : Bool := decide (l.lo ≤ g.p ∧ g.p ≤ l.hi ∧ -1048576 ≤ g.v ∧ g.v ≤ 1048576 ∧ (0 ≤ g.v → slw g.v 0 l.d ≤ l.hi - g.p) ∧ (g.v < 0 → slw (-g.v) 0 l.d ≤ g.p - l.lo))
theorem safeB_yes {l : LimS} {g : GenS} (h : safeB l g = true) : l.lo ≤ g.p ∧ g.p ≤ l.hi ∧ -1048576 ≤ g.v ∧ g.v ≤ 1048576 ∧ (0 ≤ g.v → slw g.v 0 l.d ≤ l.hi - g.p) ∧ (g.v < 0 → slw (-g.v) 0 l.d ≤ g.p - l.lo) := of_decide_eq_true h

/-- the speeds that one who goes upwards, or stands, may have, with so much room -/
def upLo (l : LimS) (v : Int) : Int := max 0 (v - l.d)
def upHi (l : LimS) (v room : Int) : Int := max (upLo l v) (min (min (v + l.a) l.v) (rch room l.d))
def mayLo (l : LimS) (g : GenS) : Int := if 0 < g.v then upLo l g.v else if g.v < 0 then -upHi l (-g.v) (g.p - l.lo) else -upHi l 0 (g.p - l.lo)
def mayHi (l : LimS) (g : GenS) : Int := if 0 < g.v then upHi l g.v (l.hi - g.p) else if g.v < 0 then -upLo l (-g.v) else upHi l 0 (l.hi - g.p)
/-- a step to a speed that is wanted, of a right and safe one -/
def stepG (l : LimS) (g : GenS) (x : Int) : GenS := let v := max (mayLo l g) (min (mayHi l g) x); ⟨g.p + v, v⟩

theorem upLo_bd (l : LimS) (v : Int) (hv : 0 ≤ v ∧ v ≤ 1048576) (hl : rightB l = true) : 0 ≤ upLo l v ∧ upLo l v ≤ v := by
  have := rightB_yes hl
  unfold upLo
  omega
theorem upHi_bd (l : LimS) (v room : Int) (hv : 0 ≤ v ∧ v ≤ 1048576) (hl : rightB l = true) : upLo l v ≤ upHi l v room ∧ upHi l v room ≤ 1048576 := by
  have := rightB_yes hl
  have := upLo_bd l v hv hl
  have := rch_bd room l.d
  unfold upHi
  omega

end Go.Proofs.Ytgbcefdlmockoaa
