/- Merged: The plain generator: limits, what it may do, a step. No program in sight. The plain generator: bounds; what is wanted to come to a place, or by one. No program in sight. The plain generator: a safe one stays safe. No program in sight. The plain generator: turned round; who goes to a place from a standstill. No program in sight. The plain generator: who goes to a place from a standstill. No program in sight. -/
import Derived.Test.YthhfnageadckkaaGreatPBrake
set_option linter.unusedVariables false
set_option linter.unusedSimpArgs false
namespace Go.Proofs.YthhfnageadckkaaGreat

structure LimS where
 v : Int
 a : Int
 d : Int
 lo : Int
 hi : Int
structure GenS where
 p : Int
 v : Int

def rightB (l : LimS) : Bool := decide (1 ≤ l.v ∧ l.v ≤ 1048576 ∧ 1 ≤ l.a ∧ l.a ≤ 1048576 ∧ 1 ≤ l.d ∧ l.d ≤ 1048576 ∧ -1099511627776 ≤ l.lo ∧ l.lo ≤ l.hi ∧ l.hi ≤ 1099511627776)
theorem rightB_yes {l : LimS} (h : rightB l = true) : 1 ≤ l.v ∧ l.v ≤ 1048576 ∧ 1 ≤ l.a ∧ l.a ≤ 1048576 ∧ 1 ≤ l.d ∧ l.d ≤ 1048576 ∧ -1099511627776 ≤ l.lo ∧ l.lo ≤ l.hi ∧ l.hi ≤ 1099511627776 := of_decide_eq_true h
def safeB (l : LimS) (g : GenS) : Bool := decide (l.lo ≤ g.p ∧ g.p ≤ l.hi ∧ -1048576 ≤ g.v ∧ g.v ≤ 1048576 ∧ (0 ≤ g.v → slw g.v 0 l.d ≤ l.hi - g.p) ∧ (g.v < 0 → slw (-g.v) 0 l.d ≤ g.p - l.lo))
theorem safeB_yes {l : LimS} {g : GenS} (h : safeB l g = true) : l.lo ≤ g.p ∧ g.p ≤ l.hi ∧ -1048576 ≤ g.v ∧ g.v ≤ 1048576 ∧ (0 ≤ g.v → slw g.v 0 l.d ≤ l.hi - g.p) ∧ (g.v < 0 → slw (-g.v) 0 l.d ≤ g.p - l.lo) := of_decide_eq_true h

def upLo (l : LimS) (v : Int) : Int := max 0 (v - l.d)
def upHi (l : LimS) (v room : Int) : Int := max (upLo l v) (min (min (v + l.a) l.v) (rch room l.d))
def mayLo (l : LimS) (g : GenS) : Int := if 0 < g.v then upLo l g.v else if g.v < 0 then -upHi l (-g.v) (g.p - l.lo) else -upHi l 0 (g.p - l.lo)
def mayHi (l : LimS) (g : GenS) : Int := if 0 < g.v then upHi l g.v (l.hi - g.p) else if g.v < 0 then -upLo l (-g.v) else upHi l 0 (l.hi - g.p)
def stepG (l : LimS) (g : GenS) (x : Int) : GenS := let v := max (mayLo l g) (min (mayHi l g) x); ⟨g.p + v, v⟩

theorem upLo_bd (l : LimS) (v : Int) (hv : 0 ≤ v ∧ v ≤ 1048576) (hl : rightB l = true) : 0 ≤ upLo l v ∧ upLo l v ≤ v := by
 have := rightB_yes hl
 unfold upLo
 omega
theorem upHi_bd (l : LimS) (v room : Int) (hv : 0 ≤ v ∧ v ≤ 1048576) (hl : rightB l = true) : upLo l v ≤ upHi l v room ∧ upHi l v room ≤ 1048576 := by
 have := rightB_yes hl
 have := upLo_bd l v hv hl
 have := rch_bd room l.d
 unfold upHi
 omega


theorem may_bd (l : LimS) (g : GenS) (hr : rightB l = true) (hs : safeB l g = true) : -1048576 ≤ mayLo l g ∧ mayLo l g ≤ mayHi l g ∧ mayHi l g ≤ 1048576 := by
 have hy := rightB_yes hr
 have hz := safeB_yes hs
 unfold mayLo mayHi
 by_cases c1 : 0 < g.v
 ·have h1 := upLo_bd l g.v (by omega) hr
  have h2 := upHi_bd l g.v (l.hi - g.p) (by omega) hr
  simp only [c1, if_true]
  omega
 ·by_cases c2 : g.v < 0
  ·have h1 := upLo_bd l (-g.v) (by omega) hr
   have h2 := upHi_bd l (-g.v) (g.p - l.lo) (by omega) hr
   simp only [c1, c2, if_true, if_false]
   omega
  ·have h1 := upLo_bd l 0 (by omega) hr
   have h2 := upHi_bd l 0 (l.hi - g.p) (by omega) hr
   have h3 := upHi_bd l 0 (g.p - l.lo) (by omega) hr
   simp only [c1, c2, if_false]
   omega

def towardI (way v : Int) : Int := if way < 0 then -v else v
def awayB (way v : Int) : Bool := decide (0 < way ∧ v < 0 ∨ way < 0 ∧ 0 < v)
def clampL (l : LimS) (t : Int) : Int := max l.lo (min l.hi t)
def toG (l : LimS) (g : GenS) (t v : Int) : Int :=
 let way := clampL l t - g.p
 if way = 0 then 0 else if awayB way g.v then 0 else towardI way (min (rch (max way (-way)) l.d) (spd v))
def byG (l : LimS) (g : GenS) (t u s v : Int) : Int :=
 let way := clampL l t - g.p
 let fin := clampL l s - g.p
 if way = 0 then 0 else if fin = 0 then 0 else if awayB way fin then 0 else if awayB way g.v then 0 else towardI way (min (pas (max way (-way)) (spd u) l.d) (min (rch (max fin (-fin)) l.d) (spd v)))

theorem clampL_bd (l : LimS) (t : Int) (h : rightB l = true) : l.lo ≤ clampL l t ∧ clampL l t ≤ l.hi := by
 have := rightB_yes h
 unfold clampL
 omega


theorem up_room (l : LimS) (hr : rightB l = true) (v room x : Int) (hv : 0 ≤ v ∧ v ≤ 1048576) (hs : slw v 0 l.d ≤ room) (h0 : 0 ≤ x) (hx : x ≤ upHi l v room) : x + slw x 0 l.d ≤ room := by
 have hy := rightB_yes hr
 have hn := slw_nonneg v 0 l.d (by omega) (by omega)
 have hb := upHi_bd l v room hv hr
 unfold upHi at hx
 by_cases c : x ≤ upLo l v
 ·unfold upLo at c
  by_cases z : v - l.d ≤ 0
  ·have : x = 0 := by omega
   subst this
   rw [slw_le 0 0 l.d (by omega)]
   omega
  ·have h1 := slw_far v 0 l.d (by omega) (by omega)
   have h2 := slw_mono 0 l.d (by omega) (by omega) x (v - l.d) (by omega)
   omega
 ·exact (rch_iff room l.d x (by omega) (by omega) (by omega)).1 (by omega)

theorem up_gain (l : LimS) (hr : rightB l = true) (v room x : Int) (hv : 0 ≤ v ∧ v ≤ 1048576) (h0 : upLo l v ≤ x) (hx : x ≤ upHi l v room) : v - l.d ≤ x ∧ x ≤ v + l.a ∧ 0 ≤ x ∧ (x ≤ l.v ∨ x ≤ max (v - l.d) 0) ∧ x ≤ 1048576 := by
 have hy := rightB_yes hr
 have hb := upHi_bd l v room hv hr
 unfold upHi at hx
 unfold upLo at h0 hx
 omega

theorem step_between (l : LimS) (g : GenS) (x : Int) (hr : rightB l = true) (hs : safeB l g = true) : mayLo l g ≤ (stepG l g x).v ∧ (stepG l g x).v ≤ mayHi l g := by
 have := may_bd l g hr hs
 show mayLo l g ≤ max (mayLo l g) (min (mayHi l g) x) ∧ max (mayLo l g) (min (mayHi l g) x) ≤ mayHi l g
 omega

theorem step_keeps (l : LimS) (g : GenS) (n : GenS) (hr : rightB l = true) (hs : safeB l g = true) (hn : n.p = g.p + n.v) (h1 : mayLo l g ≤ n.v) (h2 : n.v ≤ mayHi l g) :
  safeB l n = true ∧ n.v - g.v ≤ max l.a l.d ∧ -(n.v - g.v) ≤ max l.a l.d ∧ ¬ (n.v < 0 ∧ 0 < g.v) ∧ ¬ (0 < n.v ∧ g.v < 0) ∧ (max n.v (-n.v) ≤ l.v ∨ max n.v (-n.v) ≤ max (max g.v (-g.v) - l.d) 0) := by
 have hy := rightB_yes hr
 have hz := safeB_yes hs
 have mk : (l.lo ≤ n.p ∧ n.p ≤ l.hi ∧ -1048576 ≤ n.v ∧ n.v ≤ 1048576 ∧ (0 ≤ n.v → slw n.v 0 l.d ≤ l.hi - n.p) ∧ (n.v < 0 → slw (-n.v) 0 l.d ≤ n.p - l.lo)) → safeB l n = true := fun h => decide_eq_true h
 unfold mayLo at h1
 unfold mayHi at h2
 by_cases c1 : 0 < g.v
 ·simp only [c1, if_true] at h1 h2
  have hg := up_gain l hr g.v (l.hi - g.p) n.v (by omega) h1 h2
  have ho := up_room l hr g.v (l.hi - g.p) n.v (by omega) (hz.2.2.2.2.1 (by omega)) hg.2.2.1 h2
  have hp := slw_nonneg n.v 0 l.d (by omega) (by omega)
  refine ⟨mk ⟨by omega, by omega, by omega, by omega, fun _ => by omega, fun _ => by omega⟩, by omega, by omega, by omega, by omega, by omega⟩
 ·by_cases c2 : g.v < 0
  ·simp only [c1, c2, if_true, if_false] at h1 h2
   have hg := up_gain l hr (-g.v) (g.p - l.lo) (-n.v) (by omega) (by omega) (by omega)
   have ho := up_room l hr (-g.v) (g.p - l.lo) (-n.v) (by omega) (hz.2.2.2.2.2 c2) hg.2.2.1 (by omega)
   have hp := slw_nonneg (-n.v) 0 l.d (by omega) (by omega)
   refine ⟨mk ⟨by omega, by omega, by omega, by omega, fun h => ?_, fun _ => by omega⟩, by omega, by omega, by omega, by omega, by omega⟩
   have : n.v = 0 := by omega
   rw [this, slw_le 0 0 l.d (by omega)]
   omega
  ·simp only [c1, c2, if_false] at h1 h2
   have hg0 : g.v = 0 := by omega
   have hlo := upLo_bd l 0 (by omega) hr
   by_cases c3 : 0 ≤ n.v
   ·have hg := up_gain l hr 0 (l.hi - g.p) n.v (by omega) (by omega) h2
    have ho := up_room l hr 0 (l.hi - g.p) n.v (by omega) (by rw [slw_le 0 0 l.d (by omega)]; omega) c3 h2
    have hp := slw_nonneg n.v 0 l.d (by omega) (by omega)
    refine ⟨mk ⟨by omega, by omega, by omega, by omega, fun _ => by omega, fun _ => by omega⟩, by omega, by omega, by omega, by omega, by omega⟩
   ·have hg := up_gain l hr 0 (g.p - l.lo) (-n.v) (by omega) (by omega) (by omega)
    have ho := up_room l hr 0 (g.p - l.lo) (-n.v) (by omega) (by rw [slw_le 0 0 l.d (by omega)]; omega) (by omega) (by omega)
    have hp := slw_nonneg (-n.v) 0 l.d (by omega) (by omega)
    refine ⟨mk ⟨by omega, by omega, by omega, by omega, fun _ => by omega, fun _ => by omega⟩, by omega, by omega, by omega, by omega, by omega⟩


def turnL (l : LimS) : LimS := ⟨l.v, l.a, l.d, -l.hi, -l.lo⟩
def turnG (g : GenS) : GenS := ⟨-g.p, -g.v⟩
theorem turnG_turn (g : GenS) : turnG (turnG g) = g := by
 cases g
 simp [turnG]
theorem right_turn (l : LimS) : rightB (turnL l) = rightB l := by
 rw [Bool.eq_iff_iff]
 constructor
 ·intro h
  have h := rightB_yes h
  simp only [turnL] at h
  exact decide_eq_true (by omega)
 ·intro h
  have h := rightB_yes h
  exact decide_eq_true (by simp only [turnL]; omega)
theorem turnL_turn (l : LimS) : turnL (turnL l) = l := by
 cases l
 simp [turnL]
theorem safe_turn_of (l : LimS) (g : GenS) (hr : rightB l = true) (h : safeB l g = true) : safeB (turnL l) (turnG g) = true := by
 have hy := rightB_yes hr
 have hz := safeB_yes h
 refine decide_eq_true ?_
 simp only [turnL, turnG, Int.neg_neg]
 refine ⟨by omega, by omega, by omega, by omega, fun h0 => ?_, fun h0 => ?_⟩
 ·by_cases c : g.v = 0
  ·rw [c, Int.neg_zero, slw_le 0 0 l.d (by omega)]
   omega
  ·have := hz.2.2.2.2.2 (by omega)
   omega
 ·have := hz.2.2.2.2.1 (by omega)
  omega
theorem safe_turn (l : LimS) (g : GenS) (hr : rightB l = true) : safeB (turnL l) (turnG g) = safeB l g := by
 rw [Bool.eq_iff_iff]
 constructor
 ·intro h
  have := safe_turn_of (turnL l) (turnG g) (by rw [right_turn]; exact hr) h
  rwa [turnL_turn, turnG_turn] at this
 ·exact safe_turn_of l g hr
theorem mayLo_turn (l : LimS) (g : GenS) : mayLo (turnL l) (turnG g) = -mayHi l g := by
 unfold mayLo mayHi upHi upLo turnL turnG
 simp only
 by_cases c : 0 < g.v
 ·have c1 : ¬ 0 < -g.v := by omega
  have c2 : -g.v < 0 := by omega
  simp only [c, c1, c2, if_true, if_false, Int.neg_neg]
  rw [show -g.p - -l.hi = l.hi - g.p by omega]
 ·by_cases c3 : g.v < 0
  ·have c1 : 0 < -g.v := by omega
   simp only [c, c1, c3, if_true, if_false, Int.neg_neg]
  ·have c1 : ¬ 0 < -g.v := by omega
   have c2 : ¬ -g.v < 0 := by omega
   simp only [c, c1, c2, c3, if_false]
   rw [show -g.p - -l.hi = l.hi - g.p by omega]
theorem mayHi_turn (l : LimS) (g : GenS) : mayHi (turnL l) (turnG g) = -mayLo l g := by
 unfold mayLo mayHi upHi upLo turnL turnG
 simp only
 by_cases c : 0 < g.v
 ·have c1 : ¬ 0 < -g.v := by omega
  have c2 : -g.v < 0 := by omega
  simp only [c, c1, c2, if_true, if_false, Int.neg_neg]
 ·by_cases c3 : g.v < 0
  ·have c1 : 0 < -g.v := by omega
   simp only [c, c1, c3, if_true, if_false, Int.neg_neg]
   rw [show -l.lo - -g.p = g.p - l.lo by omega]
  ·have c1 : ¬ 0 < -g.v := by omega
   have c2 : ¬ -g.v < 0 := by omega
   simp only [c, c1, c2, c3, if_false, Int.neg_neg]
   rw [show -l.lo - -g.p = g.p - l.lo by omega]
theorem step_turn (l : LimS) (g : GenS) (x : Int) (hr : rightB l = true) (hs : safeB l g = true) : stepG (turnL l) (turnG g) (-x) = turnG (stepG l g x) := by
 have hb := may_bd l g hr hs
 unfold stepG
 simp only [mayLo_turn, mayHi_turn]
 simp only [turnG]
 rw [show max (-mayHi l g) (min (-mayLo l g) (-x)) = -max (mayLo l g) (min (mayHi l g) x) by omega]
 rw [show -g.p + -max (mayLo l g) (min (mayHi l g) x) = -(g.p + max (mayLo l g) (min (mayHi l g) x)) by omega]
def toW (way v d s : Int) : Int := if way = 0 then 0 else if awayB way v then 0 else towardI way (min (rch (max way (-way)) d) (spd s))
theorem toG_way (l : LimS) (g : GenS) (t s : Int) : toG l g t s = toW (clampL l t - g.p) g.v l.d s := rfl
theorem awayB_turn (way v : Int) : awayB (-way) (-v) = awayB way v := by
 rw [Bool.eq_iff_iff]
 simp only [awayB, decide_eq_true_eq]
 omega
theorem towardI_turn (way v : Int) (h : way ≠ 0) : towardI (-way) v = -towardI way v := by
 unfold towardI
 by_cases c : way < 0
 ·rw [if_pos c, if_neg (by omega)]
  omega
 ·rw [if_neg c, if_pos (by omega)]
theorem toW_turn (way v d s : Int) : toW (-way) (-v) d s = -toW way v d s := by
 unfold toW
 by_cases c : way = 0
 ·rw [if_pos c, if_pos (by omega)]
  rfl
 ·rw [if_neg c, if_neg (by omega), awayB_turn, towardI_turn way _ c, show max (-way) (- -way) = max way (-way) by omega]
  split
  ·rfl
  ·rfl
theorem clampL_turn (l : LimS) (t : Int) (hr : rightB l = true) : clampL (turnL l) (-t) = -clampL l t := by
 have hy := rightB_yes hr
 unfold clampL turnL
 simp only
 omega
theorem to_turn (l : LimS) (g : GenS) (t v : Int) (hr : rightB l = true) : toG (turnL l) (turnG g) (-t) v = -toG l g t v := by
 rw [toG_way, toG_way, clampL_turn l t hr, ← toW_turn]
 show toW (-clampL l t - -g.p) (-g.v) l.d v = toW (-(clampL l t - g.p)) (-g.v) l.d v
 rw [show -clampL l t - -g.p = -(clampL l t - g.p) by omega]

end Go.Proofs.YthhfnageadckkaaGreat

namespace Go.Proofs.YthhfnageadckkaaGreat

end Go.Proofs.YthhfnageadckkaaGreat

namespace Go.Proofs.YthhfnageadckkaaGreat

theorem step_safe (l : LimS) (g : GenS) (x : Int) (hr : rightB l = true) (hs : safeB l g = true) : safeB l (stepG l g x) = true :=
 (step_keeps l g (stepG l g x) hr hs rfl (step_between l g x hr hs).1 (step_between l g x hr hs).2).1

end Go.Proofs.YthhfnageadckkaaGreat

namespace Go.Proofs.YthhfnageadckkaaGreat

def cyc (v d : Int) : Int := (v + d - 1) / d
theorem cyc0 (d : Int) (hd : 1 ≤ d) : cyc 0 d = 0 := Int.ediv_eq_zero_of_lt (by omega) (by omega)
theorem cyc1 (v d : Int) (hd : 1 ≤ d) (hv : 0 < v) : cyc v d = cyc (max 0 (v - d)) d + 1 := by
 unfold cyc
 by_cases c : v - d ≤ 0
 ·rw [show max 0 (v - d) = 0 by omega, show (0 + d - 1) / d = 0 from Int.ediv_eq_zero_of_lt (by omega) (by omega), show v + d - 1 = (v - 1) + d from by omega, Int.add_ediv_of_dvd_right (Int.dvd_refl _), Int.ediv_self (by omega), Int.ediv_eq_zero_of_lt (by omega) (by omega)]
 ·rw [show max 0 (v - d) = v - d by omega, show v + d - 1 = (v - d + d - 1) + d from by omega, Int.add_ediv_of_dvd_right (Int.dvd_refl _), Int.ediv_self (by omega)]
theorem cyc_bnd (v d : Int) (hv : 0 ≤ v) (hd : 1 ≤ d) : 0 ≤ cyc v d ∧ cyc v d ≤ v ∧ (0 < v → 0 < cyc v d) := by
 have hq := quo_mul (v + d - 1) d hd (by omega)
 have h1 := Int.ediv_nonneg (a := v + d - 1) (b := d) (by omega) (by omega)
 have hm : d * 1 ≤ d * d := Int.mul_le_mul_of_nonneg_left hd (by omega)
 refine ⟨h1, ?_, ?_⟩
 ·unfold cyc
  by_cases c : (v + d - 1) / d ≤ v
  ·exact c
  ·have h2 : d * (v + 1) ≤ d * ((v + d - 1) / d) := Int.mul_le_mul_of_nonneg_left (by omega) (by omega)
   rw [Int.mul_add] at h2
   have h3 : 1 * v ≤ d * v := Int.mul_le_mul_of_nonneg_right hd hv
   omega
 ·intro h0
  unfold cyc
  have h2 := Int.ediv_le_ediv (c := d) (by omega) (show d ≤ v + d - 1 by omega)
  rw [Int.ediv_self (by omega)] at h2
  omega
theorem slw_step (v d : Int) (hd : 1 ≤ d) (hv : 0 < v) : slw v 0 d = max 0 (v - d) + slw (max 0 (v - d)) 0 d := by
 by_cases c : v - d ≤ 0
 ·rw [show max 0 (v - d) = 0 by omega, slw_near v 0 d hd (by omega), slw_near 0 0 d hd (by omega)]; omega
 ·rw [show max 0 (v - d) = v - d by omega, slw_far v 0 d hd (by omega)]

theorem stop_step (l : LimS) (g : GenS) (hr : rightB l = true) (hs : safeB l g = true) :
  stepG l g 0 = if 0 ≤ g.v then ⟨g.p + max 0 (g.v - l.d), max 0 (g.v - l.d)⟩ else ⟨g.p - max 0 (-g.v - l.d), -max 0 (-g.v - l.d)⟩ := by
 have hy := rightB_yes hr
 have hb := may_bd l g hr hs
 have hz := safeB_yes hs
 unfold stepG
 simp only
 by_cases c1 : 0 < g.v
 ·have h1 : mayLo l g = upLo l g.v := by unfold mayLo; rw [if_pos c1]
  have h2 := upLo_bd l g.v (by omega) hr
  rw [if_pos (by omega), show max (mayLo l g) (min (mayHi l g) 0) = max 0 (g.v - l.d) by rw [h1]; unfold upLo at *; omega]
 ·by_cases c2 : g.v < 0
  ·have h1 : mayHi l g = -upLo l (-g.v) := by unfold mayHi; rw [if_neg c1, if_pos c2]
   have h2 := upLo_bd l (-g.v) (by omega) hr
   rw [if_neg (by omega), show max (mayLo l g) (min (mayHi l g) 0) = -max 0 (-g.v - l.d) by rw [h1] at hb ⊢; unfold upLo at *; omega]
   rfl
  ·have h1 : mayLo l g = -upHi l 0 (g.p - l.lo) := by unfold mayLo; rw [if_neg c1, if_neg c2]
   have h2 : mayHi l g = upHi l 0 (l.hi - g.p) := by unfold mayHi; rw [if_neg c1, if_neg c2]
   have h3 := upHi_bd l 0 (g.p - l.lo) (by omega) hr
   have h4 := upHi_bd l 0 (l.hi - g.p) (by omega) hr
   have h5 := upLo_bd l 0 (by omega) hr
   rw [if_pos (by omega), show max (mayLo l g) (min (mayHi l g) 0) = max 0 (g.v - l.d) by omega]

def wayS (v d : Int) : Int := if v < 0 then -slw (-v) 0 d else slw v 0 d
def ends (l : LimS) (g : GenS) (e c : Int) : Prop := safeB l g = true ∧ g.p + wayS g.v l.d = e ∧ cyc (max g.v (-g.v)) l.d = c

end Go.Proofs.YthhfnageadckkaaGreat

namespace Go.Proofs.YthhfnageadckkaaGreat

theorem toG_up (l : LimS) (g : GenS) (t s : Int) (ht : l.lo ≤ t ∧ t ≤ l.hi) (hv : 0 ≤ g.v) (hp : g.p < t) : toG l g t s = min (rch (t - g.p) l.d) (spd s) := by
 have hcl : clampL l t = t := by unfold clampL; omega
 rw [toG_way, hcl]
 unfold toW
 rw [if_neg (by omega), show awayB (t - g.p) g.v = false from decide_eq_false (by omega)]
 simp only [Bool.false_eq_true, if_false]
 unfold towardI
 rw [if_neg (by omega), show max (t - g.p) (-(t - g.p)) = t - g.p by omega]
theorem toG_back (l : LimS) (g : GenS) (t s : Int) (ht : l.lo ≤ t ∧ t ≤ l.hi) (hv : 0 < g.v) (hp : t ≤ g.p) : toG l g t s = 0 := by
 have hcl : clampL l t = t := by unfold clampL; omega
 rw [toG_way, hcl]
 unfold toW
 by_cases c : t - g.p = 0
 ·rw [if_pos c]
 ·rw [if_neg c, show awayB (t - g.p) g.v = true from decide_eq_true (by omega)]
  simp
theorem toG_here (l : LimS) (g : GenS) (t s : Int) (ht : l.lo ≤ t ∧ t ≤ l.hi) (hp : g.p = t) : toG l g t s = 0 := by
 have hcl : clampL l t = t := by unfold clampL; omega
 rw [toG_way, hcl]
 unfold toW
 rw [if_pos (by omega)]

theorem may_up (l : LimS) (g : GenS) (hr : rightB l = true) (hv : 0 ≤ g.v ∧ g.v ≤ 1048576) :
  mayLo l g ≤ upLo l g.v ∧ (0 < g.v → mayLo l g = upLo l g.v) ∧ mayHi l g = upHi l g.v (l.hi - g.p) := by
 refine ⟨?_, ?_, ?_⟩
 ·unfold mayLo
  by_cases c : 0 < g.v
  ·rw [if_pos c]
   exact Int.le_refl _
  ·rw [if_neg c, if_neg (by omega)]
   have h2 := upLo_bd l 0 (by omega) hr
   have h3 := upHi_bd l 0 (g.p - l.lo) (by omega) hr
   have h4 := upLo_bd l g.v (by omega) hr
   omega
 ·intro c
  unfold mayLo
  rw [if_pos c]
 ·unfold mayHi
  by_cases c : 0 < g.v
  ·rw [if_pos c]
  ·rw [if_neg c, if_neg (by omega), show g.v = 0 by omega]

theorem near_up (l : LimS) (g : GenS) (t s : Int) (hr : rightB l = true) (hs : safeB l g = true) (ht : l.lo ≤ t ∧ t ≤ l.hi) (h1 : 1 ≤ s) (hv : 0 ≤ g.v) (hsl : slw g.v 0 l.d ≤ t - g.p) (hp : g.p < t) :
  ∃ x, stepG l g (toG l g t s) = ⟨g.p + x, x⟩ ∧ 1 ≤ x ∧ x + slw x 0 l.d ≤ t - g.p := by
 have hy := rightB_yes hr
 have hz := safeB_yes hs
 have hto := toG_up l g t s ht hv hp
 have hm := may_up l g hr (by omega)
 have hr1 : 1 ≤ rch (t - g.p) l.d := (rch_iff _ _ 1 (by omega) (by omega) (by omega)).2 (by rw [slw_near 1 0 l.d (by omega) (by omega)]; omega)
 have hr2 : 1 ≤ rch (l.hi - g.p) l.d := (rch_iff _ _ 1 (by omega) (by omega) (by omega)).2 (by rw [slw_near 1 0 l.d (by omega) (by omega)]; omega)
 have hb := rch_bd (t - g.p) l.d
 have hup : upHi l g.v (l.hi - g.p) = max (upLo l g.v) (min (min (g.v + l.a) l.v) (rch (l.hi - g.p) l.d)) := rfl
 have hul : upLo l g.v = max 0 (g.v - l.d) := rfl
 obtain ⟨x, hx⟩ : ∃ x, (stepG l g (toG l g t s)).v = x := ⟨_, rfl⟩
 have hx1 : x = max (mayLo l g) (min (mayHi l g) (min (rch (t - g.p) l.d) (spd s))) := by rw [← hx, ← hto]; rfl
 have hxe : stepG l g (toG l g t s) = ⟨g.p + x, x⟩ := by rw [← hx]; rfl
 have hsp : spd s = min s 1048576 := by unfold spd; omega
 obtain ⟨m1, m2, m3⟩ := hm
 rw [m3, hup] at hx1
 have hx2 : 1 ≤ x := by omega
 have hx3 : x ≤ upLo l g.v ∨ x ≤ rch (t - g.p) l.d := by omega
 refine ⟨x, hxe, hx2, ?_⟩
 rcases hx3 with h | h
 ·have h5 := slw_far g.v 0 l.d (by omega) (by omega)
  have h6 := slw_mono 0 l.d (by omega) (by omega) x (g.v - l.d) (by omega)
  omega
 ·exact (rch_iff _ _ x (by omega) (by omega) (by omega)).1 h

theorem far_up (l : LimS) (g : GenS) (t s : Int) (hr : rightB l = true) (hs : safeB l g = true) (ht : l.lo ≤ t ∧ t ≤ l.hi) (h1 : 1 ≤ s) (hv : 0 < g.v) (hsl : t - g.p < slw g.v 0 l.d) :
  stepG l g (toG l g t s) = ⟨g.p + max 0 (g.v - l.d), max 0 (g.v - l.d)⟩ := by
 have hy := rightB_yes hr
 have hz := safeB_yes hs
 by_cases hp : g.p < t
 ·have hto := toG_up l g t s ht (by omega) hp
  have hm := may_up l g hr (by omega)
  have hd : l.d < g.v := by
   by_cases c : g.v ≤ l.d
   ·rw [slw_near g.v 0 l.d (by omega) (by omega)] at hsl
    omega
   ·omega
  have h5 := slw_far g.v 0 l.d (by omega) (by omega)
  have h6 : rch (t - g.p) l.d < g.v - l.d := by
   by_cases c : rch (t - g.p) l.d < g.v - l.d
   ·exact c
   ·have := (rch_iff (t - g.p) l.d (g.v - l.d) (by omega) (by omega) (by omega)).1 (by omega)
    omega
  have hul : upLo l g.v = max 0 (g.v - l.d) := rfl
  have hub := upHi_bd l g.v (l.hi - g.p) (by omega) hr
  have hx : max (mayLo l g) (min (mayHi l g) (toG l g t s)) = max 0 (g.v - l.d) := by
   rw [hto, hm.2.1 hv, hm.2.2]
   omega
  unfold stepG
  simp only [hx]
 ·rw [toG_back l g t s ht hv (by omega)]
  have := stop_step l g hr hs
  rw [if_pos (by omega)] at this
  exact this

def upN (l : LimS) (g : GenS) (t N : Int) : Prop :=
 0 ≤ g.v ∧ ((slw g.v 0 l.d ≤ t - g.p ∧ t - g.p + 1 ≤ N) ∨ (0 < g.v ∧ t - g.p < slw g.v 0 l.d ∧ cyc g.v l.d + slw g.v 0 l.d - (t - g.p) + 1 ≤ N))
def landed (g : GenS) (t : Int) : Prop := g.p = t ∧ g.v = 0
def landsN (l : LimS) (g : GenS) (t N : Int) : Prop := safeB l g = true ∧ ((landed g t ∧ 0 ≤ N) ∨ upN l g t N ∨ upN (turnL l) (turnG g) (-t) N)

theorem up_step (l : LimS) (g : GenS) (t s N : Int) (hr : rightB l = true) (hs : safeB l g = true) (ht : l.lo ≤ t ∧ t ≤ l.hi) (h1 : 1 ≤ s) (hn : ¬ landed g t) (h : upN l g t N) :
  landsN l (stepG l g (toG l g t s)) t (N - 1) := by
 have hy := rightB_yes hr
 have hz := safeB_yes hs
 refine ⟨step_safe l g _ hr hs, ?_⟩
 obtain ⟨hv, h⟩ := h
 rcases h with ⟨hsl, hN⟩ | ⟨hv0, hsl, hN⟩
 ·by_cases hp : g.p < t
  ·obtain ⟨x, hx, hx1, hx2⟩ := near_up l g t s hr hs ht h1 hv hsl hp
   rw [hx]
   have hnn := slw_nonneg x 0 l.d (by omega) (by omega)
   refine .inr (.inl ⟨by show 0 ≤ x; omega, .inl ⟨by show slw x 0 l.d ≤ t - (g.p + x); omega, by show t - (g.p + x) + 1 ≤ N - 1; omega⟩⟩)
  ·have hnn := slw_nonneg g.v 0 l.d (by omega) (by omega)
   have hpt : g.p = t := by omega
   have hv0 : 0 < g.v := by
    by_cases c : g.v = 0
    ·exact absurd ⟨hpt, c⟩ hn
    ·omega
   have hd : g.v ≤ l.d := by
    by_cases c : g.v ≤ l.d
    ·exact c
    ·have h5 := slw_far g.v 0 l.d (by omega) (by omega)
     have h6 := slw_nonneg (g.v - l.d) 0 l.d (by omega) (by omega)
     omega
   rw [toG_here l g t s ht hpt]
   have h7 := stop_step l g hr hs
   rw [if_pos hv, show max 0 (g.v - l.d) = 0 by omega] at h7
   rw [h7]
   exact .inl ⟨⟨by show g.p + 0 = t; omega, rfl⟩, by omega⟩
 ·rw [far_up l g t s hr hs ht h1 hv0 hsl]
  have h5 := slw_step g.v l.d (by omega) hv0
  have h6 := cyc1 g.v l.d (by omega) hv0
  obtain ⟨x, hx⟩ : ∃ x, max 0 (g.v - l.d) = x := ⟨_, rfl⟩
  rw [hx] at h5 h6 ⊢
  by_cases c : 0 < x
  ·exact .inr (.inl ⟨by show 0 ≤ x; omega, .inr ⟨c, by show t - (g.p + x) < slw x 0 l.d; omega, by show cyc x l.d + slw x 0 l.d - (t - (g.p + x)) + 1 ≤ N - 1; omega⟩⟩)
  ·obtain rfl : x = 0 := by omega
   rw [cyc0 l.d (by omega)] at h6
   rw [slw_near 0 0 l.d (by omega) (by omega)] at h5
   refine .inr (.inr ⟨by show (0 : Int) ≤ -0; omega, .inl ⟨?_, ?_⟩⟩)
   ·show slw (-0) 0 l.d ≤ -t - -(g.p + 0)
    rw [slw_near (-0) 0 l.d (by omega) (by omega)]
    omega
   ·show -t - -(g.p + 0) + 1 ≤ N - 1
    omega

theorem lands_turn (l : LimS) (g : GenS) (t N : Int) (hr : rightB l = true) (h : landsN (turnL l) (turnG g) (-t) N) : landsN l g t N := by
 obtain ⟨hs, h⟩ := h
 rw [safe_turn l g hr] at hs
 refine ⟨hs, ?_⟩
 rcases h with ⟨hl, hN⟩ | h | h
 ·refine .inl ⟨?_, hN⟩
  unfold landed turnG at hl
  unfold landed
  simp only at hl
  omega
 ·exact .inr (.inr h)
 ·rw [turnL_turn, turnG_turn, Int.neg_neg] at h
  exact .inr (.inl h)

theorem lands_step (l : LimS) (g : GenS) (t s N : Int) (p' v' : Int) (hr : rightB l = true) (ht : l.lo ≤ t ∧ t ≤ l.hi) (h1 : 1 ≤ s) (hn : ¬ landed g t) (h : landsN l g t N) (hg : stepG l g (toG l g t s) = ⟨p', v'⟩) :
  landsN l ⟨p', v'⟩ t (N - 1) := by
 obtain ⟨hs, h⟩ := h
 rw [← hg]
 rcases h with ⟨hl, _⟩ | h | h
 ·exact absurd hl hn
 ·exact up_step l g t s N hr hs ht h1 hn h
 ·have hr' : rightB (turnL l) = true := by rw [right_turn]; exact hr
  have hs' : safeB (turnL l) (turnG g) = true := safe_turn_of l g hr hs
  have hn' : ¬ landed (turnG g) (-t) := fun hl => hn (by unfold landed turnG at hl; unfold landed; simp only at hl; omega)
  have hst := up_step (turnL l) (turnG g) (-t) s N hr' hs' (by simp only [turnL]; omega) h1 hn' h
  rw [to_turn l g t s hr, step_turn l g (toG l g t s) hr hs] at hst
  exact lands_turn l _ t (N - 1) hr hst

theorem lands_pos (l : LimS) (g : GenS) (t N : Int) (hr : rightB l = true) (hn : ¬ landed g t) (h : landsN l g t N) : 1 ≤ N := by
 have hy := rightB_yes hr
 obtain ⟨hs, h⟩ := h
 rcases h with ⟨hl, _⟩ | ⟨hv, h⟩ | ⟨hv, h⟩
 ·exact absurd hl hn
 ·have h1 := slw_nonneg g.v 0 l.d (by omega) (by omega)
  have h2 := cyc_bnd g.v l.d hv (by omega)
  omega
 ·have h1 := slw_nonneg (turnG g).v 0 (turnL l).d (by simp only [turnL]; omega) (by omega)
  have h2 := cyc_bnd (turnG g).v (turnL l).d hv (by simp only [turnL]; omega)
  omega

theorem up_start (l : LimS) (g : GenS) (t : Int) (hr : rightB l = true) (hv : 0 < g.v ∨ g.v = 0 ∧ g.p ≤ t) : upN l g t (cyc g.v l.d + slw g.v 0 l.d + max (t - g.p) (g.p - t) + 1) := by
 have hy := rightB_yes hr
 have h1 := slw_nonneg g.v 0 l.d (by omega) (by omega)
 have h2 := cyc_bnd g.v l.d (by omega) (by omega)
 refine ⟨by omega, ?_⟩
 by_cases c : slw g.v 0 l.d ≤ t - g.p
 ·exact .inl ⟨c, by omega⟩
 ·rcases hv with z | ⟨z, z2⟩
  ·exact .inr ⟨z, by omega, by omega⟩
  ·rw [z, slw_near 0 0 l.d (by omega) (by omega)] at c
   omega
theorem lands_start (l : LimS) (g : GenS) (t : Int) (hr : rightB l = true) (hs : safeB l g = true) : landsN l g t (cyc (max g.v (-g.v)) l.d + slw (max g.v (-g.v)) 0 l.d + max (t - g.p) (g.p - t) + 1) := by
 refine ⟨hs, .inr ?_⟩
 by_cases c : 0 < g.v ∨ g.v = 0 ∧ g.p ≤ t
 ·rw [show max g.v (-g.v) = g.v by omega]
  exact .inl (up_start l g t hr c)
 ·have h := up_start (turnL l) (turnG g) (-t) (by rw [right_turn]; exact hr) (by simp only [turnG]; omega)
  simp only [turnL, turnG] at h
  rw [show max g.v (-g.v) = -g.v by omega, show max (t - g.p) (g.p - t) = max (-t - -g.p) (-g.p - -t) by omega]
  exact .inr h
theorem lands_rest (l : LimS) (g : GenS) (t s N : Int) (hr : rightB l = true) (ht : l.lo ≤ t ∧ t ≤ l.hi) (hl : landed g t) (h : landsN l g t N) : stepG l g (toG l g t s) = g := by
 rw [toG_here l g t s ht hl.1]
 have hst := stop_step l g hr h.1
 have hy := rightB_yes hr
 rw [hl.2, if_pos (by omega), show max 0 (0 - l.d) = 0 by omega] at hst
 rw [hst]
 have h2 := hl.2
 cases g
 simp only at h2
 simp [h2]

end Go.Proofs.YthhfnageadckkaaGreat
