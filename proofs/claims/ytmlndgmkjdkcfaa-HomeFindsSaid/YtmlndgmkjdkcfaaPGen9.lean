/- Layer 9: the fixed answers, reckoned. No program in sight. -/
import Derived.Test.YtmlndgmkjdkcfaaPGenB
namespace Go.Proofs.Ytmlndgmkjdkcfaa
set_option linter.unusedVariables false
set_option linter.unusedSimpArgs false

theorem rch_val (s d r : Int) (hs : 0 ≤ s) (hd : 1 ≤ d) (hr : 0 ≤ r ∧ r < 1048576) (h1 : r + slw r 0 d ≤ s) (h2 : s < r + 1 + slw (r + 1) 0 d) : rch s d = r := by
  have e1 := (rch_iff s d r hs hd (by omega)).2 h1
  by_cases c : r < rch s d
  · have e2 := (rch_iff s d (r + 1) hs hd (by omega)).1 (by omega)
    omega
  · omega

def lim9 : LimS := ⟨5, 2, 3, -100, 100⟩
def okB9 (g : GenS) : Bool := rightB lim9 && safeB lim9 g
theorem rch_1_3 : rch 1 3 = 1 := rch_val _ _ _ (by decide) (by decide) (by decide) (by decide) (by decide)
theorem rch_4_3 : rch 4 3 = 3 := rch_val _ _ _ (by decide) (by decide) (by decide) (by decide) (by decide)
theorem rch_9_3 : rch 9 3 = 6 := rch_val _ _ _ (by decide) (by decide) (by decide) (by decide) (by decide)
theorem rch_14_3 : rch 14 3 = 7 := rch_val _ _ _ (by decide) (by decide) (by decide) (by decide) (by decide)
theorem rch_18_3 : rch 18 3 = 9 := rch_val _ _ _ (by decide) (by decide) (by decide) (by decide) (by decide)
theorem rch_20_3 : rch 20 3 = 9 := rch_val _ _ _ (by decide) (by decide) (by decide) (by decide) (by decide)
theorem rch_80_3 : rch 80 3 = 20 := rch_val _ _ _ (by decide) (by decide) (by decide) (by decide) (by decide)
theorem rch_81_3 : rch 81 3 = 20 := rch_val _ _ _ (by decide) (by decide) (by decide) (by decide) (by decide)
theorem rch_84_3 : rch 84 3 = 21 := rch_val _ _ _ (by decide) (by decide) (by decide) (by decide) (by decide)
theorem rch_89_3 : rch 89 3 = 21 := rch_val _ _ _ (by decide) (by decide) (by decide) (by decide) (by decide)
theorem rch_94_3 : rch 94 3 = 22 := rch_val _ _ _ (by decide) (by decide) (by decide) (by decide) (by decide)
theorem rch_98_3 : rch 98 3 = 22 := rch_val _ _ _ (by decide) (by decide) (by decide) (by decide) (by decide)
theorem rch_100_3 : rch 100 3 = 23 := rch_val _ _ _ (by decide) (by decide) (by decide) (by decide) (by decide)
theorem clamp9 : clampL lim9 20 = 20 := by decide
theorem spd9 : spd 9 = 9 := by decide
theorem go9_0 : stepG lim9 ⟨0, 0⟩ (toG lim9 ⟨0, 0⟩ 20 9) = ⟨2, 2⟩ ∧ okB9 ⟨0, 0⟩ = true := by
  constructor
  · simp [stepG, toG, mayLo, mayHi, upLo, upHi, clamp9, awayB, towardI, spd9, show lim9.lo = -100 from rfl, show lim9.hi = 100 from rfl, show lim9.d = 3 from rfl, show lim9.a = 2 from rfl, show lim9.v = 5 from rfl, Int.max_def, Int.min_def, rch_1_3, rch_4_3, rch_9_3, rch_14_3, rch_18_3, rch_20_3, rch_80_3, rch_81_3, rch_84_3, rch_89_3, rch_94_3, rch_98_3, rch_100_3]
  · decide
theorem go9_1 : stepG lim9 ⟨2, 2⟩ (toG lim9 ⟨2, 2⟩ 20 9) = ⟨6, 4⟩ ∧ okB9 ⟨2, 2⟩ = true := by
  constructor
  · simp [stepG, toG, mayLo, mayHi, upLo, upHi, clamp9, awayB, towardI, spd9, show lim9.lo = -100 from rfl, show lim9.hi = 100 from rfl, show lim9.d = 3 from rfl, show lim9.a = 2 from rfl, show lim9.v = 5 from rfl, Int.max_def, Int.min_def, rch_1_3, rch_4_3, rch_9_3, rch_14_3, rch_18_3, rch_20_3, rch_80_3, rch_81_3, rch_84_3, rch_89_3, rch_94_3, rch_98_3, rch_100_3]
  · decide
theorem go9_2 : stepG lim9 ⟨6, 4⟩ (toG lim9 ⟨6, 4⟩ 20 9) = ⟨11, 5⟩ ∧ okB9 ⟨6, 4⟩ = true := by
  constructor
  · simp [stepG, toG, mayLo, mayHi, upLo, upHi, clamp9, awayB, towardI, spd9, show lim9.lo = -100 from rfl, show lim9.hi = 100 from rfl, show lim9.d = 3 from rfl, show lim9.a = 2 from rfl, show lim9.v = 5 from rfl, Int.max_def, Int.min_def, rch_1_3, rch_4_3, rch_9_3, rch_14_3, rch_18_3, rch_20_3, rch_80_3, rch_81_3, rch_84_3, rch_89_3, rch_94_3, rch_98_3, rch_100_3]
  · decide
theorem go9_3 : stepG lim9 ⟨11, 5⟩ (toG lim9 ⟨11, 5⟩ 20 9) = ⟨16, 5⟩ ∧ okB9 ⟨11, 5⟩ = true := by
  constructor
  · simp [stepG, toG, mayLo, mayHi, upLo, upHi, clamp9, awayB, towardI, spd9, show lim9.lo = -100 from rfl, show lim9.hi = 100 from rfl, show lim9.d = 3 from rfl, show lim9.a = 2 from rfl, show lim9.v = 5 from rfl, Int.max_def, Int.min_def, rch_1_3, rch_4_3, rch_9_3, rch_14_3, rch_18_3, rch_20_3, rch_80_3, rch_81_3, rch_84_3, rch_89_3, rch_94_3, rch_98_3, rch_100_3]
  · decide
theorem go9_4 : stepG lim9 ⟨16, 5⟩ (toG lim9 ⟨16, 5⟩ 20 9) = ⟨19, 3⟩ ∧ okB9 ⟨16, 5⟩ = true := by
  constructor
  · simp [stepG, toG, mayLo, mayHi, upLo, upHi, clamp9, awayB, towardI, spd9, show lim9.lo = -100 from rfl, show lim9.hi = 100 from rfl, show lim9.d = 3 from rfl, show lim9.a = 2 from rfl, show lim9.v = 5 from rfl, Int.max_def, Int.min_def, rch_1_3, rch_4_3, rch_9_3, rch_14_3, rch_18_3, rch_20_3, rch_80_3, rch_81_3, rch_84_3, rch_89_3, rch_94_3, rch_98_3, rch_100_3]
  · decide
theorem go9_5 : stepG lim9 ⟨19, 3⟩ (toG lim9 ⟨19, 3⟩ 20 9) = ⟨20, 1⟩ ∧ okB9 ⟨19, 3⟩ = true := by
  constructor
  · simp [stepG, toG, mayLo, mayHi, upLo, upHi, clamp9, awayB, towardI, spd9, show lim9.lo = -100 from rfl, show lim9.hi = 100 from rfl, show lim9.d = 3 from rfl, show lim9.a = 2 from rfl, show lim9.v = 5 from rfl, Int.max_def, Int.min_def, rch_1_3, rch_4_3, rch_9_3, rch_14_3, rch_18_3, rch_20_3, rch_80_3, rch_81_3, rch_84_3, rch_89_3, rch_94_3, rch_98_3, rch_100_3]
  · decide
theorem go9_6 : stepG lim9 ⟨20, 1⟩ (toG lim9 ⟨20, 1⟩ 20 9) = ⟨20, 0⟩ ∧ okB9 ⟨20, 1⟩ = true := by
  constructor
  · simp [stepG, toG, mayLo, mayHi, upLo, upHi, clamp9, awayB, towardI, spd9, show lim9.lo = -100 from rfl, show lim9.hi = 100 from rfl, show lim9.d = 3 from rfl, show lim9.a = 2 from rfl, show lim9.v = 5 from rfl, Int.max_def, Int.min_def, rch_1_3, rch_4_3, rch_9_3, rch_14_3, rch_18_3, rch_20_3, rch_80_3, rch_81_3, rch_84_3, rch_89_3, rch_94_3, rch_98_3, rch_100_3]
  · decide

end Go.Proofs.Ytmlndgmkjdkcfaa
