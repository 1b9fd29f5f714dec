/- The plain table of an axis' states. No program in sight. -/
namespace Go.Proofs.Ytddakmlnkffgiaa

/-- where the state s leads, if e happens; 9: nowhere -/
def stT : Int → Int → Int
  | 0, 1 => 1 | 0, 11 => 7
  | 1, 2 => 0 | 1, 3 => 2 | 1, 5 => 4 | 1, 6 => 5 | 1, 7 => 6 | 1, 8 => 3 | 1, 11 => 7
  | 2, 2 => 0 | 2, 4 => 1 | 2, 8 => 3 | 2, 11 => 7
  | 3, 2 => 0 | 3, 9 => 1 | 3, 11 => 7
  | 4, 2 => 0 | 4, 5 => 4 | 4, 6 => 5 | 4, 7 => 6 | 4, 8 => 3 | 4, 10 => 1 | 4, 11 => 7
  | 5, 2 => 0 | 5, 5 => 4 | 5, 6 => 5 | 5, 7 => 6 | 5, 8 => 3 | 5, 10 => 1 | 5, 11 => 7
  | 6, 2 => 0 | 6, 5 => 4 | 6, 6 => 5 | 6, 7 => 6 | 6, 8 => 3 | 6, 10 => 1 | 6, 11 => 7
  | 7, 2 => 0 | 7, 11 => 7 | 7, 12 => 1
  | _, _ => 9
/-- is there such a state, and such a thing that happens? -/
def stIn (s e : Int) : Bool := decide (0 ≤ s) && decide (s ≤ 7) && decide (1 ≤ e) && decide (e ≤ 12)
def stV (s e : Int) : Int := if stIn s e then (if stT s e = 9 then s else stT s e) else s
def stB (s e : Int) : Bool := stIn s e && (stT s e != 9)

theorem stIn_no (s e : Int) (h : s < 0 ∨ 7 < s ∨ e < 1 ∨ 12 < e) : stIn s e = false := by
  cases h' : stIn s e
  · rfl
  · simp only [stIn, Bool.and_eq_true, decide_eq_true_eq] at h'; omega
theorem stV_no (s e : Int) (h : s < 0 ∨ 7 < s ∨ e < 1 ∨ 12 < e) : stV s e = s := by simp [stV, stIn_no s e h]
theorem stB_no (s e : Int) (h : s < 0 ∨ 7 < s ∨ e < 1 ∨ 12 < e) : stB s e = false := by simp [stB, stIn_no s e h]

def movesB (s : Int) : Bool := (s == 2) || (s == 4) || (s == 5) || (s == 6)
def takesB (s : Int) : Bool := (s == 1) || (s == 4) || (s == 5) || (s == 6)

/-- all states and all things that happen, one by one -/
theorem st_all (P : Int → Int → Prop) (h : ∀ (s e : Nat), s ≤ 7 → 1 ≤ e → e ≤ 12 → P s e) (s e : Int) (hs : 0 ≤ s ∧ s ≤ 7) (he : 1 ≤ e ∧ e ≤ 12) : P s e := by
  have := h s.toNat e.toNat (by omega) (by omega) (by omega)
  rwa [Int.toNat_of_nonneg hs.1, Int.toNat_of_nonneg (by omega)] at this

end Go.Proofs.Ytddakmlnkffgiaa
