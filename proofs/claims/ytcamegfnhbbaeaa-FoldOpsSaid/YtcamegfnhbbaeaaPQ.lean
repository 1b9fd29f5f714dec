/- Plain numbers: roots; quotients rounded down. No program in sight. -/
namespace Go.Proofs.Ytcamegfnhbbaeaa
set_option linter.unusedVariables false
set_option linter.unusedSimpArgs false

/-- r is the root of n, rounded down -/
def IsRoot (n r : Int) : Prop := 0 ≤ r ∧ r * r ≤ n ∧ n < (r + 1) * (r + 1)
/-- no root is above x -/
def NotAbove (n x : Int) : Prop := ∀ r, 0 ≤ r → r * r ≤ n → r ≤ x

theorem root_below {n r x : Int} (h : IsRoot n r) (hx : 0 ≤ x) (hxx : x * x ≤ n) : x ≤ r := by
  by_cases c : x ≤ r
  · exact c
  · have h1 : (r + 1) * (r + 1) ≤ x * x := Int.mul_le_mul (by omega) (by omega) (by have := h.1; omega) hx
    have := h.2.2
    omega
theorem root_one {n r s : Int} (h : IsRoot n r) (h2 : IsRoot n s) : r = s := by
  have h3 := root_below h h2.1 h2.2.1
  have h4 := root_below h2 h.1 h.2.1
  omega
theorem root_some (n : Int) (hn : 0 ≤ n) : ∃ r, IsRoot n r := by
  obtain ⟨k, rfl⟩ := Int.eq_ofNat_of_zero_le hn
  clear hn
  induction k with
  | zero => exact ⟨0, by unfold IsRoot; omega⟩
  | succ k ih =>
    obtain ⟨r, h0, h1, h2⟩ := ih
    by_cases c : ((k + 1 : Nat) : Int) < (r + 1) * (r + 1)
    · exact ⟨r, h0, by omega, c⟩
    · refine ⟨r + 1, by omega, by omega, ?_⟩
      have : (r + 1 + 1) * (r + 1 + 1) = (r + 1) * (r + 1) + 2 * r + 3 := by
        rw [Int.add_mul (r + 1) 1, Int.mul_add (r + 1) (r + 1) 1, Int.mul_one, Int.one_mul]
        omega
      omega
theorem above_root {n r x : Int} (h : IsRoot n r) (ha : NotAbove n x) : r ≤ x := ha r h.1 h.2.1
/-- a step of Newton's from above -/
theorem newton {n x : Int} (hn : 0 ≤ n) (hx : 1 ≤ x) (h : NotAbove n x) : NotAbove n ((x + n / x) / 2) := by
  intro r hr hrr
  have h1 : (2 * r - x) * x ≤ r * r := by
    have h2 : 0 ≤ (r - x) * (r - x) := by
      by_cases c : 0 ≤ r - x
      · exact Int.mul_nonneg c c
      · have := Int.mul_nonneg (show 0 ≤ -(r - x) by omega) (show 0 ≤ -(r - x) by omega)
        rwa [Int.neg_mul_neg] at this
    rw [Int.sub_mul, Int.mul_sub, Int.mul_sub, Int.mul_comm x r] at h2
    rw [Int.sub_mul, Int.mul_assoc]
    omega
  have h3 : 2 * r - x ≤ n / x := (Int.le_ediv_iff_mul_le (by omega)).2 (by omega)
  omega
theorem newton_stop {n r x : Int} (hn : 0 ≤ n) (hx : 1 ≤ x) (h : NotAbove n x) (hr : IsRoot n r) (hy : x ≤ (x + n / x) / 2) : x = r := by
  have h1 : x ≤ n / x := by omega
  have h2 : x * x ≤ n := (Int.le_ediv_iff_mul_le (by omega)).1 h1
  have h3 := root_below hr (by omega) h2
  have h4 := above_root hr h
  omega
theorem newton_pos {n x : Int} (hn : 1 ≤ n) (hx : 1 ≤ x) (h : NotAbove n x) : 1 ≤ (x + n / x) / 2 := newton (by omega) hx h 1 (by omega) (by omega)
theorem notAbove_pow (n : Int) (x : Int) (hx : 0 ≤ x) (h : n ≤ x * x) : NotAbove n x := by
  intro r hr hrr
  by_cases c : r ≤ x
  · exact c
  · have h1 : (x + 1) * (x + 1) ≤ r * r := Int.mul_le_mul (by omega) (by omega) (by omega) hr
    rw [Int.add_mul, Int.mul_add] at h1
    omega
theorem root_bd {n r : Int} (h : IsRoot n r) (hn : n ≤ 9223372036854775807) : 0 ≤ r ∧ r ≤ 3037000499 := by
  refine ⟨h.1, ?_⟩
  by_cases c : r ≤ 3037000499
  · exact c
  · have : 3037000500 * 3037000500 ≤ r * r := Int.mul_le_mul (by omega) (by omega) (by omega) h.1
    have := h.2.1
    omega

end Go.Proofs.Ytcamegfnhbbaeaa
