/- Plain numbers: a quotient, bit by bit. No program in sight. -/
import Derived.Test.YtcamegfnhbbaeaaPTimes
namespace Go.Proofs.Ytcamegfnhbbaeaa
set_option linter.unusedVariables false
set_option linter.unusedSimpArgs false

/-- a number without its last k bits -/
def tpN (A : Int) (k : Nat) : Int := A / ((2 ^ k : Nat) : Int)
theorem tpN_zero (A : Int) : tpN A 0 = A := by simp [tpN]
theorem tpN_bd (A : Int) (k : Nat) (h : 0 ≤ A) : 0 ≤ tpN A k ∧ tpN A k ≤ A := by
  unfold tpN
  have h2 : (0 : Int) < ((2 ^ k : Nat) : Int) := by
    have := Nat.two_pow_pos k
    omega
  exact ⟨Int.ediv_nonneg h (by omega), Int.ediv_le_self _ h⟩
theorem tpN_top (A : Int) (h : 0 ≤ A ∧ A < 340282366920938463463374607431768211456) : tpN A 128 = 0 := by
  unfold tpN
  rw [show ((2 ^ 128 : Nat) : Int) = 340282366920938463463374607431768211456 by decide]
  omega
theorem tpN_succ (A : Int) (k : Nat) : tpN A (k + 1) = tpN A k / 2 := by
  unfold tpN
  rw [Nat.pow_succ, Int.natCast_mul, Int.ediv_ediv_of_nonneg (Int.natCast_nonneg _)]
  rfl
/-- the bit that comes up -/
def btN (A : Int) (k : Nat) : Int := tpN A k % 2
theorem tpN_bit (A : Int) (k : Nat) : tpN A k = 2 * tpN A (k + 1) + btN A k := by
  rw [tpN_succ]
  unfold btN
  omega
theorem btN_bd (A : Int) (k : Nat) : btN A k = 0 ∨ btN A k = 1 := by
  unfold btN
  omega

/-- part j of a size -/
def prt (j : Nat) (v : Int) : Int := v / ((2 ^ (32 * j) : Nat) : Int) % 4294967296
theorem prt_0 (v : Int) : prt 0 v = d0 v := by unfold prt d0; rw [show ((2 ^ (32 * 0) : Nat) : Int) = 1 by decide, Int.ediv_one]
theorem prt_1 (v : Int) : prt 1 v = d1 v := by unfold prt d1; rw [show ((2 ^ (32 * 1) : Nat) : Int) = 4294967296 by decide]
theorem prt_2 (v : Int) : prt 2 v = d2 v := by unfold prt d2; rw [show ((2 ^ (32 * 2) : Nat) : Int) = 18446744073709551616 by decide]
theorem prt_3 (v : Int) : prt 3 v = d3 v := by unfold prt d3; rw [show ((2 ^ (32 * 3) : Nat) : Int) = 79228162514264337593543950336 by decide]

theorem prt_bit (A : Int) (j s : Nat) (hA : 0 ≤ A) (hs : s < 32) : prt j A / ((2 ^ s : Nat) : Int) % 2 = btN A (32 * j + s) := by
  obtain ⟨a, rfl⟩ := Int.eq_ofNat_of_zero_le hA
  unfold prt btN tpN
  have h1 : ((a : Int) / ((2 ^ (32 * j) : Nat) : Int) % 4294967296 / ((2 ^ s : Nat) : Int) % 2) = ((a / 2 ^ (32 * j) % 2 ^ 32 / 2 ^ s % 2 : Nat) : Int) := by
    simp only [Int.natCast_emod, Int.natCast_ediv]
    rfl
  have h2 : ((a : Int) / ((2 ^ (32 * j + s) : Nat) : Int) % 2) = ((a / 2 ^ (32 * j + s) % 2 : Nat) : Int) := by
    simp only [Int.natCast_emod, Int.natCast_ediv]
    rfl
  rw [h1, h2]
  congr 1
  have e1 := Nat.testBit_mod_two_pow (a / 2 ^ (32 * j)) 32 s
  rw [Nat.testBit_div_two_pow] at e1
  rw [Nat.testBit_eq_decide_div_mod_eq, Nat.testBit_eq_decide_div_mod_eq, decide_eq_true hs, Bool.true_and, Bool.eq_iff_iff, decide_eq_true_eq, decide_eq_true_eq] at e1
  have c1 := Nat.mod_two_eq_zero_or_one (a / 2 ^ (32 * j) % 2 ^ 32 / 2 ^ s)
  have c2 := Nat.mod_two_eq_zero_or_one (a / 2 ^ (32 * j + s))
  rw [show s + 32 * j = 32 * j + s by omega] at e1
  rcases c1 with c1 | c1 <;> rcases c2 with c2 | c2 <;> rw [c1, c2] <;> rw [c1, c2] at e1 <;> simp at e1

/-- what stands behind a bit: the rest, the quotient -/
def rsN (A D : Int) (k : Nat) : Int := tpN A k % D
def qtN (A D : Int) (k : Nat) : Int := tpN A k / D
theorem rsN_bd (A D : Int) (k : Nat) (hD : 1 ≤ D) : 0 ≤ rsN A D k ∧ rsN A D k < D := ⟨Int.emod_nonneg _ (by omega), Int.emod_lt_of_pos _ (by omega)⟩
theorem qtN_bd (A D : Int) (k : Nat) (hA : 0 ≤ A) (hD : 1 ≤ D) : 0 ≤ qtN A D k ∧ qtN A D k ≤ A := by
  have h := tpN_bd A k hA
  have h1 : 0 ≤ tpN A k / D := Int.ediv_nonneg (by omega) (by omega)
  have h2 := Int.ediv_le_self (a := tpN A k) D (by omega)
  unfold qtN
  omega
theorem by_step (A D : Int) (k : Nat) (hA : 0 ≤ A) (hD : 1 ≤ D) :
    (D ≤ rsN A D (k + 1) + rsN A D (k + 1) + btN A k → rsN A D k = rsN A D (k + 1) + rsN A D (k + 1) + btN A k - D ∧ qtN A D k = qtN A D (k + 1) + qtN A D (k + 1) + 1) ∧
    (rsN A D (k + 1) + rsN A D (k + 1) + btN A k < D → rsN A D k = rsN A D (k + 1) + rsN A D (k + 1) + btN A k ∧ qtN A D k = qtN A D (k + 1) + qtN A D (k + 1)) := by
  have hb := btN_bd A k
  have ht := tpN_bit A k
  have hr := rsN_bd A D (k + 1) hD
  have hm := Int.mul_ediv_add_emod (tpN A (k + 1)) D
  have h0 := tpN_bd A (k + 1) hA
  unfold rsN qtN at *
  generalize tpN A (k + 1) / D = Q at *
  generalize tpN A (k + 1) % D = R at *
  generalize btN A k = b at *
  have key : tpN A k = D * Q + D * Q + (R + R + b) := by omega
  have e1 : D * (Q + Q) = D * Q + D * Q := Int.mul_add _ _ _
  have e2 : D * (Q + Q + 1) = D * Q + D * Q + D := by rw [Int.mul_add, e1, Int.mul_one]
  constructor
  · intro h
    have := (Int.ediv_emod_unique (a := tpN A k) (b := D) (r := R + R + b - D) (q := Q + Q + 1) (by omega)).2 ⟨by omega, by omega, by omega⟩
    exact ⟨this.2, this.1⟩
  · intro h
    have := (Int.ediv_emod_unique (a := tpN A k) (b := D) (r := R + R + b) (q := Q + Q) (by omega)).2 ⟨by omega, by omega, by omega⟩
    exact ⟨this.2, this.1⟩
theorem dbl_parts (v : Int) (h : 0 ≤ v ∧ v < 170141183460469231731687303715884105728) : d0 (v + v + 1) = d0 (v + v) + 1 ∧ d1 (v + v + 1) = d1 (v + v) ∧ d2 (v + v + 1) = d2 (v + v) ∧ d3 (v + v + 1) = d3 (v + v) ∧ 0 ≤ d0 (v + v) ∧ d0 (v + v) ≤ 4294967294 := by
  unfold d0 d1 d2 d3
  omega
theorem qt_dbl (A D : Int) (k : Nat) (hA : 0 ≤ A) (hD : 1 ≤ D) : qtN A D (k + 1) + qtN A D (k + 1) ≤ A := by
  have h := by_step A D k hA hD
  have h2 := qtN_bd A D k hA hD
  by_cases c : D ≤ rsN A D (k + 1) + rsN A D (k + 1) + btN A k
  · have := h.1 c; omega
  · have := h.2 (by omega); omega

end Go.Proofs.Ytcamegfnhbbaeaa
