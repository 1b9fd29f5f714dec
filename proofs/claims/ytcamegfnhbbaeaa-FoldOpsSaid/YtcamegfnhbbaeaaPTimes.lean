/- Plain numbers: products of sizes, part by part. No program in sight. -/
import Derived.Test.YtcamegfnhbbaeaaPWide
namespace Go.Proofs.Ytcamegfnhbbaeaa
set_option linter.unusedVariables false
set_option linter.unusedSimpArgs false

theorem shift1 (p : Int) (h : 0 ≤ p ∧ p < 18446744073709551616) : d0 (4294967296 * p) = 0 ∧ d1 (4294967296 * p) = p % 4294967296 ∧ d2 (4294967296 * p) = p / 4294967296 ∧ d3 (4294967296 * p) = 0 := by
  unfold d0 d1 d2 d3
  omega
theorem shift2 (p : Int) (h : 0 ≤ p ∧ p < 18446744073709551616) : d0 (18446744073709551616 * p) = 0 ∧ d1 (18446744073709551616 * p) = 0 ∧ d2 (18446744073709551616 * p) = p % 4294967296 ∧ d3 (18446744073709551616 * p) = p / 4294967296 := by
  unfold d0 d1 d2 d3
  omega
theorem mul_lt64 (x y : Int) (hx : 0 ≤ x ∧ x < 4294967296) (hy : 0 ≤ y ∧ y < 4294967296) : 0 ≤ x * y ∧ x * y ≤ 18446744065119617025 := by
  refine ⟨Int.mul_nonneg hx.1 hy.1, ?_⟩
  have h1 : x * y ≤ 4294967295 * y := Int.mul_le_mul_of_nonneg_right (by omega) hy.1
  have h2 : 4294967295 * y ≤ 4294967295 * 4294967295 := Int.mul_le_mul_of_nonneg_left (by omega) (by omega)
  omega
theorem prod_parts (a0 a1 b0 b1 A C : Int) (hA : A = a0 + 4294967296 * a1) (hC : C = b0 + 4294967296 * b1) : a0 * b0 + 4294967296 * (a0 * b1) + 4294967296 * (a1 * b0) + 18446744073709551616 * (a1 * b1) = A * C := by
  subst hA
  subst hC
  rw [Int.add_mul, Int.mul_add, Int.mul_add, Int.mul_assoc 4294967296 a1 b0, Int.mul_left_comm a0 4294967296 b1, Int.mul_assoc 4294967296 a1 (4294967296 * b1), Int.mul_left_comm a1 4294967296 b1, ← Int.mul_assoc 4294967296 4294967296 (a1 * b1)]
  omega

end Go.Proofs.Ytcamegfnhbbaeaa
