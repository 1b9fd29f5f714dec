/- Contracts of layer 1: a product by a number, rounded down; the fixed answers. -/
import Derived.Test.YtcamegfnhbbaeaaQE
namespace Go.Proofs.Ytcamegfnhbbaeaa
open Go.RowKit
set_option linter.unusedVariables false
set_option linter.unusedSimpArgs false
attribute [local go_sem] ite_max ite_min vite_max vite_min ext_cell ext_frozen



/-- the error of a product by a number: 3 by nothing, 1 by less than nothing, 2 if it has no room -/
def mdE (a b c : Int) : Int := if c = 0 then 3 else if c < 0 then 1 else if fitB (a * b / c) = true then 0 else 2
def mdV (a b c : Int) : Int := if mdE a b c = 0 then a * b / c else 0

theorem neg_quo (M c : Int) (hc : 0 < c) : (-M) / c = if M % c = 0 then -(M / c) else -(M / c) - 1 := by
  have h1 := Int.mul_ediv_add_emod M c
  have h2 := Int.emod_nonneg M (show c ≠ 0 by omega)
  have h3 := Int.emod_lt_of_pos M hc
  generalize M / c = n at *
  generalize M % c = r at *
  have h4 : c * n = n * c := Int.mul_comm c n
  by_cases h : r = 0
  · rw [if_pos h, show -M = 0 + (-n) * c by rw [Int.neg_mul]; omega, Int.add_mul_ediv_right _ _ (by omega)]
    simp
  · rw [if_neg h, show -M = (c - r) + (-n - 1) * c by rw [Int.sub_mul, Int.neg_mul]; omega, Int.add_mul_ediv_right _ _ (by omega), Int.ediv_eq_zero_of_lt (by omega) (by omega)]
    omega





end Go.Proofs.Ytcamegfnhbbaeaa
