/- Merged: Contracts of layer 1: the division of 128 bits by 64. Contracts of layer 1: the division of 128 bits by 64, of a number that has a high part. Contracts of layer 1: a product by a number, rounded down; the fixed answers. Layer 1: the fixed answers; contracts by equations. -/
import Derived.Test.YtcamegfnhbbaeaaM03
import Derived.Test.YtcamegfnhbbaeaaM02
import Derived.Test.YtcamegfnhbbaeaaM00
namespace Go.Proofs.Ytcamegfnhbbaeaa
open Go.RowKit
set_option linter.unusedVariables false
set_option linter.unusedSimpArgs false
attribute [local go_sem] ite_max ite_min vite_max vite_min ext_cell ext_frozen





theorem or_parts (h s t : Int) (S : Nat) (hS : h = s * ((2 ^ S : Nat) : Int)) (hs : 0 ≤ s) (ht : 0 ≤ t) (hlt : t < ((2 ^ S : Nat) : Int)) (hb : h + t < 18446744073709551616) : bits .or .u64 h t = h + t := by
  obtain ⟨a, rfl⟩ := Int.eq_ofNat_of_zero_le hs
  obtain ⟨b, rfl⟩ := Int.eq_ofNat_of_zero_le ht
  have hlt' : b < 2 ^ S := Int.ofNat_lt.1 hlt
  rw [hS, ← Int.natCast_mul] at hb ⊢
  have hb' : a * 2 ^ S + b < 18446744073709551616 := by omega
  rw [bits_or_u64_nat (a * 2 ^ S) b (by omega) (by omega)]
  have h3 : a * 2 ^ S ||| b = a * 2 ^ S + b := by
    have := Nat.shiftLeft_add_eq_or_of_lt hlt' a
    rw [Nat.shiftLeft_eq] at this
    exact this.symm
  rw [h3]
  omega
theorem mask32 (x : Int) (h : 0 ≤ x ∧ x < 18446744073709551616) : bits .and .u64 x 4294967295 = x % 4294967296 := by
  obtain ⟨a, rfl⟩ := Int.eq_ofNat_of_zero_le h.1
  rw [Mul64.maskN a (by omega)]
  omega

theorem lz_bounds (y s : Int) (hy : 1 ≤ y ∧ y ≤ 18446744073709551615) (h : 64 - (Lib.bitLen y.toNat : Int) = s) :
    0 ≤ s ∧ s ≤ 63 ∧ ∃ S T : Int, (2 : Int) ^ s.toNat = S ∧ (2 : Int) ^ (64 - s).toNat = T ∧ S = ((2 ^ s.toNat : Nat) : Int) ∧ 1 ≤ S ∧ T * S = 18446744073709551616 ∧ 9223372036854775808 ≤ y * S ∧ y * S < 18446744073709551616 := by
  obtain ⟨L, hL⟩ : ∃ L, Lib.bitLen y.toNat = L := ⟨_, rfl⟩
  rw [hL] at h
  have hb := Lib.bitLenAux_bounds 64 y.toNat (by omega) (by omega)
  have h2 : Lib.bitLenAux 64 y.toNat = L := hL
  rw [h2] at hb
  have h64 : L ≤ 64 := by
    rw [← hL]
    exact Lib.bitLen_le _ _ (by omega) (by omega)
  obtain ⟨b1, b2, b3⟩ := hb
  have es : s.toNat = 64 - L := by omega
  have et : (64 - s).toNat = L := by omega
  refine ⟨by omega, by omega, _, _, rfl, rfl, ?_, ?_, ?_, ?_, ?_⟩
  · rw [Int.natCast_pow]
    rfl
  · have h0 : (0 : Int) < 2 ^ s.toNat := Int.pow_pos (by decide)
    omega
  · rw [es, et, ← Int.pow_add, show L + (64 - L) = 64 by omega]
    rfl
  · have h3 : (9223372036854775808 : Nat) ≤ y.toNat * 2 ^ (64 - L) := by
      have : 2 ^ (L - 1) * 2 ^ (64 - L) ≤ y.toNat * 2 ^ (64 - L) := Nat.mul_le_mul_right _ b2
      rw [← Nat.pow_add, show L - 1 + (64 - L) = 63 by omega] at this
      exact this
    have h4 : ((y.toNat * 2 ^ (64 - L) : Nat) : Int) = y * 2 ^ s.toNat := by
      rw [Int.natCast_mul, Int.natCast_pow, Int.toNat_of_nonneg (by omega), es]
      rfl
    rw [← h4]
    omega
  · have h3 : y.toNat * 2 ^ (64 - L) < 18446744073709551616 := by
      have : y.toNat * 2 ^ (64 - L) < 2 ^ L * 2 ^ (64 - L) := (Nat.mul_lt_mul_right (Nat.pow_pos (by omega))).2 b3
      rw [← Nat.pow_add, show L + (64 - L) = 64 by omega] at this
      exact this
    have h4 : ((y.toNat * 2 ^ (64 - L) : Nat) : Int) = y * 2 ^ s.toNat := by
      rw [Int.natCast_mul, Int.natCast_pow, Int.toNat_of_nonneg (by omega), es]
      rfl
    rw [← h4]
    omega

end Go.Proofs.Ytcamegfnhbbaeaa

namespace Go.Proofs.Ytcamegfnhbbaeaa
open Go.RowKit
set_option linter.unusedVariables false
set_option linter.unusedSimpArgs false
attribute [local go_sem] ite_max ite_min vite_max vite_min ext_cell ext_frozen



end Go.Proofs.Ytcamegfnhbbaeaa

namespace Go.Proofs.Ytcamegfnhbbaeaa
open Go.RowKit
set_option linter.unusedVariables false
set_option linter.unusedSimpArgs false
attribute [local go_sem] ite_max ite_min vite_max vite_min ext_cell ext_frozen



/-- the error of a product by a number: 3 by nothing, 1 by less than nothing, 2 if it has no room -/
def mdE (a b c : Int) : Int := if c = 0 then 3 else if c < 0 then 1 else if fitB (a * b / c) = true then 0 else 2
def mdV (a b c : Int) : Int := if mdE a b c = 0 then a * b / c else 0

theorem neg_quo (M c : Int) (hc : 0 < c) : (-M) / c = if M % c = 0 then -(M / c) else -(M / c) - 1 := by
  have h1 := Int.mul_ediv_add_emod M c
  have h2 := Int.emod_nonneg M (show c ≠ 0 by omega)
  have h3 := Int.emod_lt_of_pos M hc
  generalize M / c = n at *
  generalize M % c = r at *
  have h4 : c * n = n * c := Int.mul_comm c n
  by_cases h : r = 0
  · rw [if_pos h, show -M = 0 + (-n) * c by rw [Int.neg_mul]; omega, Int.add_mul_ediv_right _ _ (by omega)]
    simp
  · rw [if_neg h, show -M = (c - r) + (-n - 1) * c by rw [Int.sub_mul, Int.neg_mul]; omega, Int.add_mul_ediv_right _ _ (by omega), Int.ediv_eq_zero_of_lt (by omega) (by omega)]
    omega





end Go.Proofs.Ytcamegfnhbbaeaa

namespace Go.Proofs.Ytcamegfnhbbaeaa
open Go.ChangeShapes Go.WideShapes Go.ChangeAt Go.RowKit
set_option linter.unusedVariables false
set_option linter.unusedSimpArgs false
attribute [local go_sem] ite_max ite_min vite_max vite_min ext_cell ext_frozen





end Go.Proofs.Ytcamegfnhbbaeaa
