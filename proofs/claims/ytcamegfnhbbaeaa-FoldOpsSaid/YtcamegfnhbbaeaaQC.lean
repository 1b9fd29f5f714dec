/- Contracts of layer 1: the root. -/
import Derived.Test.YtcamegfnhbbaeaaQB
import Derived.Test.YtcamegfnhbbaeaaPQ
import Derived.Lib.ItoaNum
import Derived.Lib.BitFns
namespace Go.Proofs.Ytcamegfnhbbaeaa
open Go.RowKit
set_option linter.unusedVariables false
set_option linter.unusedSimpArgs false
attribute [local go_sem] ite_max ite_min vite_max vite_min



/-- the first guess is above the root -/
theorem guess_above (n : Int) (L : Nat) (hn : 1 ≤ n ∧ n ≤ 9223372036854775807) (h : Lib.bitLen n.toNat = L) : L ≤ 63 ∧ NotAbove n ((2 ^ ((L + 1) / 2) : Nat) : Int) ∧ 1 ≤ ((2 ^ ((L + 1) / 2) : Nat) : Int) ∧ ((2 ^ ((L + 1) / 2) : Nat) : Int) ≤ 4294967296 := by
  have h63 : L ≤ 63 := by
    rw [← h]
    exact Lib.bitLen_le _ _ (by omega) (by omega)
  have hb : n.toNat < 2 ^ L := by
    have := Lib.bitLenAux_bounds 64 n.toNat (by omega) (by omega)
    have h2 : Lib.bitLenAux 64 n.toNat = L := h
    rw [h2] at this
    exact this.2.2
  refine ⟨h63, notAbove_pow _ _ (Int.natCast_nonneg _) ?_, ?_, ?_⟩
  · have h1 : (2 : Nat) ^ L ≤ 2 ^ ((L + 1) / 2 + (L + 1) / 2) := Nat.pow_le_pow_right (by omega) (by omega)
    rw [Nat.pow_add] at h1
    have h2 : n.toNat ≤ 2 ^ ((L + 1) / 2) * 2 ^ ((L + 1) / 2) := by omega
    have h3 : ((n.toNat : Nat) : Int) ≤ ((2 ^ ((L + 1) / 2) * 2 ^ ((L + 1) / 2) : Nat) : Int) := Int.ofNat_le.2 h2
    rw [Int.natCast_mul, Int.toNat_of_nonneg (by omega)] at h3
    exact h3
  · have := Nat.pow_pos (n := (L + 1) / 2) (show 0 < 2 by omega)
    omega
  · have : (2 : Nat) ^ ((L + 1) / 2) ≤ 2 ^ 32 := Nat.pow_le_pow_right (by omega) (by omega)
    omega

theorem guess_int (n : Int) (L : Nat) (hn : 1 ≤ n ∧ n ≤ 9223372036854775807) (h : Lib.bitLen n.toNat = L) : ∃ X : Int, IntKind.u64.wrap ((2 : Int) ^ ((L + 1) / 2)) = X ∧ L ≤ 63 ∧ NotAbove n X ∧ 1 ≤ X ∧ X ≤ 4294967296 := by
  obtain ⟨h1, h2, h3, h4⟩ := guess_above n L hn h
  refine ⟨_, ?_, h1, h2, h3, h4⟩
  have e : ((2 : Int) ^ ((L + 1) / 2)) = ((2 ^ ((L + 1) / 2) : Nat) : Int) := by rw [Int.natCast_pow]; rfl
  rw [e]
  exact IntWalk.u64_in _ ⟨by omega, by omega⟩





end Go.Proofs.Ytcamegfnhbbaeaa
