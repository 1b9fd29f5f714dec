/- Contracts of layer 1: the root. -/
import Derived.Test.YtgbcefdlmockoaaQB
import Derived.Test.YtgbcefdlmockoaaPQ
import Derived.Lib.ItoaNum
import Derived.Lib.BitFns
namespace Go.Proofs.Ytgbcefdlmockoaa
open Go.RowKit
set_option linter.unusedVariables false
set_option linter.unusedSimpArgs false
attribute [local go_sem] ite_max ite_min vite_max vite_min

theorem len64_at (x : Int) (L : Nat) (w : World) (hx : 0 ≤ x ∧ x ≤ 18446744073709551615) (h : Lib.bitLen x.toNat = L) :
    Calls Try.prog 47 #[.int .u64 x] w fun e w' => e = .returned (.int .i64 (L : Int)) ∧ w = w' := by
  subst h
  exact (Try.bits_Len64 x w hx.1 hx.2).mono fun _ _ ⟨he, hw⟩ => ⟨he, hw.symm⟩

/-- the first guess is above the root -/
theorem guess_above (n : Int) (L : Nat) (hn : 1 ≤ n ∧ n ≤ 9223372036854775807) (h : Lib.bitLen n.toNat = L) : L ≤ 63 ∧ NotAbove n ((2 ^ ((L + 1) / 2) : Nat) : Int) ∧ 1 ≤ ((2 ^ ((L + 1) / 2) : Nat) : Int) ∧ ((2 ^ ((L + 1) / 2) : Nat) : Int) ≤ 4294967296 := by
  have h63 : L ≤ 63 := by
    rw [← h]
    exact Lib.bitLen_le _ _ (by omega) (by omega)
  have hb : n.toNat < 2 ^ L := by
    have := Lib.bitLenAux_bounds 64 n.toNat (by omega) (by omega)
    have h2 : Lib.bitLenAux 64 n.toNat = L := h
    rw [h2] at this
    exact this.2.2
  refine ⟨h63, notAbove_pow _ _ (Int.natCast_nonneg _) ?_, ?_, ?_⟩
  · have h1 : (2 : Nat) ^ L ≤ 2 ^ ((L + 1) / 2 + (L + 1) / 2) := Nat.pow_le_pow_right (by omega) (by omega)
    rw [Nat.pow_add] at h1
    have h2 : n.toNat ≤ 2 ^ ((L + 1) / 2) * 2 ^ ((L + 1) / 2) := by omega
    have h3 : ((n.toNat : Nat) : Int) ≤ ((2 ^ ((L + 1) / 2) * 2 ^ ((L + 1) / 2) : Nat) : Int) := Int.ofNat_le.2 h2
    rw [Int.natCast_mul, Int.toNat_of_nonneg (by omega)] at h3
    exact h3
  · have := Nat.pow_pos (n := (L + 1) / 2) (show 0 < 2 by omega)
    omega
  · have : (2 : Nat) ^ ((L + 1) / 2) ≤ 2 ^ 32 := Nat.pow_le_pow_right (by omega) (by omega)
    omega

theorem guess_int (n : Int) (L : Nat) (hn : 1 ≤ n ∧ n ≤ 9223372036854775807) (h : Lib.bitLen n.toNat = L) : ∃ X : Int, IntKind.u64.wrap ((2 : Int) ^ ((L + 1) / 2)) = X ∧ L ≤ 63 ∧ NotAbove n X ∧ 1 ≤ X ∧ X ≤ 4294967296 := by
  obtain ⟨h1, h2, h3, h4⟩ := guess_above n L hn h
  refine ⟨_, ?_, h1, h2, h3, h4⟩
  have e : ((2 : Int) ^ ((L + 1) / 2)) = ((2 ^ ((L + 1) / 2) : Nat) : Int) := by rw [Int.natCast_pow]; rfl
  rw [e]
  exact IntWalk.u64_in _ ⟨by omega, by omega⟩

set_option maxHeartbeats 1000000 in
theorem qsqrt_low (n : Int) (w : World) (hn : n ≤ 0) : Calls Try.prog 15 #[.int .i64 n] w fun e w' => e = .returned (.int .i64 0) ∧ w = w' := by
  go_enter Try.func15, Try.ntmps15
  go_wp2
  go_ret
  exact ⟨rfl, rfl⟩

set_option maxHeartbeats 2000000 in
theorem qsqrt_yes (n r : Int) (w : World) (hn : 1 ≤ n ∧ n ≤ 9223372036854775807) (hr : IsRoot n r) : Calls Try.prog 15 #[.int .i64 n] w fun e w' => e = .returned (.int .i64 r) ∧ w = w' := by
  obtain ⟨L, hL⟩ : ∃ L, Lib.bitLen n.toNat = L := ⟨_, rfl⟩
  obtain ⟨X, hX, g1, g2, g3, g4⟩ := guess_int n L hn hL
  have HL := Lib.hid hL
  have HG := Lib.hid g2
  have HR := Lib.hid hr
  clear hL g2 hr
  go_enter Try.func15, Try.ntmps15
  go_wp2_with fail
  refine (len64_at _ L _ (by omega) HL.out).mono ?_
  rintro e w1 ⟨rfl, rfl⟩
  go_wp2_with fail
  go_loop [3] (fun u => ∃ x : Int, u = .int .u64 x ∧ Hid (NotAbove n x) ∧ 1 ≤ x ∧ x ≤ 4294967296) (fun u => (intOf u).toNat)
  case atStart => exact ⟨X, by rw [hX], HG, g3, g4⟩
  case round =>
    obtain ⟨x, rfl, HA, h1, h2⟩ := hrel
    have hq : 0 ≤ n / x ∧ n / x ≤ 9223372036854775807 := by
      have a := Int.ediv_nonneg (a := n) (b := x) (by omega) (by omega)
      have b := Int.ediv_le_self (a := n) x (by omega)
      omega
    have hp := newton_pos (by omega) h1 HA.out
    by_cases hy : x ≤ (x + n / x) / 2
    · have hs := Lib.hid (newton_stop (by omega) h1 HA.out HR.out hy)
      clear hX HL HG
      go_wp2
      go_ret
      rw [hs.out]
      exact ⟨rfl, rfl⟩
    · have hnx := newton (by omega) h1 HA.out
      have HN := Lib.hid hnx
      clear hX HL HG hnx
      go_wp2
      go_round
      case rel => exact ⟨_, rfl, HN, by omega, by omega⟩
      case measure => simp [intOf]; omega

end Go.Proofs.Ytgbcefdlmockoaa
