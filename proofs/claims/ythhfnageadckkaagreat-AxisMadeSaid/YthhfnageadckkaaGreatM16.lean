/- Merged: Contracts of layer 1: sums, differences, quotients, rests, sizes and signs, clamped numbers. Contracts of layer 1: products, quotients, rests, clamped numbers. Plain numbers: roots; quotients rounded down. No program in sight. Contracts of layer 1: the root. The plain arithmetic of a division of 128 bits by 64, digit by digit of 32 bits. No program in sight. Contracts of layer 1: the division of 128 bits by 64. Contracts of layer 1: the division of 128 bits by 64, of a number that has a high part. -/
import Derived.Test.YthhfnageadckkaaGreatM01
import Derived.Test.YthhfnageadckkaaGreatShelf
import Derived.Lib.ItoaNum
import Derived.Lib.BitFns
import Derived.Test.YthhfnageadckkaaGreatM04
set_option linter.unusedVariables false
set_option linter.unusedSimpArgs false
set_option maxHeartbeats 4000000
namespace Go.Proofs.YthhfnageadckkaaGreat
open Go.RowKit
attribute [local go_sem] ite_max ite_min vite_max vite_min

def fitB (x : Int) : Bool := decide (-9223372036854775808 ≤ x ∧ x ≤ 9223372036854775807)
def fitV (x : Int) : Int := if fitB x = true then x else 0
theorem fitB_yes {x : Int} (h : -9223372036854775808 ≤ x ∧ x ≤ 9223372036854775807) : fitB x = true := decide_eq_true h
theorem fitB_no {x : Int} (h : ¬ (-9223372036854775808 ≤ x ∧ x ≤ 9223372036854775807)) : fitB x = false := decide_eq_false h
theorem fitV_yes {x : Int} (h : -9223372036854775808 ≤ x ∧ x ≤ 9223372036854775807) : fitV x = x := by unfold fitV; rw [fitB_yes h]; rfl
theorem fitV_no {x : Int} (h : ¬ (-9223372036854775808 ≤ x ∧ x ≤ 9223372036854775807)) : fitV x = 0 := by unfold fitV; rw [fitB_no h]; rfl

theorem qadd_any (a b : Int) (w : World) (ha : -9223372036854775808 ≤ a ∧ a ≤ 9223372036854775807) (hb : -9223372036854775808 ≤ b ∧ b ≤ 9223372036854775807) :
  Calls Tryz.prog 110 #[.int .i64 a, .int .i64 b] w fun e w' => e = .returned (.tuple #[.int .i64 (fitV (a + b)), .bool (fitB (a + b))]) ∧ w = w' := by
 by_cases hf : -9223372036854775808 ≤ a + b ∧ a + b ≤ 9223372036854775807
 ·rw [fitV_yes hf, fitB_yes hf]
  cases a0 : decide (0 ≤ a)
  all_goals cases b0 : decide (0 ≤ b)
  all_goals have a1 := a0
  all_goals have b1 := b0
  all_goals simp at a1 b1
  all_goals cases c0 : decide (0 ≤ a + b)
  all_goals have c1 := c0
  all_goals simp at c1
  all_goals first
   | (exfalso; omega)
   | skip
  all_goals
   go_enter Tryz.func110, Tryz.ntmps110
   go_wp2
   go_ret2
   exact ⟨rfl, rfl⟩
 ·rw [fitV_no hf, fitB_no hf]
  obtain ⟨s, hs⟩ : ∃ s, IntKind.i64.wrap (a + b) = s := ⟨_, rfl⟩
  have h2 : (0 ≤ a ∧ 0 ≤ b ∧ s < 0) ∨ (a < 0 ∧ b < 0 ∧ 0 ≤ s) := by
   rw [← hs, IntKind.wrap_i64]
   omega
  clear hf
  rcases h2 with ⟨a0, b0, h3⟩ | ⟨a0, b0, h3⟩
  all_goals
   obtain ⟨A, a1⟩ : ∃ A, decide (0 ≤ a) = A := ⟨_, rfl⟩
   obtain ⟨B, b1⟩ : ∃ B, decide (0 ≤ b) = B := ⟨_, rfl⟩
   obtain ⟨S, s1⟩ : ∃ S, decide (0 ≤ s) = S := ⟨_, rfl⟩
   have a2 := a1
   have b2 := b1
   have s2 := s1
   first
    | rw [decide_eq_true a0] at a2
    | rw [decide_eq_false (by omega)] at a2
   first
    | rw [decide_eq_true b0] at b2
    | rw [decide_eq_false (by omega)] at b2
   first
    | rw [decide_eq_true h3] at s2
    | rw [decide_eq_false (by omega)] at s2
   subst a2
   subst b2
   subst s2
   go_enter Tryz.func110, Tryz.ntmps110
   go_wp2
   go_ret2
   exact ⟨rfl, rfl⟩

theorem qsub_any (a b : Int) (w : World) (ha : -9223372036854775808 ≤ a ∧ a ≤ 9223372036854775807) (hb : -9223372036854775808 ≤ b ∧ b ≤ 9223372036854775807) :
  Calls Tryz.prog 87 #[.int .i64 a, .int .i64 b] w fun e w' => e = .returned (.tuple #[.int .i64 (fitV (a - b)), .bool (fitB (a - b))]) ∧ w = w' := by
 by_cases hf : -9223372036854775808 ≤ a - b ∧ a - b ≤ 9223372036854775807
 ·rw [fitV_yes hf, fitB_yes hf]
  cases a0 : decide (0 ≤ a)
  all_goals cases b0 : decide (0 ≤ b)
  all_goals have a1 := a0
  all_goals have b1 := b0
  all_goals simp at a1 b1
  all_goals cases c0 : decide (0 ≤ a - b)
  all_goals have c1 := c0
  all_goals simp at c1
  all_goals first
   | (exfalso; omega)
   | skip
  all_goals
   go_enter Tryz.func87, Tryz.ntmps87
   go_wp2
   go_ret2
   exact ⟨rfl, rfl⟩
 ·rw [fitV_no hf, fitB_no hf]
  obtain ⟨s, hs⟩ : ∃ s, IntKind.i64.wrap (a - b) = s := ⟨_, rfl⟩
  have h2 : (0 ≤ a ∧ b < 0 ∧ s < 0) ∨ (a < 0 ∧ 0 ≤ b ∧ 0 ≤ s) := by
   rw [← hs, IntKind.wrap_i64]
   omega
  clear hf
  rcases h2 with ⟨a0, b0, h3⟩ | ⟨a0, b0, h3⟩
  all_goals
   obtain ⟨A, a1⟩ : ∃ A, decide (0 ≤ a) = A := ⟨_, rfl⟩
   obtain ⟨B, b1⟩ : ∃ B, decide (0 ≤ b) = B := ⟨_, rfl⟩
   obtain ⟨S, s1⟩ : ∃ S, decide (0 ≤ s) = S := ⟨_, rfl⟩
   have a2 := a1
   have b2 := b1
   have s2 := s1
   first
    | rw [decide_eq_true a0] at a2
    | rw [decide_eq_false (by omega)] at a2
   first
    | rw [decide_eq_true b0] at b2
    | rw [decide_eq_false (by omega)] at b2
   first
    | rw [decide_eq_true h3] at s2
    | rw [decide_eq_false (by omega)] at s2
   subst a2
   subst b2
   subst s2
   go_enter Tryz.func87, Tryz.ntmps87
   go_wp2
   go_ret2
   exact ⟨rfl, rfl⟩

theorem qsize_any (a : Int) (w : World) (ha : -9223372036854775808 ≤ a ∧ a ≤ 9223372036854775807) :
  Calls Tryz.prog 131 #[.int .i64 a] w fun e w' => e = .returned (.int .u64 (max a (-a))) ∧ w = w' := by
 by_cases h : 0 ≤ a
 ·rw [show max a (-a) = a by omega]
  go_enter Tryz.func131, Tryz.ntmps131
  go_wp2
  go_ret
  exact ⟨rfl, rfl⟩
 ·rw [show max a (-a) = -a by omega]
  obtain ⟨t, ht⟩ : ∃ t, IntKind.u64.wrap a = t := ⟨_, rfl⟩
  have h2 : IntKind.u64.wrap (-t) = -a := by
   rw [← ht, IntKind.wrap_u64, IntKind.wrap_u64]
   omega
  go_enter Tryz.func131, Tryz.ntmps131
  go_wp2
  go_ret
  exact ⟨rfl, rfl⟩


theorem qsigned_any (n x : Int) (m : Bool) (w : World) (hn : 0 ≤ n ∧ n ≤ 18446744073709551615) (hx : (m = true ∧ -n = x) ∨ (m = false ∧ n = x)) :
  Calls Tryz.prog 133 #[.int .u64 n, .bool m] w fun e w' => e = .returned (.tuple #[.int .i64 (fitV x), .bool (fitB x)]) ∧ w = w' := by
 rcases hx with ⟨rfl, hx⟩ | ⟨rfl, hx⟩
 all_goals subst hx
 ·by_cases h : n ≤ 9223372036854775808
  ·rw [fitV_yes (by omega), fitB_yes (by omega)]
   obtain ⟨t, ht⟩ : ∃ t, IntKind.i64.wrap n = t := ⟨_, rfl⟩
   have h2 : IntKind.i64.wrap (-t) = -n := by
    rw [← ht, IntKind.wrap_i64, IntKind.wrap_i64]
    omega
   go_enter Tryz.func133, Tryz.ntmps133
   go_wp2
   go_ret2
   exact ⟨rfl, rfl⟩
  ·rw [fitV_no (by omega), fitB_no (by omega)]
   go_enter Tryz.func133, Tryz.ntmps133
   go_wp2
   go_ret2
   exact ⟨rfl, rfl⟩
 ·by_cases h : n ≤ 9223372036854775807
  ·rw [fitV_yes (by omega), fitB_yes (by omega)]
   go_enter Tryz.func133, Tryz.ntmps133
   go_wp2
   go_ret2
   exact ⟨rfl, rfl⟩
  ·rw [fitV_no (by omega), fitB_no (by omega)]
   go_enter Tryz.func133, Tryz.ntmps133
   go_wp2
   go_ret2
   exact ⟨rfl, rfl⟩

theorem mul64_at (x y hi lo : Int) (w : World) (hx : 0 ≤ x ∧ x ≤ 18446744073709551615) (hy : 0 ≤ y ∧ y ≤ 18446744073709551615) (h1 : x * y / 18446744073709551616 = hi) (h2 : x * y % 18446744073709551616 = lo) :
  Calls Tryz.prog 125 #[.int .u64 x, .int .u64 y] w fun e w' => e = .returned (.tuple #[.int .u64 hi, .int .u64 lo]) ∧ w = w' := by
 obtain ⟨a, rfl⟩ := Int.eq_ofNat_of_zero_le hx.1
 obtain ⟨b, rfl⟩ := Int.eq_ofNat_of_zero_le hy.1
 refine (Tryz.bits_Mul64 a b (by omega) (by omega) w).mono ?_
 rintro e w' ⟨rfl, rfl⟩
 subst h1
 subst h2
 refine ⟨?_, rfl⟩
 simp

theorem size_mul (a b : Int) : ((decide (a < 0) != decide (b < 0)) = true ∧ a * b = -(max a (-a) * max b (-b))) ∨ ((decide (a < 0) != decide (b < 0)) = false ∧ a * b = max a (-a) * max b (-b)) := by
 by_cases ha : a < 0
 all_goals by_cases hb : b < 0
 ·refine .inr ⟨by simp [ha, hb], ?_⟩
  rw [show max a (-a) = -a by omega, show max b (-b) = -b by omega, Int.neg_mul_neg]
 ·refine .inl ⟨by simp [ha, hb], ?_⟩
  rw [show max a (-a) = -a by omega, show max b (-b) = b by omega, Int.neg_mul, Int.neg_neg]
 ·refine .inl ⟨by simp [ha, hb], ?_⟩
  rw [show max a (-a) = a by omega, show max b (-b) = -b by omega, Int.mul_neg, Int.neg_neg]
 ·refine .inr ⟨by simp [ha, hb], ?_⟩
  rw [show max a (-a) = a by omega, show max b (-b) = b by omega]
theorem size_bd (a b : Int) (ha : -9223372036854775808 ≤ a ∧ a ≤ 9223372036854775807) (hb : -9223372036854775808 ≤ b ∧ b ≤ 9223372036854775807) :
  0 ≤ max a (-a) * max b (-b) ∧ max a (-a) * max b (-b) ≤ 85070591730234615865843651857942052864 := by
 refine ⟨Int.mul_nonneg (by omega) (by omega), ?_⟩
 have : max a (-a) * max b (-b) ≤ 9223372036854775808 * 9223372036854775808 := Int.mul_le_mul (by omega) (by omega) (by omega) (by omega)
 omega



theorem qclamp_any (n lo hi : Int) (w : World) : Calls Tryz.prog 88 #[.int .i64 n, .int .i64 lo, .int .i64 hi] w fun e w' => e = .returned (.int .i64 (max lo (min n hi))) ∧ w = w' := by
 go_enter Tryz.func88, Tryz.ntmps88
 go_wp2
 go_ret
 exact ⟨rfl, rfl⟩

end Go.Proofs.YthhfnageadckkaaGreat

namespace Go.Proofs.YthhfnageadckkaaGreat

end Go.Proofs.YthhfnageadckkaaGreat

namespace Go.Proofs.YthhfnageadckkaaGreat
open Go.RowKit
attribute [local go_sem] ite_max ite_min vite_max vite_min

end Go.Proofs.YthhfnageadckkaaGreat

namespace Go.Proofs.YthhfnageadckkaaGreat

theorem dg_mul (q y1 y0 : Int) : q * (y1 * 4294967296 + y0) = (q * y1) * 4294967296 + q * y0 := by rw [Int.mul_add, Int.mul_assoc]

structure Dg (N n1 y1 y0 : Int) : Prop where
 hN : 0 ≤ N
 hn : 0 ≤ n1 ∧ n1 < 4294967296
 h1 : 2147483648 ≤ y1 ∧ y1 < 4294967296
 h0 : 0 ≤ y0 ∧ y0 < 4294967296
 hlt : N < y1 * 4294967296 + y0

def dgQ (N n1 y1 y0 : Int) : Int := (N * 4294967296 + n1) / (y1 * 4294967296 + y0)
def dgR (N n1 y1 y0 : Int) : Int := (N * 4294967296 + n1) % (y1 * 4294967296 + y0)

theorem dgQ_bd {N n1 y1 y0 : Int} (h : Dg N n1 y1 y0) : 0 ≤ dgQ N n1 y1 y0 ∧ dgQ N n1 y1 y0 < 4294967296 := by
 obtain ⟨hN, hn, h1, h0, hlt⟩ := h
 exact ⟨Int.ediv_nonneg (by omega) (by omega), Int.ediv_lt_of_lt_mul (by omega) (by omega)⟩
theorem dgR_bd {N n1 y1 y0 : Int} (h : Dg N n1 y1 y0) : 0 ≤ dgR N n1 y1 y0 ∧ dgR N n1 y1 y0 < y1 * 4294967296 + y0 := by
 obtain ⟨hN, hn, h1, h0, hlt⟩ := h
 exact ⟨Int.emod_nonneg _ (by omega), Int.emod_lt_of_pos _ (by omega)⟩
theorem dg_eq (N n1 y1 y0 : Int) : N * 4294967296 + n1 = dgQ N n1 y1 y0 * (y1 * 4294967296 + y0) + dgR N n1 y1 y0 := by
 have := Int.mul_ediv_add_emod (N * 4294967296 + n1) (y1 * 4294967296 + y0)
 rw [Int.mul_comm] at this
 exact this.symm

theorem dg_start {N n1 y1 y0 : Int} (h : Dg N n1 y1 y0) : dgQ N n1 y1 y0 ≤ N / y1 ∧ N / y1 ≤ 4294967297 ∧ N / y1 * y1 + N % y1 = N ∧ 0 ≤ N % y1 ∧ N % y1 < y1 := by
 have hb := dgQ_bd h
 have he := dg_eq N n1 y1 y0
 have hr := dgR_bd h
 obtain ⟨hN, hn, h1, h0, hlt⟩ := h
 rw [dg_mul] at he
 have hp : 0 ≤ dgQ N n1 y1 y0 * y0 := Int.mul_nonneg hb.1 h0.1
 have hd := Int.mul_ediv_add_emod N y1
 rw [Int.mul_comm] at hd
 refine ⟨?_, ?_, hd, Int.emod_nonneg _ (by omega), Int.emod_lt_of_pos _ (by omega)⟩
 ·exact (Int.le_ediv_iff_mul_le (by omega)).2 (by omega)
 ·have : N / y1 < 4294967298 := Int.ediv_lt_of_lt_mul (by omega) (by omega)
  omega

structure DgIn (N n1 y1 y0 q r : Int) : Prop where
 e : q * y1 + r = N
 lo : dgQ N n1 y1 y0 ≤ q
 hi : q ≤ 4294967297
 r0 : 0 ≤ r
 r1 : r < 4294967296

theorem dg_stop {N n1 y1 y0 q r : Int} (h : Dg N n1 y1 y0) (hi : q * y1 + r = N) (lo : dgQ N n1 y1 y0 ≤ q) (hy : q * y0 ≤ 4294967296 * r + n1) : q = dgQ N n1 y1 y0 := by
 obtain ⟨hN, hn, h1, h0, hlt⟩ := h
 have h2 : q ≤ dgQ N n1 y1 y0 := (Int.le_ediv_iff_mul_le (by omega)).2 (by rw [dg_mul]; omega)
 omega
theorem dg_down {N n1 y1 y0 q r : Int} (h : Dg N n1 y1 y0) (hi : DgIn N n1 y1 y0 q r) (ht : 4294967296 ≤ q ∨ 4294967296 * r + n1 < q * y0) : (q - 1) * y1 + (r + y1) = N ∧ dgQ N n1 y1 y0 ≤ q - 1 := by
 have hb := dgQ_bd h
 obtain ⟨hN, hn, h1, h0, hlt⟩ := h
 obtain ⟨e, lo, hi, r0, r1⟩ := hi
 refine ⟨by rw [Int.sub_mul]; omega, ?_⟩
 rcases ht with ht | ht
 ·omega
 ·have : dgQ N n1 y1 y0 < q := Int.ediv_lt_of_lt_mul (by omega) (by rw [dg_mul]; omega)
  omega
theorem dg_break {N n1 y1 y0 q r : Int} (h : Dg N n1 y1 y0) (hi : DgIn N n1 y1 y0 q r) (ht : 4294967296 ≤ q ∨ 4294967296 * r + n1 < q * y0) (hr : 4294967296 ≤ r + y1) : q - 1 = dgQ N n1 y1 y0 := by
 obtain ⟨e, lo⟩ := dg_down h hi ht
 refine dg_stop h e lo ?_
 obtain ⟨hN, hn, h1, h0, hlt⟩ := h
 have h2 : (q - 1) * y0 ≤ 4294967296 * y0 := Int.mul_le_mul_of_nonneg_right (by have := hi.hi; omega) h0.1
 omega
theorem dg_on {N n1 y1 y0 q r : Int} (h : Dg N n1 y1 y0) (hi : DgIn N n1 y1 y0 q r) (ht : 4294967296 ≤ q ∨ 4294967296 * r + n1 < q * y0) (hr : r + y1 < 4294967296) : DgIn N n1 y1 y0 (q - 1) (r + y1) := by
 obtain ⟨e, lo⟩ := dg_down h hi ht
 exact ⟨e, lo, by have := hi.hi; omega, by have := hi.r0; have := h.h1; omega, hr⟩
theorem dg_small {N n1 y1 y0 q r : Int} (h : Dg N n1 y1 y0) (hi : DgIn N n1 y1 y0 q r) (hq : q < 4294967296) : 0 ≤ q ∧ 0 ≤ q * y0 ∧ q * y0 ≤ 18446744065119617025 := by
 have hb := dgQ_bd h
 have hq0 : 0 ≤ q := by have := hi.lo; omega
 obtain ⟨hN, hn, h1, h0, hlt⟩ := h
 refine ⟨hq0, Int.mul_nonneg hq0 h0.1, ?_⟩
 have : q * y0 ≤ 4294967295 * 4294967295 := Int.mul_le_mul (by omega) (by omega) h0.1 (by omega)
 omega

theorem two_digits (N n1 n0 y1 y0 : Int) (h : Dg N n1 y1 y0) (hn0 : 0 ≤ n0 ∧ n0 < 4294967296) :
  Dg (dgR N n1 y1 y0) n0 y1 y0 ∧ (N * 18446744073709551616 + (n1 * 4294967296 + n0)) / (y1 * 4294967296 + y0) = dgQ N n1 y1 y0 * 4294967296 + dgQ (dgR N n1 y1 y0) n0 y1 y0 ∧
  (N * 18446744073709551616 + (n1 * 4294967296 + n0)) % (y1 * 4294967296 + y0) = dgR (dgR N n1 y1 y0) n0 y1 y0 := by
 have hr := dgR_bd h
 have hq := dgQ_bd h
 have he := dg_eq N n1 y1 y0
 have h2 : Dg (dgR N n1 y1 y0) n0 y1 y0 := ⟨hr.1, hn0, h.h1, h.h0, hr.2⟩
 have hr2 := dgR_bd h2
 have he2 := dg_eq (dgR N n1 y1 y0) n0 y1 y0
 refine ⟨h2, ?_⟩
 have hD := h.h1
 have hD0 := h.h0
 generalize dgR (dgR N n1 y1 y0) n0 y1 y0 = R2 at hr2 he2 ⊢
 generalize dgQ (dgR N n1 y1 y0) n0 y1 y0 = Q2 at he2 ⊢
 clear h2
 generalize dgR N n1 y1 y0 = R at hr he he2
 generalize dgQ N n1 y1 y0 = Q at he hq ⊢
 obtain ⟨D, hDD⟩ : ∃ D, y1 * 4294967296 + y0 = D := ⟨_, rfl⟩
 rw [hDD] at hr he hr2 he2 ⊢
 have key : N * 18446744073709551616 + (n1 * 4294967296 + n0) = R2 + (Q * 4294967296 + Q2) * D := by
  rw [Int.add_mul, Int.mul_right_comm]
  omega
 rw [key]
 refine ⟨?_, ?_⟩
 ·rw [Int.add_mul_ediv_right _ _ (by omega), Int.ediv_eq_zero_of_lt hr2.1 hr2.2]
  omega
 ·rw [Int.add_mul_emod_self_right, Int.emod_eq_of_lt hr2.1 hr2.2]

theorem moved (a y S : Int) (hy : 0 < y) (hS : 0 < S) : (a * S) / (y * S) = a / y ∧ (a * S) % (y * S) / S = a % y := by
 have h1 : (a * S) / (y * S) = a / y := Int.mul_ediv_mul_of_pos_left _ _ hS
 refine ⟨h1, ?_⟩
 rw [Int.emod_def, h1, Int.emod_def, show a * S - y * S * (a / y) = (a - y * (a / y)) * S by rw [Int.sub_mul, Int.mul_right_comm], Int.mul_ediv_cancel _ (by omega)]

structure Ready (hi lo y S T : Int) : Prop where
 h : 1 ≤ hi ∧ hi < y
 l : 0 ≤ lo ∧ lo < 18446744073709551616
 s : 1 ≤ S
 st : T * S = 18446744073709551616
 y1 : 9223372036854775808 ≤ y * S
 y2 : y * S < 18446744073709551616

theorem ready_parts {hi lo y S T : Int} (h : Ready hi lo y S T) :
  0 ≤ lo / T ∧ lo / T < S ∧ 0 ≤ hi * S ∧ hi * S + lo / T < y * S ∧ (hi * 18446744073709551616 + lo) * S = (hi * S + lo / T) * 18446744073709551616 + (lo * S) % 18446744073709551616 := by
 obtain ⟨hh, hl, hs, hst, hy1, hy2⟩ := h
 have hT : 0 < T := by
  by_cases c : 0 < T
  ·exact c
  ·have : T * S ≤ 0 * S := Int.mul_le_mul_of_nonneg_right (by omega) (by omega)
   omega
 have h1 : lo * S / 18446744073709551616 = lo / T := by rw [← hst, Int.mul_ediv_mul_of_pos_left _ _ (by omega)]
 have h2 := Int.mul_ediv_add_emod (lo * S) 18446744073709551616
 rw [h1] at h2
 have h3 := Int.emod_nonneg (lo * S) (show (18446744073709551616 : Int) ≠ 0 by omega)
 have h4 : 0 ≤ lo / T := Int.ediv_nonneg (by omega) (by omega)
 have h5 : lo / T < S := Int.ediv_lt_of_lt_mul hT (by rw [Int.mul_comm]; omega)
 have h6 : 0 ≤ hi * S := Int.mul_nonneg (by omega) (by omega)
 have h7 : (hi * 18446744073709551616 + lo) * S = (hi * S + lo / T) * 18446744073709551616 + (lo * S) % 18446744073709551616 := by
  rw [Int.add_mul, Int.mul_right_comm]
  omega
 have h8 : (hi * 18446744073709551616 + lo) * S < (y * 18446744073709551616) * S := Int.mul_lt_mul_of_pos_right (by omega) (by omega)
 rw [Int.mul_right_comm] at h8
 refine ⟨h4, h5, h6, ?_, h7⟩
 omega

theorem ready_dg {hi lo y S T N Y Lo y1 y0 n1 n0 : Int} (h : Ready hi lo y S T) (hN : hi * S + lo / T = N) (hY : y * S = Y) (hLo : (lo * S) % 18446744073709551616 = Lo)
  (e1 : Y / 4294967296 = y1) (e0 : Y % 4294967296 = y0) (f1 : Lo / 4294967296 = n1) (f0 : Lo % 4294967296 = n0) :
  Dg N n1 y1 y0 ∧ (0 ≤ n0 ∧ n0 < 4294967296) ∧ y1 * 4294967296 + y0 = Y ∧ (hi * 18446744073709551616 + lo) * S = N * 18446744073709551616 + (n1 * 4294967296 + n0) := by
 have hp := ready_parts h
 have hy1 := h.y1
 have hy2 := h.y2
 rw [hN, hY, hLo] at hp
 rw [hY] at hy1 hy2
 have h3 := Int.emod_nonneg (lo * S) (show (18446744073709551616 : Int) ≠ 0 by omega)
 have h4 := Int.emod_lt_of_pos (lo * S) (show (0 : Int) < 18446744073709551616 by omega)
 rw [hLo] at h3 h4
 refine ⟨⟨by omega, by omega, by omega, by omega, by omega⟩, by omega, by omega, by omega⟩

theorem ready_end {hi lo y S T N Y Lo y1 y0 n1 n0 : Int} (h : Ready hi lo y S T) (hN : hi * S + lo / T = N) (hY : y * S = Y) (hLo : (lo * S) % 18446744073709551616 = Lo)
  (e1 : Y / 4294967296 = y1) (e0 : Y % 4294967296 = y0) (f1 : Lo / 4294967296 = n1) (f0 : Lo % 4294967296 = n0) :
  (hi * 18446744073709551616 + lo) / y = dgQ N n1 y1 y0 * 4294967296 + dgQ (dgR N n1 y1 y0) n0 y1 y0 ∧ (hi * 18446744073709551616 + lo) % y = dgR (dgR N n1 y1 y0) n0 y1 y0 / S := by
 obtain ⟨hd, hn0, hD, hU⟩ := ready_dg h hN hY hLo e1 e0 f1 f0
 obtain ⟨_, t1, t2⟩ := two_digits N n1 n0 y1 y0 hd hn0
 have hm := moved (hi * 18446744073709551616 + lo) y S (by have := h.h; omega) (by have := h.s; omega)
 rw [hU, hY, ← hD, t1, t2] at hm
 exact ⟨hm.1.symm, hm.2.symm⟩

end Go.Proofs.YthhfnageadckkaaGreat

namespace Go.Proofs.YthhfnageadckkaaGreat
open Go.RowKit
attribute [local go_sem] ite_max ite_min vite_max vite_min ext_cell ext_frozen

theorem lz64_at (x s : Int) (w : World) (hx : 0 ≤ x ∧ x ≤ 18446744073709551615) (h : 64 - (Lib.bitLen x.toNat : Int) = s) :
  Calls Tryz.prog 134 #[.int .u64 x] w fun e w' => e = .returned (.int .i64 s) ∧ w = w' := by
 subst h
 exact (Tryz.bits_LeadingZeros64 x w hx.1 hx.2).mono fun _ _ ⟨he, hw⟩ => ⟨he, hw.symm⟩

theorem div64_low (lo y : Int) (w : World) (hl : 0 ≤ lo ∧ lo ≤ 18446744073709551615) (hy : 1 ≤ y ∧ y ≤ 18446744073709551615) :
  Calls Tryz.prog 132 #[.int .u64 0, .int .u64 lo, .int .u64 y] w fun e w' => e = .returned (.tuple #[.int .u64 (lo / y), .int .u64 (lo % y)]) ∧ Below w.heap.size w w' := by
 have q0 : (y == 0) = false := by simp; omega
 have hq : 0 ≤ lo / y ∧ lo / y ≤ 18446744073709551615 := by
  have a := Int.ediv_nonneg (a := lo) (b := y) (by omega) (by omega)
  have b := Int.ediv_le_self (a := lo) y (by omega)
  omega
 have hr : 0 ≤ lo % y ∧ lo % y < y := ⟨Int.emod_nonneg _ (by omega), Int.emod_lt_of_pos _ (by omega)⟩
 go_enter Tryz.func132, Tryz.ntmps132
 go_wp2_with fail
 refine wp_region_ext (by kernel_rfl) (by kernel_rfl) ?_
 repeat (go_big_quiet_step (fail))
 refine wpQuiet_nil ?_
 intro w2 hb2
 replace hb2 := ext_below hb2
 go_wp2
 go_ret2
 exact ⟨rfl, by exact belowBy⟩

theorem or_parts (h s t : Int) (S : Nat) (hS : h = s * ((2 ^ S : Nat) : Int)) (hs : 0 ≤ s) (ht : 0 ≤ t) (hlt : t < ((2 ^ S : Nat) : Int)) (hb : h + t < 18446744073709551616) : bits .or .u64 h t = h + t := by
 obtain ⟨a, rfl⟩ := Int.eq_ofNat_of_zero_le hs
 obtain ⟨b, rfl⟩ := Int.eq_ofNat_of_zero_le ht
 have hlt' : b < 2 ^ S := Int.ofNat_lt.1 hlt
 rw [hS, ← Int.natCast_mul] at hb ⊢
 have hb' : a * 2 ^ S + b < 18446744073709551616 := by omega
 rw [bits_or_u64_nat (a * 2 ^ S) b (by omega) (by omega)]
 have h3 : a * 2 ^ S ||| b = a * 2 ^ S + b := by
  have := Nat.shiftLeft_add_eq_or_of_lt hlt' a
  rw [Nat.shiftLeft_eq] at this
  exact this.symm
 rw [h3]
 omega
theorem mask32 (x : Int) (h : 0 ≤ x ∧ x < 18446744073709551616) : bits .and .u64 x 4294967295 = x % 4294967296 := by
 obtain ⟨a, rfl⟩ := Int.eq_ofNat_of_zero_le h.1
 rw [Mul64.maskN a (by omega)]
 omega

theorem lz_bounds (y s : Int) (hy : 1 ≤ y ∧ y ≤ 18446744073709551615) (h : 64 - (Lib.bitLen y.toNat : Int) = s) :
  0 ≤ s ∧ s ≤ 63 ∧ ∃ S T : Int, (2 : Int) ^ s.toNat = S ∧ (2 : Int) ^ (64 - s).toNat = T ∧ S = ((2 ^ s.toNat : Nat) : Int) ∧ 1 ≤ S ∧ T * S = 18446744073709551616 ∧ 9223372036854775808 ≤ y * S ∧ y * S < 18446744073709551616 := by
 obtain ⟨L, hL⟩ : ∃ L, Lib.bitLen y.toNat = L := ⟨_, rfl⟩
 rw [hL] at h
 have hb := Lib.bitLenAux_bounds 64 y.toNat (by omega) (by omega)
 have h2 : Lib.bitLenAux 64 y.toNat = L := hL
 rw [h2] at hb
 have h64 : L ≤ 64 := by
  rw [← hL]
  exact Lib.bitLen_le _ _ (by omega) (by omega)
 obtain ⟨b1, b2, b3⟩ := hb
 have es : s.toNat = 64 - L := by omega
 have et : (64 - s).toNat = L := by omega
 refine ⟨by omega, by omega, _, _, rfl, rfl, ?_, ?_, ?_, ?_, ?_⟩
 ·rw [Int.natCast_pow]
  rfl
 ·have h0 : (0 : Int) < 2 ^ s.toNat := Int.pow_pos (by decide)
  omega
 ·rw [es, et, ← Int.pow_add, show L + (64 - L) = 64 by omega]
  rfl
 ·have h3 : (9223372036854775808 : Nat) ≤ y.toNat * 2 ^ (64 - L) := by
   have : 2 ^ (L - 1) * 2 ^ (64 - L) ≤ y.toNat * 2 ^ (64 - L) := Nat.mul_le_mul_right _ b2
   rw [← Nat.pow_add, show L - 1 + (64 - L) = 63 by omega] at this
   exact this
  have h4 : ((y.toNat * 2 ^ (64 - L) : Nat) : Int) = y * 2 ^ s.toNat := by
   rw [Int.natCast_mul, Int.natCast_pow, Int.toNat_of_nonneg (by omega), es]
   rfl
  rw [← h4]
  omega
 ·have h3 : y.toNat * 2 ^ (64 - L) < 18446744073709551616 := by
   have : y.toNat * 2 ^ (64 - L) < 2 ^ L * 2 ^ (64 - L) := (Nat.mul_lt_mul_right (Nat.pow_pos (by omega))).2 b3
   rw [← Nat.pow_add, show L + (64 - L) = 64 by omega] at this
   exact this
  have h4 : ((y.toNat * 2 ^ (64 - L) : Nat) : Int) = y * 2 ^ s.toNat := by
   rw [Int.natCast_mul, Int.natCast_pow, Int.toNat_of_nonneg (by omega), es]
   rfl
  rw [← h4]
  omega


set_option maxRecDepth 100000 in
theorem div64_high (hi lo y s : Int) (w : World) (hh : 1 ≤ hi ∧ hi < y) (hl : 0 ≤ lo ∧ lo ≤ 18446744073709551615) (hy : 1 ≤ y ∧ y ≤ 18446744073709551615) (hs : 64 - (Lib.bitLen y.toNat : Int) = s) :
  Calls Tryz.prog 132 #[.int .u64 hi, .int .u64 lo, .int .u64 y] w fun e w' => e = .returned (.tuple #[.int .u64 ((hi * 18446744073709551616 + lo) / y), .int .u64 ((hi * 18446744073709551616 + lo) % y)]) ∧ Below w.heap.size w w' := by
 have q0 : (y == 0) = false := by simp; omega
 have q1 : (hi == 0) = false := by simp; omega
 obtain ⟨hs0, hs1, S, T, eS, eT, eS2, hS1, hTS, hY1, hY2⟩ := lz_bounds y s hy hs
 have hrd : Ready hi lo y S T := ⟨hh, by omega, hS1, hTS, hY1, hY2⟩
 have hp := ready_parts hrd
 obtain ⟨Y, hY⟩ : ∃ Y, y * S = Y := ⟨_, rfl⟩
 obtain ⟨H, hH⟩ : ∃ H, hi * S = H := ⟨_, rfl⟩
 obtain ⟨X, hX⟩ : ∃ X, lo / T = X := ⟨_, rfl⟩
 obtain ⟨N, hN⟩ : ∃ N, H + X = N := ⟨_, rfl⟩
 obtain ⟨Lo, hLo⟩ : ∃ Lo, (lo * S) % 18446744073709551616 = Lo := ⟨_, rfl⟩
 obtain ⟨y1, e1⟩ : ∃ y1, Y / 4294967296 = y1 := ⟨_, rfl⟩
 obtain ⟨y0, e0⟩ : ∃ y0, Y % 4294967296 = y0 := ⟨_, rfl⟩
 obtain ⟨n1, f1⟩ : ∃ n1, Lo / 4294967296 = n1 := ⟨_, rfl⟩
 obtain ⟨n0, f0⟩ : ∃ n0, Lo % 4294967296 = n0 := ⟨_, rfl⟩
 have hN' : hi * S + lo / T = N := by rw [hH, hX]; exact hN
 obtain ⟨hdg, hn0, hD, _⟩ := ready_dg hrd hN' hY hLo e1 e0 f1 f0
 obtain ⟨r1, r2⟩ := ready_end hrd hN' hY hLo e1 e0 f1 f0
 rw [r1, r2]
 clear r1 r2 hN'
 rw [hX, hH, hY, hLo, hN] at hp
 have k1 : IntKind.u64.wrap (y * S) = Y := by rw [hY]; exact IntWalk.u64_in _ (by omega)
 have k3 : bits .and .u64 Y 4294967295 = y0 := by rw [mask32 Y (by omega)]; exact e0
 have k4 : IntKind.u64.wrap (hi * S) = H := by rw [hH]; exact IntWalk.u64_in _ (by omega)
 have k6 : bits .or .u64 H X = N := by rw [or_parts H hi X s.toNat (by rw [← hH, eS2]) (by omega) (by omega) (by rw [← eS2]; omega) (by omega)]; exact hN
 have k7 : IntKind.u64.wrap (lo * S) = Lo := by rw [IntKind.wrap_u64]; exact hLo
 have hLob : 0 ≤ Lo ∧ Lo < 18446744073709551616 := by omega
 have k9 : bits .and .u64 Lo 4294967295 = n0 := by rw [mask32 Lo hLob]; exact f0
 have hst := dg_start hdg
 obtain ⟨Q, hQ⟩ : ∃ Q, dgQ N n1 y1 y0 = Q := ⟨_, rfl⟩
 obtain ⟨R, hR⟩ : ∃ R, dgR N n1 y1 y0 = R := ⟨_, rfl⟩
 have hQb := dgQ_bd hdg
 have hRb := dgR_bd hdg
 have heq := dg_eq N n1 y1 y0
 have hdg2 : Dg R n0 y1 y0 := by rw [← hR]; exact ⟨hRb.1, hn0, hdg.h1, hdg.h0, hRb.2⟩
 obtain ⟨Q2, hQ2⟩ : ∃ Q2, dgQ R n0 y1 y0 = Q2 := ⟨_, rfl⟩
 obtain ⟨R2, hR2⟩ : ∃ R2, dgR R n0 y1 y0 = R2 := ⟨_, rfl⟩
 have hQ2b := dgQ_bd hdg2
 have hR2b := dgR_bd hdg2
 have heq2 := dg_eq R n0 y1 y0
 have hst2 := dg_start hdg2
 rw [hQ, hR, hD] at heq
 rw [hQ2, hR2, hD] at heq2
 rw [hQ] at hQb hst
 rw [hR, hD] at hRb
 rw [hQ2] at hQ2b hst2
 rw [hR2, hD] at hR2b
 rw [hQ, hR, hQ2, hR2]
 have HDG := Lib.hid hdg
 have HDG2 := Lib.hid hdg2
 have hd1 := hdg.h1
 have hd0 := hdg.h0
 have hdn := hdg.hn
 have HQ := Lib.hid hQ
 have HQ2 := Lib.hid hQ2
 obtain ⟨qi, hqi⟩ : ∃ qi, N / y1 = qi := ⟨_, rfl⟩
 obtain ⟨p, hp1⟩ : ∃ p, qi * y1 = p := ⟨_, rfl⟩
 rw [hqi, hp1] at hst
 have hpb : 0 ≤ p := by rw [← hp1]; exact Int.mul_nonneg (by omega) (by omega)
 have k10 : IntKind.u64.wrap (qi * y1) = p := by rw [hp1]; exact IntWalk.u64_in _ (by omega)
 have hrr : N % y1 = N - p := by omega
 have hi0 : DgIn N n1 y1 y0 qi (N - p) := ⟨by rw [hp1]; omega, by rw [hQ]; omega, by omega, by omega, by omega⟩
 have HI0 := Lib.hid hi0
 have hr0b : 0 ≤ N - p ∧ N - p < 4294967296 := by omega
 have hqib : 0 ≤ qi ∧ qi ≤ 4294967297 := by omega
 obtain ⟨a1, m1⟩ : ∃ a, IntKind.u64.wrap (N * 4294967296) = a := ⟨_, rfl⟩
 obtain ⟨a2, m2⟩ : ∃ a, IntKind.u64.wrap (a1 + n1) = a := ⟨_, rfl⟩
 obtain ⟨a3, m3⟩ : ∃ a, IntKind.u64.wrap (Q * Y) = a := ⟨_, rfl⟩
 have m4 : IntKind.u64.wrap (a2 - a3) = R := by
  rw [← m2, ← m1, ← m3, IntKind.wrap_u64, IntKind.wrap_u64, IntKind.wrap_u64, IntKind.wrap_u64]
  omega
 obtain ⟨qj, hqj⟩ : ∃ qi, R / y1 = qi := ⟨_, rfl⟩
 obtain ⟨p2, hp2⟩ : ∃ p, qj * y1 = p := ⟨_, rfl⟩
 rw [hqj, hp2] at hst2
 have hp2b : 0 ≤ p2 := by rw [← hp2]; exact Int.mul_nonneg (by omega) (by omega)
 have k11 : IntKind.u64.wrap (qj * y1) = p2 := by rw [hp2]; exact IntWalk.u64_in _ (by omega)
 have hj0 : DgIn R n0 y1 y0 qj (R - p2) := ⟨by rw [hp2]; omega, by rw [hQ2]; omega, by omega, by omega, by omega⟩
 have HJ0 := Lib.hid hj0
 have hr2b : 0 ≤ R - p2 ∧ R - p2 < 4294967296 := by omega
 have hqjb : 0 ≤ qj ∧ qj ≤ 4294967297 := by omega
 obtain ⟨b1, l1⟩ : ∃ a, IntKind.u64.wrap (R * 4294967296) = a := ⟨_, rfl⟩
 obtain ⟨b2, l2⟩ : ∃ a, IntKind.u64.wrap (b1 + n0) = a := ⟨_, rfl⟩
 obtain ⟨b3, l3⟩ : ∃ a, IntKind.u64.wrap (Q2 * Y) = a := ⟨_, rfl⟩
 have l4 : IntKind.u64.wrap (b2 - b3) = R2 := by
  rw [← l2, ← l1, ← l3, IntKind.wrap_u64, IntKind.wrap_u64, IntKind.wrap_u64, IntKind.wrap_u64]
  omega
 have hYb : 9223372036854775808 ≤ Y ∧ Y < 18446744073709551616 := by omega
 have hNb : 0 ≤ N ∧ N < Y := by omega
 have HS := Lib.hid hs
 clear hs hdg hdg2 hi0 hj0 hQ hR hQ2 hR2 heq heq2 hst hst2 hp1 hp2 hrr hrd eS2 hTS hY1 hY2 hY hH hN hLo e0 f0 hD hp
 go_enter Tryz.func132, Tryz.ntmps132
 go_wp2_with fail
 refine (lz64_at _ s _ (by omega) HS.out).mono ?_
 rintro e w1 ⟨rfl, rfl⟩
 go_wp2_with fail
 go_loop [15, 16] (fun u v => ∃ q r : Int, u = .int .u64 q ∧ v = .int .u64 r ∧ Hid (DgIn N n1 y1 y0 q r) ∧ 0 ≤ q ∧ q ≤ 4294967297 ∧ 0 ≤ r ∧ r < 4294967296) (fun _ v => 4294967296 - (intOf v).toNat)
 case atStart => exact ⟨qi, N - p, by first | rfl | rw [hqi], rfl, HI0, by omega, by omega, by omega, by omega⟩
 case round =>
  obtain ⟨q, r, rfl, rfl, HI, hq0, hq1, hr0, hr1⟩ := hrel
  by_cases hbig : 4294967296 ≤ q
  ·by_cases hbr : 4294967296 ≤ r + y1
   ·have hfin := dg_break HDG.out HI.out (.inl hbig) hbr
    rw [HQ.out] at hfin
    obtain rfl : q = Q + 1 := by omega
    clear hfin HI
    go_wp2_with fail
    go_loop [18, 16] (fun u v => ∃ q r : Int, u = .int .u64 q ∧ v = .int .u64 r ∧ Hid (DgIn R n0 y1 y0 q r) ∧ 0 ≤ q ∧ q ≤ 4294967297 ∧ 0 ≤ r ∧ r < 4294967296) (fun _ v => 4294967296 - (intOf v).toNat)
    case atStart => exact ⟨qj, R - p2, by first | rfl | rw [hqj], rfl, HJ0, by omega, by omega, by omega, by omega⟩
    case round =>
     obtain ⟨q, r, rfl, rfl, HI, hq0, hq1, hr0, hr1⟩ := hrel
     by_cases hbig : 4294967296 ≤ q
     ·by_cases hbr : 4294967296 ≤ r + y1
      ·have hfin := dg_break HDG2.out HI.out (.inl hbig) hbr
       rw [HQ2.out] at hfin
       obtain rfl : q = Q2 + 1 := by omega
       clear hfin HI
       go_wp2
       go_ret2
       exact ⟨rfl, by exact belowBy⟩
      ·have hon := Lib.hid (dg_on HDG2.out HI.out (.inl hbig) (by omega))
       clear HI
       go_wp2
       go_round
       case rel => exact ⟨q - 1, r + y1, rfl, rfl, hon, by omega, by omega, by omega, by omega⟩
       case measure => simp [intOf]; omega
     ·have hsm := dg_small HDG2.out HI.out (by omega)
      obtain ⟨z, hz⟩ : ∃ z, q * y0 = z := ⟨_, rfl⟩
      rw [hz] at hsm
      have hz2 : IntKind.u64.wrap (q * y0) = z := by rw [hz]; exact IntWalk.u64_in _ (by omega)
      by_cases ht : 4294967296 * r + n0 < z
      ·have ht' : 4294967296 * r + n0 < q * y0 := by rw [hz]; exact ht
       have hge : 1 ≤ q := by
        have a := (dg_down HDG2.out HI.out (.inr ht')).2
        have b := (dgQ_bd HDG2.out).1
        omega
       clear hz
       by_cases hbr : 4294967296 ≤ r + y1
       ·have hfin := dg_break HDG2.out HI.out (.inr ht') hbr
        rw [HQ2.out] at hfin
        obtain rfl : q = Q2 + 1 := by omega
        clear ht' hfin HI
        go_wp2
        go_ret2
        exact ⟨rfl, by exact belowBy⟩
       ·have hon := Lib.hid (dg_on HDG2.out HI.out (.inr ht') (by omega))
        clear ht' HI
        go_wp2
        go_round
        case rel => exact ⟨q - 1, r + y1, rfl, rfl, hon, by omega, by omega, by omega, by omega⟩
        case measure => simp [intOf]; omega
      ·have hfin := dg_stop HDG2.out HI.out.e HI.out.lo (by rw [hz]; omega)
       rw [HQ2.out] at hfin
       subst hfin
       clear hz HI
       go_wp2
       go_ret2
       exact ⟨rfl, by exact belowBy⟩
   ·have hon := Lib.hid (dg_on HDG.out HI.out (.inl hbig) (by omega))
    clear HI
    go_wp2
    go_round
    case rel => exact ⟨q - 1, r + y1, rfl, rfl, hon, by omega, by omega, by omega, by omega⟩
    case measure => simp [intOf]; omega
  ·have hsm := dg_small HDG.out HI.out (by omega)
   obtain ⟨z, hz⟩ : ∃ z, q * y0 = z := ⟨_, rfl⟩
   rw [hz] at hsm
   have hz2 : IntKind.u64.wrap (q * y0) = z := by rw [hz]; exact IntWalk.u64_in _ (by omega)
   by_cases ht : 4294967296 * r + n1 < z
   ·have ht' : 4294967296 * r + n1 < q * y0 := by rw [hz]; exact ht
    have hge : 1 ≤ q := by
     have a := (dg_down HDG.out HI.out (.inr ht')).2
     have b := (dgQ_bd HDG.out).1
     omega
    clear hz
    by_cases hbr : 4294967296 ≤ r + y1
    ·have hfin := dg_break HDG.out HI.out (.inr ht') hbr
     rw [HQ.out] at hfin
     obtain rfl : q = Q + 1 := by omega
     clear ht' hfin HI
     go_wp2_with fail
     go_loop [18, 16] (fun u v => ∃ q r : Int, u = .int .u64 q ∧ v = .int .u64 r ∧ Hid (DgIn R n0 y1 y0 q r) ∧ 0 ≤ q ∧ q ≤ 4294967297 ∧ 0 ≤ r ∧ r < 4294967296) (fun _ v => 4294967296 - (intOf v).toNat)
     case atStart => exact ⟨qj, R - p2, by first | rfl | rw [hqj], rfl, HJ0, by omega, by omega, by omega, by omega⟩
     case round =>
      obtain ⟨q, r, rfl, rfl, HI, hq0, hq1, hr0, hr1⟩ := hrel
      by_cases hbig : 4294967296 ≤ q
      ·by_cases hbr : 4294967296 ≤ r + y1
       ·have hfin := dg_break HDG2.out HI.out (.inl hbig) hbr
        rw [HQ2.out] at hfin
        obtain rfl : q = Q2 + 1 := by omega
        clear hfin HI
        go_wp2
        go_ret2
        exact ⟨rfl, by exact belowBy⟩
       ·have hon := Lib.hid (dg_on HDG2.out HI.out (.inl hbig) (by omega))
        clear HI
        go_wp2
        go_round
        case rel => exact ⟨q - 1, r + y1, rfl, rfl, hon, by omega, by omega, by omega, by omega⟩
        case measure => simp [intOf]; omega
      ·have hsm := dg_small HDG2.out HI.out (by omega)
       obtain ⟨z, hz⟩ : ∃ z, q * y0 = z := ⟨_, rfl⟩
       rw [hz] at hsm
       have hz2 : IntKind.u64.wrap (q * y0) = z := by rw [hz]; exact IntWalk.u64_in _ (by omega)
       by_cases ht : 4294967296 * r + n0 < z
       ·have ht' : 4294967296 * r + n0 < q * y0 := by rw [hz]; exact ht
        have hge : 1 ≤ q := by
         have a := (dg_down HDG2.out HI.out (.inr ht')).2
         have b := (dgQ_bd HDG2.out).1
         omega
        clear hz
        by_cases hbr : 4294967296 ≤ r + y1
        ·have hfin := dg_break HDG2.out HI.out (.inr ht') hbr
         rw [HQ2.out] at hfin
         obtain rfl : q = Q2 + 1 := by omega
         clear ht' hfin HI
         go_wp2
         go_ret2
         exact ⟨rfl, by exact belowBy⟩
        ·have hon := Lib.hid (dg_on HDG2.out HI.out (.inr ht') (by omega))
         clear ht' HI
         go_wp2
         go_round
         case rel => exact ⟨q - 1, r + y1, rfl, rfl, hon, by omega, by omega, by omega, by omega⟩
         case measure => simp [intOf]; omega
       ·have hfin := dg_stop HDG2.out HI.out.e HI.out.lo (by rw [hz]; omega)
        rw [HQ2.out] at hfin
        subst hfin
        clear hz HI
        go_wp2
        go_ret2
        exact ⟨rfl, by exact belowBy⟩
    ·have hon := Lib.hid (dg_on HDG.out HI.out (.inr ht') (by omega))
     clear ht' HI
     go_wp2
     go_round
     case rel => exact ⟨q - 1, r + y1, rfl, rfl, hon, by omega, by omega, by omega, by omega⟩
     case measure => simp [intOf]; omega
   ·have hfin := dg_stop HDG.out HI.out.e HI.out.lo (by rw [hz]; omega)
    rw [HQ.out] at hfin
    subst hfin
    clear hz HI
    go_wp2_with fail
    go_loop [18, 16] (fun u v => ∃ q r : Int, u = .int .u64 q ∧ v = .int .u64 r ∧ Hid (DgIn R n0 y1 y0 q r) ∧ 0 ≤ q ∧ q ≤ 4294967297 ∧ 0 ≤ r ∧ r < 4294967296) (fun _ v => 4294967296 - (intOf v).toNat)
    case atStart => exact ⟨qj, R - p2, by first | rfl | rw [hqj], rfl, HJ0, by omega, by omega, by omega, by omega⟩
    case round =>
     obtain ⟨q, r, rfl, rfl, HI, hq0, hq1, hr0, hr1⟩ := hrel
     by_cases hbig : 4294967296 ≤ q
     ·by_cases hbr : 4294967296 ≤ r + y1
      ·have hfin := dg_break HDG2.out HI.out (.inl hbig) hbr
       rw [HQ2.out] at hfin
       obtain rfl : q = Q2 + 1 := by omega
       clear hfin HI
       go_wp2
       go_ret2
       exact ⟨rfl, by exact belowBy⟩
      ·have hon := Lib.hid (dg_on HDG2.out HI.out (.inl hbig) (by omega))
       clear HI
       go_wp2
       go_round
       case rel => exact ⟨q - 1, r + y1, rfl, rfl, hon, by omega, by omega, by omega, by omega⟩
       case measure => simp [intOf]; omega
     ·have hsm := dg_small HDG2.out HI.out (by omega)
      obtain ⟨z, hz⟩ : ∃ z, q * y0 = z := ⟨_, rfl⟩
      rw [hz] at hsm
      have hz2 : IntKind.u64.wrap (q * y0) = z := by rw [hz]; exact IntWalk.u64_in _ (by omega)
      by_cases ht : 4294967296 * r + n0 < z
      ·have ht' : 4294967296 * r + n0 < q * y0 := by rw [hz]; exact ht
       have hge : 1 ≤ q := by
        have a := (dg_down HDG2.out HI.out (.inr ht')).2
        have b := (dgQ_bd HDG2.out).1
        omega
       clear hz
       by_cases hbr : 4294967296 ≤ r + y1
       ·have hfin := dg_break HDG2.out HI.out (.inr ht') hbr
        rw [HQ2.out] at hfin
        obtain rfl : q = Q2 + 1 := by omega
        clear ht' hfin HI
        go_wp2
        go_ret2
        exact ⟨rfl, by exact belowBy⟩
       ·have hon := Lib.hid (dg_on HDG2.out HI.out (.inr ht') (by omega))
        clear ht' HI
        go_wp2
        go_round
        case rel => exact ⟨q - 1, r + y1, rfl, rfl, hon, by omega, by omega, by omega, by omega⟩
        case measure => simp [intOf]; omega
      ·have hfin := dg_stop HDG2.out HI.out.e HI.out.lo (by rw [hz]; omega)
       rw [HQ2.out] at hfin
       subst hfin
       clear hz HI
       go_wp2
       go_ret2
       exact ⟨rfl, by exact belowBy⟩

end Go.Proofs.YthhfnageadckkaaGreat
