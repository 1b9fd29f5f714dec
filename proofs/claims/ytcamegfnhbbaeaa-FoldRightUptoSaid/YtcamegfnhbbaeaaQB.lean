/- Contracts of layer 1: products, quotients, rests, clamped numbers. -/
import Derived.Test.YtcamegfnhbbaeaaQA
import Derived.Test.YtcamegfnhbbaeaaShelf
namespace Go.Proofs.Ytcamegfnhbbaeaa
open Go.RowKit
set_option linter.unusedVariables false
set_option linter.unusedSimpArgs false
attribute [local go_sem] ite_max ite_min vite_max vite_min

set_option maxHeartbeats 1000000 in
theorem qsigned_any (n x : Int) (m : Bool) (w : World) (hn : 0 ≤ n ∧ n ≤ 18446744073709551615) (hx : (m = true ∧ -n = x) ∨ (m = false ∧ n = x)) :
    Calls Try.prog 64 #[.int .u64 n, .bool m] w fun e w' => e = .returned (.tuple #[.int .i64 (fitV x), .bool (fitB x)]) ∧ w = w' := by
  rcases hx with ⟨rfl, hx⟩ | ⟨rfl, hx⟩
  all_goals subst hx
  · by_cases h : n ≤ 9223372036854775808
    · rw [fitV_yes (by omega), fitB_yes (by omega)]
      obtain ⟨t, ht⟩ : ∃ t, IntKind.i64.wrap n = t := ⟨_, rfl⟩
      have h2 : IntKind.i64.wrap (-t) = -n := by
        rw [← ht, IntKind.wrap_i64, IntKind.wrap_i64]
        omega
      go_enter Try.func64, Try.ntmps64
      go_wp2
      go_ret2
      exact ⟨rfl, rfl⟩
    · rw [fitV_no (by omega), fitB_no (by omega)]
      go_enter Try.func64, Try.ntmps64
      go_wp2
      go_ret2
      exact ⟨rfl, rfl⟩
  · by_cases h : n ≤ 9223372036854775807
    · rw [fitV_yes (by omega), fitB_yes (by omega)]
      go_enter Try.func64, Try.ntmps64
      go_wp2
      go_ret2
      exact ⟨rfl, rfl⟩
    · rw [fitV_no (by omega), fitB_no (by omega)]
      go_enter Try.func64, Try.ntmps64
      go_wp2
      go_ret2
      exact ⟨rfl, rfl⟩

theorem mul64_at (x y hi lo : Int) (w : World) (hx : 0 ≤ x ∧ x ≤ 18446744073709551615) (hy : 0 ≤ y ∧ y ≤ 18446744073709551615) (h1 : x * y / 18446744073709551616 = hi) (h2 : x * y % 18446744073709551616 = lo) :
    Calls Try.prog 62 #[.int .u64 x, .int .u64 y] w fun e w' => e = .returned (.tuple #[.int .u64 hi, .int .u64 lo]) ∧ w = w' := by
  obtain ⟨a, rfl⟩ := Int.eq_ofNat_of_zero_le hx.1
  obtain ⟨b, rfl⟩ := Int.eq_ofNat_of_zero_le hy.1
  refine (Try.bits_Mul64 a b (by omega) (by omega) w).mono ?_
  rintro e w' ⟨rfl, rfl⟩
  subst h1
  subst h2
  refine ⟨?_, rfl⟩
  simp

/-- the sizes' product is the product's size -/
theorem size_mul (a b : Int) : ((decide (a < 0) != decide (b < 0)) = true ∧ a * b = -(max a (-a) * max b (-b))) ∨ ((decide (a < 0) != decide (b < 0)) = false ∧ a * b = max a (-a) * max b (-b)) := by
  by_cases ha : a < 0
  all_goals by_cases hb : b < 0
  · refine .inr ⟨by simp [ha, hb], ?_⟩
    rw [show max a (-a) = -a by omega, show max b (-b) = -b by omega, Int.neg_mul_neg]
  · refine .inl ⟨by simp [ha, hb], ?_⟩
    rw [show max a (-a) = -a by omega, show max b (-b) = b by omega, Int.neg_mul, Int.neg_neg]
  · refine .inl ⟨by simp [ha, hb], ?_⟩
    rw [show max a (-a) = a by omega, show max b (-b) = -b by omega, Int.mul_neg, Int.neg_neg]
  · refine .inr ⟨by simp [ha, hb], ?_⟩
    rw [show max a (-a) = a by omega, show max b (-b) = b by omega]
theorem size_bd (a b : Int) (ha : -9223372036854775808 ≤ a ∧ a ≤ 9223372036854775807) (hb : -9223372036854775808 ≤ b ∧ b ≤ 9223372036854775807) :
    0 ≤ max a (-a) * max b (-b) ∧ max a (-a) * max b (-b) ≤ 85070591730234615865843651857942052864 := by
  refine ⟨Int.mul_nonneg (by omega) (by omega), ?_⟩
  have : max a (-a) * max b (-b) ≤ 9223372036854775808 * 9223372036854775808 := Int.mul_le_mul (by omega) (by omega) (by omega) (by omega)
  omega

set_option maxHeartbeats 2000000 in
theorem qmul_any (a b : Int) (w : World) (ha : -9223372036854775808 ≤ a ∧ a ≤ 9223372036854775807) (hb : -9223372036854775808 ≤ b ∧ b ≤ 9223372036854775807) :
    Calls Try.prog 41 #[.int .i64 a, .int .i64 b] w fun e w' => e = .returned (.tuple #[.int .i64 (fitV (a * b)), .bool (fitB (a * b))]) ∧ w = w' := by
  have hs := size_mul a b
  have hz := size_bd a b ha hb
  obtain ⟨P, hP⟩ : ∃ P, a * b = P := ⟨_, rfl⟩
  obtain ⟨M, hM⟩ : ∃ M, max a (-a) * max b (-b) = M := ⟨_, rfl⟩
  rw [hP] at hs ⊢
  rw [hM] at hs hz
  have HM := Lib.hid hM
  clear hP hM
  obtain ⟨sg, hsg⟩ : ∃ sg, (decide (a < 0) != decide (b < 0)) = sg := ⟨_, rfl⟩
  rw [hsg] at hs
  cases A : decide (a < 0)
  all_goals cases B : decide (b < 0)
  all_goals rw [A, B] at hsg
  all_goals subst hsg
  all_goals
    by_cases hf : M < 18446744073709551616
    · have d1 : M / 18446744073709551616 = 0 := by omega
      have d2 : M % 18446744073709551616 = M := by omega
      have D1 := Lib.hid d1
      have D2 := Lib.hid d2
      have HS := Lib.hid hs
      clear d1 d2 hs
      go_enter Try.func41, Try.ntmps41
      go_wp2_with fail
      refine (qsize_any _ _ ha).mono ?_
      rintro e w1 ⟨rfl, rfl⟩
      go_wp2_with fail
      refine (qsize_any _ _ hb).mono ?_
      rintro e w1 ⟨rfl, rfl⟩
      go_wp2_with fail
      refine (mul64_at _ _ 0 M _ (by omega) (by omega) (by rw [HM.out]; exact D1.out) (by rw [HM.out]; exact D2.out)).mono ?_
      rintro e w1 ⟨rfl, rfl⟩
      go_wp2_with fail
      refine (qsigned_any M P _ _ (by omega) ?_).mono ?_
      · have := HS.out; simp at this ⊢; omega
      rintro e w1 ⟨rfl, rfl⟩
      go_wp2
      go_ret2
      exact ⟨rfl, rfl⟩
    · have d1 : (M / 18446744073709551616 != 0) = true := by
        rw [bne_iff_ne]
        omega
      obtain ⟨hi, hhi⟩ : ∃ hi, M / 18446744073709551616 = hi := ⟨_, rfl⟩
      obtain ⟨lo, hlo⟩ : ∃ lo, M % 18446744073709551616 = lo := ⟨_, rfl⟩
      rw [hhi] at d1
      have D1 := Lib.hid hhi
      have D2 := Lib.hid hlo
      have nf : ¬ (-9223372036854775808 ≤ P ∧ P ≤ 9223372036854775807) := by omega
      rw [fitV_no nf, fitB_no nf]
      clear hhi hlo hs nf
      go_enter Try.func41, Try.ntmps41
      go_wp2_with fail
      refine (qsize_any _ _ ha).mono ?_
      rintro e w1 ⟨rfl, rfl⟩
      go_wp2_with fail
      refine (qsize_any _ _ hb).mono ?_
      rintro e w1 ⟨rfl, rfl⟩
      go_wp2_with fail
      refine (mul64_at _ _ hi lo _ (by omega) (by omega) (by rw [HM.out]; exact D1.out) (by rw [HM.out]; exact D2.out)).mono ?_
      rintro e w1 ⟨rfl, rfl⟩
      go_wp2
      go_ret2
      exact ⟨rfl, rfl⟩

/-- the quotient's error: 3 by nothing, 2 if it has no room -/
def divE (a b : Int) : Int := if b = 0 then 3 else if a = -9223372036854775808 ∧ b = -1 then 2 else 0
def divV (a b : Int) : Int := if divE a b = 0 then a.tdiv b else 0
theorem tdiv_bd (a b : Int) (ha : -9223372036854775808 ≤ a ∧ a ≤ 9223372036854775807) (hb : b ≠ 0) (hn : ¬ (a = -9223372036854775808 ∧ b = -1)) : -9223372036854775808 ≤ a.tdiv b ∧ a.tdiv b ≤ 9223372036854775807 := by
  by_cases h1 : b = 1
  · rw [h1, Int.tdiv_one]
    exact ha
  · by_cases h2 : b = -1
    · rw [h2, Int.tdiv_neg, Int.tdiv_one]
      omega
    · have h3 : (a.tdiv b).natAbs = a.natAbs / b.natAbs := Int.natAbs_tdiv ..
      have h4 : a.natAbs / b.natAbs ≤ a.natAbs / 2 := Nat.div_le_div_left (by omega) (by omega)
      omega

set_option maxHeartbeats 1000000 in
theorem qdiv_any (a b : Int) (w : World) (ha : -9223372036854775808 ≤ a ∧ a ≤ 9223372036854775807) (hb : -9223372036854775808 ≤ b ∧ b ≤ 9223372036854775807) :
    Calls Try.prog 42 #[.int .i64 a, .int .i64 b] w fun e w' => e = .returned (.tuple #[.int .i64 (divV a b), .int .i64 (divE a b)]) ∧ w = w' := by
  by_cases b0 : b = 0
  · subst b0
    rw [show divV a 0 = 0 from rfl, show divE a 0 = 3 from rfl]
    go_enter Try.func42, Try.ntmps42
    go_wp2
    go_ret2
    exact ⟨rfl, rfl⟩
  · have q0 : (b == 0) = false := by simpa using b0
    by_cases hn : a = -9223372036854775808 ∧ b = -1
    · obtain ⟨rfl, rfl⟩ := hn
      rw [show divV (-9223372036854775808) (-1) = 0 from rfl, show divE (-9223372036854775808) (-1) = 2 from rfl]
      go_enter Try.func42, Try.ntmps42
      go_wp2
      go_ret2
      exact ⟨rfl, rfl⟩
    · have e1 : divE a b = 0 := by unfold divE; rw [if_neg b0, if_neg hn]
      have e2 : divV a b = a.tdiv b := by unfold divV; rw [if_pos e1]
      rw [e1, e2]
      have hq := tdiv_bd a b ha b0 hn
      obtain ⟨q, hq2⟩ : ∃ q, a.tdiv b = q := ⟨_, rfl⟩
      rw [hq2] at hq ⊢
      have hq3 : IntKind.i64.wrap (a.tdiv b) = q := by rw [hq2]; exact IntWalk.i64_in _ hq
      cases q1 : (a == -9223372036854775808)
      all_goals cases q2 : (b == -1)
      all_goals first
        | (exfalso; simp at q1 q2; omega)
        | skip
      all_goals
        clear e1 e2 hn hq2
        go_enter Try.func42, Try.ntmps42
        go_wp2
        go_ret2
        exact ⟨rfl, rfl⟩

def modE (b : Int) : Int := if b = 0 then 3 else 0
def modV (a b : Int) : Int := if b = 0 then 0 else a.tmod b
theorem tmod_bd (a b : Int) (ha : -9223372036854775808 ≤ a ∧ a ≤ 9223372036854775807) : -9223372036854775808 ≤ a.tmod b ∧ a.tmod b ≤ 9223372036854775807 := by
  have h3 : (a.tmod b).natAbs = a.natAbs % b.natAbs := Int.natAbs_tmod ..
  have h4 := Nat.mod_le a.natAbs b.natAbs
  have h5 : 0 ≤ a → 0 ≤ a.tmod b := fun h => Int.tmod_nonneg b h
  have h6 : a ≤ 0 → a.tmod b ≤ 0 := fun h => by
    have := Int.tmod_nonneg b (show 0 ≤ -a by omega)
    rw [Int.neg_tmod] at this
    omega
  omega

set_option maxHeartbeats 1000000 in
theorem qmod_any (a b : Int) (w : World) (ha : -9223372036854775808 ≤ a ∧ a ≤ 9223372036854775807) (hb : -9223372036854775808 ≤ b ∧ b ≤ 9223372036854775807) :
    Calls Try.prog 43 #[.int .i64 a, .int .i64 b] w fun e w' => e = .returned (.tuple #[.int .i64 (modV a b), .int .i64 (modE b)]) ∧ w = w' := by
  by_cases b0 : b = 0
  · subst b0
    rw [show modV a 0 = 0 from rfl, show modE 0 = 3 from rfl]
    go_enter Try.func43, Try.ntmps43
    go_wp2
    go_ret2
    exact ⟨rfl, rfl⟩
  · have q0 : (b == 0) = false := by simpa using b0
    have e1 : modE b = 0 := by unfold modE; rw [if_neg b0]
    have e2 : modV a b = a.tmod b := by unfold modV; rw [if_neg b0]
    rw [e1, e2]
    clear e1 e2
    by_cases b1 : b = -1
    · subst b1
      have e3 : a.tmod (-1) = 0 := by rw [Int.tmod_neg, Int.tmod_one]
      rw [e3]
      clear e3
      go_enter Try.func43, Try.ntmps43
      go_wp2
      go_ret2
      exact ⟨rfl, rfl⟩
    · have q1 : (b == -1) = false := by simpa using b1
      have hq := tmod_bd a b ha
      obtain ⟨q, hq2⟩ : ∃ q, a.tmod b = q := ⟨_, rfl⟩
      rw [hq2] at hq ⊢
      have hq3 : IntKind.i64.wrap (a.tmod b) = q := by rw [hq2]; exact IntWalk.i64_in _ hq
      clear b1
      go_enter Try.func43, Try.ntmps43
      go_wp2
      go_ret2
      exact ⟨rfl, rfl⟩



end Go.Proofs.Ytcamegfnhbbaeaa
