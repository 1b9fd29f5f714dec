/- Contracts of the reference's functions of layer 8. -/
import Derived.Test.YtmlndgmkjdkcfaaBrakeD
namespace Go.Proofs.Ytmlndgmkjdkcfaa
open Go.RowKit
set_option linter.unusedVariables false
set_option linter.unusedSimpArgs false
attribute [local go_sem] ite_max ite_min vite_max vite_min

set_option maxHeartbeats 400000 in
theorem in_any (n lo hi : Int) (w : World) (h : lo ≤ hi) :
    Calls Try.prog 48 #[.int .i64 n, .int .i64 lo, .int .i64 hi] w fun e w' => e = .returned (.int .i64 (max lo (min hi n))) ∧ w = w' := by
  by_cases h1 : n < lo
  · go_enter Try.func48, Try.ntmps48
    go_wp2
    go_ret
    rw [show max lo (min hi n) = lo by omega]
    exact ⟨rfl, rfl⟩
  · by_cases h2 : hi < n
    · go_enter Try.func48, Try.ntmps48
      go_wp2
      go_ret
      rw [show max lo (min hi n) = hi by omega]
      exact ⟨rfl, rfl⟩
    · go_enter Try.func48, Try.ntmps48
      go_wp2
      go_ret
      rw [show max lo (min hi n) = n by omega]
      exact ⟨rfl, rfl⟩

set_option maxHeartbeats 400000 in
theorem rdist_any (n : Int) (w : World) :
    Calls Try.prog 22 #[.int .i64 n] w fun e w' => e = .returned (.int .i64 (wy n)) ∧ w = w' := by
  go_enter Try.func22, Try.ntmps22
  go_wp2_with (first | (go_at_call 48; refine (in_any _ _ _ _ (by omega)).mono ?_; rintro e w' ⟨rfl, rfl⟩))
  go_ret
  exact ⟨rfl, rfl⟩

set_option maxHeartbeats 400000 in
theorem rvel_any (n : Int) (w : World) :
    Calls Try.prog 24 #[.int .i64 n] w fun e w' => e = .returned (.int .i64 (spd n)) ∧ w = w' := by
  go_enter Try.func24, Try.ntmps24
  go_wp2_with (first | (go_at_call 48; refine (in_any _ _ _ _ (by omega)).mono ?_; rintro e w' ⟨rfl, rfl⟩))
  go_ret
  exact ⟨rfl, rfl⟩

theorem in_spd (n : Int) : max 0 (min 1048576 n) = spd n := rfl
theorem in_lss (n : Int) : max 1 (min 1048576 n) = lss n := rfl

set_option maxHeartbeats 1000000 in
theorem rslow_any (v u d : Int) (w : World) :
    Calls Try.prog 18 #[.int .i64 v, .int .i64 u, .int .i64 d] w fun e w' => e = .returned (.int .i64 (slw (spd v) (spd u) (lss d))) ∧ w = w' := by
  have hv := spd_bd v
  have hu := spd_bd u
  have hd := lss_bd d
  have hb := slw_bound (spd v) (spd u) (lss d) hv hu.1 hd
  go_enter Try.func18, Try.ntmps18
  go_wp2_with (first | (go_at_call 48; refine (in_any _ _ _ _ (by omega)).mono ?_; simp only [in_spd, in_lss]; rintro e w' ⟨rfl, rfl⟩))
  go_loop [0, 7] (fun x s => ∃ a b : Int, 0 ≤ a ∧ a ≤ spd v ∧ 0 ≤ b ∧ b ≤ slw (spd v) (spd u) (lss d) ∧ Hid (b + slw a (spd u) (lss d) = slw (spd v) (spd u) (lss d)) ∧ x = .int .i64 a ∧ s = .int .i64 b) (fun x _ => (intOf x).toNat)
  case atStart => exact ⟨spd v, 0, hv.1, by omega, by omega, hb.1, show Hid _ from by show _ = _; omega, rfl, rfl⟩
  case round =>
    obtain ⟨a, b, ha, hav, hb0, hbs, HE, rfl, rfl⟩ := hrel
    by_cases hc : spd u < a - lss d
    · have h1 := slw_far a (spd u) (lss d) hd.1 hc
      have h2 := slw_nonneg (a - lss d) (spd u) (lss d) hd.1 hu.1
      have h3 : b + (a - lss d) ≤ slw (spd v) (spd u) (lss d) := by have := HE.out; omega
      have H4 : Hid (b + (a - lss d) + slw (a - lss d) (spd u) (lss d) = slw (spd v) (spd u) (lss d)) := by show _ = _; have := HE.out; omega
      clear h1 h2 HE
      go_wp2
      go_round
      case rel => exact ⟨a - lss d, b + (a - lss d), by omega, by omega, by omega, h3, H4, rfl, rfl⟩
      case measure => simp [intOf]; omega
    · have h1 := slw_near a (spd u) (lss d) hd.1 (by omega)
      have H4 : Hid (slw (spd v) (spd u) (lss d) = b) := by show _ = _; have := HE.out; omega
      clear h1 HE
      go_wp2
      go_ret
      rw [H4.out]
      exact ⟨rfl, rfl⟩

set_option maxHeartbeats 1000000 in
theorem rcycles_any (v d : Int) (w : World) :
    Calls Try.prog 21 #[.int .i64 v, .int .i64 d] w fun e w' => e = .returned (.int .i64 ((spd v + lss d - 1) / lss d)) ∧ w = w' := by
  have hv := spd_bd v
  have hd := lss_bd d
  have hq := quo_mul (spd v + lss d - 1) (lss d) hd.1 (by omega)
  have hk : (spd v + lss d - 1) / lss d ≤ 1048576 := by
    have := Int.mul_le_mul_of_nonneg_right hd.1 hq.1
    by_cases c : (spd v + lss d - 1) / lss d ≤ 1048576
    · exact c
    · have h2 : lss d * 1048577 ≤ lss d * ((spd v + lss d - 1) / lss d) := Int.mul_le_mul_of_nonneg_left (by omega) (by omega)
      omega
  go_enter Try.func21, Try.ntmps21
  go_wp2_with (first | (go_at_call 48; refine (in_any _ _ _ _ (by omega)).mono ?_; simp only [in_spd, in_lss]; rintro e w' ⟨rfl, rfl⟩))
  have hq0 := hq.1
  clear hq
  go_loop [0, 5] (fun x s => ∃ a b : Int, -lss d < a ∧ a ≤ spd v ∧ 0 ≤ b ∧ b ≤ (spd v + lss d - 1) / lss d ∧ Hid (b + (a + lss d - 1) / lss d = (spd v + lss d - 1) / lss d) ∧ x = .int .i64 a ∧ s = .int .i64 b) (fun x _ => (intOf x).toNat)
  case atStart => exact ⟨spd v, 0, by omega, by omega, by omega, hq0, show Hid _ from by show _ = _; omega, rfl, rfl⟩
  case round =>
    obtain ⟨a, b, ha, hav, hb0, hbs, HE, rfl, rfl⟩ := hrel
    by_cases hc : 0 < a
    · have h1 : (a + lss d - 1) / lss d = (a - lss d + lss d - 1) / lss d + 1 := by
        rw [show a + lss d - 1 = (a - lss d + lss d - 1) + lss d from by omega, Int.add_ediv_of_dvd_right (Int.dvd_refl _), Int.ediv_self (by omega)]
      have h2 : 0 ≤ (a - lss d + lss d - 1) / lss d := Int.ediv_nonneg (by omega) (by omega)
      have h3 : b + 1 ≤ (spd v + lss d - 1) / lss d := by have := HE.out; omega
      have H4 : Hid (b + 1 + (a - lss d + lss d - 1) / lss d = (spd v + lss d - 1) / lss d) := by show _ = _; have := HE.out; omega
      clear h1 h2 HE
      go_wp2
      go_round
      case rel => exact ⟨a - lss d, b + 1, by omega, by omega, by omega, h3, H4, rfl, rfl⟩
      case measure => simp [intOf]; omega
    · have h1 : (a + lss d - 1) / lss d = 0 := Int.ediv_eq_zero_of_lt (by omega) (by omega)
      have H4 : Hid ((spd v + lss d - 1) / lss d = b) := by show _ = _; have := HE.out; omega
      clear h1 HE
      go_wp2
      go_ret
      rw [H4.out]
      exact ⟨rfl, rfl⟩

end Go.Proofs.Ytmlndgmkjdkcfaa
