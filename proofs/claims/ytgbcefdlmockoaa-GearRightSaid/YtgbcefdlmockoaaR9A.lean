/- Contracts of the reference of layer 9: ways and speeds, bit by bit. -/
import Derived.Test.YtgbcefdlmockoaaGenN
namespace Go.Proofs.Ytgbcefdlmockoaa
open Go.RowKit
set_option linter.unusedVariables false
set_option linter.unusedSimpArgs false
attribute [local go_sem] ite_max ite_min vite_max vite_min ite_max0 vite_max0 ext_cell ext_frozen

theorem half_row (d n : Int) : d * n * (n + 1) / 2 = d * (n * (n + 1) / 2) := by
  obtain ⟨t, ht⟩ : ∃ t, n * (n + 1) = 2 * t := by
    refine ⟨n * (n + 1) / 2, ?_⟩
    have h : n * (n + 1) % 2 = 0 := by
      rcases Int.emod_two_eq n with h | h
      · rw [Int.mul_emod, h]
        simp
      · rw [Int.mul_emod, show (n + 1) % 2 = 0 by omega]
        simp
    omega
  rw [Int.mul_assoc, ht, Int.mul_left_comm, Int.mul_ediv_cancel_left _ (by omega), Int.mul_ediv_cancel_left _ (by omega)]

/-- the products of a row of k speeds, as the reference reckons them -/
theorem row_parts (v u d : Int) (hv : 0 ≤ v ∧ v ≤ 1048576) (hu : 0 ≤ u) (hd : 1 ≤ d ∧ d ≤ 1048576) (huv : u < v) :
    ∃ n p q r : Int, (v - u - 1) / d = n ∧ n * v = p ∧ d * n = q ∧ q * (n + 1) = r ∧ slw v u d = p - r / 2 ∧ 0 ≤ n ∧ n ≤ 1048576 ∧ 0 ≤ p ∧ p ≤ 1099511627776 ∧ 0 ≤ q ∧ q ≤ 1048576 ∧ 0 ≤ r ∧ r ≤ 1099512676352 := by
  have hq := quo_mul (v - u - 1) d hd.1 (by omega)
  have hb := row_bd v d ((v - u - 1) / d) hv hd hq.1 (by omega)
  have hm : 0 ≤ d * ((v - u - 1) / d) := Int.mul_nonneg (by omega) hq.1
  have hr := mul_le_of (d * ((v - u - 1) / d)) ((v - u - 1) / d + 1) 1048576 1048577 hm (by omega) (by omega) (by omega)
  refine ⟨_, _, _, _, rfl, rfl, rfl, rfl, ?_, by omega, by omega, by omega, by omega, hm, by omega, hr.1, by omega⟩
  rw [half_row]
  unfold slw rowf
  rw [if_neg (by omega)]

set_option maxHeartbeats 1000000 in
theorem rway9_any (v d : Int) (w : World) (hv : 0 ≤ v ∧ v ≤ 1048576) (hd : 1 ≤ d ∧ d ≤ 1048576) :
    Calls Try.prog 61 #[.int .i64 v, .int .i64 d] w fun e w' => e = .returned (.int .i64 (slw v 0 d)) ∧ w = w' := by
  by_cases h : 0 < v
  · obtain ⟨n, p, q, r, e1, e2, e3, e4, e5, b1, b2, b3, b4, b5, b6, b7, b8⟩ := row_parts v 0 d hv (by omega) hd h
    rw [Int.sub_zero] at e1
    rw [e5]
    clear e5
    go_enter Try.func61, Try.ntmps61
    go_wp2
    go_ret
    exact ⟨rfl, rfl⟩
  · obtain rfl : v = 0 := by omega
    rw [slw_le 0 0 d (by omega)]
    go_enter Try.func61, Try.ntmps61
    go_wp2
    go_ret
    exact ⟨rfl, rfl⟩

theorem pow_half (j : Nat) (b : Int) (hb : b = (2 : Int) ^ (j + 1)) : b / 2 = (2 : Int) ^ j := by
  rw [hb, Int.pow_succ, Int.mul_ediv_cancel _ (by omega)]
theorem pow_in (j : Nat) (hj : j ≤ 20) : 1 ≤ (2 : Int) ^ j ∧ (2 : Int) ^ j ≤ 1048576 := by
  have e : ((2 : Int) ^ j) = ((2 ^ j : Nat) : Int) := by rw [Int.natCast_pow]; rfl
  have h1 := Nat.pow_pos (n := j) (show 0 < 2 by omega)
  have h2 : (2 : Nat) ^ j ≤ 2 ^ 20 := Nat.pow_le_pow_right (by omega) hj
  omega
/-- where the search bit by bit stands -/
def bitAt (R v b : Int) : Prop := 0 ≤ v ∧ v ≤ R ∧ ((b = 0 ∧ R = v) ∨ ∃ j : Nat, j ≤ 20 ∧ b = (2 : Int) ^ j ∧ R < v + 2 * b)
theorem bit_yes {R v b : Int} (h : bitAt R v b) (hb : 0 < b) (hx : v + b ≤ R) : bitAt R (v + b) (b / 2) := by
  obtain ⟨h1, h2, h3⟩ := h
  rcases h3 with ⟨h3, _⟩ | ⟨j, hj, he, h4⟩
  · omega
  · refine ⟨by omega, hx, ?_⟩
    cases j with
    | zero =>
      have : b = 1 := he
      exact .inl ⟨by omega, by omega⟩
    | succ j =>
      have e := pow_half j b he
      have : b = 2 * (b / 2) := by
        rw [e, he, Int.pow_succ]
        omega
      exact .inr ⟨j, by omega, e, by omega⟩
theorem bit_no {R v b : Int} (h : bitAt R v b) (hb : 0 < b) (hx : R < v + b) : bitAt R v (b / 2) := by
  obtain ⟨h1, h2, h3⟩ := h
  rcases h3 with ⟨h3, _⟩ | ⟨j, hj, he, h4⟩
  · omega
  · refine ⟨h1, h2, ?_⟩
    cases j with
    | zero =>
      have : b = 1 := he
      exact .inl ⟨by omega, by omega⟩
    | succ j =>
      have e := pow_half j b he
      have : b = 2 * (b / 2) := by
        rw [e, he, Int.pow_succ]
        omega
      exact .inr ⟨j, by omega, e, by omega⟩
theorem bit_start (R : Int) (hR : 0 ≤ R ∧ R ≤ 1048576) : bitAt R 0 1048576 :=
  ⟨by omega, hR.1, .inr ⟨20, by omega, by decide, by omega⟩⟩
theorem bit_end {R v : Int} (h : bitAt R v 0) : R = v := by
  obtain ⟨h1, h2, h3⟩ := h
  rcases h3 with ⟨_, h3⟩ | ⟨j, hj, he, h4⟩
  · exact h3
  · have := pow_in j hj
    omega
theorem bit_bd {R v b : Int} (h : bitAt R v b) : 0 ≤ b ∧ b ≤ 1048576 := by
  obtain ⟨h1, h2, h3⟩ := h
  rcases h3 with ⟨h3, _⟩ | ⟨j, hj, he, h4⟩
  · omega
  · have := pow_in j hj
    omega

set_option maxHeartbeats 2000000 in
theorem rreach_any (s d : Int) (w : World) (hs : 0 ≤ s ∧ s ≤ 2199023255552) (hd : 1 ≤ d ∧ d ≤ 1048576) :
    Calls Try.prog 64 #[.int .i64 s, .int .i64 d] w fun e w' => e = .returned (.int .i64 (rch s d)) ∧ w = w' := by
  have hRb := rch_bd s d
  have hiff := rch_iff s d
  obtain ⟨R, hR⟩ : ∃ R, rch s d = R := ⟨_, rfl⟩
  rw [hR] at hRb hiff ⊢
  have HI := Lib.hid hiff
  clear hiff hR
  go_enter Try.func64, Try.ntmps64
  go_wp2_with fail
  go_loop [5, 6] (fun u x => ∃ v b : Int, u = .int .i64 v ∧ x = .int .i64 b ∧ Hid (bitAt R v b) ∧ 0 ≤ v ∧ v ≤ R ∧ 0 ≤ b ∧ b ≤ 1048576) (fun _ x => (intOf x).toNat)
  case atStart => exact ⟨0, 1048576, rfl, rfl, bit_start R hRb, by omega, by omega, by omega, by omega⟩
  case round =>
    obtain ⟨v, b, rfl, rfl, HB, hv0, hvR, hb0, hb1⟩ := hrel
    by_cases h0 : b = 0
    · subst h0
      obtain rfl : R = v := bit_end HB.out
      go_wp2_with fail
      go_ret
      exact ⟨rfl, rfl⟩
    · have hbp : 0 < b := by omega
      by_cases hx : v + b ≤ 1048576
      · have hsl := slw_bound (v + b) 0 d (by omega) (by omega) hd
        have hi := HI.out (v + b) hs.1 hd.1 hx
        by_cases hle : v + b ≤ R
        · have hle2 := hi.1 hle
          have hn := Lib.hid (bit_yes HB.out hbp hle)
          clear hi h0
          go_wp2_with (first | (go_at_call 61; refine (rway9_any _ _ _ (by omega) (by omega)).mono ?_; rintro e w' ⟨rfl, rfl⟩))
          go_round
          case rel => exact ⟨v + b, b / 2, rfl, rfl, hn, by omega, by omega, by omega, by omega⟩
          case measure => simp [intOf]; omega
        · have hle2 : ¬ v + b + slw (v + b) 0 d ≤ s := fun h => hle (hi.2 h)
          have hn := Lib.hid (bit_no HB.out hbp (by omega))
          clear hi h0
          go_wp2_with (first | (go_at_call 61; refine (rway9_any _ _ _ (by omega) (by omega)).mono ?_; rintro e w' ⟨rfl, rfl⟩))
          go_round
          case rel => exact ⟨v, b / 2, rfl, rfl, hn, by omega, by omega, by omega, by omega⟩
          case measure => simp [intOf]; omega
      · have hn := Lib.hid (bit_no HB.out hbp (by omega))
        clear h0
        go_wp2_with fail
        go_round
        case rel => exact ⟨v, b / 2, rfl, rfl, hn, by omega, by omega, by omega, by omega⟩
        case measure => simp [intOf]; omega



end Go.Proofs.Ytgbcefdlmockoaa
