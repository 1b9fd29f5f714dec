/- Contracts of layer 1: a product by a number, rounded down; the fixed answers. -/
import Derived.Test.YtgbcefdlmockoaaQE
namespace Go.Proofs.Ytgbcefdlmockoaa
open Go.RowKit
set_option linter.unusedVariables false
set_option linter.unusedSimpArgs false
attribute [local go_sem] ite_max ite_min vite_max vite_min ext_cell ext_frozen

theorem div64_at (hi lo y q r : Int) (w : World) (hh : 0 ≤ hi ∧ hi < y) (hl : 0 ≤ lo ∧ lo ≤ 18446744073709551615) (hy : 1 ≤ y ∧ y ≤ 18446744073709551615) (hq : (hi * 18446744073709551616 + lo) / y = q) (hr : (hi * 18446744073709551616 + lo) % y = r) :
    Calls Try.prog 39 #[.int .u64 hi, .int .u64 lo, .int .u64 y] w fun e w' => e = .returned (.tuple #[.int .u64 q, .int .u64 r]) ∧ Below w.heap.size w w' := by
  subst hq
  subst hr
  by_cases h : hi = 0
  · subst h
    have := div64_low lo y w hl hy
    rw [show (0 : Int) * 18446744073709551616 + lo = lo by omega]
    exact this
  · exact div64_high hi lo y _ w (by omega) hl hy rfl

/-- the error of a product by a number: 3 by nothing, 1 by less than nothing, 2 if it has no room -/
def mdE (a b c : Int) : Int := if c = 0 then 3 else if c < 0 then 1 else if fitB (a * b / c) = true then 0 else 2
def mdV (a b c : Int) : Int := if mdE a b c = 0 then a * b / c else 0

theorem neg_quo (M c : Int) (hc : 0 < c) : (-M) / c = if M % c = 0 then -(M / c) else -(M / c) - 1 := by
  have h1 := Int.mul_ediv_add_emod M c
  have h2 := Int.emod_nonneg M (show c ≠ 0 by omega)
  have h3 := Int.emod_lt_of_pos M hc
  generalize M / c = n at *
  generalize M % c = r at *
  have h4 : c * n = n * c := Int.mul_comm c n
  by_cases h : r = 0
  · rw [if_pos h, show -M = 0 + (-n) * c by rw [Int.neg_mul]; omega, Int.add_mul_ediv_right _ _ (by omega)]
    simp
  · rw [if_neg h, show -M = (c - r) + (-n - 1) * c by rw [Int.sub_mul, Int.neg_mul]; omega, Int.add_mul_ediv_right _ _ (by omega), Int.ediv_eq_zero_of_lt (by omega) (by omega)]
    omega

set_option maxHeartbeats 4000000 in
theorem qmuldiv_bad (a b c : Int) (w : World) (hc : c ≤ 0) :
    Calls Try.prog 13 #[.int .i64 a, .int .i64 b, .int .i64 c] w fun e w' => e = .returned (.tuple #[.int .i64 (mdV a b c), .int .i64 (mdE a b c)]) ∧ Below w.heap.size w w' := by
  by_cases c0 : c = 0
  · subst c0
    rw [show mdE a b 0 = 3 from rfl, show mdV a b 0 = 0 from rfl]
    go_enter Try.func13, Try.ntmps13
    go_wp2
    go_ret2
    exact ⟨rfl, by (repeat' (first | (with_reducible exact Below.refl _ _) | (with_reducible assumption) | (with_reducible refine below_drewN ?_ _) | (with_reducible refine Below.drew ?_) | (with_reducible refine below_new ?_ (Nat.le_refl _) _) | (with_reducible refine Below.setCell ?_ ?_ _) | (with_reducible refine below_go ?_ (by assumption) (Nat.le_refl _)) | (simp; done) | (simp; omega) | omega))⟩
  · have e1 : mdE a b c = 1 := by unfold mdE; rw [if_neg c0, if_pos (by omega)]
    have e2 : mdV a b c = 0 := by unfold mdV; rw [e1]; rfl
    have q0 : (c == 0) = false := by simpa using c0
    rw [e1, e2]
    have c1 : c < 0 := by omega
    clear e1 e2 c0 hc
    go_enter Try.func13, Try.ntmps13
    go_wp2
    go_ret2
    exact ⟨rfl, by (repeat' (first | (with_reducible exact Below.refl _ _) | (with_reducible assumption) | (with_reducible refine below_drewN ?_ _) | (with_reducible refine Below.drew ?_) | (with_reducible refine below_new ?_ (Nat.le_refl _) _) | (with_reducible refine Below.setCell ?_ ?_ _) | (with_reducible refine below_go ?_ (by assumption) (Nat.le_refl _)) | (simp; done) | (simp; omega) | omega))⟩

set_option maxRecDepth 100000 in
set_option maxHeartbeats 8000000 in
theorem qmuldiv_good (a b c : Int) (w : World) (ha : -9223372036854775808 ≤ a ∧ a ≤ 9223372036854775807) (hb : -9223372036854775808 ≤ b ∧ b ≤ 9223372036854775807) (hc : 1 ≤ c ∧ c ≤ 9223372036854775807) :
    Calls Try.prog 13 #[.int .i64 a, .int .i64 b, .int .i64 c] w fun e w' => e = .returned (.tuple #[.int .i64 (mdV a b c), .int .i64 (mdE a b c)]) ∧ Below w.heap.size w w' := by
  have hs := size_mul a b
  have hz := size_bd a b ha hb
  have q0 : (c == 0) = false := by simp; omega
  have he : mdE a b c = if fitB (a * b / c) = true then 0 else 2 := by unfold mdE; rw [if_neg (by omega), if_neg (by omega)]
  have hv : mdV a b c = fitV (a * b / c) := by
    unfold mdV
    rw [he]
    unfold fitV
    split
    · rfl
    · rfl
  rw [he, hv]
  clear he hv
  obtain ⟨x, hx⟩ : ∃ x, a * b / c = x := ⟨_, rfl⟩
  obtain ⟨M, hM⟩ : ∃ M, max a (-a) * max b (-b) = M := ⟨_, rfl⟩
  rw [hM] at hs hz
  have hng := neg_quo M c (by omega)
  have hxx : ((decide (a < 0) != decide (b < 0)) = true ∧ x = (-M) / c) ∨ ((decide (a < 0) != decide (b < 0)) = false ∧ x = M / c) := by
    rcases hs with ⟨h1, h2⟩ | ⟨h1, h2⟩
    · exact .inl ⟨h1, by rw [← hx, h2]⟩
    · exact .inr ⟨h1, by rw [← hx, h2]⟩
  rw [hng] at hxx
  rw [hx]
  clear hs hng hx
  have hn1 := Int.mul_ediv_add_emod M c
  have hn2 := Int.emod_nonneg M (show c ≠ 0 by omega)
  have hn3 := Int.emod_lt_of_pos M (show 0 < c by omega)
  have hn4 := Int.ediv_nonneg hz.1 (show 0 ≤ c by omega)
  obtain ⟨hi, hhi⟩ : ∃ hi, M / 18446744073709551616 = hi := ⟨_, rfl⟩
  obtain ⟨lo, hlo⟩ : ∃ lo, M % 18446744073709551616 = lo := ⟨_, rfl⟩
  have hhb : 0 ≤ hi ∧ hi ≤ 4611686018427387904 := by omega
  have hlb : 0 ≤ lo ∧ lo ≤ 18446744073709551615 := by omega
  have hhl : hi * 18446744073709551616 + lo = M := by omega
  have hbig : c ≤ hi → 18446744073709551616 ≤ M / c := fun h => (Int.le_ediv_iff_mul_le (by omega)).2 (by
    have : 18446744073709551616 * c ≤ 18446744073709551616 * hi := by omega
    omega)
  have hsml : hi < c → M / c < 18446744073709551616 := fun h => Int.ediv_lt_of_lt_mul (by omega) (by omega)
  obtain ⟨n, hn⟩ : ∃ n, M / c = n := ⟨_, rfl⟩
  obtain ⟨r, hr⟩ : ∃ r, M % c = r := ⟨_, rfl⟩
  rw [hn] at hxx hn1 hn4 hbig hsml
  rw [hr] at hxx hn1 hn2 hn3
  have HM := Lib.hid hM
  have HI := Lib.hid hhi
  have HL := Lib.hid hlo
  have HN := Lib.hid hn
  have HR := Lib.hid hr
  have HH := Lib.hid hhl
  clear hM hhi hlo hn hr hhl hn1
  cases A : decide (a < 0)
  all_goals cases B : decide (b < 0)
  all_goals rw [A, B] at hxx
  all_goals simp at hxx
  all_goals by_cases r0 : r = 0
  all_goals
    first
      | rw [if_pos r0] at hxx
      | rw [if_neg r0] at hxx
      | skip
  all_goals by_cases hcmp : c ≤ hi
  all_goals
    first
      | have hb2 := hbig hcmp
      | have hb2 := hsml (by omega)
  all_goals clear hbig hsml
  all_goals
    by_cases nb : n = 18446744073709551615
  all_goals
    first
      | have qn : (n == 18446744073709551615) = true := by simpa using nb
      | have qn : (n == 18446744073709551615) = false := by simpa using nb
  all_goals have HX := Lib.hid hxx
  all_goals
    by_cases nf : -9223372036854775808 ≤ x ∧ x ≤ 9223372036854775807
  all_goals
    first
      | (exfalso; omega)
      | skip
  all_goals
    first
      | rw [fitV_yes nf, fitB_yes nf]
      | rw [fitV_no nf, fitB_no nf]
  all_goals clear hxx
  all_goals
    first
      | subst r0
      | have r1 : 0 < r := by omega
  all_goals
    first
      | (have nb2 : n < 18446744073709551615 := by omega)
      | skip
  all_goals
    clear nb
    go_enter Try.func13, Try.ntmps13
    go_wp2_with fail
    refine (qsize_any _ _ ha).mono ?_
    rintro e w1 ⟨rfl, rfl⟩
    go_wp2_with fail
    refine (qsize_any _ _ hb).mono ?_
    rintro e w1 ⟨rfl, rfl⟩
    go_wp2_with fail
    refine (mul64_at _ _ hi lo _ (by omega) (by omega) (by rw [HM.out, HI.out]) (by rw [HM.out, HL.out])).mono ?_
    rintro e w1 ⟨rfl, rfl⟩
    go_wp2_with fail
  all_goals
    first
      | done
      | (go_ret2
         exact ⟨rfl, by (repeat' (first | (with_reducible exact Below.refl _ _) | (with_reducible assumption) | (with_reducible refine below_drewN ?_ _) | (with_reducible refine Below.drew ?_) | (with_reducible refine below_new ?_ (Nat.le_refl _) _) | (with_reducible refine Below.setCell ?_ ?_ _) | (with_reducible refine below_go ?_ (by assumption) (Nat.le_refl _)) | (simp; done) | (simp; omega) | omega))⟩)
      | (refine (div64_at hi lo c n _ _ (by omega) (by omega) (by omega) (by rw [HH.out, HN.out]) (by rw [HH.out, HR.out])).mono ?_
         rintro e w2 ⟨rfl, hbw⟩
         go_wp2_with fail
         first
           | (go_ret2
              exact ⟨rfl, by (repeat' (first | (with_reducible exact Below.refl _ _) | (with_reducible assumption) | (with_reducible refine below_drewN ?_ _) | (with_reducible refine Below.drew ?_) | (with_reducible refine below_new ?_ (Nat.le_refl _) _) | (with_reducible refine Below.setCell ?_ ?_ _) | (with_reducible refine below_go ?_ (by assumption) (Nat.le_refl _)) | (simp; done) | (simp; omega) | omega))⟩)
           | (refine (qsigned_any _ x _ _ (by omega) (by have := HX.out; simp; omega)).mono ?_
              first
                | rw [fitV_yes nf, fitB_yes nf]
                | rw [fitV_no nf, fitB_no nf]
              rintro e w3 ⟨rfl, rfl⟩
              go_wp2
              go_ret2
              exact ⟨rfl, by (repeat' (first | (with_reducible exact Below.refl _ _) | (with_reducible assumption) | (with_reducible refine below_drewN ?_ _) | (with_reducible refine Below.drew ?_) | (with_reducible refine below_new ?_ (Nat.le_refl _) _) | (with_reducible refine Below.setCell ?_ ?_ _) | (with_reducible refine below_go ?_ (by assumption) (Nat.le_refl _)) | (simp; done) | (simp; omega) | omega))⟩))

end Go.Proofs.Ytgbcefdlmockoaa
