/- Layer 1: the fixed answers; contracts by equations. -/
import Derived.Test.YtgbcefdlmockoaaQF
import Derived.Test.YtgbcefdlmockoaaFrame
namespace Go.Proofs.Ytgbcefdlmockoaa
open Go.ChangeShapes Go.WideShapes Go.ChangeAt Go.RowKit
set_option linter.unusedVariables false
set_option linter.unusedSimpArgs false
attribute [local go_sem] ite_max ite_min vite_max vite_min ext_cell ext_frozen

theorem qadd_at (a b v : Int) (o : Bool) (w : World) (ha : -9223372036854775808 ≤ a ∧ a ≤ 9223372036854775807) (hb : -9223372036854775808 ≤ b ∧ b ≤ 9223372036854775807) (hv : fitV (a + b) = v) (ho : fitB (a + b) = o) :
    Calls Try.prog 20 #[.int .i64 a, .int .i64 b] w fun e w' => e = .returned (.tuple #[.int .i64 v, .bool o]) ∧ w = w' := by
  subst hv
  subst ho
  exact qadd_any a b w ha hb
theorem qsub_at (a b v : Int) (o : Bool) (w : World) (ha : -9223372036854775808 ≤ a ∧ a ≤ 9223372036854775807) (hb : -9223372036854775808 ≤ b ∧ b ≤ 9223372036854775807) (hv : fitV (a - b) = v) (ho : fitB (a - b) = o) :
    Calls Try.prog 22 #[.int .i64 a, .int .i64 b] w fun e w' => e = .returned (.tuple #[.int .i64 v, .bool o]) ∧ w = w' := by
  subst hv
  subst ho
  exact qsub_any a b w ha hb
theorem qmul_at (a b v : Int) (o : Bool) (w : World) (ha : -9223372036854775808 ≤ a ∧ a ≤ 9223372036854775807) (hb : -9223372036854775808 ≤ b ∧ b ≤ 9223372036854775807) (hv : fitV (a * b) = v) (ho : fitB (a * b) = o) :
    Calls Try.prog 19 #[.int .i64 a, .int .i64 b] w fun e w' => e = .returned (.tuple #[.int .i64 v, .bool o]) ∧ w = w' := by
  subst hv
  subst ho
  exact qmul_any a b w ha hb
theorem qdiv_at (a b v x : Int) (w : World) (ha : -9223372036854775808 ≤ a ∧ a ≤ 9223372036854775807) (hb : -9223372036854775808 ≤ b ∧ b ≤ 9223372036854775807) (hv : divV a b = v) (hx : divE a b = x) :
    Calls Try.prog 25 #[.int .i64 a, .int .i64 b] w fun e w' => e = .returned (.tuple #[.int .i64 v, .int .i64 x]) ∧ w = w' := by
  subst hv
  subst hx
  exact qdiv_any a b w ha hb
theorem qmod_at (a b v x : Int) (w : World) (ha : -9223372036854775808 ≤ a ∧ a ≤ 9223372036854775807) (hb : -9223372036854775808 ≤ b ∧ b ≤ 9223372036854775807) (hv : modV a b = v) (hx : modE b = x) :
    Calls Try.prog 27 #[.int .i64 a, .int .i64 b] w fun e w' => e = .returned (.tuple #[.int .i64 v, .int .i64 x]) ∧ w = w' := by
  subst hv
  subst hx
  exact qmod_any a b w ha hb
theorem qmuldiv_at (a b c v x : Int) (w : World) (ha : -9223372036854775808 ≤ a ∧ a ≤ 9223372036854775807) (hb : -9223372036854775808 ≤ b ∧ b ≤ 9223372036854775807) (hc : -9223372036854775808 ≤ c ∧ c ≤ 9223372036854775807) (hv : mdV a b c = v) (hx : mdE a b c = x) :
    Calls Try.prog 13 #[.int .i64 a, .int .i64 b, .int .i64 c] w fun e w' => e = .returned (.tuple #[.int .i64 v, .int .i64 x]) ∧ Below w.heap.size w w' := by
  subst hv
  subst hx
  by_cases h : c ≤ 0
  · exact qmuldiv_bad a b c w h
  · exact qmuldiv_good a b c w ha hb (by omega)
theorem qsqrt_at (n r : Int) (w : World) (hn : 0 ≤ n ∧ n ≤ 9223372036854775807) (hr : IsRoot n r) : Calls Try.prog 15 #[.int .i64 n] w fun e w' => e = .returned (.int .i64 r) ∧ w = w' := by
  by_cases h : n = 0
  · subst h
    obtain rfl : 0 = r := root_one ⟨by omega, by omega, by omega⟩ hr
    exact qsqrt_low 0 w (by omega)
  · exact qsqrt_yes n r w (by omega) hr
theorem qclamp_at (n lo hi k : Int) (w : World) (hk : max lo (min n hi) = k) : Calls Try.prog 17 #[.int .i64 n, .int .i64 lo, .int .i64 hi] w fun e w' => e = .returned (.int .i64 k) ∧ w = w' := by
  subst hk
  exact qclamp_any n lo hi w

set_option maxHeartbeats 1000000 in
theorem awake1 (w : World) : Calls Try.prog 12 #[] w fun e w' => e = .returned (.bool true) ∧ Below w.heap.size w w' := by
  go_enter Try.func12, Try.ntmps12
  go_wp2_with fail
  refine (qmuldiv_at _ _ _ (-11) 0 _ (by decide) (by decide) (by decide) (by decide) (by decide)).mono ?_
  rintro e w1 ⟨rfl, hb1⟩
  go_wp2_with fail
  refine (qadd_at _ _ 3 true _ (by decide) (by decide) (by decide) (by decide)).mono ?_
  rintro e w2 ⟨rfl, rfl⟩
  go_wp2_with fail
  refine (qsqrt_at _ 9 _ (by decide) (by unfold IsRoot; decide)).mono ?_
  rintro e w2 ⟨rfl, rfl⟩
  go_wp2
  go_ret
  exact ⟨rfl, by (repeat' (first | (with_reducible exact Below.refl _ _) | (with_reducible assumption) | (with_reducible refine below_drewN ?_ _) | (with_reducible refine Below.drew ?_) | (with_reducible refine below_new ?_ (Nat.le_refl _) _) | (with_reducible refine Below.setCell ?_ ?_ _) | (with_reducible refine below_go ?_ (by assumption) (Nat.le_refl _)) | (simp; done) | (simp; omega) | omega))⟩

end Go.Proofs.Ytgbcefdlmockoaa
