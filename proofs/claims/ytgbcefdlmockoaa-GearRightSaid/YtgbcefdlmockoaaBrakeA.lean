/- Contracts of brake's small functions. -/
import Derived.Test.YtgbcefdlmockoaaBase
import Derived.Test.YtgbcefdlmockoaaPBrake
namespace Go.Proofs.Ytgbcefdlmockoaa
open Go.RowKit
set_option linter.unusedVariables false
set_option linter.unusedSimpArgs false
attribute [local go_sem] ite_max ite_min vite_max vite_min

set_option maxHeartbeats 400000 in
theorem speed_any (v : Int) (w : World) :
    Calls Try.prog 67 #[.int .i64 v] w fun e w' => e = .returned (.int .i64 (spd v)) ∧ w = w' := by
  go_enter Try.func67, Try.ntmps67
  go_wp2
  go_ret
  exact ⟨rfl, rfl⟩

set_option maxHeartbeats 400000 in
theorem loss_any (v : Int) (w : World) :
    Calls Try.prog 68 #[.int .i64 v] w fun e w' => e = .returned (.int .i64 (lss v)) ∧ w = w' := by
  go_enter Try.func68, Try.ntmps68
  go_wp2
  go_ret
  exact ⟨rfl, rfl⟩

set_option maxHeartbeats 400000 in
theorem way_any (v : Int) (w : World) :
    Calls Try.prog 70 #[.int .i64 v] w fun e w' => e = .returned (.int .i64 (wy v)) ∧ w = w' := by
  go_enter Try.func70, Try.ntmps70
  go_wp2
  go_ret
  exact ⟨rfl, rfl⟩

set_option maxHeartbeats 400000 in
theorem row_any (v d k : Int) (w : World) (hv : 0 ≤ v ∧ v ≤ 1048576) (hd : 1 ≤ d ∧ d ≤ 1048576) (hk : 0 ≤ k) (hdk : d * k ≤ v) :
    Calls Try.prog 69 #[.int .i64 v, .int .i64 d, .int .i64 k] w fun e w' => e = .returned (.int .i64 (rowf v d k)) ∧ w = w' := by
  have hb := row_bd v d k hv hd hk hdk
  go_enter Try.func69, Try.ntmps69
  go_wp2
  go_ret
  exact ⟨rfl, rfl⟩

set_option maxHeartbeats 400000 in
theorem slow_any (v u d : Int) (w : World) :
    Calls Try.prog 65 #[.int .i64 v, .int .i64 u, .int .i64 d] w fun e w' => e = .returned (.int .i64 (slw (spd v) (spd u) (lss d))) ∧ w = w' := by
  have hv := spd_bd v
  have hu := spd_bd u
  have hd := lss_bd d
  by_cases hc : spd v ≤ spd u
  · have hs : slw (spd v) (spd u) (lss d) = 0 := by simp [slw, hc]
    have HS := Lib.hid hs
    clear hs
    go_enter Try.func65, Try.ntmps65
    go_wp2_with (first | (go_at_call 67; refine (speed_any _ _).mono ?_; rintro e w' ⟨rfl, rfl⟩) | (go_at_call 68; refine (loss_any _ _).mono ?_; rintro e w' ⟨rfl, rfl⟩))
    go_ret
    exact ⟨by rw [HS.out]; rfl, rfl⟩
  · have hs : slw (spd v) (spd u) (lss d) = rowf (spd v) (lss d) ((spd v - spd u - 1) / lss d) := by simp [slw, hc]
    have HS := Lib.hid hs
    clear hs
    have hq := quo_mul (spd v - spd u - 1) (lss d) (by omega) (by omega)
    go_enter Try.func65, Try.ntmps65
    go_wp2_with (first | (go_at_call 67; refine (speed_any _ _).mono ?_; rintro e w' ⟨rfl, rfl⟩) | (go_at_call 68; refine (loss_any _ _).mono ?_; rintro e w' ⟨rfl, rfl⟩) | (go_at_call 69; refine (row_any _ _ _ _ (by omega) (by omega) (by omega) (by omega)).mono ?_; rintro e w' ⟨rfl, rfl⟩))
    go_ret
    exact ⟨by rw [HS.out]; rfl, rfl⟩

set_option maxHeartbeats 400000 in
theorem Way_any (v d : Int) (w : World) :
    Calls Try.prog 55 #[.int .i64 v, .int .i64 d] w fun e w' => e = .returned (.int .i64 (slw (spd v) 0 (lss d))) ∧ w = w' := by
  go_enter Try.func55, Try.ntmps55
  go_wp2_with (first | (go_at_call 65; refine (slow_any _ _ _ _).mono ?_; rintro e w' ⟨rfl, rfl⟩))
  go_ret
  exact ⟨rfl, rfl⟩



end Go.Proofs.Ytgbcefdlmockoaa
