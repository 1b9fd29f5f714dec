/- Contracts of brake's searches: the greatest speed for which something holds. -/
import Derived.Test.YtgbcefdlmockoaaBrakeA
namespace Go.Proofs.Ytgbcefdlmockoaa
open Go.RowKit
set_option linter.unusedVariables false
set_option linter.unusedSimpArgs false
attribute [local go_sem] ite_max ite_min vite_max vite_min

set_option maxHeartbeats 400000 in
theorem reach1_any (v s d : Int) (w : World) (ad ac : Addr) (hv : 0 ≤ v ∧ v ≤ 1048576)
    (hcd : w.cell? ad = some (.int .i64 d)) (hcs : w.cell? ac = some (.int .i64 s)) :
    Calls Try.prog 72 #[.int .i64 v, .pointer (some ad), .pointer (some ac)] w fun e w' => e = .returned (.bool (stopsB s (lss d) v)) ∧ ∃ n, w' = w.drewN n := by
  have hsv := spd_id v hv
  have hd := lss_bd d
  have hb := slw_bound v 0 (lss d) hv (by omega) hd
  have HS := Lib.hid hsv
  clear hsv
  go_enter Try.func72, Try.ntmps72
  go_wp2_with fail
  go_quiet ((go_at_call 55; exact quiet_left (Way_any _ _ _)))
  rw [HS.out]
  go_wp2
  go_ret
  rw [IntWalk.wrap64_in _ (by omega)]
  exact ⟨rfl, _, rfl⟩



end Go.Proofs.Ytgbcefdlmockoaa
