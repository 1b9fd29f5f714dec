/- Contracts of brake's searches: the greatest speed for which something holds. -/
import Derived.Test.YtmlndgmkjdkcfaaBrakeA
namespace Go.Proofs.Ytmlndgmkjdkcfaa
open Go.RowKit
set_option linter.unusedVariables false
set_option linter.unusedSimpArgs false
attribute [local go_sem] ite_max ite_min vite_max vite_min

set_option maxHeartbeats 400000 in
theorem reach1_any (v s d : Int) (w : World) (ad ac : Addr) (hv : 0 ≤ v ∧ v ≤ 1048576)
    (hcd : w.cell? ad = some (.int .i64 d)) (hcs : w.cell? ac = some (.int .i64 s)) :
    Calls Try.prog 51 #[.int .i64 v, .pointer (some ad), .pointer (some ac)] w fun e w' => e = .returned (.bool (stopsB s (lss d) v)) ∧ ∃ n, w' = w.drewN n := by
  have hsv := spd_id v hv
  have hd := lss_bd d
  have hb := slw_bound v 0 (lss d) hv (by omega) hd
  have HS := Lib.hid hsv
  clear hsv
  go_enter Try.func51, Try.ntmps51
  go_wp2_with fail
  go_quiet ((go_at_call 19; exact quiet_left (Way_any _ _ _)))
  rw [HS.out]
  go_wp2
  go_ret
  rw [IntWalk.wrap64_in _ (by omega)]
  exact ⟨rfl, _, rfl⟩

set_option maxHeartbeats 400000 in
theorem pass1_any (v s u d : Int) (w : World) (ad ac au : Addr) (hv : 0 ≤ v ∧ v ≤ 1048576) (hu : 0 ≤ u ∧ u ≤ 1048576)
    (hcd : w.cell? ad = some (.int .i64 d)) (hcs : w.cell? ac = some (.int .i64 s)) (hcu : w.cell? au = some (.int .i64 u)) :
    Calls Try.prog 52 #[.int .i64 v, .pointer (some au), .pointer (some ad), .pointer (some ac)] w fun e w' => e = .returned (.bool (passB s u (lss d) v)) ∧ ∃ n, w' = w.drewN n := by
  have hsv := spd_id v hv
  have hsu := spd_id u hu
  have hd := lss_bd d
  have hb := slw_bound v u (lss d) hv (by omega) hd
  have HS := Lib.hid hsv
  have HU := Lib.hid hsu
  clear hsv hsu
  by_cases hc : v ≤ u
  · have hr : passB s u (lss d) v = true := by simp [passB, hc]
    have HR := Lib.hid hr
    clear hr
    go_enter Try.func52, Try.ntmps52
    go_wp2_with fail
    go_quiet ((go_at_call 17; exact quiet_left (slow_any _ _ _ _)))
    go_wp2
    go_ret
    rw [HR.out]
    exact ⟨rfl, _, rfl⟩
  · have hr : passB s u (lss d) v = decide (v + slw v u (lss d) ≤ s) := by simp [passB, hc]
    have HR := Lib.hid hr
    clear hr
    have hc' : decide (v ≤ u) = false := by simpa using hc
    clear hc
    go_enter Try.func52, Try.ntmps52
    go_wp2_with fail
    go_quiet ((go_at_call 17; exact quiet_left (slow_any _ _ _ _)))
    go_wp2
    go_ret
    rw [HR.out, HS.out, HU.out, IntWalk.wrap64_in _ (by omega)]
    exact ⟨rfl, _, rfl⟩

end Go.Proofs.Ytmlndgmkjdkcfaa
