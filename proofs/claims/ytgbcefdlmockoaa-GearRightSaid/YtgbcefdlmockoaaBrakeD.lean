/- Contracts of brake's Reach and Pass. -/
import Derived.Test.YtgbcefdlmockoaaBrakeC
namespace Go.Proofs.Ytgbcefdlmockoaa
open Go.RowKit
set_option linter.unusedVariables false
set_option linter.unusedSimpArgs false
attribute [local go_sem] ite_max ite_min vite_max vite_min

theorem cf_reach1 (args : Array Value) (w : World) : Sem.run Try.prog (callFunc 72 args) w = .ok (.enter 72 args) w := by
  go_simp



theorem greatest_reach (s d : Int) (w : World) (ad ac : Addr) (hs : 0 ≤ s)
    (hcd : w.cell? ad = some (.int .i64 d)) (hcs : w.cell? ac = some (.int .i64 s)) :
    Calls Try.prog 71 #[.func (.func 72) #[] #[.pointer (some ad), .pointer (some ac)]] w fun e w' => e = .returned (.int .i64 (rch s (lss d))) ∧ ∃ n, w' = w.drewN n :=
  greatest_any 72 #[.pointer (some ad), .pointer (some ac)] (stopsB s (lss d)) (stopsB_zero _ _ hs (lss_bd d).1) (stopsB_anti _ _ (lss_bd d).1) w cf_reach1
    (fun v n hv => reach1_any v s d (w.drewN n) ad ac hv hcd hcs)



set_option maxHeartbeats 400000 in
theorem reach_any (s d : Int) (w : World) :
    Calls Try.prog 66 #[.int .i64 s, .int .i64 d] w fun e w' => e = .returned (.int .i64 (rch (wy s) (lss d))) ∧ Below w.heap.size w w' := by
  have hs := wy_bd s
  go_enter Try.func66, Try.ntmps66
  go_wp2_with (first | (go_at_call 70; refine (way_any _ _).mono ?_; rintro e w' ⟨rfl, rfl⟩) | fail)
  refine (greatest_reach (wy s) d _ _ _ hs.1 ?_ ?_).mono ?_
  · go_simp
  · go_simp
  rintro e w' ⟨rfl, n, rfl⟩
  go_wp2
  go_ret
  exact ⟨rfl, by (repeat' (first | (with_reducible exact Below.refl _ _) | (with_reducible assumption) | (with_reducible refine below_drewN ?_ _) | (with_reducible refine Below.drew ?_) | (with_reducible refine below_new ?_ (Nat.le_refl _) _) | (with_reducible refine Below.setCell ?_ ?_ _) | (with_reducible refine below_go ?_ (by assumption) (Nat.le_refl _)) | (simp; done) | (simp; omega) | omega))⟩



end Go.Proofs.Ytgbcefdlmockoaa
