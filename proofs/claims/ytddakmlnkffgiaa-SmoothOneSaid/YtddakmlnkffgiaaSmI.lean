/- Layer 10: behind as many cycles at one place as the window has, the setpoint is that place, and rests: SmoothRests returns true. Conditions: none. -/
import Derived.Test.YtddakmlnkffgiaaPSm
namespace Go.Proofs.Ytddakmlnkffgiaa
open Go.RowKit
set_option linter.unusedVariables false
set_option linter.unusedSimpArgs false
attribute [local go_sem] ite_max ite_min vite_max vite_min ext_cell ext_frozen

set_option maxHeartbeats 2000000 in
theorem rests_skip (m f pos : Int) (s : Value) (w : World) (h : (decide (-1099511627776 ≤ f ∧ f ≤ 1099511627776) && plB pos) = false) :
    Calls Try.prog 11 #[.int .i64 m, .int .i64 f, s, .int .i64 pos] w fun e w' => e = .returned (.bool true) ∧ Below w.heap.size w w' := by
  by_cases h1 : -1099511627776 ≤ f
  · by_cases h2 : f ≤ 1099511627776
    · have hp : plB pos = false := by simpa [h1, h2] using h
      have HP := Lib.hid hp
      clear hp h
      go_enter Try.func11, Try.ntmps11
      go_wp2_with fail
      refine (awake10_at _).mono ?_
      rintro e w1 ⟨rfl, hb1⟩
      go_wp2_with fail
      refine (lawplace_any pos _).mono ?_
      rw [HP.out]
      rintro e w2 ⟨rfl, rfl⟩
      go_wp2
      go_ret
      exact ⟨rfl, by (repeat' (first | (with_reducible exact Below.refl _ _) | (with_reducible assumption) | (with_reducible refine below_drewN ?_ _) | (with_reducible refine Below.drew ?_) | (with_reducible refine below_new ?_ (Nat.le_refl _) _) | (with_reducible refine Below.setCell ?_ ?_ _) | (with_reducible refine below_go ?_ (by assumption) (Nat.le_refl _)) | (simp; done) | (simp; omega) | omega))⟩
    · clear h
      go_enter Try.func11, Try.ntmps11
      go_wp2_with fail
      refine (awake10_at _).mono ?_
      rintro e w1 ⟨rfl, hb1⟩
      go_wp2
      go_ret
      exact ⟨rfl, by (repeat' (first | (with_reducible exact Below.refl _ _) | (with_reducible assumption) | (with_reducible refine below_drewN ?_ _) | (with_reducible refine Below.drew ?_) | (with_reducible refine below_new ?_ (Nat.le_refl _) _) | (with_reducible refine Below.setCell ?_ ?_ _) | (with_reducible refine below_go ?_ (by assumption) (Nat.le_refl _)) | (simp; done) | (simp; omega) | omega))⟩
  · clear h
    have h2 : f < -1099511627776 := by omega
    go_enter Try.func11, Try.ntmps11
    go_wp2_with fail
    refine (awake10_at _).mono ?_
    rintro e w1 ⟨rfl, hb1⟩
    go_wp2
    go_ret
    exact ⟨rfl, by (repeat' (first | (with_reducible exact Below.refl _ _) | (with_reducible assumption) | (with_reducible refine below_drewN ?_ _) | (with_reducible refine Below.drew ?_) | (with_reducible refine below_new ?_ (Nat.le_refl _) _) | (with_reducible refine Below.setCell ?_ ?_ _) | (with_reducible refine below_go ?_ (by assumption) (Nat.le_refl _)) | (simp; done) | (simp; omega) | omega))⟩

set_option maxHeartbeats 2000000 in
theorem rests_no (m f pos : Int) (s : Value) (w : World) (hf : -1099511627776 ≤ f ∧ f ≤ 1099511627776) (hp : plB pos = true) (hm : ¬ (1 ≤ m ∧ m ≤ 16)) :
    Calls Try.prog 11 #[.int .i64 m, .int .i64 f, s, .int .i64 pos] w fun e w' => e = .returned (.bool true) ∧ Below w.heap.size w w' := by
  have HP := Lib.hid hp
  have HM : Hid ((decide (1 ≤ m ∧ m ≤ 16) && plB f) = false) := Lib.hid (by rw [decide_eq_false hm]; rfl)
  clear hp hm
  go_enter Try.func11, Try.ntmps11
  go_wp2_with fail
  refine (awake10_at _).mono ?_
  rintro e w1 ⟨rfl, hb1⟩
  go_wp2_with fail
  refine (lawplace_any pos _).mono ?_
  rw [HP.out]
  rintro e w2 ⟨rfl, rfl⟩
  go_wp2_with fail
  refine (sm_new_no f m _ HM.out).mono ?_
  rintro e w3 ⟨rfl, hb3⟩
  go_wp2
  go_ret
  exact ⟨rfl, by (repeat' (first | (with_reducible exact Below.refl _ _) | (with_reducible assumption) | (with_reducible refine below_drewN ?_ _) | (with_reducible refine Below.drew ?_) | (with_reducible refine below_new ?_ (Nat.le_refl _) _) | (with_reducible refine Below.setCell ?_ ?_ _) | (with_reducible refine below_go ?_ (by assumption) (Nat.le_refl _)) | (simp; done) | (simp; omega) | omega))⟩

end Go.Proofs.Ytddakmlnkffgiaa
