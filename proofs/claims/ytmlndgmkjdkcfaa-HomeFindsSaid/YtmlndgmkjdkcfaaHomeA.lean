/- Contracts of layer 13: searches for the home place. -/
import Derived.Test.YtmlndgmkjdkcfaaBase
namespace Go.Proofs.Ytmlndgmkjdkcfaa
open Go.RowKit
set_option linter.unusedVariables false
set_option linter.unusedSimpArgs false

/-- is a search right? -/
def homeB (p f c : Int) : Bool := decide (0 ≤ p ∧ p ≤ 5 ∧ (0 < f ∧ 1 ≤ c ∧ c ≤ f ∧ f ≤ 1048576 ∨ f < 0 ∧ c ≤ -1 ∧ f ≤ c ∧ -1048576 ≤ f))
theorem homeB_yes {p f c : Int} (h : homeB p f c = true) : 0 ≤ p ∧ p ≤ 5 ∧ (0 < f ∧ 1 ≤ c ∧ c ≤ f ∧ f ≤ 1048576 ∨ f < 0 ∧ c ≤ -1 ∧ f ≤ c ∧ -1048576 ≤ f) := of_decide_eq_true h
theorem homeB_mk {p f c : Int} (h : 0 ≤ p ∧ p ≤ 5 ∧ (0 < f ∧ 1 ≤ c ∧ c ≤ f ∧ f ≤ 1048576 ∨ f < 0 ∧ c ≤ -1 ∧ f ≤ c ∧ -1048576 ≤ f)) : homeB p f c = true := decide_eq_true h
/-- is it over? -/
def overB (p f c : Int) : Bool := !homeB p f c || (p == 4) || (p == 5)
/-- does the end ahead show? -/
def aheadB (v : Int) (plus minus : Bool) : Bool := (decide (0 < v) && plus) || (decide (v < 0) && minus)

set_option maxRecDepth 100000 in
set_option maxHeartbeats 1000000 in
theorem hright_any (p f c : Int) (t : Bool) (w : World) :
    Calls Try.prog 66 #[.agg #[.int .i64 p, .int .i64 f, .int .i64 c, .bool t]] w fun e w' => e = .returned (.bool (homeB p f c)) ∧ Below w.heap.size w w' := by
  go_enter Try.func66, Try.ntmps66
  go_wp2
  all_goals go_ret
  all_goals
    refine ⟨congrArg (fun b => Ending.returned (.bool b)) ?_, by (repeat' (first | (with_reducible exact Below.refl _ _) | (with_reducible assumption) | (with_reducible refine below_drewN ?_ _) | (with_reducible refine Below.drew ?_) | (with_reducible refine below_new ?_ (Nat.le_refl _) _) | (with_reducible refine Below.setCell ?_ ?_ _) | (with_reducible refine below_go ?_ (by assumption) (Nat.le_refl _)) | (simp; done) | (simp; omega) | omega))⟩
    rw [Bool.eq_iff_iff]
    simp only [homeB, decide_eq_true_eq, Bool.false_eq_true, true_iff, false_iff]
    omega

set_option maxRecDepth 100000 in
set_option maxHeartbeats 1000000 in
theorem hover_any (p f c : Int) (t : Bool) (w : World) :
    Calls Try.prog 42 #[.agg #[.int .i64 p, .int .i64 f, .int .i64 c, .bool t]] w fun e w' => e = .returned (.bool (overB p f c)) ∧ Below w.heap.size w w' := by
  obtain ⟨r, hr⟩ : ∃ r, homeB p f c = r := ⟨_, rfl⟩
  have HR := Lib.hid hr
  clear hr
  cases r
  all_goals
    go_enter Try.func42, Try.ntmps42
    go_wp2_with fail
    refine (hright_any _ _ _ _ _).mono ?_
    rw [HR.out]
    rintro e w1 ⟨rfl, hb⟩
    obtain ⟨hc, hf⟩ := bcell hb
    go_wp2
  all_goals go_ret
  all_goals
    refine ⟨congrArg (fun b => Ending.returned (.bool b)) ?_, by (repeat' (first | (with_reducible exact Below.refl _ _) | (with_reducible assumption) | (with_reducible refine below_drewN ?_ _) | (with_reducible refine Below.drew ?_) | (with_reducible refine below_new ?_ (Nat.le_refl _) _) | (with_reducible refine Below.setCell ?_ ?_ _) | (with_reducible refine below_go ?_ (by assumption) (Nat.le_refl _)) | (simp; done) | (simp; omega) | omega))⟩
    simp [overB, HR.out, *]

theorem aheadB_up {v : Int} (h : 0 < v) (x y : Bool) : aheadB v x y = x := by
  simp [aheadB, h, show ¬ v < 0 by omega]
theorem aheadB_down {v : Int} (h : v < 0) (x y : Bool) : aheadB v x y = y := by
  simp [aheadB, h, show ¬ 0 < v by omega]
theorem aheadB_no (x y : Bool) : aheadB 0 x y = false := by simp [aheadB]

set_option maxHeartbeats 1000000 in
theorem ahead_any (v : Int) (x y : Bool) (w : World) :
    Calls Try.prog 67 #[.int .i64 v, .bool x, .bool y] w fun e w' => e = .returned (.bool (aheadB v x y)) ∧ w = w' := by
  by_cases h1 : 0 < v
  · rw [aheadB_up h1]
    have h2 : decide (v < 0) = false := by simp; omega
    cases x
    all_goals
      go_enter Try.func67, Try.ntmps67
      go_wp2
      go_ret
      exact ⟨rfl, rfl⟩
  · by_cases h2 : v < 0
    · rw [aheadB_down h2]
      have h3 : decide (0 < v) = false := by simp; omega
      go_enter Try.func67, Try.ntmps67
      go_wp2
      go_ret
      exact ⟨rfl, rfl⟩
    · obtain rfl : v = 0 := by omega
      rw [aheadB_no]
      clear h1 h2
      go_enter Try.func67, Try.ntmps67
      go_wp2
      go_ret
      exact ⟨rfl, rfl⟩

end Go.Proofs.Ytmlndgmkjdkcfaa
