/- Contracts of layer 1: sums, differences, quotients, rests, sizes and signs, clamped numbers. -/
import Derived.Test.YtcamegfnhbbaeaaBase
namespace Go.Proofs.Ytcamegfnhbbaeaa
open Go.RowKit
set_option linter.unusedVariables false
set_option linter.unusedSimpArgs false
attribute [local go_sem] ite_max ite_min vite_max vite_min

/-- does it have room? -/
def fitB (x : Int) : Bool := decide (-9223372036854775808 ≤ x ∧ x ≤ 9223372036854775807)
/-- the number, if it has room -/
def fitV (x : Int) : Int := if fitB x = true then x else 0
theorem fitB_yes {x : Int} (h : -9223372036854775808 ≤ x ∧ x ≤ 9223372036854775807) : fitB x = true := decide_eq_true h
theorem fitB_no {x : Int} (h : ¬ (-9223372036854775808 ≤ x ∧ x ≤ 9223372036854775807)) : fitB x = false := decide_eq_false h
theorem fitV_yes {x : Int} (h : -9223372036854775808 ≤ x ∧ x ≤ 9223372036854775807) : fitV x = x := by unfold fitV; rw [fitB_yes h]; rfl
theorem fitV_no {x : Int} (h : ¬ (-9223372036854775808 ≤ x ∧ x ≤ 9223372036854775807)) : fitV x = 0 := by unfold fitV; rw [fitB_no h]; rfl

set_option maxHeartbeats 1000000 in
theorem qadd_any (a b : Int) (w : World) (ha : -9223372036854775808 ≤ a ∧ a ≤ 9223372036854775807) (hb : -9223372036854775808 ≤ b ∧ b ≤ 9223372036854775807) :
    Calls Try.prog 40 #[.int .i64 a, .int .i64 b] w fun e w' => e = .returned (.tuple #[.int .i64 (fitV (a + b)), .bool (fitB (a + b))]) ∧ w = w' := by
  by_cases hf : -9223372036854775808 ≤ a + b ∧ a + b ≤ 9223372036854775807
  · rw [fitV_yes hf, fitB_yes hf]
    cases a0 : decide (0 ≤ a)
    all_goals cases b0 : decide (0 ≤ b)
    all_goals have a1 := a0
    all_goals have b1 := b0
    all_goals simp at a1 b1
    all_goals cases c0 : decide (0 ≤ a + b)
    all_goals have c1 := c0
    all_goals simp at c1
    all_goals first
      | (exfalso; omega)
      | skip
    all_goals
      go_enter Try.func40, Try.ntmps40
      go_wp2
      go_ret2
      exact ⟨rfl, rfl⟩
  · rw [fitV_no hf, fitB_no hf]
    obtain ⟨s, hs⟩ : ∃ s, IntKind.i64.wrap (a + b) = s := ⟨_, rfl⟩
    have h2 : (0 ≤ a ∧ 0 ≤ b ∧ s < 0) ∨ (a < 0 ∧ b < 0 ∧ 0 ≤ s) := by
      rw [← hs, IntKind.wrap_i64]
      omega
    clear hf
    rcases h2 with ⟨a0, b0, h3⟩ | ⟨a0, b0, h3⟩
    all_goals
      obtain ⟨A, a1⟩ : ∃ A, decide (0 ≤ a) = A := ⟨_, rfl⟩
      obtain ⟨B, b1⟩ : ∃ B, decide (0 ≤ b) = B := ⟨_, rfl⟩
      obtain ⟨S, s1⟩ : ∃ S, decide (0 ≤ s) = S := ⟨_, rfl⟩
      have a2 := a1
      have b2 := b1
      have s2 := s1
      first
        | rw [decide_eq_true a0] at a2
        | rw [decide_eq_false (by omega)] at a2
      first
        | rw [decide_eq_true b0] at b2
        | rw [decide_eq_false (by omega)] at b2
      first
        | rw [decide_eq_true h3] at s2
        | rw [decide_eq_false (by omega)] at s2
      subst a2
      subst b2
      subst s2
      go_enter Try.func40, Try.ntmps40
      go_wp2
      go_ret2
      exact ⟨rfl, rfl⟩

set_option maxHeartbeats 1000000 in
theorem qsub_any (a b : Int) (w : World) (ha : -9223372036854775808 ≤ a ∧ a ≤ 9223372036854775807) (hb : -9223372036854775808 ≤ b ∧ b ≤ 9223372036854775807) :
    Calls Try.prog 39 #[.int .i64 a, .int .i64 b] w fun e w' => e = .returned (.tuple #[.int .i64 (fitV (a - b)), .bool (fitB (a - b))]) ∧ w = w' := by
  by_cases hf : -9223372036854775808 ≤ a - b ∧ a - b ≤ 9223372036854775807
  · rw [fitV_yes hf, fitB_yes hf]
    cases a0 : decide (0 ≤ a)
    all_goals cases b0 : decide (0 ≤ b)
    all_goals have a1 := a0
    all_goals have b1 := b0
    all_goals simp at a1 b1
    all_goals cases c0 : decide (0 ≤ a - b)
    all_goals have c1 := c0
    all_goals simp at c1
    all_goals first
      | (exfalso; omega)
      | skip
    all_goals
      go_enter Try.func39, Try.ntmps39
      go_wp2
      go_ret2
      exact ⟨rfl, rfl⟩
  · rw [fitV_no hf, fitB_no hf]
    obtain ⟨s, hs⟩ : ∃ s, IntKind.i64.wrap (a - b) = s := ⟨_, rfl⟩
    have h2 : (0 ≤ a ∧ b < 0 ∧ s < 0) ∨ (a < 0 ∧ 0 ≤ b ∧ 0 ≤ s) := by
      rw [← hs, IntKind.wrap_i64]
      omega
    clear hf
    rcases h2 with ⟨a0, b0, h3⟩ | ⟨a0, b0, h3⟩
    all_goals
      obtain ⟨A, a1⟩ : ∃ A, decide (0 ≤ a) = A := ⟨_, rfl⟩
      obtain ⟨B, b1⟩ : ∃ B, decide (0 ≤ b) = B := ⟨_, rfl⟩
      obtain ⟨S, s1⟩ : ∃ S, decide (0 ≤ s) = S := ⟨_, rfl⟩
      have a2 := a1
      have b2 := b1
      have s2 := s1
      first
        | rw [decide_eq_true a0] at a2
        | rw [decide_eq_false (by omega)] at a2
      first
        | rw [decide_eq_true b0] at b2
        | rw [decide_eq_false (by omega)] at b2
      first
        | rw [decide_eq_true h3] at s2
        | rw [decide_eq_false (by omega)] at s2
      subst a2
      subst b2
      subst s2
      go_enter Try.func39, Try.ntmps39
      go_wp2
      go_ret2
      exact ⟨rfl, rfl⟩

set_option maxHeartbeats 1000000 in
theorem qsize_any (a : Int) (w : World) (ha : -9223372036854775808 ≤ a ∧ a ≤ 9223372036854775807) :
    Calls Try.prog 63 #[.int .i64 a] w fun e w' => e = .returned (.int .u64 (max a (-a))) ∧ w = w' := by
  by_cases h : 0 ≤ a
  · rw [show max a (-a) = a by omega]
    go_enter Try.func63, Try.ntmps63
    go_wp2
    go_ret
    exact ⟨rfl, rfl⟩
  · rw [show max a (-a) = -a by omega]
    obtain ⟨t, ht⟩ : ∃ t, IntKind.u64.wrap a = t := ⟨_, rfl⟩
    have h2 : IntKind.u64.wrap (-t) = -a := by
      rw [← ht, IntKind.wrap_u64, IntKind.wrap_u64]
      omega
    go_enter Try.func63, Try.ntmps63
    go_wp2
    go_ret
    exact ⟨rfl, rfl⟩

end Go.Proofs.Ytcamegfnhbbaeaa
