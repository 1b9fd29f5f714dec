/- Contracts of the reference of layer 1: zero, turned, room. -/
import Derived.Test.YtcamegfnhbbaeaaRefC
import Derived.Test.YtcamegfnhbbaeaaQA
namespace Go.Proofs.Ytcamegfnhbbaeaa
open Go.RowKit
set_option linter.unusedVariables false
set_option linter.unusedSimpArgs false
attribute [local go_sem] ite_max ite_min vite_max vite_min ext_cell ext_frozen

set_option maxRecDepth 100000 in
set_option maxHeartbeats 1000000 in
theorem rturned_at (a0 a1 a2 a3 : Int) (m : Bool) (w : World) :
    Calls Try.prog 47 #[.agg #[.int .u64 a0, .int .u64 a1, .int .u64 a2, .int .u64 a3, .bool m]] w fun e w' =>
      e = .returned (.agg #[.int .u64 a0, .int .u64 a1, .int .u64 a2, .int .u64 a3, .bool (!m)]) ∧ Below w.heap.size w w' := by
  go_enter Try.func47, Try.ntmps47
  go_wp2
  exact bodyPost_ret (v := .agg #[.int .u64 a0, .int .u64 a1, .int .u64 a2, .int .u64 a3, .bool (!m)]) (by simp [results, Try.results47, go_sem]) rfl ⟨rfl, by (repeat' (first | (with_reducible exact Below.refl _ _) | (with_reducible assumption) | (with_reducible refine below_drewN ?_ _) | (with_reducible refine Below.drew ?_) | (with_reducible refine below_new ?_ (Nat.le_refl _) _) | (with_reducible refine Below.setCell ?_ ?_ _) | (with_reducible refine below_go ?_ (by assumption) (Nat.le_refl _)) | (simp; done) | (simp; omega) | omega))⟩

theorem cmpV_zero (A : Int) (hA : 0 ≤ A) : (cmpV A 0 == 0) = decide (A = 0) := by
  by_cases h : A = 0
  · rw [cmpV_eq h, decide_eq_true h]; rfl
  · rw [cmpV_gt (by omega), decide_eq_false h]; rfl



set_option maxRecDepth 100000 in
set_option maxHeartbeats 1000000 in
theorem rroom_at (A x : Int) (m : Bool) (w : World) (hA : 0 ≤ A ∧ A < 340282366920938463463374607431768211456) (hx : (m = true ∧ -A = x) ∨ (m = false ∧ A = x)) :
    Calls Try.prog 44 #[.agg #[.int .u64 (d0 A), .int .u64 (d1 A), .int .u64 (d2 A), .int .u64 (d3 A), .bool m]] w fun e w' => e = .returned (.tuple #[.int .i64 (fitV x), .bool (fitB x)]) ∧ Below w.heap.size w w' := by
  have hb := dg_bd A
  have hs := dg_sum A hA
  by_cases hlow : A < 18446744073709551616
  · obtain ⟨e2, e3⟩ := (dg_high A hA).2 hlow
    rw [e2, e3] at hs ⊢
    clear e2 e3
    generalize d0 A = a0 at *
    generalize d1 A = a1 at *
    generalize d2 A = a2 at *
    generalize d3 A = a3 at *
    have hn : a1 * 4294967296 + a0 = A := by omega
    have hm0 : 0 ≤ a1 * 4294967296 ∧ a1 * 4294967296 ≤ 18446744069414584320 := by omega
    obtain ⟨p, hp⟩ : ∃ p, a1 * 4294967296 = p := ⟨_, rfl⟩
    rw [hp] at hn hm0
    have hA1 : 0 ≤ A ∧ A ≤ 18446744073709551615 := by omega
    clear hs hlow hA
    by_cases h63 : A < 9223372036854775808
    · cases m
      · obtain rfl : A = x := by rcases hx with ⟨h, _⟩ | ⟨_, h⟩; cases h; exact h
        rw [fitV_yes (by omega), fitB_yes (by omega)]
        clear hx
        go_enter Try.func44, Try.ntmps44
        go_wp2
        go_ret2
        exact ⟨rfl, by (repeat' (first | (with_reducible exact Below.refl _ _) | (with_reducible assumption) | (with_reducible refine below_drewN ?_ _) | (with_reducible refine Below.drew ?_) | (with_reducible refine below_new ?_ (Nat.le_refl _) _) | (with_reducible refine Below.setCell ?_ ?_ _) | (with_reducible refine below_go ?_ (by assumption) (Nat.le_refl _)) | (simp; done) | (simp; omega) | omega))⟩
      · obtain rfl : -A = x := by rcases hx with ⟨_, h⟩ | ⟨h, _⟩; exact h; cases h
        rw [fitV_yes (by omega), fitB_yes (by omega)]
        clear hx
        go_enter Try.func44, Try.ntmps44
        go_wp2
        go_ret2
        exact ⟨rfl, by (repeat' (first | (with_reducible exact Below.refl _ _) | (with_reducible assumption) | (with_reducible refine below_drewN ?_ _) | (with_reducible refine Below.drew ?_) | (with_reducible refine below_new ?_ (Nat.le_refl _) _) | (with_reducible refine Below.setCell ?_ ?_ _) | (with_reducible refine below_go ?_ (by assumption) (Nat.le_refl _)) | (simp; done) | (simp; omega) | omega))⟩
    · by_cases he : m = true ∧ A = 9223372036854775808
      · obtain ⟨rfl, rfl⟩ := he
        obtain rfl : -9223372036854775808 = x := by rcases hx with ⟨_, h⟩ | ⟨h, _⟩; exact h; cases h
        rw [fitV_yes (by omega), fitB_yes (by omega)]
        clear hx
        go_enter Try.func44, Try.ntmps44
        go_wp2
        go_ret2
        exact ⟨rfl, by (repeat' (first | (with_reducible exact Below.refl _ _) | (with_reducible assumption) | (with_reducible refine below_drewN ?_ _) | (with_reducible refine Below.drew ?_) | (with_reducible refine below_new ?_ (Nat.le_refl _) _) | (with_reducible refine Below.setCell ?_ ?_ _) | (with_reducible refine below_go ?_ (by assumption) (Nat.le_refl _)) | (simp; done) | (simp; omega) | omega))⟩
      · have hno : ¬ (-9223372036854775808 ≤ x ∧ x ≤ 9223372036854775807) := by
          rcases hx with ⟨h1, h2⟩ | ⟨_, h⟩
          · have : A ≠ 9223372036854775808 := fun e => he ⟨h1, e⟩
            omega
          · omega
        rw [fitV_no hno, fitB_no hno]
        have h64 : ¬ A < 9223372036854775808 := h63
        cases m
        · clear hx hno he
          go_enter Try.func44, Try.ntmps44
          go_wp2
          go_ret2
          exact ⟨rfl, by (repeat' (first | (with_reducible exact Below.refl _ _) | (with_reducible assumption) | (with_reducible refine below_drewN ?_ _) | (with_reducible refine Below.drew ?_) | (with_reducible refine below_new ?_ (Nat.le_refl _) _) | (with_reducible refine Below.setCell ?_ ?_ _) | (with_reducible refine below_go ?_ (by assumption) (Nat.le_refl _)) | (simp; done) | (simp; omega) | omega))⟩
        · have hne : (A == 9223372036854775808) = false := beq_eq_false_iff_ne.2 fun e => he ⟨rfl, e⟩
          clear hx hno he
          go_enter Try.func44, Try.ntmps44
          go_wp2
          go_ret2
          exact ⟨rfl, by (repeat' (first | (with_reducible exact Below.refl _ _) | (with_reducible assumption) | (with_reducible refine below_drewN ?_ _) | (with_reducible refine Below.drew ?_) | (with_reducible refine below_new ?_ (Nat.le_refl _) _) | (with_reducible refine Below.setCell ?_ ?_ _) | (with_reducible refine below_go ?_ (by assumption) (Nat.le_refl _)) | (simp; done) | (simp; omega) | omega))⟩
  · have hno : ¬ (-9223372036854775808 ≤ x ∧ x ≤ 9223372036854775807) := by omega
    rw [fitV_no hno, fitB_no hno]
    have hh := fun h => hlow ((dg_high A hA).1 h)
    by_cases h2 : d2 A = 0
    · have h3 : d3 A ≠ 0 := fun h => hh ⟨h2, h⟩
      rw [h2]
      clear hh h2 hno hlow hx hs hA
      generalize d0 A = a0 at *
      generalize d1 A = a1 at *
      generalize d2 A = a2 at *
      generalize d3 A = a3 at *
      have h3b : (a3 != 0) = true := by rw [bne_iff_ne]; exact h3
      go_enter Try.func44, Try.ntmps44
      go_wp2
      go_ret2
      exact ⟨rfl, by (repeat' (first | (with_reducible exact Below.refl _ _) | (with_reducible assumption) | (with_reducible refine below_drewN ?_ _) | (with_reducible refine Below.drew ?_) | (with_reducible refine below_new ?_ (Nat.le_refl _) _) | (with_reducible refine Below.setCell ?_ ?_ _) | (with_reducible refine below_go ?_ (by assumption) (Nat.le_refl _)) | (simp; done) | (simp; omega) | omega))⟩
    · clear hh hno hlow hx hs hA
      generalize d0 A = a0 at *
      generalize d1 A = a1 at *
      generalize d2 A = a2 at *
      generalize d3 A = a3 at *
      have h2b : (a2 != 0) = true := by rw [bne_iff_ne]; exact h2
      go_enter Try.func44, Try.ntmps44
      go_wp2
      go_ret2
      exact ⟨rfl, by (repeat' (first | (with_reducible exact Below.refl _ _) | (with_reducible assumption) | (with_reducible refine below_drewN ?_ _) | (with_reducible refine Below.drew ?_) | (with_reducible refine below_new ?_ (Nat.le_refl _) _) | (with_reducible refine Below.setCell ?_ ?_ _) | (with_reducible refine below_go ?_ (by assumption) (Nat.le_refl _)) | (simp; done) | (simp; omega) | omega))⟩

end Go.Proofs.Ytcamegfnhbbaeaa
