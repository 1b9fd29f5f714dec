/- Layer 16: the two tables have the same pins. -/
import Derived.Test.YtpgkebfdfhdliaaDoorM16
import Derived.Test.YtpgkebfdfhdliaaDoorStdN
namespace Go.Proofs.YtpgkebfdfhdliaaDoor
open Go.RowKit
set_option linter.unusedVariables false
set_option linter.unusedSimpArgs false

theorem tabs_some : ∀ kind ∈ ([10, 11, 12, 13, 14, 15, 16, 17, 18, 20, 21, 22, 23, 24, 25, 26, 27, 28, 29, 30, 31] : List Int), pinsOf kind = rpinsOf kind ∧ countOf kind = rcount kind := by
  intro kind h
  simp only [List.mem_cons, List.not_mem_nil, or_false] at h
  rcases h with rfl | rfl | rfl | rfl | rfl | rfl | rfl | rfl | rfl | rfl | rfl | rfl | rfl | rfl | rfl | rfl | rfl | rfl | rfl | rfl | rfl
  all_goals exact ⟨by kernel_rfl, by kernel_rfl⟩
theorem shk_all : shL.all (fun s => ([10, 11, 12, 13, 14, 15, 16, 17, 18, 20, 21, 22, 23, 24, 25, 26, 27, 28, 29, 30, 31] : List Int).contains s.kind) = true := by kernel_rfl
theorem rwk_all : rwL.all (fun s => ([10, 11, 12, 13, 14, 15, 16, 17, 18, 20, 21, 22, 23, 24, 25, 26, 27, 28, 29, 30, 31] : List Int).contains s.kind) = true := by kernel_rfl
theorem tabs_is (kind : Int) : pinsOf kind = rpinsOf kind ∧ countOf kind = rcount kind := by
  by_cases h : kind ∈ ([10, 11, 12, 13, 14, 15, 16, 17, 18, 20, 21, 22, 23, 24, 25, 26, 27, 28, 29, 30, 31] : List Int)
  · exact tabs_some kind h
  · have h1 : shL.find? (fun s => decide (s.kind = kind)) = none := by
      rw [List.find?_eq_none]
      intro s hs hk
      have := List.all_eq_true.1 shk_all s hs
      simp only [decide_eq_true_eq] at hk
      rw [hk] at this
      exact h (by simpa using this)
    have h2 : rwL.find? (fun s => decide (s.kind = kind)) = none := by
      rw [List.find?_eq_none]
      intro s hs hk
      have := List.all_eq_true.1 rwk_all s hs
      simp only [decide_eq_true_eq] at hk
      rw [hk] at this
      exact h (by simpa using this)
    unfold pinsOf rpinsOf countOf rcount rfind
    rw [h1, h2]
    exact ⟨rfl, rfl⟩
/-- a kind has few pins -/
theorem rcount_few (kind : Int) : rcount kind ≤ 64 := by
  by_cases h : kind ∈ ([10, 11, 12, 13, 14, 15, 16, 17, 18, 20, 21, 22, 23, 24, 25, 26, 27, 28, 29, 30, 31] : List Int)
  · simp only [List.mem_cons, List.not_mem_nil, or_false] at h
    rcases h with rfl | rfl | rfl | rfl | rfl | rfl | rfl | rfl | rfl | rfl | rfl | rfl | rfl | rfl | rfl | rfl | rfl | rfl | rfl | rfl | rfl
    all_goals decide +kernel
  · have h2 : rwL.find? (fun s => decide (s.kind = kind)) = none := by
      rw [List.find?_eq_none]
      intro s hs hk
      have := List.all_eq_true.1 rwk_all s hs
      simp only [decide_eq_true_eq] at hk
      rw [hk] at this
      exact h (by simpa using this)
    unfold rcount rfind
    rw [h2]
    exact Nat.zero_le _

end Go.Proofs.YtpgkebfdfhdliaaDoor
