/- Contracts of layer 13, put together: a cycle of a search, and the reference's. -/
import Derived.Test.YtmlndgmkjdkcfaaHomeD
namespace Go.Proofs.Ytmlndgmkjdkcfaa
open Go.RowKit
set_option linter.unusedVariables false
set_option linter.unusedSimpArgs false

theorem stepH_over {h : HomeS} (ho : overB h.p h.f h.c = true) (a b c d : Bool) : stepH h a b c d = (h, 0) := by simp [stepH, ho]

/-- what a cycle answers, as a value -/
def stepV (r : HomeS × Int) : Value := .tuple #[.agg #[.int .i64 r.1.p, .int .i64 r.1.f, .int .i64 r.1.c, .bool r.1.t], .int .i64 r.2]

theorem hstep_any (p f c : Int) (t sw plus minus still : Bool) (w : World) :
    Calls Try.prog 43 #[.agg #[.int .i64 p, .int .i64 f, .int .i64 c, .bool t], .bool sw, .bool plus, .bool minus, .bool still] w fun e w' => e = .returned (stepV (stepH ⟨p, f, c, t⟩ sw plus minus still)) ∧ Below w.heap.size w w' := by
  cases ho : overB p f c
  · have hb : homeB p f c = true := by
      cases h : homeB p f c
      · simp [overB, h] at ho
      · rfl
    have hy := homeB_yes hb
    have hf : -1048576 ≤ f ∧ f ≤ 1048576 := by omega
    have hc : -1048576 ≤ c ∧ c ≤ 1048576 := by omega
    have hp : p = 0 ∨ p = 1 ∨ p = 2 ∨ p = 3 := by
      simp only [overB, hb, Bool.not_true, Bool.false_or, Bool.or_eq_false_iff, beq_eq_false_iff_ne] at ho
      omega
    rcases hp with rfl | rfl | rfl | rfl
    · cases sw
      · cases ha : aheadB f plus minus
        · rw [show stepH ⟨0, f, c, t⟩ false plus minus still = (⟨0, f, c, t⟩, f) by simp [stepH, ho, ha]]
          exact hstep_01 f c t plus minus still w ho ha
        · cases t
          · rw [show stepH ⟨0, f, c, false⟩ false plus minus still = (⟨0, -f, -c, true⟩, 0) by simp [stepH, ho, ha]]
            exact hstep_03 f c plus minus still w ho ha hf hc
          · rw [show stepH ⟨0, f, c, true⟩ false plus minus still = (⟨5, f, c, true⟩, 0) by simp [stepH, ho, ha]]
            exact hstep_02 f c plus minus still w ho ha
      · rw [show stepH ⟨0, f, c, t⟩ true plus minus still = (⟨1, f, c, t⟩, 0) by simp [stepH, ho]]
        exact hstep_00 f c t plus minus still w ho
    · cases still
      · rw [show stepH ⟨1, f, c, t⟩ sw plus minus false = (⟨1, f, c, t⟩, 0) by simp [stepH, ho]]
        exact hstep_11 f c t sw plus minus w ho
      · rw [show stepH ⟨1, f, c, t⟩ sw plus minus true = (⟨2, f, c, t⟩, 0) by simp [stepH, ho]]
        exact hstep_10 f c t sw plus minus w ho
    · cases sw
      · rw [show stepH ⟨2, f, c, t⟩ false plus minus still = (⟨3, f, c, t⟩, 0) by simp [stepH, ho]]
        exact hstep_20 f c t plus minus still w ho
      · cases ha : aheadB (-c) plus minus
        · rw [show stepH ⟨2, f, c, t⟩ true plus minus still = (⟨2, f, c, t⟩, -c) by simp [stepH, ho, ha]]
          exact hstep_22 f c t plus minus still w ho ha hf hc
        · rw [show stepH ⟨2, f, c, t⟩ true plus minus still = (⟨5, f, c, t⟩, 0) by simp [stepH, ho, ha]]
          exact hstep_21 f c t plus minus still w ho ha hf hc
    · cases still
      · rw [show stepH ⟨3, f, c, t⟩ sw plus minus false = (⟨3, f, c, t⟩, 0) by simp [stepH, ho]]
        exact hstep_31 f c t sw plus minus w ho
      · rw [show stepH ⟨3, f, c, t⟩ sw plus minus true = (⟨4, f, c, t⟩, 0) by simp [stepH, ho]]
        exact hstep_30 f c t sw plus minus w ho
  · rw [stepH_over (h := ⟨p, f, c, t⟩) ho]
    exact hstep_over f c p t sw plus minus still w ho



end Go.Proofs.Ytmlndgmkjdkcfaa
