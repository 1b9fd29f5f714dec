/- Layer 13: what is kept from cycle to cycle of a search. -/
import Derived.Test.YtddakmlnkffgiaaHomeE
namespace Go.Proofs.Ytddakmlnkffgiaa
set_option linter.unusedVariables false
set_option linter.unusedSimpArgs false

/-- what is kept: the search is right, turned once at most; past the seeking the switch showed; past the leaving it showed no more -/
def EndsInv (fast creep : Int) (p f c : Int) (t showed left : Bool) (turns : Int) : Prop :=
  homeB p f c = true ∧ ((f = fast ∧ c = creep ∧ t = false ∧ turns = 0) ∨ (f = -fast ∧ c = -creep ∧ t = true ∧ turns = 1)) ∧ (1 ≤ p ∧ p ≤ 4 → showed = true) ∧ (3 ≤ p ∧ p ≤ 4 → left = true)

theorem homeB_neg (p f c : Int) (h : homeB p f c = true) : homeB p (-f) (-c) = true := by
  have := homeB_yes h
  exact homeB_mk (by omega)
theorem homeB_phase (p q f c : Int) (h : homeB p f c = true) (hq : 0 ≤ q ∧ q ≤ 5) : homeB q f c = true := by
  have := homeB_yes h
  exact homeB_mk (by omega)

theorem ends_step (fast creep p f c : Int) (t showed left : Bool) (turns : Int) (sw plus minus still : Bool) (p' f' c' : Int) (t' : Bool) (v : Int)
    (h : EndsInv fast creep p f c t showed left turns) (hr : stepH ⟨p, f, c, t⟩ sw plus minus still = (⟨p', f', c', t'⟩, v)) :
    EndsInv fast creep p' f' c' t' (showed || sw) (left || (showed && !sw)) (if t' == t then turns else turns + 1) ∧
    (if t' == t then turns else turns + 1) ≤ 1 ∧ (t = true → t' = true) ∧ v ≤ max fast (-fast) ∧ -v ≤ max fast (-fast) ∧ p ≤ p' ∧
    (overB p f c = true → p' = p ∧ f' = f ∧ c' = c ∧ t' = t ∧ v = 0) ∧ -1048576 ≤ v ∧ v ≤ 1048576 := by
  obtain ⟨hb, hft, hsh, hle⟩ := h
  have hy := homeB_yes hb
  cases ho : overB p f c
  · have hp : p = 0 ∨ p = 1 ∨ p = 2 ∨ p = 3 := by
      simp only [overB, hb, Bool.not_true, Bool.false_or, Bool.or_eq_false_iff, beq_eq_false_iff_ne] at ho
      omega
    have hph := fun q hq => homeB_phase p q f c hb hq
    rcases hp with rfl | rfl | rfl | rfl
    · cases sw
      · cases ha : aheadB f plus minus
        · simp [stepH, ho, ha] at hr
          obtain ⟨⟨rfl, rfl, rfl, rfl⟩, rfl⟩ := hr
          simp only [beq_self_eq_true, if_true]
          refine ⟨⟨hb, hft, by omega, by omega⟩, ?_, fun h => h, ?_, ?_, by omega, by simp, ?_, ?_⟩ <;> omega
        · cases t
          · simp [stepH, ho, ha] at hr
            obtain ⟨⟨rfl, rfl, rfl, rfl⟩, rfl⟩ := hr
            simp only [show (true == false) = false from rfl, Bool.false_eq_true, if_false]
            refine ⟨⟨homeB_neg _ _ _ hb, ?_, by omega, by omega⟩, ?_, by simp, ?_, ?_, by omega, by simp, ?_, ?_⟩
            · rcases hft with ⟨rfl, rfl, _, rfl⟩ | ⟨_, _, h, _⟩
              · exact .inr ⟨rfl, rfl, rfl, by omega⟩
              · cases h
            all_goals rcases hft with ⟨rfl, rfl, _, rfl⟩ | ⟨_, _, h, _⟩ <;> first | omega | cases h
          · simp [stepH, ho, ha] at hr
            obtain ⟨⟨rfl, rfl, rfl, rfl⟩, rfl⟩ := hr
            simp only [beq_self_eq_true, if_true]
            refine ⟨⟨hph 5 (by omega), hft, by omega, by omega⟩, ?_, fun h => h, ?_, ?_, by omega, by simp, ?_, ?_⟩ <;> omega
      · simp [stepH, ho] at hr
        obtain ⟨⟨rfl, rfl, rfl, rfl⟩, rfl⟩ := hr
        simp only [beq_self_eq_true, if_true]
        refine ⟨⟨hph 1 (by omega), hft, by simp, by omega⟩, ?_, fun h => h, ?_, ?_, by omega, by simp, ?_, ?_⟩ <;> omega
    · have hs1 : showed = true := hsh (by omega)
      cases still
      all_goals
        simp [stepH, ho] at hr
        obtain ⟨⟨rfl, rfl, rfl, rfl⟩, rfl⟩ := hr
        simp only [beq_self_eq_true, if_true]
        refine ⟨⟨hph _ (by omega), hft, by simp [hs1], by omega⟩, ?_, fun h => h, ?_, ?_, by omega, by simp, ?_, ?_⟩ <;> omega
    · have hs1 : showed = true := hsh (by omega)
      cases sw
      · simp [stepH, ho] at hr
        obtain ⟨⟨rfl, rfl, rfl, rfl⟩, rfl⟩ := hr
        simp only [beq_self_eq_true, if_true]
        refine ⟨⟨hph 3 (by omega), hft, by simp [hs1], by simp [hs1]⟩, ?_, fun h => h, ?_, ?_, by omega, by simp, ?_, ?_⟩ <;> omega
      · cases ha : aheadB (-c) plus minus
        all_goals
          simp [stepH, ho, ha] at hr
          obtain ⟨⟨rfl, rfl, rfl, rfl⟩, rfl⟩ := hr
          simp only [beq_self_eq_true, if_true]
          refine ⟨⟨hph _ (by omega), hft, by simp [hs1], by omega⟩, ?_, fun h => h, ?_, ?_, by omega, by simp, ?_, ?_⟩ <;> omega
    · have hs1 : showed = true := hsh (by omega)
      have hl1 : left = true := hle (by omega)
      cases still
      all_goals
        simp [stepH, ho] at hr
        obtain ⟨⟨rfl, rfl, rfl, rfl⟩, rfl⟩ := hr
        simp only [beq_self_eq_true, if_true]
        refine ⟨⟨hph _ (by omega), hft, by simp [hs1], by simp [hl1]⟩, ?_, fun h => h, ?_, ?_, by omega, by simp, ?_, ?_⟩ <;> omega
  · rw [stepH_over (h := ⟨p, f, c, t⟩) ho] at hr
    simp only [Prod.mk.injEq, HomeS.mk.injEq] at hr
    obtain ⟨⟨rfl, rfl, rfl, rfl⟩, rfl⟩ := hr
    simp only [beq_self_eq_true, if_true]
    refine ⟨⟨hb, hft, fun h => by simp [hsh h], fun h => by simp [hle h]⟩, ?_, fun h => h, ?_, ?_, by omega, by simp, ?_, ?_⟩ <;> omega

end Go.Proofs.Ytddakmlnkffgiaa
