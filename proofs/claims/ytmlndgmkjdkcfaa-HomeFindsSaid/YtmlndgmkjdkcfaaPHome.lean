/- Layer 13, plain: an axis that looks for its switch, phase by phase. No program is walked here. -/
import Derived.Test.YtmlndgmkjdkcfaaPGenC
import Derived.Test.YtmlndgmkjdkcfaaGenA
import Derived.Test.YtmlndgmkjdkcfaaHomeE
namespace Go.Proofs.Ytmlndgmkjdkcfaa
set_option linter.unusedVariables false
set_option linter.unusedSimpArgs false

theorem stepH_0sw (f c : Int) (t pl mi st : Bool) (h : homeB 0 f c = true) : stepH ⟨0, f, c, t⟩ true pl mi st = (⟨1, f, c, t⟩, 0) := by
  simp [stepH, overB, h]
theorem stepH_0no (f c : Int) (t st : Bool) (h : homeB 0 f c = true) : stepH ⟨0, f, c, t⟩ false false false st = (⟨0, f, c, t⟩, f) := by
  simp [stepH, overB, h, aheadB]
theorem stepH_1st (f c : Int) (t sw pl mi : Bool) (h : homeB 1 f c = true) : stepH ⟨1, f, c, t⟩ sw pl mi true = (⟨2, f, c, t⟩, 0) := by
  simp [stepH, overB, h]
theorem stepH_1no (f c : Int) (t sw pl mi : Bool) (h : homeB 1 f c = true) : stepH ⟨1, f, c, t⟩ sw pl mi false = (⟨1, f, c, t⟩, 0) := by
  simp [stepH, overB, h]
theorem stepH_2no (f c : Int) (t pl mi st : Bool) (h : homeB 2 f c = true) : stepH ⟨2, f, c, t⟩ false pl mi st = (⟨3, f, c, t⟩, 0) := by
  simp [stepH, overB, h]
theorem stepH_2sw (f c : Int) (t st : Bool) (h : homeB 2 f c = true) : stepH ⟨2, f, c, t⟩ true false false st = (⟨2, f, c, t⟩, -c) := by
  simp [stepH, overB, h, aheadB]
theorem stepH_3st (f c : Int) (t sw pl mi : Bool) (h : homeB 3 f c = true) : stepH ⟨3, f, c, t⟩ sw pl mi true = (⟨4, f, c, t⟩, 0) := by
  simp [stepH, overB, h]
theorem stepH_3no (f c : Int) (t sw pl mi : Bool) (h : homeB 3 f c = true) : stepH ⟨3, f, c, t⟩ sw pl mi false = (⟨3, f, c, t⟩, 0) := by
  simp [stepH, overB, h]

/-- what a step towards a speed comes to -/
theorem step_up (l : LimS) (g : GenS) (x : Int) (hr : rightB l = true) (hs : safeB l g = true) (h0 : 0 ≤ g.v ∧ g.v ≤ 60) (hx : 1 ≤ x ∧ x ≤ 60) (hroom : 1 ≤ l.hi - g.p) : 1 ≤ (stepG l g x).v ∧ (stepG l g x).v ≤ 60 ∧ (stepG l g x).p = g.p + (stepG l g x).v := by
  have hy := rightB_yes hr
  have hb := may_bd l g hr hs
  refine ⟨?_, ?_, rfl⟩
  · show 1 ≤ max (mayLo l g) (min (mayHi l g) x)
    have h1 : 1 ≤ rch (l.hi - g.p) l.d := (rch_iff (l.hi - g.p) l.d 1 (by omega) (by omega) (by omega)).2 (by rw [slw_near 1 0 l.d (by omega) (by omega)]; omega)
    have : 1 ≤ mayHi l g := by
      unfold mayHi
      by_cases c : 0 < g.v
      · rw [if_pos c]; unfold upHi; omega
      · rw [if_neg c, if_neg (by omega)]; unfold upHi; omega
    omega
  · show max (mayLo l g) (min (mayHi l g) x) ≤ 60
    have : mayLo l g ≤ 60 := by
      unfold mayLo
      by_cases c : 0 < g.v
      · rw [if_pos c]; unfold upLo; omega
      · rw [if_neg c, if_neg (by omega)]
        have := upHi_bd l 0 (g.p - l.lo) (by omega) hr
        have := upLo_bd l 0 (by omega) hr
        omega
    omega
theorem step_halt (l : LimS) (g : GenS) (hr : rightB l = true) (hs : safeB l g = true) (h0 : 0 ≤ g.v ∧ g.v ≤ 60) : (stepG l g 0).v = max 0 (g.v - l.d) ∧ (stepG l g 0).p = g.p + max 0 (g.v - l.d) := by
  have hy := rightB_yes hr
  have hb := may_bd l g hr hs
  have key : max (mayLo l g) (min (mayHi l g) 0) = max 0 (g.v - l.d) := by
    by_cases c : 0 < g.v
    · have h1 : mayLo l g = max 0 (g.v - l.d) := by unfold mayLo; rw [if_pos c]; rfl
      omega
    · have h1 : mayLo l g ≤ 0 := by
        unfold mayLo
        rw [if_neg c, if_neg (by omega)]
        have := upHi_bd l 0 (g.p - l.lo) (by omega) hr
        have := upLo_bd l 0 (by omega) hr
        omega
      have h2 : 0 ≤ mayHi l g := by
        unfold mayHi
        rw [if_neg c, if_neg (by omega)]
        have := upHi_bd l 0 (l.hi - g.p) (by omega) hr
        have := upLo_bd l 0 (by omega) hr
        omega
      omega
  exact ⟨key, by show g.p + _ = _; rw [key]⟩
theorem step_haltdn (l : LimS) (g : GenS) (hr : rightB l = true) (hs : safeB l g = true) (h0 : g.v ≤ 0 ∧ -60 ≤ g.v) : (stepG l g 0).v = -max 0 (-g.v - l.d) ∧ (stepG l g 0).p = g.p - max 0 (-g.v - l.d) := by
  have hy := rightB_yes hr
  have hb := may_bd l g hr hs
  have key : max (mayLo l g) (min (mayHi l g) 0) = -max 0 (-g.v - l.d) := by
    by_cases c : g.v < 0
    · have h1 : mayHi l g = -max 0 (-g.v - l.d) := by unfold mayHi; rw [if_neg (by omega), if_pos c]; rfl
      omega
    · have h1 : mayLo l g ≤ 0 := by
        unfold mayLo
        rw [if_neg (by omega), if_neg c]
        have := upHi_bd l 0 (g.p - l.lo) (by omega) hr
        have := upLo_bd l 0 (by omega) hr
        omega
      have h2 : 0 ≤ mayHi l g := by
        unfold mayHi
        rw [if_neg (by omega), if_neg c]
        have := upHi_bd l 0 (l.hi - g.p) (by omega) hr
        have := upLo_bd l 0 (by omega) hr
        omega
      omega
  exact ⟨key, by show g.p + _ = _; rw [key]; omega⟩
theorem step_dn (l : LimS) (g : GenS) (x : Int) (hr : rightB l = true) (hs : safeB l g = true) (hx : 1 ≤ x ∧ x ≤ 60) (h0 : g.v ≤ 0 ∧ -x ≤ g.v) (hroom : 1 ≤ g.p - l.lo) : (stepG l g (-x)).v ≤ -1 ∧ -x ≤ (stepG l g (-x)).v ∧ (stepG l g (-x)).p = g.p + (stepG l g (-x)).v := by
  have hy := rightB_yes hr
  have hb := may_bd l g hr hs
  have h1 : 1 ≤ rch (g.p - l.lo) l.d := (rch_iff (g.p - l.lo) l.d 1 (by omega) (by omega) (by omega)).2 (by rw [slw_near 1 0 l.d (by omega) (by omega)]; omega)
  have hlo : mayLo l g ≤ -1 := by
    unfold mayLo
    rw [if_neg (by omega)]
    by_cases c : g.v < 0
    · rw [if_pos c]; unfold upHi; omega
    · rw [if_neg c]; unfold upHi; omega
  have hhi : -x ≤ mayHi l g := by
    unfold mayHi
    rw [if_neg (by omega)]
    by_cases c : g.v < 0
    · rw [if_pos c]; unfold upLo; omega
    · rw [if_neg c]
      have := upHi_bd l 0 (l.hi - g.p) (by omega) hr
      have := upLo_bd l 0 (by omega) hr
      omega
  refine ⟨?_, ?_, rfl⟩
  · show max (mayLo l g) (min (mayHi l g) (-x)) ≤ -1
    omega
  · show -x ≤ max (mayLo l g) (min (mayHi l g) (-x))
    omega

/-- where a search stands behind k cycles: its phase, its place, its speed -/
def FindI (l : LimS) (at0 place fast creep : Int) (k ph P V : Int) : Prop :=
  safeB l ⟨P, V⟩ = true ∧ ((ph = 0 ∧ 0 ≤ V ∧ V ≤ 60 ∧ at0 ≤ P ∧ P < place + 60 ∧ k ≤ P - at0) ∨
   (ph = 1 ∧ 0 ≤ V ∧ V ≤ 60 ∧ place ≤ P ∧ P + 20 * V ≤ place + 1260 ∧ k + V ≤ 1630) ∨
   (ph = 2 ∧ V ≤ 0 ∧ -creep ≤ V ∧ place - creep ≤ P ∧ P + k ≤ place + 2900) ∨
   (ph = 3 ∧ V ≤ 0 ∧ -creep ≤ V ∧ P < place ∧ place - creep - slw creep 0 l.d ≤ P - slw (-V) 0 l.d ∧ k - V ≤ 3100) ∨
   (ph = 4 ∧ V = 0 ∧ P < place ∧ place - creep - slw creep 0 l.d ≤ P ∧ k ≤ 3200))

structure FindP (l : LimS) (at0 place fast creep : Int) : Prop where
  r : rightB l = true
  d : 3 ≤ l.d
  v : 3 ≤ l.v
  lo : l.lo = -1073741824
  hi : l.hi = 1073741824
  a : -32768 ≤ at0 ∧ at0 ≤ 32767
  p : at0 ≤ place ∧ place ≤ 32767 ∧ place - at0 ≤ 1500
  c : 1 ≤ creep ∧ creep ≤ fast ∧ fast ≤ 60

theorem find_start {l : LimS} {at0 place fast creep : Int} (F : FindP l at0 place fast creep) : FindI l at0 place fast creep 0 0 at0 0 := by
  obtain ⟨r, d, v, lo, hi, a, p, c⟩ := F
  refine ⟨decide_eq_true ?_, .inl ⟨rfl, by omega, by omega, by omega, by omega, by omega⟩⟩
  show l.lo ≤ at0 ∧ at0 ≤ l.hi ∧ -1048576 ≤ (0 : Int) ∧ (0 : Int) ≤ 1048576 ∧ ((0 : Int) ≤ 0 → slw 0 0 l.d ≤ l.hi - at0) ∧ ((0 : Int) < 0 → slw (-0) 0 l.d ≤ at0 - l.lo)
  rw [slw_le 0 0 l.d (by omega)]
  omega

theorem find_bd {l : LimS} {at0 place fast creep k ph P V : Int} (F : FindP l at0 place fast creep) (I : FindI l at0 place fast creep k ph P V) : -1048576 ≤ V ∧ V ≤ 1048576 ∧ -1073741824 ≤ P ∧ P ≤ 1073741824 ∧ k ≤ 5000 ∧ 0 ≤ ph ∧ ph ≤ 4 := by
  obtain ⟨r, d, v, lo, hi, a, p, c⟩ := F
  obtain ⟨hs, I⟩ := I
  have hz := safeB_yes hs
  simp only at hz
  have := slw_nonneg (-V) 0 l.d (by omega) (by omega)
  refine ⟨by omega, by omega, by omega, by omega, ?_, by omega, by omega⟩
  omega

theorem find_step {l : LimS} {at0 place fast creep k ph P V : Int} (F : FindP l at0 place fast creep) (I : FindI l at0 place fast creep k ph P V) (ho : ph ≠ 4) (k0 : 0 ≤ k)
    (ph' f' c' : Int) (t' : Bool) (x P' V' : Int) (hh : stepH ⟨ph, fast, creep, false⟩ (decide (place ≤ P)) false false (V == 0) = (⟨ph', f', c', t'⟩, x)) (hg : stepG l ⟨P, V⟩ x = ⟨P', V'⟩) :
    f' = fast ∧ c' = creep ∧ t' = false ∧ FindI l at0 place fast creep (k + 1) ph' P' V' := by
  have hbd := find_bd F I
  obtain ⟨r, d, v, lo, hi, a, p, c⟩ := F
  obtain ⟨hs, I⟩ := I
  have hk : ∀ q : Int, 0 ≤ q → q ≤ 5 → homeB q fast creep = true := fun q h1 h2 => homeB_mk (by omega)
  have hsafe : safeB l ⟨P', V'⟩ = true := by
    have h1 := step_between l ⟨P, V⟩ x r hs
    have h2 := step_keeps l ⟨P, V⟩ (stepG l ⟨P, V⟩ x) r hs rfl h1.1 h1.2
    rw [hg] at h2
    exact h2.1
  have hz := safeB_yes hs
  simp only at hz
  rcases I with ⟨rfl, i1, i2, i3, i4, i5⟩ | ⟨rfl, i1, i2, i3, i4, i5⟩ | ⟨rfl, i1, i2, i3, i4⟩ | ⟨rfl, i1, i2, i3, i4, i5⟩ | ⟨rfl, _⟩
  · by_cases hp : place ≤ P
    · rw [decide_eq_true hp, stepH_0sw _ _ _ _ _ _ (hk 0 (by omega) (by omega))] at hh
      simp only [Prod.mk.injEq, HomeS.mk.injEq] at hh
      obtain ⟨⟨rfl, rfl, rfl, rfl⟩, rfl⟩ := hh
      have hst := step_halt l ⟨P, V⟩ r hs ⟨i1, i2⟩
      rw [hg] at hst
      simp only at hst
      exact ⟨rfl, rfl, rfl, hsafe, .inr (.inl ⟨rfl, by omega, by omega, by omega, by omega, by omega⟩)⟩
    · rw [decide_eq_false hp, stepH_0no _ _ _ _ (hk 0 (by omega) (by omega))] at hh
      simp only [Prod.mk.injEq, HomeS.mk.injEq] at hh
      obtain ⟨⟨rfl, rfl, rfl, rfl⟩, rfl⟩ := hh
      have hst := step_up l ⟨P, V⟩ fast r hs ⟨i1, i2⟩ (by omega) (by show 1 ≤ l.hi - P; omega)
      rw [hg] at hst
      simp only at hst
      exact ⟨rfl, rfl, rfl, hsafe, .inl ⟨rfl, by omega, by omega, by omega, by omega, by omega⟩⟩
  · by_cases hv : V = 0
    · subst hv
      rw [show ((0 : Int) == 0) = true by rfl, stepH_1st _ _ _ _ _ _ (hk 1 (by omega) (by omega))] at hh
      simp only [Prod.mk.injEq, HomeS.mk.injEq] at hh
      obtain ⟨⟨rfl, rfl, rfl, rfl⟩, rfl⟩ := hh
      have hst := step_halt l ⟨P, 0⟩ r hs ⟨i1, i2⟩
      rw [hg] at hst
      simp only at hst
      exact ⟨rfl, rfl, rfl, hsafe, .inr (.inr (.inl ⟨rfl, by omega, by omega, by omega, by omega⟩))⟩
    · rw [show (V == 0) = false by simp [hv], stepH_1no _ _ _ _ _ _ (hk 1 (by omega) (by omega))] at hh
      simp only [Prod.mk.injEq, HomeS.mk.injEq] at hh
      obtain ⟨⟨rfl, rfl, rfl, rfl⟩, rfl⟩ := hh
      have hst := step_halt l ⟨P, V⟩ r hs ⟨i1, i2⟩
      rw [hg] at hst
      simp only at hst
      exact ⟨rfl, rfl, rfl, hsafe, .inr (.inl ⟨rfl, by omega, by omega, by omega, by omega, by omega⟩)⟩
  · by_cases hp : place ≤ P
    · rw [decide_eq_true hp, stepH_2sw _ _ _ _ (hk 2 (by omega) (by omega))] at hh
      simp only [Prod.mk.injEq, HomeS.mk.injEq] at hh
      obtain ⟨⟨rfl, rfl, rfl, rfl⟩, rfl⟩ := hh
      have hst := step_dn l ⟨P, V⟩ creep r hs (by omega) ⟨i1, i2⟩ (by show 1 ≤ P - l.lo; omega)
      rw [hg] at hst
      simp only at hst
      exact ⟨rfl, rfl, rfl, hsafe, .inr (.inr (.inl ⟨rfl, by omega, by omega, by omega, by omega⟩))⟩
    · rw [decide_eq_false hp, stepH_2no _ _ _ _ _ _ (hk 2 (by omega) (by omega))] at hh
      simp only [Prod.mk.injEq, HomeS.mk.injEq] at hh
      obtain ⟨⟨rfl, rfl, rfl, rfl⟩, rfl⟩ := hh
      have hst := step_haltdn l ⟨P, V⟩ r hs (show V ≤ 0 ∧ -60 ≤ V by omega)
      rw [hg] at hst
      simp only at hst
      obtain ⟨h1, h2⟩ := hst
      refine ⟨rfl, rfl, rfl, hsafe, .inr (.inr (.inr (.inl ⟨rfl, by omega, by omega, by omega, ?_, by omega⟩)))⟩
      have hm := slw_mono 0 l.d (by omega) (by omega) (-V) creep (by omega)
      by_cases hn : -V - l.d ≤ 0
      · have : V' = 0 := by omega
        rw [this, slw_le (-0) 0 l.d (by omega)]
        rw [slw_near (-V) 0 l.d (by omega) (by omega)] at hm
        omega
      · have hf := slw_far (-V) 0 l.d (by omega) (by omega)
        rw [show -V' = -V - l.d by omega]
        omega
  · by_cases hv : V = 0
    · subst hv
      rw [show ((0 : Int) == 0) = true by rfl, stepH_3st _ _ _ _ _ _ (hk 3 (by omega) (by omega))] at hh
      simp only [Prod.mk.injEq, HomeS.mk.injEq] at hh
      obtain ⟨⟨rfl, rfl, rfl, rfl⟩, rfl⟩ := hh
      have hst := step_haltdn l ⟨P, 0⟩ r hs (show (0 : Int) ≤ 0 ∧ -60 ≤ (0 : Int) by omega)
      rw [hg] at hst
      simp only at hst
      rw [slw_le (-0) 0 l.d (by omega)] at i4
      exact ⟨rfl, rfl, rfl, hsafe, .inr (.inr (.inr (.inr ⟨rfl, by omega, by omega, by omega, by omega⟩)))⟩
    · rw [show (V == 0) = false by simp [hv], stepH_3no _ _ _ _ _ _ (hk 3 (by omega) (by omega))] at hh
      simp only [Prod.mk.injEq, HomeS.mk.injEq] at hh
      obtain ⟨⟨rfl, rfl, rfl, rfl⟩, rfl⟩ := hh
      have hst := step_haltdn l ⟨P, V⟩ r hs (show V ≤ 0 ∧ -60 ≤ V by omega)
      rw [hg] at hst
      simp only at hst
      obtain ⟨h1, h2⟩ := hst
      refine ⟨rfl, rfl, rfl, hsafe, .inr (.inr (.inr (.inl ⟨rfl, by omega, by omega, by omega, ?_, by omega⟩)))⟩
      by_cases hn : -V - l.d ≤ 0
      · have : V' = 0 := by omega
        rw [this, slw_le (-0) 0 l.d (by omega)]
        rw [slw_near (-V) 0 l.d (by omega) (by omega)] at i4
        omega
      · have hf := slw_far (-V) 0 l.d (by omega) (by omega)
        rw [show -V' = -V - l.d by omega]
        omega
  · exact absurd rfl ho

theorem find_end {l : LimS} {at0 place fast creep k ph P V : Int} (F : FindP l at0 place fast creep) (I : FindI l at0 place fast creep k ph P V) (ho : ph = 4) : V = 0 ∧ P < place ∧ place - creep - slw creep 0 l.d ≤ P := by
  obtain ⟨hs, I⟩ := I
  rcases I with ⟨h, _⟩ | ⟨h, _⟩ | ⟨h, _⟩ | ⟨h, _⟩ | ⟨h, i1, i2, i3, i4⟩
  all_goals first | omega | exact ⟨i1, i2, i3⟩
theorem find_over {l : LimS} {at0 place fast creep k ph P V : Int} (F : FindP l at0 place fast creep) (I : FindI l at0 place fast creep k ph P V) : overB ph fast creep = decide (ph = 4) := by
  have hbd := find_bd F I
  have hk : homeB ph fast creep = true := homeB_mk (by have := F.c; omega)
  unfold overB
  rw [hk, Bool.eq_iff_iff]
  simp
  omega
theorem find_ok {l : LimS} {at0 place fast creep k ph P V : Int} (F : FindP l at0 place fast creep) (I : FindI l at0 place fast creep k ph P V) : okB l ⟨P, V⟩ = true := by
  simp [okB, F.r, I.1]

end Go.Proofs.Ytmlndgmkjdkcfaa
