/- The plain generator: who comes by a place on its way to another one. No program in sight. -/
import Derived.Test.YtmlndgmkjdkcfaaPGenH
namespace Go.Proofs.Ytmlndgmkjdkcfaa
set_option linter.unusedVariables false
set_option linter.unusedSimpArgs false

def passInv (l : LimS) (g : GenS) (t U f : Int) : Prop :=
  safeB l g = true ∧ 0 ≤ g.v ∧ slw g.v 0 l.d ≤ f - g.p ∧ (g.p < t → slw g.v U l.d ≤ t - g.p) ∧ (t ≤ g.p → g.v - l.d ≤ U)

theorem byG_up (l : LimS) (g : GenS) (t u f s : Int) (ht : l.lo ≤ t ∧ t ≤ f ∧ f ≤ l.hi) (hv : 0 ≤ g.v) (hp : g.p < t) : byG l g t u f s = min (pas (t - g.p) (spd u) l.d) (min (rch (f - g.p) l.d) (spd s)) := by
  have hct : clampL l t = t := by unfold clampL; omega
  have hcf : clampL l f = f := by unfold clampL; omega
  unfold byG
  simp only
  rw [hct, hcf, if_neg (by omega), if_neg (by omega), show awayB (t - g.p) (f - g.p) = false from decide_eq_false (by omega), show awayB (t - g.p) g.v = false from decide_eq_false (by omega)]
  simp only [Bool.false_eq_true, if_false]
  unfold towardI
  rw [if_neg (by omega), show max (t - g.p) (-(t - g.p)) = t - g.p by omega, show max (f - g.p) (-(f - g.p)) = f - g.p by omega]

theorem pass_step (l : LimS) (g : GenS) (t u f s : Int) (p' v' : Int) (hr : rightB l = true) (ht : l.lo ≤ t ∧ t ≤ f ∧ f ≤ l.hi) (hu : 1 ≤ u) (h1 : 1 ≤ s) (h : passInv l g t (spd u) f) (hp : g.p < t)
    (hg : stepG l g (byG l g t u f s) = ⟨p', v'⟩) :
    passInv l ⟨p', v'⟩ t (spd u) f ∧ g.p < p' ∧ p' ≤ f ∧ (t ≤ p' → v' ≤ max (spd u) (t - g.p)) := by
  obtain ⟨hs, hv, hsl, hin, _⟩ := h
  have hin := hin hp
  have hy := rightB_yes hr
  have hz := safeB_yes hs
  have hss := step_safe l g (byG l g t u f s) hr hs
  rw [hg] at hss
  have hby := byG_up l g t u f s ht hv hp
  obtain ⟨U, hU⟩ : ∃ U, spd u = U := ⟨_, rfl⟩
  have hUb : 1 ≤ U ∧ U ≤ 1048576 := by rw [← hU]; unfold spd; omega
  rw [hU] at hin hby ⊢
  have hm := may_up l g hr (by omega)
  have hr1 : 1 ≤ rch (f - g.p) l.d := (rch_iff _ _ 1 (by omega) (by omega) (by omega)).2 (by rw [slw_near 1 0 l.d (by omega) (by omega)]; omega)
  have hr2 : 1 ≤ rch (l.hi - g.p) l.d := (rch_iff _ _ 1 (by omega) (by omega) (by omega)).2 (by rw [slw_near 1 0 l.d (by omega) (by omega)]; omega)
  have hr3 : 1 ≤ pas (t - g.p) U l.d := (pas_iff _ _ _ 1 (by omega) (by omega) (by omega)).2 (.inl (by omega))
  have hb := rch_bd (f - g.p) l.d
  have hb2 := pas_bd (t - g.p) U l.d
  have hup : upHi l g.v (l.hi - g.p) = max (upLo l g.v) (min (min (g.v + l.a) l.v) (rch (l.hi - g.p) l.d)) := rfl
  have hul : upLo l g.v = max 0 (g.v - l.d) := rfl
  have hx1 : v' = max (mayLo l g) (min (mayHi l g) (min (pas (t - g.p) U l.d) (min (rch (f - g.p) l.d) (spd s)))) := by
    rw [← hby]
    exact (congrArg GenS.v hg).symm
  have hxp : p' = g.p + v' := by
    have e1 : (stepG l g (byG l g t u f s)).p = g.p + (stepG l g (byG l g t u f s)).v := rfl
    rw [hg] at e1
    exact e1
  have hsp : spd s = min s 1048576 := by unfold spd; omega
  obtain ⟨m1, m2, m3⟩ := hm
  rw [m3, hup] at hx1
  have hx2 : 1 ≤ v' := by omega
  have hx3 : v' ≤ upLo l g.v ∨ v' ≤ rch (f - g.p) l.d := by omega
  have hx4 : v' ≤ upLo l g.v ∨ v' ≤ pas (t - g.p) U l.d := by omega
  have hx6 : v' + slw v' 0 l.d ≤ f - g.p := by
    rcases hx3 with h | h
    · have h5 := slw_far g.v 0 l.d (by omega) (by omega)
      have h6 := slw_mono 0 l.d (by omega) (by omega) v' (g.v - l.d) (by omega)
      omega
    · exact (rch_iff _ _ v' (by omega) (by omega) (by omega)).1 h
  have hx7 : v' ≤ U ∨ v' + slw v' U l.d ≤ t - g.p := by
    rcases hx4 with h | h
    · by_cases c : v' ≤ U
      · exact .inl c
      · have h5 := slw_far g.v U l.d (by omega) (by omega)
        have h6 := slw_mono U l.d (by omega) (by omega) v' (g.v - l.d) (by omega)
        omega
    · exact (pas_iff _ _ _ v' (by omega) (by omega) (by omega)).1 h
  have hn := slw_nonneg v' 0 l.d (by omega) (by omega)
  have hn2 := slw_nonneg v' U l.d (by omega) (by omega)
  refine ⟨⟨hss, by show 0 ≤ v'; omega, by show slw v' 0 l.d ≤ f - p'; omega, fun hlt => ?_, fun hge => ?_⟩, by omega, by omega, fun _ => by omega⟩
  · show slw v' U l.d ≤ t - p'
    have hlt : p' < t := hlt
    rcases hx7 with h | h
    · rw [slw_le v' U l.d h]
      omega
    · omega
  · show v' - l.d ≤ U
    have hge : t ≤ p' := hge
    rcases hx7 with h | h
    · omega
    · by_cases c : v' - l.d ≤ U
      · exact c
      · have h5 := slw_far v' U l.d (by omega) (by omega)
        have h6 := slw_nonneg (v' - l.d) U l.d (by omega) (by omega)
        omega

theorem pass_start (l : LimS) (p t u f : Int) (hr : rightB l = true) (hs : safeB l ⟨p, 0⟩ = true) (hp : p < t) (hf : t ≤ f) : passInv l ⟨p, 0⟩ t (spd u) f := by
  have hy := rightB_yes hr
  have hb := spd_bd u
  refine ⟨hs, Int.le_refl _, ?_, fun _ => ?_, fun h => ?_⟩
  · show slw 0 0 l.d ≤ f - p
    rw [slw_le 0 0 l.d (by omega)]
    omega
  · show slw 0 (spd u) l.d ≤ t - p
    rw [slw_le 0 _ l.d (by omega)]
    omega
  · have : t ≤ p := h
    omega

end Go.Proofs.Ytmlndgmkjdkcfaa
