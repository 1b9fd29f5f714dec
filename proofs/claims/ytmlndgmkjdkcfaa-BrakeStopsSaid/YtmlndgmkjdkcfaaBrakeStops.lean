/- Layer 8: who goes at no more than Reach tells, and loses each cycle what it may, comes to a halt within the way, in as many cycles as is told: BrakeStops returns true, whatever the numbers. Conditions: none. -/
import Derived.Test.YtmlndgmkjdkcfaaBrakeLaws
namespace Go.Proofs.Ytmlndgmkjdkcfaa
open Go.ChangeShapes Go.WideShapes Go.ChangeAt Go.RowKit
attribute [local go_sem] ite_max ite_min vite_max vite_min ite_max0 vite_max0

set_option linter.unusedVariables false
theorem cyc_zero (d : Int) (hd : 1 ≤ d) : (0 + d - 1) / d = 0 := Int.ediv_eq_zero_of_lt (by omega) (by omega)
theorem cyc_step (v d : Int) (hd : 1 ≤ d) (hv : 0 < v) : (v + d - 1) / d = (max 0 (v - d) + d - 1) / d + 1 := by
  by_cases c : v - d ≤ 0
  · rw [show max 0 (v - d) = 0 by omega, cyc_zero d hd, show v + d - 1 = (v - 1) + d from by omega, Int.add_ediv_of_dvd_right (Int.dvd_refl _), Int.ediv_self (by omega), Int.ediv_eq_zero_of_lt (by omega) (by omega)]
  · rw [show max 0 (v - d) = v - d by omega, show v + d - 1 = (v - d + d - 1) + d from by omega, Int.add_ediv_of_dvd_right (Int.dvd_refl _), Int.ediv_self (by omega)]
theorem go_step_way (v d : Int) (hd : 1 ≤ d) (hv : 0 < v) : slw v 0 d = max 0 (v - d) + slw (max 0 (v - d)) 0 d := by
  by_cases c : v - d ≤ 0
  · rw [show max 0 (v - d) = 0 by omega, slw_near v 0 d hd (by omega), slw_near 0 0 d hd (by omega)]; omega
  · rw [show max 0 (v - d) = v - d by omega, slw_far v 0 d hd (by omega)]
theorem cyc_bd (v d : Int) (hv : 0 ≤ v ∧ v ≤ 1048576) (hd : 1 ≤ d) : 0 ≤ (v + d - 1) / d ∧ (v + d - 1) / d ≤ 1048576 := by
  have hq := quo_mul (v + d - 1) d hd (by omega)
  refine ⟨hq.1, ?_⟩
  by_cases c : (v + d - 1) / d ≤ 1048576
  · exact c
  · have h2 : d * 1048577 ≤ d * ((v + d - 1) / d) := Int.mul_le_mul_of_nonneg_left (by omega) (by omega)
    omega
theorem cycles_in (v d : Int) (w : World) (hv : 0 ≤ v ∧ v ≤ 1048576) :
    Calls Try.prog 20 #[.int .i64 v, .int .i64 d] w fun e w' => e = .returned (.int .i64 ((v + lss d - 1) / lss d)) ∧ w = w' := by
  have h := cycles_any v d w
  rw [spd_id v hv] at h
  exact h
theorem reach_in (s d : Int) (w : World) (hs : 0 ≤ s ∧ s ≤ 2199023255552) :
    Calls Try.prog 23 #[.int .i64 s, .int .i64 d] w fun e w' => e = .returned (.int .i64 (rch s (lss d))) ∧ Below w.heap.size w w' := by
  have h := reach_any s d w
  rw [wy_id s hs] at h
  exact h

set_option maxHeartbeats 2000000 in
theorem walk_BrakeStops (s d l : Int) (_ : (Lit.int .i64 s).wf = true) (_ : (Lit.int .i64 d).wf = true) (hl : (Lit.int .u16 l).wf = true) (w : World) :
    Calls Try.prog 5 #[.int .i64 s, .int .i64 d, .int .u16 l] w fun e w' => e = .returned (.bool true) ∧ Below w.heap.size w w' := by
  have hlb := bounds_u16 hl
  have hs := wy_bd s
  have hd := lss_bd d
  have hdd : max 1 (min 1048576 d) = lss d := rfl
  have hr := rch_bd (wy s) (lss d)
  go_enter Try.func5, Try.ntmps5
  go_wp2_with fail
  refine (awake8 _).mono ?_
  rintro e w1 ⟨rfl, hb⟩
  go_wp2_with (first | (go_at_call 22; refine (rdist_any _ _).mono ?_; rintro e w' ⟨rfl, rfl⟩) | (go_at_call 23; refine (reach_any _ _ _).mono ?_; rintro e w2 ⟨rfl, hb2⟩; replace hb := hb.trans (hb2.mono hb.size); clear hb2))
  · go_ret
    exact ⟨rfl, hb⟩
  · have hV : ∃ V, V = max 0 (rch (wy s) (lss d) - l) := ⟨_, rfl⟩
    obtain ⟨V, hV⟩ := hV
    rw [← hV]
    have hV1 : 0 ≤ V ∧ V ≤ rch (wy s) (lss d) := by omega
    have hcV := cyc_bd V (lss d) (by omega) hd.1
    have hsV := slw_bound V 0 (lss d) (by omega) (by omega) hd
    clear hV
    go_loopw [9, 10, 11] (fun x y z w' => ∃ left n u : Int, 0 ≤ left ∧ left ≤ wy s ∧ 0 ≤ n ∧ 0 ≤ u ∧ u ≤ 1048576 ∧ u ≤ rch left (lss d) ∧ Hid (n + (u + lss d - 1) / lss d = (V + lss d - 1) / lss d) ∧ Hid (wy s - left + u + slw u 0 (lss d) = V + slw V 0 (lss d)) ∧ x = .int .i64 left ∧ y = .int .i64 n ∧ z = .int .i64 u ∧ Below w.heap.size w w') (fun _ _ z _ => (intOf z).toNat)
    case atStart => exact ⟨wy s, 0, V, hs.1, by omega, by omega, hV1.1, by omega, hV1.2, show Hid _ from by show _ = _; omega, show Hid _ from by show _ = _; omega, rfl, rfl, rfl, hb⟩
    case round =>
      obtain ⟨left, n, u, hl0, hl1, hn0, hu0, hu1, hur, HN, HL, rfl, rfl, rfl, hbr⟩ := hrel
      clear hb
      have hcu := cyc_bd u (lss d) (by omega) hd.1
      have hnb : n ≤ 1048576 := by have := HN.out; omega
      by_cases hc : 0 < u
      · have h1 := rch_next left (lss d) u hl0 hd.1 hc hur
        have H2 : Hid (n + 1 + (max 0 (u - lss d) + lss d - 1) / lss d = (V + lss d - 1) / lss d) := by
          show _ = _
          have := cyc_step u (lss d) hd.1 hc
          have := HN.out
          omega
        have H3 : Hid (wy s - (left - u) + max 0 (u - lss d) + slw (max 0 (u - lss d)) 0 (lss d) = V + slw V 0 (lss d)) := by
          show _ = _
          have := go_step_way u (lss d) hd.1 hc
          have := HL.out
          omega
        clear HN HL
        go_wp2_with (first | (go_at_call 23; refine (reach_in _ _ _ (by omega)).mono ?_; rintro e w2 ⟨rfl, hb2⟩; replace hbr := hbr.trans (hb2.mono hbr.size); clear hb2))
        go_roundw
        case rel => exact ⟨left - u, n + 1, max 0 (u - lss d), by omega, by omega, by omega, by omega, by omega, h1.2, H2, H3, rfl, rfl, rfl, hbr⟩
        case measure => simp [intOf]; omega
      · have hu : u = 0 := by omega
        have HN2 : Hid ((V + lss d - 1) / lss d = n) := by
          show _ = _
          have := HN.out
          rw [hu, cyc_zero _ hd.1] at this
          omega
        have HL2 : Hid (V + slw V 0 (lss d) = wy s - left) := by
          show _ = _
          have := HL.out
          rw [hu, slw_le 0 0 _ (by omega)] at this
          omega
        have hlast : (wy s - left == V + slw V 0 (lss d)) = true := by rw [HL2.out]; simp
        clear HN HL hu
        go_wp2_with (first | (go_at_call 22; refine (rdist_any _ _).mono ?_; rintro e w' ⟨rfl, rfl⟩) | (go_at_call 20; refine (cycles_in _ _ _ (by omega)).mono ?_; rw [HN2.out]; rintro e w' ⟨rfl, rfl⟩) | (go_at_call 19; refine (Way_in _ _ _ (by omega)).mono ?_; rintro e w' ⟨rfl, rfl⟩))
        go_ret
        exact ⟨rfl, hbr⟩

set_option maxRecDepth 100000 in
theorem lifted_BrakeStops (os : Os) (started : os.Started) (H : Type) (enc : TypeId × Value → H) :
    ReturnsInHanded {} Try.checked os 5 .any (Rows.brakeStopsSpec.pre6 enc Try.prog Try.f5 Rows.brakeStopsRow.domain false) (Rows.brakeStopsSpec.post enc Try.prog Try.f5 false true false false) := by
  refine returnsInHanded_of_change (C := Try.checked) own started (by kernel_rfl) Try.func5
    (ChangeSpec.witness6 (enc := enc) (C := Try.checked) false ⟨#[], #[.int .i64 0, .int .i64 0, .int .u16 0], []⟩ 8 (by kernel_rfl) (by kernel_rfl) (by kernel_rfl) (by kernel_rfl)) ?_
  intro W base args ds gs before hval0 hW hcnd _
  have hval : ∀ (j : Nat) t v, Try.f5.params[j]? = some t → args[j]? = some v → Value.okWide Try.prog W .any base t v := hval0
  have hW' := hW
  obtain ⟨p, q, hA0, hV, rfl, hfz, hnd⟩ := hW'
  have hA : DataW.TrodAll enc Try.prog W 0 (fun _ => true) true Try.f5.params.toList args.toList ds p := hA0
  rw [Try.params5] at hA hval
  obtain ⟨v0, vs0, d0, ds0, p0, q0, hargs, rfl, rfl, h0, r0⟩ := trodAll_cons hA
  obtain ⟨v1, vs1, d1, ds1, p1, q1, rfl, rfl, rfl, h1, r1⟩ := trodAll_cons r0
  obtain ⟨v2, vs2, d2, ds2, p2, q2, rfl, rfl, rfl, h2, r2⟩ := trodAll_cons r1
  obtain ⟨rfl, rfl, rfl⟩ := trodAll_nil r2
  obtain rfl : args = #[v0, v1, v2] := by cases args; simp_all
  obtain ⟨rfl, rfl⟩ := trodVars_none hV
  obtain ⟨a0, rfl, rfl, rfl, w0⟩ := open_int Try.underlying2 (hval 0 2 v0 rfl rfl) h0
  obtain ⟨a1, rfl, rfl, rfl, w1⟩ := open_int Try.underlying2 (hval 1 2 v1 rfl rfl) h1
  obtain ⟨a2, rfl, rfl, rfl, w2⟩ := open_int Try.underlying28 (hval 2 28 v2 rfl rfl) h2
  refine (walk_BrakeStops a0 a1 a2 w0 w1 w2 W).mono fun e W' ⟨he, hb⟩ => ⟨_, he, ?_⟩
  exact law_post_any laid_out Try.underlying4 hW rfl ⟨rfl, rfl, rfl⟩ rfl (by kernel_rfl) hb

theorem over_BrakeStops : Rows.brakeStopsRow.holds Try.pinned (OpenSpec.ofChange Rows.brakeStopsSpec) :=
  OpenClaim.holds_of_wide 5 Try.f5 rfl rfl rfl rfl rfl rfl rfl ⟨rfl, rfl, rfl, rfl, rfl⟩ rfl rfl rfl rfl rfl (by kernel_rfl) Try.func5 (by kernel_rfl)
    (of_decide_eq_true (by kernel_rfl)) (by unfold Func.isWrapper; first | (rw [if_pos (by decide +kernel)]; kernel_rfl) | (rw [if_neg (by decide +kernel)]; exact ⟨rfl, rfl⟩))
    (fun os started H enc _ => lifted_BrakeStops os started H enc)

/-- the statement -/
theorem BrakeStops_holds : Rows.BrakeStopsSaid := over_BrakeStops
#print axioms BrakeStops_holds

end Go.Proofs.Ytmlndgmkjdkcfaa
