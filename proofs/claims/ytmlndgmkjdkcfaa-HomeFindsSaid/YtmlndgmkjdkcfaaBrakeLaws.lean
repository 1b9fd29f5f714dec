/- Layer 8: BrakeReach returns true, whatever the numbers. Conditions: none. -/
import Derived.Test.YtmlndgmkjdkcfaaBrakeF
import Derived.Test.YtmlndgmkjdkcfaaFrame
namespace Go.Proofs.Ytmlndgmkjdkcfaa
open Go.ChangeShapes Go.WideShapes Go.ChangeAt Go.RowKit
set_option linter.unusedVariables false
set_option linter.unusedSimpArgs false
attribute [local go_sem] ite_max ite_min vite_max vite_min

theorem Way_in (v d : Int) (w : World) (hv : 0 ≤ v ∧ v ≤ 1048576) :
    Calls Try.prog 19 #[.int .i64 v, .int .i64 d] w fun e w' => e = .returned (.int .i64 (slw v 0 (lss d))) ∧ w = w' := by
  have h := Way_any v d w
  rw [spd_id v hv] at h
  exact h

set_option maxHeartbeats 1000000 in
theorem walk_BrakeReach (s d : Int) (_ : (Lit.int .i64 s).wf = true) (_ : (Lit.int .i64 d).wf = true) (w : World) :
    Calls Try.prog 4 #[.int .i64 s, .int .i64 d] w fun e w' => e = .returned (.bool true) ∧ Below w.heap.size w w' := by
  have hs := wy_bd s
  have hd := lss_bd d
  have hr := rch_bd (wy s) (lss d)
  have h1 := rch_stops (wy s) (lss d) hs.1 hd.1
  have h2 := rch_above (wy s) (lss d) (rch (wy s) (lss d) + 1) (by omega)
  have h3 := slw_bound (rch (wy s) (lss d)) 0 (lss d) hr (by omega) hd
  by_cases hc : rch (wy s) (lss d) = 1048576
  · have hc' : (rch (wy s) (lss d) == 1048576) = true := by simpa using hc
    clear h2 hc
    go_enter Try.func4, Try.ntmps4
    go_wp2_with fail
    refine (awake8 _).mono ?_
    rintro e w1 ⟨rfl, hb⟩
    go_wp2_with (first | (go_at_call 22; refine (rdist_any _ _).mono ?_; rintro e w' ⟨rfl, rfl⟩) | (go_at_call 23; refine (reach_any _ _ _).mono ?_; rintro e w2 ⟨rfl, hb2⟩) | (go_at_call 19; refine (Way_in _ _ _ (by omega)).mono ?_; rintro e w' ⟨rfl, rfl⟩))
    go_ret
    exact ⟨rfl, hb.trans (hb2.mono hb.size)⟩
  · have hc' : (rch (wy s) (lss d) == 1048576) = false := by simpa using hc
    have h4 := h2 (by omega)
    have h5 := slw_bound (rch (wy s) (lss d) + 1) 0 (lss d) (by omega) (by omega) hd
    clear h2
    have H : Hid (¬ rch (wy s) (lss d) = 1048576) := hc
    have hlt : rch (wy s) (lss d) < 1048576 := by omega
    clear hc
    go_enter Try.func4, Try.ntmps4
    go_wp2_with fail
    refine (awake8 _).mono ?_
    rintro e w1 ⟨rfl, hb⟩
    go_wp2_with (first | (go_at_call 22; refine (rdist_any _ _).mono ?_; rintro e w' ⟨rfl, rfl⟩) | (go_at_call 23; refine (reach_any _ _ _).mono ?_; rintro e w2 ⟨rfl, hb2⟩) | (go_at_call 19; refine (Way_in _ _ _ (by omega)).mono ?_; rintro e w' ⟨rfl, rfl⟩))
    go_ret
    exact ⟨rfl, hb.trans (hb2.mono hb.size)⟩

set_option maxRecDepth 100000 in
theorem lifted_BrakeReach (os : Os) (started : os.Started) (H : Type) (enc : TypeId × Value → H) :
    ReturnsInHanded {} Try.checked os 4 .any (Rows.brakeReachSpec.pre6 enc Try.prog Try.f4 Rows.brakeReachRow.domain false) (Rows.brakeReachSpec.post enc Try.prog Try.f4 false true false false) := by
  refine returnsInHanded_of_change (C := Try.checked) own started (by kernel_rfl) Try.func4
    (ChangeSpec.witness6 (enc := enc) (C := Try.checked) false ⟨#[], #[.int .i64 0, .int .i64 0], []⟩ 8 (by kernel_rfl) (by kernel_rfl) (by kernel_rfl) (by kernel_rfl)) ?_
  intro W base args ds gs before hval0 hW hcnd _
  have hval : ∀ (j : Nat) t v, Try.f4.params[j]? = some t → args[j]? = some v → Value.okWide Try.prog W .any base t v := hval0
  have hW' := hW
  obtain ⟨p, q, hA0, hV, rfl, hfz, hnd⟩ := hW'
  have hA : DataW.TrodAll enc Try.prog W 0 (fun _ => true) true Try.f4.params.toList args.toList ds p := hA0
  rw [Try.params4] at hA hval
  obtain ⟨v0, vs0, d0, ds0, p0, q0, hargs, rfl, rfl, h0, r0⟩ := trodAll_cons hA
  obtain ⟨v1, vs1, d1, ds1, p1, q1, rfl, rfl, rfl, h1, r1⟩ := trodAll_cons r0
  obtain ⟨rfl, rfl, rfl⟩ := trodAll_nil r1
  obtain rfl : args = #[v0, v1] := by cases args; simp_all
  obtain ⟨rfl, rfl⟩ := trodVars_none hV
  obtain ⟨a0, rfl, rfl, rfl, w0⟩ := open_int Try.underlying2 (hval 0 2 v0 rfl rfl) h0
  obtain ⟨a1, rfl, rfl, rfl, w1⟩ := open_int Try.underlying2 (hval 1 2 v1 rfl rfl) h1
  refine (walk_BrakeReach a0 a1 w0 w1 W).mono fun e W' ⟨he, hb⟩ => ⟨_, he, ?_⟩
  exact law_post_any laid_out Try.underlying4 hW rfl ⟨rfl, rfl, rfl⟩ rfl (by kernel_rfl) hb

theorem over_BrakeReach : Rows.brakeReachRow.holds Try.pinned (OpenSpec.ofChange Rows.brakeReachSpec) :=
  OpenClaim.holds_of_wide 4 Try.f4 rfl rfl rfl rfl rfl rfl rfl ⟨rfl, rfl, rfl, rfl, rfl⟩ rfl rfl rfl rfl rfl (by kernel_rfl) Try.func4 (by kernel_rfl)
    (of_decide_eq_true (by kernel_rfl)) (by unfold Func.isWrapper; first | (rw [if_pos (by decide +kernel)]; kernel_rfl) | (rw [if_neg (by decide +kernel)]; exact ⟨rfl, rfl⟩))
    (fun os started H enc _ => lifted_BrakeReach os started H enc)

/-- the statement -/
theorem BrakeReach_holds : Rows.BrakeReachSaid := over_BrakeReach
#print axioms BrakeReach_holds

end Go.Proofs.Ytmlndgmkjdkcfaa
