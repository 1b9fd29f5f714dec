/- Layer 8: the speed that Pass tells comes down to another one within the way, and the next one does not: BrakePass returns true, whatever the numbers. Conditions: none. -/
import Derived.Test.YtmlndgmkjdkcfaaBrakeLaws
namespace Go.Proofs.Ytmlndgmkjdkcfaa
open Go.ChangeShapes Go.WideShapes Go.ChangeAt Go.RowKit
attribute [local go_sem] ite_max ite_min vite_max vite_min

theorem slow_in (v u d : Int) (w : World) (hv : 0 ≤ v ∧ v ≤ 1048576) :
    Calls Try.prog 17 #[.int .i64 v, .int .i64 u, .int .i64 d] w fun e w' => e = .returned (.int .i64 (slw v (spd u) (lss d))) ∧ w = w' := by
  have h := slow_any v u d w
  rw [spd_id v hv] at h
  exact h

set_option maxHeartbeats 1000000 in
theorem walk_BrakePass (s u d : Int) (_ : (Lit.int .i64 s).wf = true) (_ : (Lit.int .i64 u).wf = true) (_ : (Lit.int .i64 d).wf = true) (w : World) :
    Calls Try.prog 7 #[.int .i64 s, .int .i64 u, .int .i64 d] w fun e w' => e = .returned (.bool true) ∧ Below w.heap.size w w' := by
  have hs := wy_bd s
  have hu := spd_bd u
  have hd := lss_bd d
  have hr := pas_bd (wy s) (spd u) (lss d)
  have h0 := (pas_iff (wy s) (spd u) (lss d) (spd u) hd.1 hu.1 hu.2).2 (Or.inl (Int.le_refl _))
  have h1 := pas_passes (wy s) (spd u) (lss d) hu.1
  have h2 := pas_above (wy s) (spd u) (lss d) (pas (wy s) (spd u) (lss d) + 1) (by omega)
  have h3 := slw_bound (pas (wy s) (spd u) (lss d)) (spd u) (lss d) hr hu.1 hd
  have key : ∀ r : Int, pas (wy s) (spd u) (lss d) = r → ∃ x y : Bool, (r == spd u) = x ∧ (r == 1048576) = y ∧ (x = false → r + slw r (spd u) (lss d) ≤ wy s) ∧ (y = false → r + 1 ≤ 1048576 ∧ wy s < r + 1 + slw (r + 1) (spd u) (lss d) ∧ slw (r + 1) (spd u) (lss d) ≤ 1099511627776) := by
    intro r hrr
    refine ⟨_, _, rfl, rfl, ?_, ?_⟩
    · intro hx
      have hx : ¬ r = spd u := by simpa using hx
      rw [hrr] at h1 h0
      omega
    · intro hy
      have hy : ¬ r = 1048576 := by simpa using hy
      rw [hrr] at h2 hr
      exact ⟨by omega, (h2 (by omega)).2, (slw_bound (r + 1) (spd u) (lss d) (by omega) hu.1 hd).2⟩
  obtain ⟨x, y, hx, hy, h4, h5⟩ := key _ rfl
  clear h1 h2 key
  cases x
  all_goals cases y
  all_goals
    first | have h4 := h4 rfl | clear h4
    first | have h5 := h5 rfl | clear h5
    go_enter Try.func7, Try.ntmps7
    go_wp2_with fail
    refine (awake8 _).mono ?_
    rintro e w1 ⟨rfl, hb⟩
    go_wp2_with (first | (go_at_call 22; refine (rdist_any _ _).mono ?_; rintro e w' ⟨rfl, rfl⟩) | (go_at_call 24; refine (rvel_any _ _).mono ?_; rintro e w' ⟨rfl, rfl⟩) | (go_at_call 25; refine (pass_any _ _ _ _).mono ?_; rintro e w2 ⟨rfl, hb2⟩) | (go_at_call 17; refine (slow_in _ _ _ _ (by omega)).mono ?_; rintro e w' ⟨rfl, rfl⟩))
    go_ret
    exact ⟨rfl, hb.trans (hb2.mono hb.size)⟩

set_option maxRecDepth 100000 in
theorem lifted_BrakePass (os : Os) (started : os.Started) (H : Type) (enc : TypeId × Value → H) :
    ReturnsInHanded {} Try.checked os 7 .any (Rows.brakePassSpec.pre6 enc Try.prog Try.f7 Rows.brakePassRow.domain false) (Rows.brakePassSpec.post enc Try.prog Try.f7 false true false false) := by
  refine returnsInHanded_of_change (C := Try.checked) own started (by kernel_rfl) Try.func7
    (ChangeSpec.witness6 (enc := enc) (C := Try.checked) false ⟨#[], #[.int .i64 0, .int .i64 0, .int .i64 0], []⟩ 8 (by kernel_rfl) (by kernel_rfl) (by kernel_rfl) (by kernel_rfl)) ?_
  intro W base args ds gs before hval0 hW hcnd _
  have hval : ∀ (j : Nat) t v, Try.f7.params[j]? = some t → args[j]? = some v → Value.okWide Try.prog W .any base t v := hval0
  have hW' := hW
  obtain ⟨p, q, hA0, hV, rfl, hfz, hnd⟩ := hW'
  have hA : DataW.TrodAll enc Try.prog W 0 (fun _ => true) true Try.f7.params.toList args.toList ds p := hA0
  rw [Try.params7] at hA hval
  obtain ⟨v0, vs0, d0, ds0, p0, q0, hargs, rfl, rfl, h0, r0⟩ := trodAll_cons hA
  obtain ⟨v1, vs1, d1, ds1, p1, q1, rfl, rfl, rfl, h1, r1⟩ := trodAll_cons r0
  obtain ⟨v2, vs2, d2, ds2, p2, q2, rfl, rfl, rfl, h2, r2⟩ := trodAll_cons r1
  obtain ⟨rfl, rfl, rfl⟩ := trodAll_nil r2
  obtain rfl : args = #[v0, v1, v2] := by cases args; simp_all
  obtain ⟨rfl, rfl⟩ := trodVars_none hV
  obtain ⟨a0, rfl, rfl, rfl, w0⟩ := open_int Try.underlying2 (hval 0 2 v0 rfl rfl) h0
  obtain ⟨a1, rfl, rfl, rfl, w1⟩ := open_int Try.underlying2 (hval 1 2 v1 rfl rfl) h1
  obtain ⟨a2, rfl, rfl, rfl, w2⟩ := open_int Try.underlying2 (hval 2 2 v2 rfl rfl) h2
  refine (walk_BrakePass a0 a1 a2 w0 w1 w2 W).mono fun e W' ⟨he, hb⟩ => ⟨_, he, ?_⟩
  exact law_post_any laid_out Try.underlying4 hW rfl ⟨rfl, rfl, rfl⟩ rfl (by kernel_rfl) hb

theorem over_BrakePass : Rows.brakePassRow.holds Try.pinned (OpenSpec.ofChange Rows.brakePassSpec) :=
  OpenClaim.holds_of_wide 7 Try.f7 rfl rfl rfl rfl rfl rfl rfl ⟨rfl, rfl, rfl, rfl, rfl⟩ rfl rfl rfl rfl rfl (by kernel_rfl) Try.func7 (by kernel_rfl)
    (of_decide_eq_true (by kernel_rfl)) (by unfold Func.isWrapper; first | (rw [if_pos (by decide +kernel)]; kernel_rfl) | (rw [if_neg (by decide +kernel)]; exact ⟨rfl, rfl⟩))
    (fun os started H enc _ => lifted_BrakePass os started H enc)

/-- the statement -/
theorem BrakePass_holds : Rows.BrakePassSaid := over_BrakePass
#print axioms BrakePass_holds

end Go.Proofs.Ytmlndgmkjdkcfaa
