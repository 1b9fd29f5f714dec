/- Layer 8: the faster, the farther; the farther, the faster one may go; who loses more needs less: BrakeGrows returns true, whatever the numbers. Conditions: none. -/
import Derived.Test.YtmlndgmkjdkcfaaBrakeLaws
namespace Go.Proofs.Ytmlndgmkjdkcfaa
open Go.ChangeShapes Go.WideShapes Go.ChangeAt Go.RowKit
attribute [local go_sem] ite_max ite_min vite_max vite_min

theorem spd_mono (a b : Int) (h : a ≤ b) : spd a ≤ spd b := by unfold spd; omega
theorem lss_mono (a b : Int) (h : a ≤ b) : lss a ≤ lss b := by unfold lss; omega
theorem wy_mono (a b : Int) (h : a ≤ b) : wy a ≤ wy b := by unfold wy; omega

set_option maxHeartbeats 1000000 in
theorem walk_BrakeGrows (v x d m s t : Int) (_ : (Lit.int .i64 v).wf = true) (_ : (Lit.int .i64 x).wf = true) (_ : (Lit.int .i64 d).wf = true) (_ : (Lit.int .i64 m).wf = true) (_ : (Lit.int .i64 s).wf = true) (_ : (Lit.int .i64 t).wf = true) (w : World) :
    Calls Try.prog 6 #[.int .i64 v, .int .i64 x, .int .i64 d, .int .i64 m, .int .i64 s, .int .i64 t] w fun e w' => e = .returned (.bool true) ∧ Below w.heap.size w w' := by
  have hd := lss_bd d
  have h1 := slw_mono 0 (lss d) hd.1 (by omega) (spd (min x v)) (spd (max v x)) (spd_mono _ _ (by omega))
  have h2 := slw_dec 0 (by omega) (lss (min m d)) (lss (max d m)) (lss_bd _).1 (lss_mono _ _ (by omega)) (spd v)
  have h3 := rch_mono (wy (min t s)) (wy (max s t)) (lss d) (wy_bd _).1 (wy_mono _ _ (by omega)) hd.1
  have h4 := rch_dec (wy (min t s)) (lss (min m d)) (lss (max d m)) (wy_bd _).1 (lss_bd _).1 (lss_mono _ _ (by omega))
  have h5 := slw_to (lss d) hd.1 (spd (min x v)) (spd (max v x)) (spd_bd _).1 (spd_mono _ _ (by omega)) (spd v)
  go_enter Try.func6, Try.ntmps6
  go_wp2_with fail
  refine (awake8 _).mono ?_
  rintro e w1 ⟨rfl, hb⟩
  go_wp2_with (first | (go_at_call 23; refine (reach_any _ _ _).mono ?_; rintro e w2 ⟨rfl, hb2⟩; replace hb := hb.trans (hb2.mono hb.size); clear hb2) | (go_at_call 19; refine (Way_any _ _ _).mono ?_; rintro e w' ⟨rfl, rfl⟩) | (go_at_call 17; refine (slow_any _ _ _ _).mono ?_; rintro e w' ⟨rfl, rfl⟩))
  go_ret
  exact ⟨rfl, hb⟩

set_option maxRecDepth 100000 in
theorem lifted_BrakeGrows (os : Os) (started : os.Started) (H : Type) (enc : TypeId × Value → H) :
    ReturnsInHanded {} Try.checked os 6 .any (Rows.brakeGrowsSpec.pre6 enc Try.prog Try.f6 Rows.brakeGrowsRow.domain false) (Rows.brakeGrowsSpec.post enc Try.prog Try.f6 false true false false) := by
  refine returnsInHanded_of_change (C := Try.checked) own started (by kernel_rfl) Try.func6
    (ChangeSpec.witness6 (enc := enc) (C := Try.checked) false ⟨#[], #[.int .i64 0, .int .i64 0, .int .i64 0, .int .i64 0, .int .i64 0, .int .i64 0], []⟩ 8 (by kernel_rfl) (by kernel_rfl) (by kernel_rfl) (by kernel_rfl)) ?_
  intro W base args ds gs before hval0 hW hcnd _
  have hval : ∀ (j : Nat) t v, Try.f6.params[j]? = some t → args[j]? = some v → Value.okWide Try.prog W .any base t v := hval0
  have hW' := hW
  obtain ⟨p, q, hA0, hV, rfl, hfz, hnd⟩ := hW'
  have hA : DataW.TrodAll enc Try.prog W 0 (fun _ => true) true Try.f6.params.toList args.toList ds p := hA0
  rw [Try.params6] at hA hval
  obtain ⟨v0, vs0, d0, ds0, p0, q0, hargs, rfl, rfl, h0, r0⟩ := trodAll_cons hA
  obtain ⟨v1, vs1, d1, ds1, p1, q1, rfl, rfl, rfl, h1, r1⟩ := trodAll_cons r0
  obtain ⟨v2, vs2, d2, ds2, p2, q2, rfl, rfl, rfl, h2, r2⟩ := trodAll_cons r1
  obtain ⟨v3, vs3, d3, ds3, p3, q3, rfl, rfl, rfl, h3, r3⟩ := trodAll_cons r2
  obtain ⟨v4, vs4, d4, ds4, p4, q4, rfl, rfl, rfl, h4, r4⟩ := trodAll_cons r3
  obtain ⟨v5, vs5, d5, ds5, p5, q5, rfl, rfl, rfl, h5, r5⟩ := trodAll_cons r4
  obtain ⟨rfl, rfl, rfl⟩ := trodAll_nil r5
  obtain rfl : args = #[v0, v1, v2, v3, v4, v5] := by cases args; simp_all
  obtain ⟨rfl, rfl⟩ := trodVars_none hV
  obtain ⟨a0, rfl, rfl, rfl, w0⟩ := open_int Try.underlying2 (hval 0 2 v0 rfl rfl) h0
  obtain ⟨a1, rfl, rfl, rfl, w1⟩ := open_int Try.underlying2 (hval 1 2 v1 rfl rfl) h1
  obtain ⟨a2, rfl, rfl, rfl, w2⟩ := open_int Try.underlying2 (hval 2 2 v2 rfl rfl) h2
  obtain ⟨a3, rfl, rfl, rfl, w3⟩ := open_int Try.underlying2 (hval 3 2 v3 rfl rfl) h3
  obtain ⟨a4, rfl, rfl, rfl, w4⟩ := open_int Try.underlying2 (hval 4 2 v4 rfl rfl) h4
  obtain ⟨a5, rfl, rfl, rfl, w5⟩ := open_int Try.underlying2 (hval 5 2 v5 rfl rfl) h5
  refine (walk_BrakeGrows a0 a1 a2 a3 a4 a5 w0 w1 w2 w3 w4 w5 W).mono fun e W' ⟨he, hb⟩ => ⟨_, he, ?_⟩
  exact law_post_any laid_out Try.underlying4 hW rfl ⟨rfl, rfl, rfl⟩ rfl (by kernel_rfl) hb

theorem over_BrakeGrows : Rows.brakeGrowsRow.holds Try.pinned (OpenSpec.ofChange Rows.brakeGrowsSpec) :=
  OpenClaim.holds_of_wide 6 Try.f6 rfl rfl rfl rfl rfl rfl rfl ⟨rfl, rfl, rfl, rfl, rfl⟩ rfl rfl rfl rfl rfl (by kernel_rfl) Try.func6 (by kernel_rfl)
    (of_decide_eq_true (by kernel_rfl)) (by unfold Func.isWrapper; first | (rw [if_pos (by decide +kernel)]; kernel_rfl) | (rw [if_neg (by decide +kernel)]; exact ⟨rfl, rfl⟩))
    (fun os started H enc _ => lifted_BrakeGrows os started H enc)

/-- the statement -/
theorem BrakeGrows_holds : Rows.BrakeGrowsSaid := over_BrakeGrows
#print axioms BrakeGrows_holds

end Go.Proofs.Ytmlndgmkjdkcfaa
