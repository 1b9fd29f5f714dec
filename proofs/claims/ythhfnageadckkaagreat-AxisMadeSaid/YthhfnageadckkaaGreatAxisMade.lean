/- Layer 15: an axis is made, or refused, as the document says; its bounds, and what its drive is told, are so, too: AxisMade returns true. Conditions: none. -/
import Derived.Test.YthhfnageadckkaaGreatM44
import Derived.Test.YthhfnageadckkaaGreatAxWM
namespace Go.Proofs.YthhfnageadckkaaGreat
open Go.ChangeShapes Go.WideShapes Go.ChangeAt Go.RowKit
set_option linter.unusedVariables false
set_option linter.unusedSimpArgs false

theorem walk_AxisMade (l1 l2 l3 l4 l5 win hat fast creep : Int) (a : AX) (sv nv wv : Value) (w : World) (_h0 : (Lit.int .i64 l1).wf = true ∧ (Lit.int .i64 l2).wf = true ∧ (Lit.int .i64 l3).wf = true ∧ (Lit.int .i64 l4).wf = true ∧ (Lit.int .i64 l5).wf = true) (_h1 : (Lit.int .i64 win).wf = true) (_h2 : (Lit.int .i64 hat).wf = true) (_h3 : (Lit.int .i64 fast).wf = true) (_h4 : (Lit.int .i64 creep).wf = true) (h : AxV w a sv nv wv) :
  Calls Tryz.prog 6 #[.agg #[.int .i64 l1, .int .i64 l2, .int .i64 l3, .int .i64 l4, .int .i64 l5], .int .i64 win, .int .i64 hat, .int .i64 fast, .int .i64 creep, .agg (axC a sv nv wv).toArray] w fun e w' => e = .returned (.bool true) ∧ Below w.heap.size w w' := by
 obtain ⟨L, hL⟩ := axL_some a sv nv wv
 rw [← hL.eq]
 exact made_main ⟨l1, l2, l3, l4, l5⟩ win hat fast creep a sv nv wv L hL w h

set_option maxRecDepth 100000 in
theorem lifted_AxisMade (os : Os) (started : os.Started) (H : Type) (enc : TypeId × Value → H) :
  ReturnsInHanded {} Tryz.checked os 6 .any (Rows.axisMadeSpec.pre6 enc Tryz.prog Tryz.f6 Rows.axisMadeRow.domain false) (Rows.axisMadeSpec.post enc Tryz.prog Tryz.f6 false true false false) := by
 refine returnsInHanded_of_change (C := Tryz.checked) own started (by kernel_rfl) Tryz.func6
  (ChangeSpec.witness6 (enc := enc) (C := Tryz.checked) false ⟨#[], #[.agg #[.int .i64 0, .int .i64 0, .int .i64 0, .int .i64 0, .int .i64 0], .int .i64 0, .int .i64 0, .int .i64 0, .int .i64 0, .agg #[.int .i64 0, .int .i64 0, .int .i64 0, .int .i64 0, .int .i64 0, .int .i64 0, .int .i64 0, .int .i64 0, .int .i64 0, .int .i64 0, .int .i64 0, .int .i64 0, .slice none 0 0, .int .i64 0, .slice none 0 0, .slice none 0 0, .bool false, .int .i64 0, .int .i64 0, .int .i64 0, .bool false, .int .i64 0, .int .i64 0, .int .i64 0, .int .i64 0, .bool false]], []⟩ 8 (by kernel_rfl) (by kernel_rfl) (by kernel_rfl) (by kernel_rfl)) ?_
 intro W base args ds gs before hval0 hW hcnd _
 have hval : ∀ (j : Nat) t v, Tryz.f6.params[j]? = some t → args[j]? = some v → Value.okWide Tryz.prog W .any base t v := hval0
 have hW' := hW
 obtain ⟨p, q, hA0, hV, rfl, hfz, hnd⟩ := hW'
 have hA : DataW.TrodAll enc Tryz.prog W 0 (fun _ => true) true Tryz.f6.params.toList args.toList ds p := hA0
 rw [Tryz.params6] at hA hval
 obtain ⟨v0, vs0, d0, ds0, p0, q0, hargs, rfl, rfl, h0, r0⟩ := trodAll_cons hA
 obtain ⟨v1, vs1, d1, ds1, p1, q1, rfl, rfl, rfl, h1, r1⟩ := trodAll_cons r0
 obtain ⟨v2, vs2, d2, ds2, p2, q2, rfl, rfl, rfl, h2, r2⟩ := trodAll_cons r1
 obtain ⟨v3, vs3, d3, ds3, p3, q3, rfl, rfl, rfl, h3, r3⟩ := trodAll_cons r2
 obtain ⟨v4, vs4, d4, ds4, p4, q4, rfl, rfl, rfl, h4, r4⟩ := trodAll_cons r3
 obtain ⟨v5, vs5, d5, ds5, p5, q5, rfl, rfl, rfl, h5, r5⟩ := trodAll_cons r4
 obtain ⟨rfl, rfl, rfl⟩ := trodAll_nil r5
 obtain rfl : args = #[v0, v1, v2, v3, v4, v5] := by cases args; simp_all
 obtain ⟨rfl, rfl⟩ := trodVars_none hV
 obtain ⟨cs0, e0, r0⟩ := rd_agg Tryz.underlying23 (hval 0 23 v0 rfl rfl) h0
 obtain ⟨a0_0, a0_1, a0_2, a0_3, a0_4, f0, w0⟩ := rd_limits r0
 subst f0
 subst e0
 obtain ⟨a1, rfl, rfl, rfl, w1⟩ := open_int Tryz.underlying3 (hval 1 3 v1 rfl rfl) h1
 obtain ⟨a2, rfl, rfl, rfl, w2⟩ := open_int Tryz.underlying2 (hval 2 2 v2 rfl rfl) h2
 obtain ⟨a3, rfl, rfl, rfl, w3⟩ := open_int Tryz.underlying2 (hval 3 2 v3 rfl rfl) h3
 obtain ⟨a4, rfl, rfl, rfl, w4⟩ := open_int Tryz.underlying2 (hval 4 2 v4 rfl rfl) h4
 obtain ⟨cs5, e5, r5⟩ := rd_agg Tryz.underlying35 (hval 5 35 v5 rfl rfl) h5
 obtain ⟨a5, sv5, nv5, wv5, f5, w5⟩ := rd_axis r5
 subst f5
 subst e5
 refine (walk_AxisMade a0_0 a0_1 a0_2 a0_3 a0_4 a1 a2 a3 a4 a5 sv5 nv5 wv5 W w0 w1 w2 w3 w4 w5).mono fun e W' ⟨he, hb⟩ => ⟨_, he, ?_⟩
 exact law_post_any laid_out Tryz.underlying4 hW rfl ⟨rfl, rfl, rfl⟩ rfl (by kernel_rfl) hb

theorem over_AxisMade : Rows.axisMadeRow.holds Tryz.pinned (OpenSpec.ofChange Rows.axisMadeSpec) :=
 OpenClaim.holds_of_wide 6 Tryz.f6 rfl rfl rfl rfl rfl rfl rfl ⟨rfl, rfl, rfl, rfl, rfl⟩ rfl rfl rfl rfl rfl (by kernel_rfl) Tryz.func6 (by kernel_rfl)
  (of_decide_eq_true (by kernel_rfl)) (by unfold Func.isWrapper; first | (rw [if_pos (by decide +kernel)]; kernel_rfl) | (rw [if_neg (by decide +kernel)]; exact ⟨rfl, rfl⟩))
  (fun os started H enc _ => lifted_AxisMade os started H enc)

theorem AxisMade_holds : Rows.AxisMadeSaid := over_AxisMade
#print axioms AxisMade_holds

end Go.Proofs.YthhfnageadckkaaGreat
