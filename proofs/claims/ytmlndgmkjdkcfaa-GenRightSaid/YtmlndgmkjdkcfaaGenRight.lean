/- Layer 9: any limits and any generator are right and safe, and may, want and step, as the document says: GenRight returns true. Conditions: none. -/
import Derived.Test.YtmlndgmkjdkcfaaGenQ
import Derived.Test.YtmlndgmkjdkcfaaGenR
namespace Go.Proofs.Ytmlndgmkjdkcfaa
open Go.ChangeShapes Go.WideShapes Go.ChangeAt Go.RowKit
set_option linter.unusedVariables false
set_option linter.unusedSimpArgs false

theorem walk_GenRight (V A D L H p v x t u f s : Int) (w : World) (hl : (Lit.int .i64 V).wf = true ∧ (Lit.int .i64 A).wf = true ∧ (Lit.int .i64 D).wf = true ∧ (Lit.int .i64 L).wf = true ∧ (Lit.int .i64 H).wf = true)
    (hg : (Lit.int .i64 p).wf = true ∧ (Lit.int .i64 v).wf = true) (_ : (Lit.int .i64 x).wf = true) (_ : (Lit.int .i64 t).wf = true) (_ : (Lit.int .i64 u).wf = true) (_ : (Lit.int .i64 f).wf = true) (_ : (Lit.int .i64 s).wf = true) :
    Calls Try.prog 12 #[.agg #[.int .i64 V, .int .i64 A, .int .i64 D, .int .i64 L, .int .i64 H], .agg #[.int .i64 p, .int .i64 v], .int .i64 x, .int .i64 t, .int .i64 u, .int .i64 f, .int .i64 s] w fun e w' => e = .returned (.bool true) ∧ Below w.heap.size w w' := by
  have hp := bounds_i64 hg.1
  cases hr : rightB ⟨V, A, D, L, H⟩
  · exact genright_wrong V A D L H p v x t u f s w hr (by simp [okB, hr, Hid]) hp
  · cases hs : safeB ⟨V, A, D, L, H⟩ ⟨p, v⟩
    · exact genright_unsafe V A D L H p v x t u f s w hr hs (by simp [okB, hr, hs, Hid]) hp
    · exact genright_ok V A D L H p v x t u f s w hr hs (by simp [okB, hr, hs, Hid]) hp

set_option maxRecDepth 100000 in
theorem lifted_GenRight (os : Os) (started : os.Started) (H : Type) (enc : TypeId × Value → H) :
    ReturnsInHanded {} Try.checked os 12 .any (Rows.genRightSpec.pre6 enc Try.prog Try.f12 Rows.genRightRow.domain false) (Rows.genRightSpec.post enc Try.prog Try.f12 false true false false) := by
  refine returnsInHanded_of_change (C := Try.checked) own started (by kernel_rfl) Try.func12
    (ChangeSpec.witness6 (enc := enc) (C := Try.checked) false ⟨#[], #[.agg #[.int .i64 0, .int .i64 0, .int .i64 0, .int .i64 0, .int .i64 0], .agg #[.int .i64 0, .int .i64 0], .int .i64 0, .int .i64 0, .int .i64 0, .int .i64 0, .int .i64 0], []⟩ 8 (by kernel_rfl) (by kernel_rfl) (by kernel_rfl) (by kernel_rfl)) ?_
  intro W base args ds gs before hval0 hW hcnd _
  have hval : ∀ (j : Nat) t v, Try.f12.params[j]? = some t → args[j]? = some v → Value.okWide Try.prog W .any base t v := hval0
  have hW' := hW
  obtain ⟨p, q, hA0, hV, rfl, hfz, hnd⟩ := hW'
  have hA : DataW.TrodAll enc Try.prog W 0 (fun _ => true) true Try.f12.params.toList args.toList ds p := hA0
  rw [Try.params12] at hA hval
  obtain ⟨v0, vs0, d0, ds0, p0, q0, hargs, rfl, rfl, h0, r0⟩ := trodAll_cons hA
  obtain ⟨v1, vs1, d1, ds1, p1, q1, rfl, rfl, rfl, h1, r1⟩ := trodAll_cons r0
  obtain ⟨v2, vs2, d2, ds2, p2, q2, rfl, rfl, rfl, h2, r2⟩ := trodAll_cons r1
  obtain ⟨v3, vs3, d3, ds3, p3, q3, rfl, rfl, rfl, h3, r3⟩ := trodAll_cons r2
  obtain ⟨v4, vs4, d4, ds4, p4, q4, rfl, rfl, rfl, h4, r4⟩ := trodAll_cons r3
  obtain ⟨v5, vs5, d5, ds5, p5, q5, rfl, rfl, rfl, h5, r5⟩ := trodAll_cons r4
  obtain ⟨v6, vs6, d6, ds6, p6, q6, rfl, rfl, rfl, h6, r6⟩ := trodAll_cons r5
  obtain ⟨rfl, rfl, rfl⟩ := trodAll_nil r6
  obtain rfl : args = #[v0, v1, v2, v3, v4, v5, v6] := by cases args; simp_all
  obtain ⟨rfl, rfl⟩ := trodVars_none hV
  obtain ⟨cs0, e0, r0⟩ := rd_agg Try.underlying32 (hval 0 32 v0 rfl rfl) h0
  obtain ⟨a0_0, a0_1, a0_2, a0_3, a0_4, f0, w0⟩ := rd_limits r0
  subst f0
  subst e0
  obtain ⟨cs1, e1, r1⟩ := rd_agg Try.underlying34 (hval 1 34 v1 rfl rfl) h1
  obtain ⟨a1_0, a1_1, f1, w1⟩ := rd_gen r1
  subst f1
  subst e1
  obtain ⟨a2, rfl, rfl, rfl, w2⟩ := open_int Try.underlying2 (hval 2 2 v2 rfl rfl) h2
  obtain ⟨a3, rfl, rfl, rfl, w3⟩ := open_int Try.underlying2 (hval 3 2 v3 rfl rfl) h3
  obtain ⟨a4, rfl, rfl, rfl, w4⟩ := open_int Try.underlying2 (hval 4 2 v4 rfl rfl) h4
  obtain ⟨a5, rfl, rfl, rfl, w5⟩ := open_int Try.underlying2 (hval 5 2 v5 rfl rfl) h5
  obtain ⟨a6, rfl, rfl, rfl, w6⟩ := open_int Try.underlying2 (hval 6 2 v6 rfl rfl) h6
  refine (walk_GenRight a0_0 a0_1 a0_2 a0_3 a0_4 a1_0 a1_1 a2 a3 a4 a5 a6 W w0 w1 w2 w3 w4 w5 w6).mono fun e W' ⟨he, hb⟩ => ⟨_, he, ?_⟩
  exact law_post_any laid_out Try.underlying4 hW rfl ⟨rfl, rfl, rfl⟩ rfl (by kernel_rfl) hb

theorem over_GenRight : Rows.genRightRow.holds Try.pinned (OpenSpec.ofChange Rows.genRightSpec) :=
  OpenClaim.holds_of_wide 12 Try.f12 rfl rfl rfl rfl rfl rfl rfl ⟨rfl, rfl, rfl, rfl, rfl⟩ rfl rfl rfl rfl rfl (by kernel_rfl) Try.func12 (by kernel_rfl)
    (of_decide_eq_true (by kernel_rfl)) (by unfold Func.isWrapper; first | (rw [if_pos (by decide +kernel)]; kernel_rfl) | (rw [if_neg (by decide +kernel)]; exact ⟨rfl, rfl⟩))
    (fun os started H enc _ => lifted_GenRight os started H enc)

/-- the statement -/
theorem GenRight_holds : Rows.GenRightSaid := over_GenRight
#print axioms GenRight_holds

end Go.Proofs.Ytmlndgmkjdkcfaa
