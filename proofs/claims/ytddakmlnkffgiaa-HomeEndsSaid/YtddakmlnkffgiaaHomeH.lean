/- Layer 13: any search is right or not, and does in a cycle what the document says: HomeSteps returns true. Conditions: none. -/
import Derived.Test.YtddakmlnkffgiaaRead
import Derived.Test.YtddakmlnkffgiaaHomeG
namespace Go.Proofs.Ytddakmlnkffgiaa
open Go.ChangeShapes Go.WideShapes Go.ChangeAt Go.RowKit
set_option linter.unusedVariables false
set_option linter.unusedSimpArgs false

theorem cells_home : Try.prog.cellsOf 30 = 4 := by kernel_rfl
theorem rd_home {H : Type} {enc : TypeId × Value → H} {w : World} {cs : List Value} (h : Rd enc Try.prog w 30 cs) : ∃ (x0 : Int) (x1 : Int) (x2 : Int) (x3 : Bool), cs = [.int .i64 x0, .int .i64 x1, .int .i64 x2, .bool x3] ∧ (Lit.int .i64 x0).wf = true ∧ (Lit.int .i64 x1).wf = true ∧ (Lit.int .i64 x2).wf = true := by
  obtain ⟨hl, hf⟩ := rd_struct Try.underlying30 h
  rw [cells_home] at hl
  obtain ⟨c0, c1, c2, c3, rfl⟩ := list_4 cs hl
  have h0 : Rd enc Try.prog w 3 [c0] := by simpa [show Try.prog.cellsOf 3 = 1 by kernel_rfl] using hf 0 _ rfl
  obtain ⟨x0, e0, w0⟩ := rd_int Try.underlying3 h0
  simp only [List.cons.injEq, and_true] at e0
  have h1 : Rd enc Try.prog w 2 [c1] := by simpa [show Try.prog.cellsOf 2 = 1 by kernel_rfl] using hf 1 _ rfl
  obtain ⟨x1, e1, w1⟩ := rd_int Try.underlying2 h1
  simp only [List.cons.injEq, and_true] at e1
  have h2 : Rd enc Try.prog w 2 [c2] := by simpa [show Try.prog.cellsOf 2 = 1 by kernel_rfl] using hf 2 _ rfl
  obtain ⟨x2, e2, w2⟩ := rd_int Try.underlying2 h2
  simp only [List.cons.injEq, and_true] at e2
  have h3 : Rd enc Try.prog w 4 [c3] := by simpa [show Try.prog.cellsOf 4 = 1 by kernel_rfl] using hf 3 _ rfl
  obtain ⟨x3, e3⟩ := rd_bool Try.underlying4 h3
  simp only [List.cons.injEq, and_true] at e3
  subst e0 e1 e2 e3
  exact ⟨x0, x1, x2, x3, rfl, w0, w1, w2⟩

theorem law_HomeSteps (a b p f c : Int) (t sw plus minus still : Bool) (w : World) (h1 : (Lit.int .i64 a).wf = true) (h2 : (Lit.int .i64 b).wf = true) (h3 : (Lit.int .i64 p).wf = true ∧ (Lit.int .i64 f).wf = true ∧ (Lit.int .i64 c).wf = true) :
    Calls Try.prog 6 #[.int .i64 a, .int .i64 b, .agg #[.int .i64 p, .int .i64 f, .int .i64 c, .bool t], .bool sw, .bool plus, .bool minus, .bool still] w fun e w' => e = .returned (.bool true) ∧ Below w.heap.size w w' :=
  walk_HomeSteps a b p f c t sw plus minus still w

set_option maxRecDepth 100000 in
theorem lifted_HomeSteps (os : Os) (started : os.Started) (H : Type) (enc : TypeId × Value → H) :
    ReturnsInHanded {} Try.checked os 6 .any (Rows.homeStepsSpec.pre6 enc Try.prog Try.f6 Rows.homeStepsRow.domain false) (Rows.homeStepsSpec.post enc Try.prog Try.f6 false true false false) := by
  refine returnsInHanded_of_change (C := Try.checked) own started (by kernel_rfl) Try.func6
    (ChangeSpec.witness6 (enc := enc) (C := Try.checked) false ⟨#[], #[.int .i64 0, .int .i64 0, .agg #[.int .i64 0, .int .i64 0, .int .i64 0, .bool false], .bool false, .bool false, .bool false, .bool false], []⟩ 8 (by kernel_rfl) (by kernel_rfl) (by kernel_rfl) (by kernel_rfl)) ?_
  intro W base args ds gs before hval0 hW hcnd _
  have hval : ∀ (j : Nat) t v, Try.f6.params[j]? = some t → args[j]? = some v → Value.okWide Try.prog W .any base t v := hval0
  have hW' := hW
  obtain ⟨p, q, hA0, hV, rfl, hfz, hnd⟩ := hW'
  have hA : DataW.TrodAll enc Try.prog W 0 (fun _ => true) true Try.f6.params.toList args.toList ds p := hA0
  rw [Try.params6] at hA hval
  obtain ⟨v0, vs0, d0, ds0, p0, q0, hargs, rfl, rfl, h0, r0⟩ := trodAll_cons hA
  obtain ⟨v1, vs1, d1, ds1, p1, q1, rfl, rfl, rfl, h1, r1⟩ := trodAll_cons r0
  obtain ⟨v2, vs2, d2, ds2, p2, q2, rfl, rfl, rfl, h2, r2⟩ := trodAll_cons r1
  obtain ⟨v3, vs3, d3, ds3, p3, q3, rfl, rfl, rfl, h3, r3⟩ := trodAll_cons r2
  obtain ⟨v4, vs4, d4, ds4, p4, q4, rfl, rfl, rfl, h4, r4⟩ := trodAll_cons r3
  obtain ⟨v5, vs5, d5, ds5, p5, q5, rfl, rfl, rfl, h5, r5⟩ := trodAll_cons r4
  obtain ⟨v6, vs6, d6, ds6, p6, q6, rfl, rfl, rfl, h6, r6⟩ := trodAll_cons r5
  obtain ⟨rfl, rfl, rfl⟩ := trodAll_nil r6
  obtain rfl : args = #[v0, v1, v2, v3, v4, v5, v6] := by cases args; simp_all
  obtain ⟨rfl, rfl⟩ := trodVars_none hV
  obtain ⟨a0, rfl, rfl, rfl, w0⟩ := open_int Try.underlying2 (hval 0 2 v0 rfl rfl) h0
  obtain ⟨a1, rfl, rfl, rfl, w1⟩ := open_int Try.underlying2 (hval 1 2 v1 rfl rfl) h1
  obtain ⟨cs2, e2, r2⟩ := rd_agg Try.underlying30 (hval 2 30 v2 rfl rfl) h2
  obtain ⟨a2_0, a2_1, a2_2, a2_3, f2, w2⟩ := rd_home r2
  subst f2
  subst e2
  obtain ⟨a3, rfl, rfl, rfl⟩ := open_bool Try.underlying4 (hval 3 4 v3 rfl rfl) h3
  obtain ⟨a4, rfl, rfl, rfl⟩ := open_bool Try.underlying4 (hval 4 4 v4 rfl rfl) h4
  obtain ⟨a5, rfl, rfl, rfl⟩ := open_bool Try.underlying4 (hval 5 4 v5 rfl rfl) h5
  obtain ⟨a6, rfl, rfl, rfl⟩ := open_bool Try.underlying4 (hval 6 4 v6 rfl rfl) h6
  refine (law_HomeSteps a0 a1 a2_0 a2_1 a2_2 a2_3 a3 a4 a5 a6 W w0 w1 w2).mono fun e W' ⟨he, hb⟩ => ⟨_, he, ?_⟩
  exact law_post_any laid_out Try.underlying4 hW rfl ⟨rfl, rfl, rfl⟩ rfl (by kernel_rfl) hb

theorem over_HomeSteps : Rows.homeStepsRow.holds Try.pinned (OpenSpec.ofChange Rows.homeStepsSpec) :=
  OpenClaim.holds_of_wide 6 Try.f6 rfl rfl rfl rfl rfl rfl rfl ⟨rfl, rfl, rfl, rfl, rfl⟩ rfl rfl rfl rfl rfl (by kernel_rfl) Try.func6 (by kernel_rfl)
    (of_decide_eq_true (by kernel_rfl)) (by unfold Func.isWrapper; first | (rw [if_pos (by decide +kernel)]; kernel_rfl) | (rw [if_neg (by decide +kernel)]; exact ⟨rfl, rfl⟩))
    (fun os started H enc _ => lifted_HomeSteps os started H enc)

/-- the statement -/
theorem HomeSteps_holds : Rows.HomeStepsSaid := over_HomeSteps
#print axioms HomeSteps_holds

end Go.Proofs.Ytddakmlnkffgiaa
