/- Layer 15: a cause of an error brings an axis into ErrorStop in that cycle, its commands being told; there its speed only goes down by what it may lose, no command is taken, and nothing but a reset, without a cause, at a standstill, leads out: AxisErrors returns true. Conditions: none. -/
import Derived.Test.YtogbhnmkinjpeaaGreatM43
import Derived.Test.YtogbhnmkinjpeaaGreatAxWR
namespace Go.Proofs.YtogbhnmkinjpeaaGreat
open Go.ChangeShapes Go.WideShapes Go.ChangeAt Go.RowKit
set_option linter.unusedVariables false
set_option linter.unusedSimpArgs false

theorem walk_AxisErrors (a : AX) (sv nv wv : Value) (cause : Int) (lv : Value) (ins : List InX) (w : World) (h : AxV w a sv nv wv) {p : Prop} (_ : p) (hl : SliceAt 12 InX.cells (InG w) w lv ins) :
  Calls Tryz.prog 4 #[.agg (axC a sv nv wv).toArray, .int .i64 cause, lv] w fun e w' => e = .returned (.bool true) ∧ Below w.heap.size w w' := by
 obtain ⟨A, cap, e, -⟩ := id hl
 subst e
 obtain ⟨L, hL⟩ := axL_some a sv nv wv
 rw [← hL.eq]
 exact errors_main a sv nv wv L hL A ins.length cap ins rfl cause w h hl

set_option maxRecDepth 100000 in
theorem lifted_AxisErrors (os : Os) (started : os.Started) (H : Type) (enc : TypeId × Value → H) :
  ReturnsInHanded {} Tryz.checked os 4 .any (Rows.axisErrorsSpec.pre6 enc Tryz.prog Tryz.f4 Rows.axisErrorsRow.domain false) (Rows.axisErrorsSpec.post enc Tryz.prog Tryz.f4 false true false false) := by
 refine returnsInHanded_of_change (C := Tryz.checked) own started (by kernel_rfl) Tryz.func4
  (ChangeSpec.witness6 (enc := enc) (C := Tryz.checked) false ⟨#[], #[.agg #[.int .i64 0, .int .i64 0, .int .i64 0, .int .i64 0, .int .i64 0, .int .i64 0, .int .i64 0, .int .i64 0, .int .i64 0, .int .i64 0, .int .i64 0, .int .i64 0, .slice none 0 0, .int .i64 0, .slice none 0 0, .slice none 0 0, .bool false, .int .i64 0, .int .i64 0, .int .i64 0, .bool false, .int .i64 0, .int .i64 0, .int .i64 0, .int .i64 0, .bool false], .int .i64 0, .slice none 0 0], []⟩ 8 (by kernel_rfl) (by kernel_rfl) (by kernel_rfl) (by kernel_rfl)) ?_
 intro W base args ds gs before hval0 hW hcnd _
 have hval : ∀ (j : Nat) t v, Tryz.f4.params[j]? = some t → args[j]? = some v → Value.okWide Tryz.prog W .any base t v := hval0
 have hW' := hW
 obtain ⟨p, q, hA0, hV, rfl, hfz, hnd⟩ := hW'
 have hA : DataW.TrodAll enc Tryz.prog W 0 (fun _ => true) true Tryz.f4.params.toList args.toList ds p := hA0
 rw [Tryz.params4] at hA hval
 obtain ⟨v0, vs0, d0, ds0, p0, q0, hargs, rfl, rfl, h0, r0⟩ := trodAll_cons hA
 obtain ⟨v1, vs1, d1, ds1, p1, q1, rfl, rfl, rfl, h1, r1⟩ := trodAll_cons r0
 obtain ⟨v2, vs2, d2, ds2, p2, q2, rfl, rfl, rfl, h2, r2⟩ := trodAll_cons r1
 obtain ⟨rfl, rfl, rfl⟩ := trodAll_nil r2
 obtain rfl : args = #[v0, v1, v2] := by cases args; simp_all
 obtain ⟨rfl, rfl⟩ := trodVars_none hV
 obtain ⟨cs0, e0, r0⟩ := rd_agg Tryz.underlying35 (hval 0 35 v0 rfl rfl) h0
 obtain ⟨a0, sv0, nv0, wv0, f0, w0⟩ := rd_axis r0
 subst f0
 subst e0
 obtain ⟨a1, rfl, rfl, rfl, w1⟩ := open_int Tryz.underlying3 (hval 1 3 v1 rfl rfl) h1
 obtain ⟨s2, l2, c2, rfl⟩ := okWide_slice Tryz.underlying36 (hval 2 36 v2 rfl rfl)
 have r2 : Rd enc Tryz.prog W 36 [.slice s2 l2 c2] := by simpa [Value.cells] using rd_of h2
 obtain ⟨a2, w2⟩ := rd_slice_at InX.cells (InG W) Tryz.underlying36 cells_in (by decide) (fun cs h => in_of h) r2
 refine (walk_AxisErrors a0 sv0 nv0 wv0 a1 _ a2 W w0 w1 w2).mono fun e W' ⟨he, hb⟩ => ⟨_, he, ?_⟩
 exact law_post_any laid_out Tryz.underlying4 hW rfl ⟨rfl, rfl, rfl⟩ rfl (by kernel_rfl) hb

theorem over_AxisErrors : Rows.axisErrorsRow.holds Tryz.pinned (OpenSpec.ofChange Rows.axisErrorsSpec) :=
 OpenClaim.holds_of_wide 4 Tryz.f4 rfl rfl rfl rfl rfl rfl rfl ⟨rfl, rfl, rfl, rfl, rfl⟩ rfl rfl rfl rfl rfl (by kernel_rfl) Tryz.func4 (by kernel_rfl)
  (of_decide_eq_true (by kernel_rfl)) (by unfold Func.isWrapper; first | (rw [if_pos (by decide +kernel)]; kernel_rfl) | (rw [if_neg (by decide +kernel)]; exact ⟨rfl, rfl⟩))
  (fun os started H enc _ => lifted_AxisErrors os started H enc)

theorem AxisErrors_holds : Rows.AxisErrorsSaid := over_AxisErrors
#print axioms AxisErrors_holds

end Go.Proofs.YtogbhnmkinjpeaaGreat
