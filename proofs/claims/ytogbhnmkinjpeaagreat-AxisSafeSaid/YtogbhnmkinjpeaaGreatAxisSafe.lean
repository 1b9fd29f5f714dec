/- Layer 15: whatever comes, cycle by cycle, a right axis stays right; what its drive is told moves, in a cycle in which it was not switched on or off, by no more than it may: AxisSafe returns true. Conditions: none. -/
import Derived.Test.YtogbhnmkinjpeaaGreatM44
namespace Go.Proofs.YtogbhnmkinjpeaaGreat
open Go.ChangeShapes Go.WideShapes Go.ChangeAt Go.RowKit
set_option linter.unusedVariables false
set_option linter.unusedSimpArgs false

theorem walk_AxisSafe (a : AX) (sv nv wv lv : Value) (ins : List InX) (w : World) (h : AxV w a sv nv wv) (hl : SliceAt 12 InX.cells (InG w) w lv ins) :
  Calls Tryz.prog 6 #[.agg (axC a sv nv wv).toArray, lv] w fun e w' => e = .returned (.bool true) ∧ Below w.heap.size w w' := by
 obtain ⟨A, cap, e, -⟩ := id hl
 subst e
 obtain ⟨L, hL⟩ := axL_some a sv nv wv
 rw [← hL.eq]
 exact safe_main a sv nv wv L hL A ins.length cap ins rfl w h hl

set_option maxRecDepth 100000 in
theorem lifted_AxisSafe (os : Os) (started : os.Started) (H : Type) (enc : TypeId × Value → H) :
  ReturnsInHanded {} Tryz.checked os 6 .any (Rows.axisSafeSpec.pre6 enc Tryz.prog Tryz.f6 Rows.axisSafeRow.domain false) (Rows.axisSafeSpec.post enc Tryz.prog Tryz.f6 false true false false) := by
 refine returnsInHanded_of_change (C := Tryz.checked) own started (by kernel_rfl) Tryz.func6
  (ChangeSpec.witness6 (enc := enc) (C := Tryz.checked) false ⟨#[], #[.agg #[.int .i64 0, .int .i64 0, .int .i64 0, .int .i64 0, .int .i64 0, .int .i64 0, .int .i64 0, .int .i64 0, .int .i64 0, .int .i64 0, .int .i64 0, .int .i64 0, .slice none 0 0, .int .i64 0, .slice none 0 0, .slice none 0 0, .bool false, .int .i64 0, .int .i64 0, .int .i64 0, .bool false, .int .i64 0, .int .i64 0, .int .i64 0, .int .i64 0, .bool false], .slice none 0 0], []⟩ 8 (by kernel_rfl) (by kernel_rfl) (by kernel_rfl) (by kernel_rfl)) ?_
 intro W base args ds gs before hval0 hW hcnd _
 have hval : ∀ (j : Nat) t v, Tryz.f6.params[j]? = some t → args[j]? = some v → Value.okWide Tryz.prog W .any base t v := hval0
 have hW' := hW
 obtain ⟨p, q, hA0, hV, rfl, hfz, hnd⟩ := hW'
 have hA : DataW.TrodAll enc Tryz.prog W 0 (fun _ => true) true Tryz.f6.params.toList args.toList ds p := hA0
 rw [Tryz.params6] at hA hval
 obtain ⟨v0, vs0, d0, ds0, p0, q0, hargs, rfl, rfl, h0, r0⟩ := trodAll_cons hA
 obtain ⟨v1, vs1, d1, ds1, p1, q1, rfl, rfl, rfl, h1, r1⟩ := trodAll_cons r0
 obtain ⟨rfl, rfl, rfl⟩ := trodAll_nil r1
 obtain rfl : args = #[v0, v1] := by cases args; simp_all
 obtain ⟨rfl, rfl⟩ := trodVars_none hV
 obtain ⟨cs0, e0, r0⟩ := rd_agg Tryz.underlying35 (hval 0 35 v0 rfl rfl) h0
 obtain ⟨a0, sv0, nv0, wv0, f0, w0⟩ := rd_axis r0
 subst f0
 subst e0
 obtain ⟨s1, l1, c1, rfl⟩ := okWide_slice Tryz.underlying36 (hval 1 36 v1 rfl rfl)
 have r1 : Rd enc Tryz.prog W 36 [.slice s1 l1 c1] := by simpa [Value.cells] using rd_of h1
 obtain ⟨a1, w1⟩ := rd_slice_at InX.cells (InG W) Tryz.underlying36 cells_in (by decide) (fun cs h => in_of h) r1
 refine (walk_AxisSafe a0 sv0 nv0 wv0 _ a1 W w0 w1).mono fun e W' ⟨he, hb⟩ => ⟨_, he, ?_⟩
 exact law_post_any laid_out Tryz.underlying4 hW rfl ⟨rfl, rfl, rfl⟩ rfl (by kernel_rfl) hb

theorem over_AxisSafe : Rows.axisSafeRow.holds Tryz.pinned (OpenSpec.ofChange Rows.axisSafeSpec) :=
 OpenClaim.holds_of_wide 6 Tryz.f6 rfl rfl rfl rfl rfl rfl rfl ⟨rfl, rfl, rfl, rfl, rfl⟩ rfl rfl rfl rfl rfl (by kernel_rfl) Tryz.func6 (by kernel_rfl)
  (of_decide_eq_true (by kernel_rfl)) (by unfold Func.isWrapper; first | (rw [if_pos (by decide +kernel)]; kernel_rfl) | (rw [if_neg (by decide +kernel)]; exact ⟨rfl, rfl⟩))
  (fun os started H enc _ => lifted_AxisSafe os started H enc)

theorem AxisSafe_holds : Rows.AxisSafeSaid := over_AxisSafe
#print axioms AxisSafe_holds

end Go.Proofs.YtogbhnmkinjpeaaGreat
