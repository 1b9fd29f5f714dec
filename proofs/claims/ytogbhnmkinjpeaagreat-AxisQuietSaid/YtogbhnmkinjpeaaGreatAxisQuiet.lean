/- Layer 15: an axis in Standstill, at rest, to which nothing comes but power, stays as it is, cycle by cycle: AxisQuiet returns true. Conditions: none. -/
import Derived.Test.YtogbhnmkinjpeaaGreatM43
import Derived.Test.YtogbhnmkinjpeaaGreatAxWQ
namespace Go.Proofs.YtogbhnmkinjpeaaGreat
open Go.ChangeShapes Go.WideShapes Go.ChangeAt Go.RowKit
set_option linter.unusedVariables false
set_option linter.unusedSimpArgs false

theorem bd_u8 {z : Int} (h : (Lit.int .u8 z).wf = true) : 0 ≤ z ∧ z ≤ 255 := by
 simp [Lit.wf, IntKind.min, IntKind.max, IntKind.signed, IntKind.bits] at h
 omega
theorem walk_AxisQuiet (a : AX) (sv nv wv : Value) (cyc : Int) (home : Bool) (w : World) (h : AxV w a sv nv wv) (hc : (Lit.int .u8 cyc).wf = true) :
  Calls Tryz.prog 5 #[.agg (axC a sv nv wv).toArray, .int .u8 cyc, .bool home] w fun e w' => e = .returned (.bool true) ∧ Below w.heap.size w w' := by
 obtain ⟨L, hL⟩ := axL_some a sv nv wv
 rw [← hL.eq]
 exact quiet_main a sv nv wv L hL cyc (bd_u8 hc) home w h

set_option maxRecDepth 100000 in
theorem lifted_AxisQuiet (os : Os) (started : os.Started) (H : Type) (enc : TypeId × Value → H) :
  ReturnsInHanded {} Tryz.checked os 5 .any (Rows.axisQuietSpec.pre6 enc Tryz.prog Tryz.f5 Rows.axisQuietRow.domain false) (Rows.axisQuietSpec.post enc Tryz.prog Tryz.f5 false true false false) := by
 refine returnsInHanded_of_change (C := Tryz.checked) own started (by kernel_rfl) Tryz.func5
  (ChangeSpec.witness6 (enc := enc) (C := Tryz.checked) false ⟨#[], #[.agg #[.int .i64 0, .int .i64 0, .int .i64 0, .int .i64 0, .int .i64 0, .int .i64 0, .int .i64 0, .int .i64 0, .int .i64 0, .int .i64 0, .int .i64 0, .int .i64 0, .slice none 0 0, .int .i64 0, .slice none 0 0, .slice none 0 0, .bool false, .int .i64 0, .int .i64 0, .int .i64 0, .bool false, .int .i64 0, .int .i64 0, .int .i64 0, .int .i64 0, .bool false], .int .u8 0, .bool false], []⟩ 8 (by kernel_rfl) (by kernel_rfl) (by kernel_rfl) (by kernel_rfl)) ?_
 intro W base args ds gs before hval0 hW hcnd _
 have hval : ∀ (j : Nat) t v, Tryz.f5.params[j]? = some t → args[j]? = some v → Value.okWide Tryz.prog W .any base t v := hval0
 have hW' := hW
 obtain ⟨p, q, hA0, hV, rfl, hfz, hnd⟩ := hW'
 have hA : DataW.TrodAll enc Tryz.prog W 0 (fun _ => true) true Tryz.f5.params.toList args.toList ds p := hA0
 rw [Tryz.params5] at hA hval
 obtain ⟨v0, vs0, d0, ds0, p0, q0, hargs, rfl, rfl, h0, r0⟩ := trodAll_cons hA
 obtain ⟨v1, vs1, d1, ds1, p1, q1, rfl, rfl, rfl, h1, r1⟩ := trodAll_cons r0
 obtain ⟨v2, vs2, d2, ds2, p2, q2, rfl, rfl, rfl, h2, r2⟩ := trodAll_cons r1
 obtain ⟨rfl, rfl, rfl⟩ := trodAll_nil r2
 obtain rfl : args = #[v0, v1, v2] := by cases args; simp_all
 obtain ⟨rfl, rfl⟩ := trodVars_none hV
 obtain ⟨cs0, e0, r0⟩ := rd_agg Tryz.underlying35 (hval 0 35 v0 rfl rfl) h0
 obtain ⟨a0, sv0, nv0, wv0, f0, w0⟩ := rd_axis r0
 subst f0
 subst e0
 obtain ⟨a1, rfl, rfl, rfl, w1⟩ := open_int Tryz.underlying5 (hval 1 5 v1 rfl rfl) h1
 obtain ⟨a2, rfl, rfl, rfl⟩ := open_bool Tryz.underlying4 (hval 2 4 v2 rfl rfl) h2
 refine (walk_AxisQuiet a0 sv0 nv0 wv0 a1 a2 W w0 w1).mono fun e W' ⟨he, hb⟩ => ⟨_, he, ?_⟩
 exact law_post_any laid_out Tryz.underlying4 hW rfl ⟨rfl, rfl, rfl⟩ rfl (by kernel_rfl) hb

theorem over_AxisQuiet : Rows.axisQuietRow.holds Tryz.pinned (OpenSpec.ofChange Rows.axisQuietSpec) :=
 OpenClaim.holds_of_wide 5 Tryz.f5 rfl rfl rfl rfl rfl rfl rfl ⟨rfl, rfl, rfl, rfl, rfl⟩ rfl rfl rfl rfl rfl (by kernel_rfl) Tryz.func5 (by kernel_rfl)
  (of_decide_eq_true (by kernel_rfl)) (by unfold Func.isWrapper; first | (rw [if_pos (by decide +kernel)]; kernel_rfl) | (rw [if_neg (by decide +kernel)]; exact ⟨rfl, rfl⟩))
  (fun os started H enc _ => lifted_AxisQuiet os started H enc)

theorem AxisQuiet_holds : Rows.AxisQuietSaid := over_AxisQuiet
#print axioms AxisQuiet_holds

end Go.Proofs.YtogbhnmkinjpeaaGreat
