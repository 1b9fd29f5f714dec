/- Layer 1: sums, differences, products, quotients and rests of any two numbers are the right ones, or there is none: QRight returns true. Conditions: none. -/
import Derived.Test.YtgbcefdlmockoaaRefJ
import Derived.Test.YtgbcefdlmockoaaQG
namespace Go.Proofs.Ytgbcefdlmockoaa
open Go.ChangeShapes Go.WideShapes Go.ChangeAt Go.RowKit
set_option linter.unusedVariables false
set_option linter.unusedSimpArgs false
attribute [local go_sem] ite_max ite_min vite_max vite_min ext_cell ext_frozen

set_option maxRecDepth 100000 in
set_option maxHeartbeats 4000000 in
theorem walk_QRight (a b : Int) (h1 : (Lit.int .i64 a).wf = true) (h2 : (Lit.int .i64 b).wf = true) (w : World) :
    Calls Try.prog 7 #[.int .i64 a, .int .i64 b] w fun e w' => e = .returned (.bool true) ∧ Below w.heap.size w w' := by
  have ha := bounds_i64 h1
  have hb := bounds_i64 h2
  have HA1 := Lib.hid (fun w => qadd_any a b w ha hb)
  have HA2 := Lib.hid (fun w => radd_at a b _ w ha hb rfl)
  have HB1 := Lib.hid (fun w => qsub_any a b w ha hb)
  have HB2 := Lib.hid (fun w => rsub_at a b _ w ha hb rfl)
  have HC1 := Lib.hid (fun w => qmul_any a b w ha hb)
  have HC2 := Lib.hid (fun w => rmul_at a b w ha hb)
  have HD1 := Lib.hid (fun w => qdiv_any a b w ha hb)
  have HD2 := Lib.hid (fun w => rdiv_at a b w ha hb)
  have HE1 := Lib.hid (fun w => qmod_any a b w ha hb)
  have HE2 := Lib.hid (fun w => rmod_at a b w ha hb)
  generalize fitV (a + b) = v1 at *
  generalize fitB (a + b) = o1 at *
  generalize fitV (a - b) = v2 at *
  generalize fitB (a - b) = o2 at *
  generalize fitV (a * b) = v3 at *
  generalize fitB (a * b) = o3 at *
  generalize divV a b = v4 at *
  generalize divE a b = o4 at *
  generalize modV a b = v5 at *
  generalize modE b = o5 at *
  clear h1 h2 ha hb
  go_enter Try.func7, Try.ntmps7
  go_wp2_with fail
  refine (awake1 _).mono ?_
  rintro e w1 ⟨rfl, hb1⟩
  go_wp2_with fail
  refine (HA1.out _).mono ?_
  rintro e w2 ⟨rfl, rfl⟩
  go_wp2_with fail
  refine (HA2.out _).mono ?_
  rintro e w2 ⟨rfl, hb2⟩
  have hB2 := hb1.trans (hb2.mono hb1.size)
  clear hb1 hb2
  go_wp2_with fail
  refine (HB1.out _).mono ?_
  rintro e w3 ⟨rfl, rfl⟩
  go_wp2_with fail
  refine (HB2.out _).mono ?_
  rintro e w3 ⟨rfl, hb3⟩
  have hB3 := hB2.trans (hb3.mono hB2.size)
  clear hB2 hb3
  go_wp2_with fail
  refine (HC1.out _).mono ?_
  rintro e w4 ⟨rfl, rfl⟩
  go_wp2_with fail
  refine (HC2.out _).mono ?_
  rintro e w4 ⟨rfl, hb4⟩
  have hB4 := hB3.trans (hb4.mono hB3.size)
  clear hB3 hb4
  go_wp2_with fail
  refine (HD1.out _).mono ?_
  rintro e w5 ⟨rfl, rfl⟩
  go_wp2_with fail
  refine (HD2.out _).mono ?_
  rintro e w5 ⟨rfl, hb5⟩
  have hB5 := hB4.trans (hb5.mono hB4.size)
  clear hB4 hb5
  go_wp2_with fail
  refine (HE1.out _).mono ?_
  rintro e w6 ⟨rfl, rfl⟩
  go_wp2_with fail
  refine (HE2.out _).mono ?_
  rintro e w6 ⟨rfl, hb6⟩
  have hB6 := hB5.trans (hb6.mono hB5.size)
  clear hB5 hb6
  go_wp2
  go_ret
  exact ⟨rfl, hB6⟩

set_option maxRecDepth 100000 in
theorem lifted_QRight (os : Os) (started : os.Started) (H : Type) (enc : TypeId × Value → H) :
    ReturnsInHanded {} Try.checked os 7 .any (Rows.qRightSpec.pre6 enc Try.prog Try.f7 Rows.qRightRow.domain false) (Rows.qRightSpec.post enc Try.prog Try.f7 false true false false) := by
  refine returnsInHanded_of_change (C := Try.checked) own started (by kernel_rfl) Try.func7
    (ChangeSpec.witness6 (enc := enc) (C := Try.checked) false ⟨#[], #[.int .i64 0, .int .i64 0], []⟩ 8 (by kernel_rfl) (by kernel_rfl) (by kernel_rfl) (by kernel_rfl)) ?_
  intro W base args ds gs before hval0 hW hcnd _
  have hval : ∀ (j : Nat) t v, Try.f7.params[j]? = some t → args[j]? = some v → Value.okWide Try.prog W .any base t v := hval0
  have hW' := hW
  obtain ⟨p, q, hA0, hV, rfl, hfz, hnd⟩ := hW'
  have hA : DataW.TrodAll enc Try.prog W 0 (fun _ => true) true Try.f7.params.toList args.toList ds p := hA0
  rw [Try.params7] at hA hval
  obtain ⟨v0, vs0, d0, ds0, p0, q0, hargs, rfl, rfl, h0, r0⟩ := trodAll_cons hA
  obtain ⟨v1, vs1, d1, ds1, p1, q1, rfl, rfl, rfl, h1, r1⟩ := trodAll_cons r0
  obtain ⟨rfl, rfl, rfl⟩ := trodAll_nil r1
  obtain rfl : args = #[v0, v1] := by cases args; simp_all
  obtain ⟨rfl, rfl⟩ := trodVars_none hV
  obtain ⟨a0, rfl, rfl, rfl, w0⟩ := open_int Try.underlying2 (hval 0 2 v0 rfl rfl) h0
  obtain ⟨a1, rfl, rfl, rfl, w1⟩ := open_int Try.underlying2 (hval 1 2 v1 rfl rfl) h1
  refine (walk_QRight a0 a1 w0 w1 W).mono fun e W' ⟨he, hb⟩ => ⟨_, he, ?_⟩
  exact law_post_any laid_out Try.underlying4 hW rfl ⟨rfl, rfl, rfl⟩ rfl (by kernel_rfl) hb

theorem over_QRight : Rows.qRightRow.holds Try.pinned (OpenSpec.ofChange Rows.qRightSpec) :=
  OpenClaim.holds_of_wide 7 Try.f7 rfl rfl rfl rfl rfl rfl rfl ⟨rfl, rfl, rfl, rfl, rfl⟩ rfl rfl rfl rfl rfl (by kernel_rfl) Try.func7 (by kernel_rfl)
    (of_decide_eq_true (by kernel_rfl)) (by unfold Func.isWrapper; first | (rw [if_pos (by decide +kernel)]; kernel_rfl) | (rw [if_neg (by decide +kernel)]; exact ⟨rfl, rfl⟩))
    (fun os started H enc _ => lifted_QRight os started H enc)

/-- the statement -/
theorem QRight_holds : Rows.QRightSaid := over_QRight
#print axioms QRight_holds

end Go.Proofs.Ytgbcefdlmockoaa
