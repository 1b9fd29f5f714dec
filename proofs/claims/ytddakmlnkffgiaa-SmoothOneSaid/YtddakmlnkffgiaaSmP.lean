/- Layer 10: with a window of one cycle the setpoint is the place itself; with any window the sum of what those would have told; SmoothOne returns true for every input. Conditions: none. -/
import Derived.Test.YtddakmlnkffgiaaSmO
import Derived.Test.YtddakmlnkffgiaaSmK
import Derived.ProofKit
namespace Go.Proofs.Ytddakmlnkffgiaa
open Go.ChangeShapes Go.WideShapes Go.ChangeAt Go.RowKit
set_option linter.unusedVariables false
set_option linter.unusedSimpArgs false

theorem walk_SmoothOne (m f : Int) (v : Value) (xs : List Int) (w : World) (hm : (Lit.int .i64 m).wf = true) (hf : (Lit.int .i64 f).wf = true) (hx : IntsAt .i16 w v xs) :
    Calls Try.prog 12 #[.int .i64 m, .int .i64 f, v] w fun e w' => e = .returned (.bool true) ∧ Below w.heap.size w w' := by
  obtain ⟨sa, cap, rfl, hn, hxb, hc⟩ := i16s_at hx
  by_cases h : -1099511627776 ≤ f ∧ f ≤ 1099511627776
  · by_cases h1 : 1 ≤ m ∧ m ≤ 16
    · obtain ⟨k, rfl⟩ := Int.eq_ofNat_of_zero_le (a := m) (by omega)
      exact one_yes k f sa xs.length cap xs w h (by omega) hn hxb hc
    · exact one_no m f _ w h h1
  · exact one_skip m f _ w h

set_option maxRecDepth 100000 in
theorem lifted_SmoothOne (os : Os) (started : os.Started) (H : Type) (enc : TypeId × Value → H) :
    ReturnsInHanded {} Try.checked os 12 .any (Rows.smoothOneSpec.pre6 enc Try.prog Try.f12 Rows.smoothOneRow.domain false) (Rows.smoothOneSpec.post enc Try.prog Try.f12 false true false false) := by
  refine returnsInHanded_of_change (C := Try.checked) own started (by kernel_rfl) Try.func12
    (ChangeSpec.witness6 (enc := enc) (C := Try.checked) false ⟨#[], #[.int .i64 0, .int .i64 0, .slice none 0 0], []⟩ 8 (by kernel_rfl) (by kernel_rfl) (by kernel_rfl) (by kernel_rfl)) ?_
  intro W base args ds gs before hval0 hW hcnd _
  have hval : ∀ (j : Nat) t v, Try.f12.params[j]? = some t → args[j]? = some v → Value.okWide Try.prog W .any base t v := hval0
  have hW' := hW
  obtain ⟨p, q, hA0, hV, rfl, hfz, hnd⟩ := hW'
  have hA : DataW.TrodAll enc Try.prog W 0 (fun _ => true) true Try.f12.params.toList args.toList ds p := hA0
  rw [Try.params12] at hA hval
  obtain ⟨v0, vs0, d0, ds0, p0, q0, hargs, rfl, rfl, h0, r0⟩ := trodAll_cons hA
  obtain ⟨v1, vs1, d1, ds1, p1, q1, rfl, rfl, rfl, h1, r1⟩ := trodAll_cons r0
  obtain ⟨v2, vs2, d2, ds2, p2, q2, rfl, rfl, rfl, h2, r2⟩ := trodAll_cons r1
  obtain ⟨rfl, rfl, rfl⟩ := trodAll_nil r2
  obtain rfl : args = #[v0, v1, v2] := by cases args; simp_all
  obtain ⟨rfl, rfl⟩ := trodVars_none hV
  obtain ⟨a0, rfl, rfl, rfl, w0⟩ := open_int Try.underlying3 (hval 0 3 v0 rfl rfl) h0
  obtain ⟨a1, rfl, rfl, rfl, w1⟩ := open_int Try.underlying2 (hval 1 2 v1 rfl rfl) h1
  obtain ⟨a2, w2⟩ := open_ints_at Try.underlying68 Try.underlying75 (by kernel_rfl) (hval 2 68 v2 rfl rfl) h2
  refine (walk_SmoothOne a0 a1 v2 a2 W w0 w1 w2).mono fun e W' ⟨he, hb⟩ => ⟨_, he, ?_⟩
  exact law_post_any laid_out Try.underlying4 hW rfl ⟨rfl, rfl, rfl⟩ rfl (by kernel_rfl) hb

theorem over_SmoothOne : Rows.smoothOneRow.holds Try.pinned (OpenSpec.ofChange Rows.smoothOneSpec) :=
  OpenClaim.holds_of_wide 12 Try.f12 rfl rfl rfl rfl rfl rfl rfl ⟨rfl, rfl, rfl, rfl, rfl⟩ rfl rfl rfl rfl rfl (by kernel_rfl) Try.func12 (by kernel_rfl)
    (of_decide_eq_true (by kernel_rfl)) (by unfold Func.isWrapper; first | (rw [if_pos (by decide +kernel)]; kernel_rfl) | (rw [if_neg (by decide +kernel)]; exact ⟨rfl, rfl⟩))
    (fun os started H enc _ => lifted_SmoothOne os started H enc)

/-- the statement -/
theorem SmoothOne_holds : Rows.SmoothOneSaid := over_SmoothOne
#print axioms SmoothOne_holds

end Go.Proofs.Ytddakmlnkffgiaa
