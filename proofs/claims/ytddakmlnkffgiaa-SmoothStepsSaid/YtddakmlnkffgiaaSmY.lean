/- Layer 10: any window is right or not, is pushed, moved and summed, as the document says: SmoothSteps returns true for every input. Conditions: none. -/
import Derived.Test.YtddakmlnkffgiaaSmW
import Derived.Test.YtddakmlnkffgiaaSmX
import Derived.Test.YtddakmlnkffgiaaSmT
import Derived.ProofKit
namespace Go.Proofs.Ytddakmlnkffgiaa
open Go.ChangeShapes Go.WideShapes Go.ChangeAt Go.RowKit
set_option linter.unusedVariables false
set_option linter.unusedSimpArgs false
attribute [local go_sem] ite_max ite_min vite_max vite_min ext_cell ext_frozen

set_option maxRecDepth 100000 in
set_option maxHeartbeats 2000000 in
theorem steps_long (m pos d : Int) (sa : Option Addr) (n cap : Nat) (w : World) (hn : 100 < n) :
    Calls Try.prog 13 #[.int .i64 m, .agg #[.slice sa n cap], .int .i64 pos, .int .i64 d] w fun e w' => e = .returned (.bool true) ∧ Below w.heap.size w w' := by
  have hnI : (100 : Int) < (n : Int) := by omega
  go_enter Try.func13, Try.ntmps13
  go_wp2_with fail
  refine (awake10_at _).mono ?_
  rintro e w1 ⟨rfl, hb1⟩
  obtain ⟨hb1c, hb1f⟩ := bcell hb1
  have hb1z := hb1.size
  have hb1c0 := fun o => hb1c (w.heap.size) o (by first | (simp; done) | (simp; omega) | (simp at *; omega) | omega)
  have hb1f0 := fun o => hb1f (w.heap.size) o (by first | (simp; done) | (simp; omega) | (simp at *; omega) | omega)
  have hb1l0 := below_lt (b := w.heap.size) hb1 (by first | (simp; done) | (simp; omega) | (simp at *; omega) | omega)
  go_wp2
  go_ret
  exact ⟨rfl, by (repeat' (first | (with_reducible exact Below.refl _ _) | (with_reducible assumption) | (with_reducible refine below_drewN ?_ _) | (with_reducible refine Below.drew ?_) | (with_reducible refine below_new ?_ (Nat.le_refl _) _) | (with_reducible refine Below.setCell ?_ ?_ _) | (with_reducible refine below_go ?_ (by assumption) (Nat.le_refl _)) | (simp; done) | (simp; omega) | omega))⟩

theorem walk_SmoothSteps (m : Int) (s : Value) (zs : List Int) (pos d : Int) (w : World) (hm : (Lit.int .i64 m).wf = true) (hz : IntsAt .i64 w s zs) (hp : (Lit.int .i64 pos).wf = true) (hd : (Lit.int .i64 d).wf = true) :
    Calls Try.prog 13 #[.int .i64 m, .agg #[s], .int .i64 pos, .int .i64 d] w fun e w' => e = .returned (.bool true) ∧ Below w.heap.size w w' := by
  have hmb := bounds_i64 hm
  have hpb := bounds_i64 hp
  have hdb := bounds_i64 hd
  rcases i64s_at hz with ⟨sa, cap, rfl, _⟩ | ⟨b, off, cap, rfl, hne, h⟩
  · exact steps_none m pos d sa cap w hmb hpb hdb
  · have hpos := List.length_pos_iff.2 hne
    by_cases h100 : zs.length ≤ 100
    · exact steps_some m pos d zs b off zs.length cap w h rfl (by omega) hmb hpb hdb
    · exact steps_long m pos d _ zs.length cap w (by omega)

set_option maxRecDepth 100000 in
theorem lifted_SmoothSteps (os : Os) (started : os.Started) (H : Type) (enc : TypeId × Value → H) :
    ReturnsInHanded {} Try.checked os 13 .any (Rows.smoothStepsSpec.pre6 enc Try.prog Try.f13 Rows.smoothStepsRow.domain false) (Rows.smoothStepsSpec.post enc Try.prog Try.f13 false true false false) := by
  refine returnsInHanded_of_change (C := Try.checked) own started (by kernel_rfl) Try.func13
    (ChangeSpec.witness6 (enc := enc) (C := Try.checked) false ⟨#[], #[.int .i64 0, .agg #[.slice none 0 0], .int .i64 0, .int .i64 0], []⟩ 8 (by kernel_rfl) (by kernel_rfl) (by kernel_rfl) (by kernel_rfl)) ?_
  intro W base args ds gs before hval0 hW hcnd _
  have hval : ∀ (j : Nat) t v, Try.f13.params[j]? = some t → args[j]? = some v → Value.okWide Try.prog W .any base t v := hval0
  have hW' := hW
  obtain ⟨p, q, hA0, hV, rfl, hfz, hnd⟩ := hW'
  have hA : DataW.TrodAll enc Try.prog W 0 (fun _ => true) true Try.f13.params.toList args.toList ds p := hA0
  rw [Try.params13] at hA hval
  obtain ⟨v0, vs0, d0, ds0, p0, q0, hargs, rfl, rfl, h0, r0⟩ := trodAll_cons hA
  obtain ⟨v1, vs1, d1, ds1, p1, q1, rfl, rfl, rfl, h1, r1⟩ := trodAll_cons r0
  obtain ⟨v2, vs2, d2, ds2, p2, q2, rfl, rfl, rfl, h2, r2⟩ := trodAll_cons r1
  obtain ⟨v3, vs3, d3, ds3, p3, q3, rfl, rfl, rfl, h3, r3⟩ := trodAll_cons r2
  obtain ⟨rfl, rfl, rfl⟩ := trodAll_nil r3
  obtain rfl : args = #[v0, v1, v2, v3] := by cases args; simp_all
  obtain ⟨rfl, rfl⟩ := trodVars_none hV
  obtain ⟨a0, rfl, rfl, rfl, w0⟩ := open_int Try.underlying3 (hval 0 3 v0 rfl rfl) h0
  obtain ⟨cs1, e1, r1⟩ := rd_agg Try.underlying71 (hval 1 71 v1 rfl rfl) h1
  obtain ⟨s1, a1, f1, w1⟩ := rd_smooth r1
  subst f1
  subst e1
  obtain ⟨a2, rfl, rfl, rfl, w2⟩ := open_int Try.underlying2 (hval 2 2 v2 rfl rfl) h2
  obtain ⟨a3, rfl, rfl, rfl, w3⟩ := open_int Try.underlying2 (hval 3 2 v3 rfl rfl) h3
  refine (walk_SmoothSteps a0 s1 a1 a2 a3 W w0 w1 w2 w3).mono fun e W' ⟨he, hb⟩ => ⟨_, he, ?_⟩
  exact law_post_any laid_out Try.underlying4 hW rfl ⟨rfl, rfl, rfl⟩ rfl (by kernel_rfl) hb

theorem over_SmoothSteps : Rows.smoothStepsRow.holds Try.pinned (OpenSpec.ofChange Rows.smoothStepsSpec) :=
  OpenClaim.holds_of_wide 13 Try.f13 rfl rfl rfl rfl rfl rfl rfl ⟨rfl, rfl, rfl, rfl, rfl⟩ rfl rfl rfl rfl rfl (by kernel_rfl) Try.func13 (by kernel_rfl)
    (of_decide_eq_true (by kernel_rfl)) (by unfold Func.isWrapper; first | (rw [if_pos (by decide +kernel)]; kernel_rfl) | (rw [if_neg (by decide +kernel)]; exact ⟨rfl, rfl⟩))
    (fun os started H enc _ => lifted_SmoothSteps os started H enc)

/-- the statement -/
theorem SmoothSteps_holds : Rows.SmoothStepsSaid := over_SmoothSteps
#print axioms SmoothSteps_holds

end Go.Proofs.Ytddakmlnkffgiaa
