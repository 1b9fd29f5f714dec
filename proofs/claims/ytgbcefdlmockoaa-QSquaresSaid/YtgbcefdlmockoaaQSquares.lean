/- Layer 1: the square of a root is not above its number, that of the next one is: QSquares returns true. Conditions: none. -/
import Derived.Test.YtgbcefdlmockoaaQG
namespace Go.Proofs.Ytgbcefdlmockoaa
open Go.ChangeShapes Go.WideShapes Go.ChangeAt Go.RowKit
set_option linter.unusedVariables false
set_option linter.unusedSimpArgs false
attribute [local go_sem] ite_max ite_min vite_max vite_min ext_cell ext_frozen

set_option maxHeartbeats 2000000 in
theorem walk_QSquares (n : Int) (hwf : (Lit.int .i64 n).wf = true) (w : World) :
    Calls Try.prog 5 #[.int .i64 n] w fun e w' => e = .returned (.bool true) ∧ Below w.heap.size w w' := by
  have hb := bounds_i64 hwf
  clear hwf
  by_cases hn : n < 0
  · go_enter Try.func5, Try.ntmps5
    go_wp2_with fail
    refine (awake1 _).mono ?_
    rintro e w1 ⟨rfl, hb1⟩
    go_wp2_with fail
    refine (qsqrt_low _ _ (by omega)).mono ?_
    rintro e w2 ⟨rfl, rfl⟩
    go_wp2
    go_ret
    exact ⟨rfl, by (repeat' (first | (with_reducible exact Below.refl _ _) | (with_reducible assumption) | (with_reducible refine below_drewN ?_ _) | (with_reducible refine Below.drew ?_) | (with_reducible refine below_new ?_ (Nat.le_refl _) _) | (with_reducible refine Below.setCell ?_ ?_ _) | (with_reducible refine below_go ?_ (by assumption) (Nat.le_refl _)) | (simp; done) | (simp; omega) | omega))⟩
  · obtain ⟨r, hr⟩ := root_some n (by omega)
    have hrb := root_bd hr hb.2
    obtain ⟨S, hS⟩ : ∃ S, r * r = S := ⟨_, rfl⟩
    obtain ⟨T, hT⟩ : ∃ T, (r + 1) * (r + 1) = T := ⟨_, rfl⟩
    have hs : 0 ≤ S ∧ S ≤ n := by rw [← hS]; exact ⟨Int.mul_nonneg hrb.1 hrb.1, hr.2.1⟩
    have ht : n < T := by rw [← hT]; exact hr.2.2
    have HR := Lib.hid hr
    have HS := Lib.hid hS
    have HT := Lib.hid hT
    clear hr hS hT
    have f1 : fitV S = S := fitV_yes (by omega)
    have f2 : fitB S = true := fitB_yes (by omega)
    have F1 := Lib.hid f1
    have F2 := Lib.hid f2
    clear f1 f2
    by_cases hf : T ≤ 9223372036854775807
    · have f1 : fitV T = T := fitV_yes (by omega)
      have f2 : fitB T = true := fitB_yes (by omega)
      have G1 := Lib.hid f1
      have G2 := Lib.hid f2
      clear f1 f2
      go_enter Try.func5, Try.ntmps5
      go_wp2_with fail
      refine (awake1 _).mono ?_
      rintro e w1 ⟨rfl, hb1⟩
      go_wp2_with fail
      refine (qsqrt_at _ r _ (by omega) HR.out).mono ?_
      rintro e w2 ⟨rfl, rfl⟩
      go_wp2_with fail
      refine (qmul_at _ _ S true _ (by omega) (by omega) (by rw [HS.out]; exact F1.out) (by rw [HS.out]; exact F2.out)).mono ?_
      rintro e w2 ⟨rfl, rfl⟩
      go_wp2_with fail
      refine (qmul_at _ _ T true _ (by omega) (by omega) (by rw [HT.out]; exact G1.out) (by rw [HT.out]; exact G2.out)).mono ?_
      rintro e w2 ⟨rfl, rfl⟩
      go_wp2
      go_ret
      exact ⟨rfl, by (repeat' (first | (with_reducible exact Below.refl _ _) | (with_reducible assumption) | (with_reducible refine below_drewN ?_ _) | (with_reducible refine Below.drew ?_) | (with_reducible refine below_new ?_ (Nat.le_refl _) _) | (with_reducible refine Below.setCell ?_ ?_ _) | (with_reducible refine below_go ?_ (by assumption) (Nat.le_refl _)) | (simp; done) | (simp; omega) | omega))⟩
    · have f1 : fitV T = 0 := fitV_no (by omega)
      have f2 : fitB T = false := fitB_no (by omega)
      have G1 := Lib.hid f1
      have G2 := Lib.hid f2
      clear f1 f2
      go_enter Try.func5, Try.ntmps5
      go_wp2_with fail
      refine (awake1 _).mono ?_
      rintro e w1 ⟨rfl, hb1⟩
      go_wp2_with fail
      refine (qsqrt_at _ r _ (by omega) HR.out).mono ?_
      rintro e w2 ⟨rfl, rfl⟩
      go_wp2_with fail
      refine (qmul_at _ _ S true _ (by omega) (by omega) (by rw [HS.out]; exact F1.out) (by rw [HS.out]; exact F2.out)).mono ?_
      rintro e w2 ⟨rfl, rfl⟩
      go_wp2_with fail
      refine (qmul_at _ _ 0 false _ (by omega) (by omega) (by rw [HT.out]; exact G1.out) (by rw [HT.out]; exact G2.out)).mono ?_
      rintro e w2 ⟨rfl, rfl⟩
      go_wp2
      go_ret
      exact ⟨rfl, by (repeat' (first | (with_reducible exact Below.refl _ _) | (with_reducible assumption) | (with_reducible refine below_drewN ?_ _) | (with_reducible refine Below.drew ?_) | (with_reducible refine below_new ?_ (Nat.le_refl _) _) | (with_reducible refine Below.setCell ?_ ?_ _) | (with_reducible refine below_go ?_ (by assumption) (Nat.le_refl _)) | (simp; done) | (simp; omega) | omega))⟩

set_option maxRecDepth 100000 in
theorem lifted_QSquares (os : Os) (started : os.Started) (H : Type) (enc : TypeId × Value → H) :
    ReturnsInHanded {} Try.checked os 5 .any (Rows.qSquaresSpec.pre6 enc Try.prog Try.f5 Rows.qSquaresRow.domain false) (Rows.qSquaresSpec.post enc Try.prog Try.f5 false true false false) := by
  refine returnsInHanded_of_change (C := Try.checked) own started (by kernel_rfl) Try.func5
    (ChangeSpec.witness6 (enc := enc) (C := Try.checked) false ⟨#[], #[.int .i64 0], []⟩ 8 (by kernel_rfl) (by kernel_rfl) (by kernel_rfl) (by kernel_rfl)) ?_
  intro W base args ds gs before hval0 hW hcnd _
  have hval : ∀ (j : Nat) t v, Try.f5.params[j]? = some t → args[j]? = some v → Value.okWide Try.prog W .any base t v := hval0
  have hW' := hW
  obtain ⟨p, q, hA0, hV, rfl, hfz, hnd⟩ := hW'
  have hA : DataW.TrodAll enc Try.prog W 0 (fun _ => true) true Try.f5.params.toList args.toList ds p := hA0
  rw [Try.params5] at hA hval
  obtain ⟨v0, vs0, d0, ds0, p0, q0, hargs, rfl, rfl, h0, r0⟩ := trodAll_cons hA
  obtain ⟨rfl, rfl, rfl⟩ := trodAll_nil r0
  obtain rfl : args = #[v0] := by cases args; simp_all
  obtain ⟨rfl, rfl⟩ := trodVars_none hV
  obtain ⟨a0, rfl, rfl, rfl, w0⟩ := open_int Try.underlying2 (hval 0 2 v0 rfl rfl) h0
  refine (walk_QSquares a0 w0 W).mono fun e W' ⟨he, hb⟩ => ⟨_, he, ?_⟩
  exact law_post_any laid_out Try.underlying4 hW rfl ⟨rfl, rfl, rfl⟩ rfl (by kernel_rfl) hb

theorem over_QSquares : Rows.qSquaresRow.holds Try.pinned (OpenSpec.ofChange Rows.qSquaresSpec) :=
  OpenClaim.holds_of_wide 5 Try.f5 rfl rfl rfl rfl rfl rfl rfl ⟨rfl, rfl, rfl, rfl, rfl⟩ rfl rfl rfl rfl rfl (by kernel_rfl) Try.func5 (by kernel_rfl)
    (of_decide_eq_true (by kernel_rfl)) (by unfold Func.isWrapper; first | (rw [if_pos (by decide +kernel)]; kernel_rfl) | (rw [if_neg (by decide +kernel)]; exact ⟨rfl, rfl⟩))
    (fun os started H enc _ => lifted_QSquares os started H enc)

/-- the statement -/
theorem QSquares_holds : Rows.QSquaresSaid := over_QSquares
#print axioms QSquares_holds

end Go.Proofs.Ytgbcefdlmockoaa
