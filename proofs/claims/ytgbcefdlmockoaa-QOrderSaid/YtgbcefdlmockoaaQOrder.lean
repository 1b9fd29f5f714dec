/- Layer 1: sums and products do not hang on the order; MulDiv by one is the product; what is clamped stays clamped: QOrder returns true. Conditions: none. -/
import Derived.Test.YtgbcefdlmockoaaQG
namespace Go.Proofs.Ytgbcefdlmockoaa
open Go.ChangeShapes Go.WideShapes Go.ChangeAt Go.RowKit
set_option linter.unusedVariables false
set_option linter.unusedSimpArgs false
attribute [local go_sem] ite_max ite_min vite_max vite_min ext_cell ext_frozen

theorem mdE_one (a b : Int) : mdE a b 1 = if fitB (a * b) = true then 0 else 2 := by
  unfold mdE
  rw [if_neg (by omega), if_neg (by omega), Int.ediv_one]
theorem mdV_one (a b : Int) : mdV a b 1 = fitV (a * b) := by
  unfold mdV
  rw [mdE_one, Int.ediv_one]
  unfold fitV
  split <;> simp_all

set_option maxRecDepth 100000 in
set_option maxHeartbeats 4000000 in
theorem walk_QOrder (a b c : Int) (h1 : (Lit.int .i64 a).wf = true) (h2 : (Lit.int .i64 b).wf = true) (h3 : (Lit.int .i64 c).wf = true) (w : World) :
    Calls Try.prog 6 #[.int .i64 a, .int .i64 b, .int .i64 c] w fun e w' => e = .returned (.bool true) ∧ Below w.heap.size w w' := by
  have ha := bounds_i64 h1
  have hb := bounds_i64 h2
  have hc := bounds_i64 h3
  clear h1 h2 h3
  obtain ⟨v, hv⟩ : ∃ v, fitV (a + b) = v := ⟨_, rfl⟩
  obtain ⟨o, ho⟩ : ∃ v, fitB (a + b) = v := ⟨_, rfl⟩
  have HV := Lib.hid hv
  have HO := Lib.hid ho
  obtain ⟨k, hk⟩ : ∃ k, max (min b c) (min a (max b c)) = k := ⟨_, rfl⟩
  have hk1 : min b c ≤ k ∧ k ≤ max b c := by omega
  have hk2 : (min b c ≤ a ∧ a ≤ max b c ∧ k = a) ∨ a < min b c ∨ max b c < a := by omega
  have HK := Lib.hid hk
  have e1 := mdE_one a b
  have e2 := mdE_one b a
  have v1 := mdV_one a b
  have v2 := mdV_one b a
  rw [Int.mul_comm b a] at e2 v2
  clear hv ho hk
  cases hf : fitB (a * b)
  · have hp : fitV (a * b) = 0 := by unfold fitV; rw [hf]; rfl
    rw [hf] at e1 e2
    rw [hp] at v1 v2
    have HM1 := Lib.hid v1
    have HM2 := Lib.hid v2
    have HX1 := Lib.hid e1
    have HX2 := Lib.hid e2
    have HP := Lib.hid hp
    have HQ := Lib.hid hf
    clear v1 v2 e1 e2 hp hf
    rcases hk2 with ⟨q1, q2, rfl⟩ | q1 | q1
    all_goals
      go_enter Try.func6, Try.ntmps6
      go_wp2_with fail
      refine (awake1 _).mono ?_
      rintro e w1 ⟨rfl, hb1⟩
      go_wp2_with fail
      refine (qadd_at _ _ v o _ ha hb HV.out HO.out).mono ?_
      rintro e w2 ⟨rfl, rfl⟩
      go_wp2_with fail
      refine (qadd_at _ _ v o _ hb ha (by rw [Int.add_comm]; exact HV.out) (by rw [Int.add_comm]; exact HO.out)).mono ?_
      rintro e w2 ⟨rfl, rfl⟩
      go_wp2_with fail
      refine (qmuldiv_at _ _ _ 0 2 _ ha hb (by decide) HM1.out HX1.out).mono ?_
      rintro e w2 ⟨rfl, hb2⟩
      go_wp2_with fail
      refine (qmuldiv_at _ _ _ 0 2 _ hb ha (by decide) HM2.out HX2.out).mono ?_
      rintro e w3 ⟨rfl, hb3⟩
      go_wp2_with fail
      refine (qmul_at _ _ 0 false _ ha hb HP.out HQ.out).mono ?_
      rintro e w4 ⟨rfl, rfl⟩
      go_wp2_with fail
      refine (qclamp_at _ _ _ k _ (by have := HK.out; omega)).mono ?_
      rintro e w5 ⟨rfl, rfl⟩
      go_wp2_with fail
      refine (qclamp_at _ _ _ k _ (by omega)).mono ?_
      rintro e w5 ⟨rfl, rfl⟩
      go_wp2
      go_ret
      exact ⟨rfl, by (repeat' (first | (with_reducible exact Below.refl _ _) | (with_reducible assumption) | (with_reducible refine below_drewN ?_ _) | (with_reducible refine Below.drew ?_) | (with_reducible refine below_new ?_ (Nat.le_refl _) _) | (with_reducible refine Below.setCell ?_ ?_ _) | (with_reducible refine below_go ?_ (by assumption) (Nat.le_refl _)) | (simp; done) | (simp; omega) | omega))⟩
  · obtain ⟨m, hm⟩ : ∃ m, fitV (a * b) = m := ⟨_, rfl⟩
    rw [hf] at e1 e2
    rw [hm] at v1 v2
    have HM1 := Lib.hid v1
    have HM2 := Lib.hid v2
    have HX1 := Lib.hid e1
    have HX2 := Lib.hid e2
    have HP := Lib.hid hm
    have HQ := Lib.hid hf
    clear v1 v2 e1 e2 hm hf
    rcases hk2 with ⟨q1, q2, rfl⟩ | q1 | q1
    all_goals
      go_enter Try.func6, Try.ntmps6
      go_wp2_with fail
      refine (awake1 _).mono ?_
      rintro e w1 ⟨rfl, hb1⟩
      go_wp2_with fail
      refine (qadd_at _ _ v o _ ha hb HV.out HO.out).mono ?_
      rintro e w2 ⟨rfl, rfl⟩
      go_wp2_with fail
      refine (qadd_at _ _ v o _ hb ha (by rw [Int.add_comm]; exact HV.out) (by rw [Int.add_comm]; exact HO.out)).mono ?_
      rintro e w2 ⟨rfl, rfl⟩
      go_wp2_with fail
      refine (qmuldiv_at _ _ _ m 0 _ ha hb (by decide) HM1.out HX1.out).mono ?_
      rintro e w2 ⟨rfl, hb2⟩
      go_wp2_with fail
      refine (qmuldiv_at _ _ _ m 0 _ hb ha (by decide) HM2.out HX2.out).mono ?_
      rintro e w3 ⟨rfl, hb3⟩
      go_wp2_with fail
      refine (qmul_at _ _ m true _ ha hb HP.out HQ.out).mono ?_
      rintro e w4 ⟨rfl, rfl⟩
      go_wp2_with fail
      refine (qclamp_at _ _ _ k _ (by have := HK.out; omega)).mono ?_
      rintro e w5 ⟨rfl, rfl⟩
      go_wp2_with fail
      refine (qclamp_at _ _ _ k _ (by omega)).mono ?_
      rintro e w5 ⟨rfl, rfl⟩
      go_wp2
      go_ret
      exact ⟨rfl, by (repeat' (first | (with_reducible exact Below.refl _ _) | (with_reducible assumption) | (with_reducible refine below_drewN ?_ _) | (with_reducible refine Below.drew ?_) | (with_reducible refine below_new ?_ (Nat.le_refl _) _) | (with_reducible refine Below.setCell ?_ ?_ _) | (with_reducible refine below_go ?_ (by assumption) (Nat.le_refl _)) | (simp; done) | (simp; omega) | omega))⟩

set_option maxRecDepth 100000 in
theorem lifted_QOrder (os : Os) (started : os.Started) (H : Type) (enc : TypeId × Value → H) :
    ReturnsInHanded {} Try.checked os 6 .any (Rows.qOrderSpec.pre6 enc Try.prog Try.f6 Rows.qOrderRow.domain false) (Rows.qOrderSpec.post enc Try.prog Try.f6 false true false false) := by
  refine returnsInHanded_of_change (C := Try.checked) own started (by kernel_rfl) Try.func6
    (ChangeSpec.witness6 (enc := enc) (C := Try.checked) false ⟨#[], #[.int .i64 0, .int .i64 0, .int .i64 0], []⟩ 8 (by kernel_rfl) (by kernel_rfl) (by kernel_rfl) (by kernel_rfl)) ?_
  intro W base args ds gs before hval0 hW hcnd _
  have hval : ∀ (j : Nat) t v, Try.f6.params[j]? = some t → args[j]? = some v → Value.okWide Try.prog W .any base t v := hval0
  have hW' := hW
  obtain ⟨p, q, hA0, hV, rfl, hfz, hnd⟩ := hW'
  have hA : DataW.TrodAll enc Try.prog W 0 (fun _ => true) true Try.f6.params.toList args.toList ds p := hA0
  rw [Try.params6] at hA hval
  obtain ⟨v0, vs0, d0, ds0, p0, q0, hargs, rfl, rfl, h0, r0⟩ := trodAll_cons hA
  obtain ⟨v1, vs1, d1, ds1, p1, q1, rfl, rfl, rfl, h1, r1⟩ := trodAll_cons r0
  obtain ⟨v2, vs2, d2, ds2, p2, q2, rfl, rfl, rfl, h2, r2⟩ := trodAll_cons r1
  obtain ⟨rfl, rfl, rfl⟩ := trodAll_nil r2
  obtain rfl : args = #[v0, v1, v2] := by cases args; simp_all
  obtain ⟨rfl, rfl⟩ := trodVars_none hV
  obtain ⟨a0, rfl, rfl, rfl, w0⟩ := open_int Try.underlying2 (hval 0 2 v0 rfl rfl) h0
  obtain ⟨a1, rfl, rfl, rfl, w1⟩ := open_int Try.underlying2 (hval 1 2 v1 rfl rfl) h1
  obtain ⟨a2, rfl, rfl, rfl, w2⟩ := open_int Try.underlying2 (hval 2 2 v2 rfl rfl) h2
  refine (walk_QOrder a0 a1 a2 w0 w1 w2 W).mono fun e W' ⟨he, hb⟩ => ⟨_, he, ?_⟩
  exact law_post_any laid_out Try.underlying4 hW rfl ⟨rfl, rfl, rfl⟩ rfl (by kernel_rfl) hb

theorem over_QOrder : Rows.qOrderRow.holds Try.pinned (OpenSpec.ofChange Rows.qOrderSpec) :=
  OpenClaim.holds_of_wide 6 Try.f6 rfl rfl rfl rfl rfl rfl rfl ⟨rfl, rfl, rfl, rfl, rfl⟩ rfl rfl rfl rfl rfl (by kernel_rfl) Try.func6 (by kernel_rfl)
    (of_decide_eq_true (by kernel_rfl)) (by unfold Func.isWrapper; first | (rw [if_pos (by decide +kernel)]; kernel_rfl) | (rw [if_neg (by decide +kernel)]; exact ⟨rfl, rfl⟩))
    (fun os started H enc _ => lifted_QOrder os started H enc)

/-- the statement -/
theorem QOrder_holds : Rows.QOrderSaid := over_QOrder
#print axioms QOrder_holds

end Go.Proofs.Ytgbcefdlmockoaa
