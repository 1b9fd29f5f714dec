/- Layer 14: geared one to one it is as far from where it began as the master is; geared by nothing it stays: GearOne returns true. Conditions: none. -/
import Derived.Test.YtgbcefdlmockoaaGearA
namespace Go.Proofs.Ytgbcefdlmockoaa
open Go.ChangeShapes Go.WideShapes Go.ChangeAt Go.RowKit
set_option linter.unusedVariables false
set_option linter.unusedSimpArgs false
attribute [local go_sem] ite_max ite_min vite_max vite_min ext_cell ext_frozen

theorem place_by (s f b n k x : Int) (hb : fitB b = true) (hk : 1 ≤ k) (hx : b * n / k = x) (hxb : -9223372036854775808 ≤ x ∧ x ≤ 9223372036854775807) (hsx : -9223372036854775808 ≤ s + x ∧ s + x ≤ 9223372036854775807) :
    plV s f (f + b) n k = s + x ∧ plO s f (f + b) n k = true := by
  have e0 : f + b - f = b := by omega
  have e1 : mdE b n k = 0 := by unfold mdE; rw [if_neg (by omega), if_neg (by omega), hx, fitB_yes hxb]; rfl
  have e2 : mdV b n k = x := by unfold mdV; rw [e1, hx]; rfl
  have e3 : plO s f (f + b) n k = true := by unfold plO; rw [e0, hb, e1, e2, decide_eq_true hk, fitB_yes hsx]; rfl
  refine ⟨?_, e3⟩
  unfold plV
  rw [e3, e0, e2]
  rfl

set_option maxHeartbeats 2000000 in
theorem walk_GearOne (s f b k : Int) (h1 : (Lit.int .i64 s).wf = true) (h2 : (Lit.int .i64 f).wf = true) (h3 : (Lit.int .i32 b).wf = true) (h4 : (Lit.int .u16 k).wf = true) (w : World) :
    Calls Try.prog 9 #[.int .i64 s, .int .i64 f, .int .i32 b, .int .u16 k] w fun e w' => e = .returned (.bool true) ∧ Below w.heap.size w w' := by
  have hs := bounds_i64 h1
  have hf := bounds_i64 h2
  have hb := bounds_i32 h3
  have hk := bounds_u16 h4
  clear h1 h2 h3 h4
  by_cases hin : (s ≤ 1152921504606846976 ∧ -1152921504606846976 ≤ s) ∧ f ≤ 1152921504606846976 ∧ -1152921504606846976 ≤ f
  · have p1 := place_by s f b 1 1 b (fitB_yes (by omega)) (by omega) (by rw [Int.mul_one, Int.ediv_one]) (by omega) (by omega)
    have p2 := place_by s f b 0 (k + 1) 0 (fitB_yes (by omega)) (by omega) (by rw [Int.mul_zero, Int.zero_ediv]) (by omega) (by omega)
    have p3 := place_by s f b (k + 1) (k + 1) b (fitB_yes (by omega)) (by omega) (Int.mul_ediv_cancel _ (by omega)) (by omega) (by omega)
    rw [show s + 0 = s by omega] at p2
    have P1 := Lib.hid p1
    have P2 := Lib.hid p2
    have P3 := Lib.hid p3
    clear p1 p2 p3
    obtain ⟨⟨a1, a2⟩, a3, a4⟩ := hin
    go_enter Try.func9, Try.ntmps9
    go_wp2_with fail
    refine (awake14 _).mono ?_
    rintro e w1 ⟨rfl, hb1⟩
    go_wp2_with fail
    refine (gplace_at _ _ _ _ _ (s + b) true _ (by omega) (by omega) (by omega) (by omega) (by omega) P1.out.1 P1.out.2).mono ?_
    rintro e w2 ⟨rfl, hb2⟩
    go_wp2_with fail
    refine (gplace_at _ _ _ _ _ s true _ (by omega) (by omega) (by omega) (by omega) (by omega) P2.out.1 P2.out.2).mono ?_
    rintro e w3 ⟨rfl, hb3⟩
    go_wp2_with fail
    refine (gplace_at _ _ _ _ _ (s + b) true _ (by omega) (by omega) (by omega) (by omega) (by omega) P3.out.1 P3.out.2).mono ?_
    rintro e w4 ⟨rfl, hb4⟩
    go_wp2
    go_ret
    exact ⟨rfl, by (repeat' (first | (with_reducible exact Below.refl _ _) | (with_reducible assumption) | (with_reducible refine below_drewN ?_ _) | (with_reducible refine Below.drew ?_) | (with_reducible refine below_new ?_ (Nat.le_refl _) _) | (with_reducible refine Below.setCell ?_ ?_ _) | (with_reducible refine below_go ?_ (by assumption) (Nat.le_refl _)) | (simp; done) | (simp; omega) | omega))⟩
  · have hn : (1152921504606846976 < s) ∨ (s ≤ 1152921504606846976 ∧ s < -1152921504606846976) ∨ (s ≤ 1152921504606846976 ∧ -1152921504606846976 ≤ s ∧ 1152921504606846976 < f) ∨ (s ≤ 1152921504606846976 ∧ -1152921504606846976 ≤ s ∧ f ≤ 1152921504606846976 ∧ f < -1152921504606846976) := by omega
    clear hin
    rcases hn with h | h | h | h
    all_goals
      go_enter Try.func9, Try.ntmps9
      go_wp2_with fail
      refine (awake14 _).mono ?_
      rintro e w1 ⟨rfl, hb1⟩
      go_wp2
      go_ret
      exact ⟨rfl, by (repeat' (first | (with_reducible exact Below.refl _ _) | (with_reducible assumption) | (with_reducible refine below_drewN ?_ _) | (with_reducible refine Below.drew ?_) | (with_reducible refine below_new ?_ (Nat.le_refl _) _) | (with_reducible refine Below.setCell ?_ ?_ _) | (with_reducible refine below_go ?_ (by assumption) (Nat.le_refl _)) | (simp; done) | (simp; omega) | omega))⟩

set_option maxRecDepth 100000 in
theorem lifted_GearOne (os : Os) (started : os.Started) (H : Type) (enc : TypeId × Value → H) :
    ReturnsInHanded {} Try.checked os 9 .any (Rows.gearOneSpec.pre6 enc Try.prog Try.f9 Rows.gearOneRow.domain false) (Rows.gearOneSpec.post enc Try.prog Try.f9 false true false false) := by
  refine returnsInHanded_of_change (C := Try.checked) own started (by kernel_rfl) Try.func9
    (ChangeSpec.witness6 (enc := enc) (C := Try.checked) false ⟨#[], #[.int .i64 0, .int .i64 0, .int .i32 0, .int .u16 0], []⟩ 8 (by kernel_rfl) (by kernel_rfl) (by kernel_rfl) (by kernel_rfl)) ?_
  intro W base args ds gs before hval0 hW hcnd _
  have hval : ∀ (j : Nat) t v, Try.f9.params[j]? = some t → args[j]? = some v → Value.okWide Try.prog W .any base t v := hval0
  have hW' := hW
  obtain ⟨p, q, hA0, hV, rfl, hfz, hnd⟩ := hW'
  have hA : DataW.TrodAll enc Try.prog W 0 (fun _ => true) true Try.f9.params.toList args.toList ds p := hA0
  rw [Try.params9] at hA hval
  obtain ⟨v0, vs0, d0, ds0, p0, q0, hargs, rfl, rfl, h0, r0⟩ := trodAll_cons hA
  obtain ⟨v1, vs1, d1, ds1, p1, q1, rfl, rfl, rfl, h1, r1⟩ := trodAll_cons r0
  obtain ⟨v2, vs2, d2, ds2, p2, q2, rfl, rfl, rfl, h2, r2⟩ := trodAll_cons r1
  obtain ⟨v3, vs3, d3, ds3, p3, q3, rfl, rfl, rfl, h3, r3⟩ := trodAll_cons r2
  obtain ⟨rfl, rfl, rfl⟩ := trodAll_nil r3
  obtain rfl : args = #[v0, v1, v2, v3] := by cases args; simp_all
  obtain ⟨rfl, rfl⟩ := trodVars_none hV
  obtain ⟨a0, rfl, rfl, rfl, w0⟩ := open_int Try.underlying2 (hval 0 2 v0 rfl rfl) h0
  obtain ⟨a1, rfl, rfl, rfl, w1⟩ := open_int Try.underlying2 (hval 1 2 v1 rfl rfl) h1
  obtain ⟨a2, rfl, rfl, rfl, w2⟩ := open_int Try.underlying21 (hval 2 21 v2 rfl rfl) h2
  obtain ⟨a3, rfl, rfl, rfl, w3⟩ := open_int Try.underlying37 (hval 3 37 v3 rfl rfl) h3
  refine (walk_GearOne a0 a1 a2 a3 w0 w1 w2 w3 W).mono fun e W' ⟨he, hb⟩ => ⟨_, he, ?_⟩
  exact law_post_any laid_out Try.underlying4 hW rfl ⟨rfl, rfl, rfl⟩ rfl (by kernel_rfl) hb

theorem over_GearOne : Rows.gearOneRow.holds Try.pinned (OpenSpec.ofChange Rows.gearOneSpec) :=
  OpenClaim.holds_of_wide 9 Try.f9 rfl rfl rfl rfl rfl rfl rfl ⟨rfl, rfl, rfl, rfl, rfl⟩ rfl rfl rfl rfl rfl (by kernel_rfl) Try.func9 (by kernel_rfl)
    (of_decide_eq_true (by kernel_rfl)) (by unfold Func.isWrapper; first | (rw [if_pos (by decide +kernel)]; kernel_rfl) | (rw [if_neg (by decide +kernel)]; exact ⟨rfl, rfl⟩))
    (fun os started H enc _ => lifted_GearOne os started H enc)

/-- the statement -/
theorem GearOne_holds : Rows.GearOneSaid := over_GearOne
#print axioms GearOne_holds

end Go.Proofs.Ytgbcefdlmockoaa
