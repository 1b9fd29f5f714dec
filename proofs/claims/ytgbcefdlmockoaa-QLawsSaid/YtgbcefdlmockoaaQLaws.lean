/- Layer 1: a sum less one part is the other part; a quotient and what is left make up the number; by the number itself again MulDiv gives the other one: QLaws returns true. Conditions: none. -/
import Derived.Test.YtgbcefdlmockoaaQLawsA
namespace Go.Proofs.Ytgbcefdlmockoaa
open Go.ChangeShapes Go.WideShapes Go.ChangeAt Go.RowKit
set_option linter.unusedVariables false
set_option linter.unusedSimpArgs false
attribute [local go_sem] ite_max ite_min vite_max vite_min ext_cell ext_frozen

set_option maxRecDepth 100000 in
set_option maxHeartbeats 16000000 in
theorem qlaws_pos (a b : Int) (w : World) (ha : -9223372036854775808 ≤ a ∧ a ≤ 9223372036854775807) (hb : -9223372036854775808 ≤ b ∧ b ≤ 9223372036854775807) (hb0 : b ≠ 0) (hov : ¬ (a = -9223372036854775808 ∧ b = -1)) (hbp : 0 < b) :
    Calls Try.prog 8 #[.int .i64 a, .int .i64 b] w fun e w' => e = .returned (.bool true) ∧ Below w.heap.size w w' := by
  have hp := div_parts a b
  have hq := tdiv_bd a b ha hb0 hov
  have e0 : divE a b = 0 := by unfold divE; rw [if_neg hb0, if_neg hov]
  have e1 : divV a b = a.tdiv b := by unfold divV; rw [if_pos e0]
  have e2 : modE b = 0 := by unfold modE; rw [if_neg hb0]
  have e3 : modV a b = a.tmod b := by unfold modV; rw [if_neg hb0]
  obtain ⟨d, hd⟩ : ∃ d, a.tdiv b = d := ⟨_, rfl⟩
  obtain ⟨r, hr⟩ : ∃ r, a.tmod b = r := ⟨_, rfl⟩
  obtain ⟨p, hpp⟩ : ∃ p, d * b = p := ⟨_, rfl⟩
  rw [hd, hr, hpp] at hp
  rw [hd] at hq e1
  rw [hr] at e3
  have HD1 := Lib.hid e1
  have HD2 := Lib.hid e0
  have HR1 := Lib.hid e3
  have HR2 := Lib.hid e2
  have hpb : -9223372036854775808 ≤ p ∧ p ≤ 9223372036854775807 := by omega
  have hrb : -9223372036854775808 ≤ r ∧ r ≤ 9223372036854775807 := by omega
  have hp1 : fitV (d * b) = p := by rw [hpp]; exact fitV_yes hpb
  have hp2 : fitB (d * b) = true := by rw [hpp]; exact fitB_yes hpb
  have HP1 := Lib.hid hp1
  have HP2 := Lib.hid hp2
  have ha1 : fitV (p + r) = a := by rw [hp.1]; exact fitV_yes ha
  have ha2 : fitB (p + r) = true := by rw [hp.1]; exact fitB_yes ha
  have HA1 := Lib.hid ha1
  have HA2 := Lib.hid ha2
  have HPP := Lib.hid hp
  have hrz : (r != 0) = false ∨ ((r != 0) = true ∧ decide (r < 0) = decide (a < 0)) := by
    by_cases z : r = 0
    · exact .inl (by simp [z])
    · refine .inr ⟨by simpa using z, ?_⟩
      rw [decide_eq_decide]
      omega
  have hfl := div_floor a b hbp
  rw [hd] at hfl
  have m1 : a * b / b = a := Int.mul_ediv_cancel _ hb0
  have m2 : mdE a b b = 0 := by unfold mdE; rw [if_neg hb0, if_neg (by omega), m1, fitB_yes ha]; rfl
  have m3 : mdV a b b = a := by unfold mdV; rw [m2, m1]; rfl
  have HM1 := Lib.hid m3
  have HM2 := Lib.hid m2
  obtain ⟨y, hy⟩ : ∃ y, a / b = y := ⟨_, rfl⟩
  have hyb : -9223372036854775808 ≤ y ∧ y ≤ 9223372036854775807 := by
    rw [← hy]
    refine ⟨?_, ?_⟩
    · exact (Int.le_ediv_iff_mul_le hbp).2 (by have : (-9223372036854775808) * b ≤ (-9223372036854775808) * 1 := by omega
                                               omega)
    · have : a / b < 9223372036854775808 := Int.ediv_lt_of_lt_mul hbp (by omega)
      omega
  have n2 : mdE a 1 b = 0 := by unfold mdE; rw [if_neg hb0, if_neg (by omega), Int.mul_one, hy, fitB_yes hyb]; rfl
  have n3 : mdV a 1 b = y := by unfold mdV; rw [n2, Int.mul_one, hy]; rfl
  have HN1 := Lib.hid n3
  have HN2 := Lib.hid n2
  rw [hy] at hfl
  have hyd : ((y != d) = false) ∨ ((y != d) = true ∧ (y != d - 1) = false ∧ d - 1 = y) := by
    rcases hfl with h | h
    · exact .inl (by simp [h])
    · exact .inr ⟨by rw [bne_iff_ne]; omega, by simp [h], h.symm⟩
  clear m1 m2 m3 n2 n3 hy hfl
  clear e0 e1 e2 e3 hr hpp hp1 hp2 ha1 ha2
  have hrz2 : ((r != 0) = false ∧ decide (r < 0) = false ∧ decide (a < 0) = true) ∨ ((r != 0) = false ∧ decide (r < 0) = false ∧ decide (a < 0) = false) ∨ ((r != 0) = true ∧ decide (r < 0) = true ∧ decide (a < 0) = true) ∨ ((r != 0) = true ∧ decide (r < 0) = false ∧ decide (a < 0) = false) := by
    simp only [bne_iff_ne, bne_eq_false_iff_eq, decide_eq_true_eq, decide_eq_false_iff_not]
    omega
  have HRZ := Lib.hid hrz2
  have HYD := Lib.hid hyd
  clear hov hd hb0 hrz hrz2 hyd hp
  obtain ⟨v, hv⟩ : ∃ v, fitV (a + b) = v := ⟨_, rfl⟩
  obtain ⟨o, ho⟩ : ∃ o, fitB (a + b) = o := ⟨_, rfl⟩
  have HV := Lib.hid hv
  have HO := Lib.hid ho
  have hsum : o = true → v = a + b ∧ -9223372036854775808 ≤ v ∧ v ≤ 9223372036854775807 := fun h => by
    rw [h] at ho
    have hf : -9223372036854775808 ≤ a + b ∧ a + b ≤ 9223372036854775807 := of_decide_eq_true ho
    rw [fitV_yes hf] at hv
    omega
  clear hv ho
  cases o
  · clear hsum
    go_enter Try.func8, Try.ntmps8
    go_wp2_with fail
    refine (awake1 _).mono ?_
    rintro e w1 ⟨rfl, hb1⟩
    go_wp2_with fail
    refine (qadd_at _ _ v _ _ ha hb HV.out HO.out).mono ?_
    rintro e w2 ⟨rfl, rfl⟩
    go_wp2_with fail
    refine (qdiv_at _ _ d 0 _ ha hb HD1.out HD2.out).mono ?_
    rintro e w2 ⟨rfl, rfl⟩
    go_wp2_with fail
    refine (qmod_at _ _ r 0 _ ha hb HR1.out HR2.out).mono ?_
    rintro e w2 ⟨rfl, rfl⟩
    go_wp2_with fail
    refine (qmul_at _ _ p true _ (by omega) hb HP1.out HP2.out).mono ?_
    rintro e w2 ⟨rfl, rfl⟩
    go_wp2_with fail
    refine (qadd_at _ _ a true _ (by omega) (by omega) HA1.out HA2.out).mono ?_
    rintro e w2 ⟨rfl, rfl⟩
    have hrz := HRZ.out
    rcases hrz with ⟨z1, z2, z3⟩ | ⟨z1, z2, z3⟩ | ⟨z1, z2, z3⟩ | ⟨z1, z2, z3⟩
    all_goals
      go_wp2_with fail
      refine (qmuldiv_at _ _ _ a 0 _ ha hb hb HM1.out HM2.out).mono ?_
      rintro e w3 ⟨rfl, hb3⟩
      go_wp2_with fail
      refine (qmuldiv_at _ _ _ y 0 _ ha (by decide) hb HN1.out HN2.out).mono ?_
      rintro e w4 ⟨rfl, hb4⟩
      go_wp2_with fail
      refine (qdiv_at _ _ d 0 _ ha hb HD1.out HD2.out).mono ?_
      rintro e w5 ⟨rfl, rfl⟩
      have hyd := HYD.out
      rcases hyd with hyd | ⟨hyd, hye, hyf⟩
      all_goals
        go_wp2
        go_ret
        exact ⟨rfl, by (repeat' (first | (with_reducible exact Below.refl _ _) | (with_reducible assumption) | (with_reducible refine below_drewN ?_ _) | (with_reducible refine Below.drew ?_) | (with_reducible refine below_new ?_ (Nat.le_refl _) _) | (with_reducible refine Below.setCell ?_ ?_ _) | (with_reducible refine below_go ?_ (by assumption) (Nat.le_refl _)) | (simp; done) | (simp; omega) | omega))⟩
  · obtain ⟨hva, hvb⟩ := hsum rfl
    have hs1 : fitV (v - b) = a := by rw [hva, Int.add_sub_cancel]; exact fitV_yes ha
    have hs2 : fitB (v - b) = true := by rw [hva, Int.add_sub_cancel]; exact fitB_yes ha
    have HS1 := Lib.hid hs1
    have HS2 := Lib.hid hs2
    clear hs1 hs2 hva hsum
    go_enter Try.func8, Try.ntmps8
    go_wp2_with fail
    refine (awake1 _).mono ?_
    rintro e w1 ⟨rfl, hb1⟩
    go_wp2_with fail
    refine (qadd_at _ _ v _ _ ha hb HV.out HO.out).mono ?_
    rintro e w2 ⟨rfl, rfl⟩
    go_wp2_with fail
    refine (qsub_at _ _ a true _ (by omega) hb HS1.out HS2.out).mono ?_
    rintro e w2 ⟨rfl, rfl⟩
    go_wp2_with fail
    refine (qdiv_at _ _ d 0 _ ha hb HD1.out HD2.out).mono ?_
    rintro e w2 ⟨rfl, rfl⟩
    go_wp2_with fail
    refine (qmod_at _ _ r 0 _ ha hb HR1.out HR2.out).mono ?_
    rintro e w2 ⟨rfl, rfl⟩
    go_wp2_with fail
    refine (qmul_at _ _ p true _ (by omega) hb HP1.out HP2.out).mono ?_
    rintro e w2 ⟨rfl, rfl⟩
    go_wp2_with fail
    refine (qadd_at _ _ a true _ (by omega) (by omega) HA1.out HA2.out).mono ?_
    rintro e w2 ⟨rfl, rfl⟩
    have hrz := HRZ.out
    rcases hrz with ⟨z1, z2, z3⟩ | ⟨z1, z2, z3⟩ | ⟨z1, z2, z3⟩ | ⟨z1, z2, z3⟩
    all_goals
      go_wp2_with fail
      refine (qmuldiv_at _ _ _ a 0 _ ha hb hb HM1.out HM2.out).mono ?_
      rintro e w3 ⟨rfl, hb3⟩
      go_wp2_with fail
      refine (qmuldiv_at _ _ _ y 0 _ ha (by decide) hb HN1.out HN2.out).mono ?_
      rintro e w4 ⟨rfl, hb4⟩
      go_wp2_with fail
      refine (qdiv_at _ _ d 0 _ ha hb HD1.out HD2.out).mono ?_
      rintro e w5 ⟨rfl, rfl⟩
      have hyd := HYD.out
      rcases hyd with hyd | ⟨hyd, hye, hyf⟩
      all_goals
        go_wp2
        go_ret
        exact ⟨rfl, by (repeat' (first | (with_reducible exact Below.refl _ _) | (with_reducible assumption) | (with_reducible refine below_drewN ?_ _) | (with_reducible refine Below.drew ?_) | (with_reducible refine below_new ?_ (Nat.le_refl _) _) | (with_reducible refine Below.setCell ?_ ?_ _) | (with_reducible refine below_go ?_ (by assumption) (Nat.le_refl _)) | (simp; done) | (simp; omega) | omega))⟩

theorem walk_QLaws (a b : Int) (h1 : (Lit.int .i64 a).wf = true) (h2 : (Lit.int .i64 b).wf = true) (w : World) :
    Calls Try.prog 8 #[.int .i64 a, .int .i64 b] w fun e w' => e = .returned (.bool true) ∧ Below w.heap.size w w' := by
  have ha := bounds_i64 h1
  have hb := bounds_i64 h2
  by_cases b0 : b = 0
  · subst b0
    exact qlaws_nodiv a 0 0 3 w ha hb rfl rfl rfl (by omega)
  · by_cases hov : a = -9223372036854775808 ∧ b = -1
    · obtain ⟨rfl, rfl⟩ := hov
      exact qlaws_nodiv _ _ 0 2 w ha hb rfl rfl rfl (by omega)
    · by_cases hbn : b < 0
      · exact qlaws_neg a b w ha hb b0 hov hbn
      · exact qlaws_pos a b w ha hb b0 hov (by omega)

set_option maxRecDepth 100000 in
theorem lifted_QLaws (os : Os) (started : os.Started) (H : Type) (enc : TypeId × Value → H) :
    ReturnsInHanded {} Try.checked os 8 .any (Rows.qLawsSpec.pre6 enc Try.prog Try.f8 Rows.qLawsRow.domain false) (Rows.qLawsSpec.post enc Try.prog Try.f8 false true false false) := by
  refine returnsInHanded_of_change (C := Try.checked) own started (by kernel_rfl) Try.func8
    (ChangeSpec.witness6 (enc := enc) (C := Try.checked) false ⟨#[], #[.int .i64 0, .int .i64 0], []⟩ 8 (by kernel_rfl) (by kernel_rfl) (by kernel_rfl) (by kernel_rfl)) ?_
  intro W base args ds gs before hval0 hW hcnd _
  have hval : ∀ (j : Nat) t v, Try.f8.params[j]? = some t → args[j]? = some v → Value.okWide Try.prog W .any base t v := hval0
  have hW' := hW
  obtain ⟨p, q, hA0, hV, rfl, hfz, hnd⟩ := hW'
  have hA : DataW.TrodAll enc Try.prog W 0 (fun _ => true) true Try.f8.params.toList args.toList ds p := hA0
  rw [Try.params8] at hA hval
  obtain ⟨v0, vs0, d0, ds0, p0, q0, hargs, rfl, rfl, h0, r0⟩ := trodAll_cons hA
  obtain ⟨v1, vs1, d1, ds1, p1, q1, rfl, rfl, rfl, h1, r1⟩ := trodAll_cons r0
  obtain ⟨rfl, rfl, rfl⟩ := trodAll_nil r1
  obtain rfl : args = #[v0, v1] := by cases args; simp_all
  obtain ⟨rfl, rfl⟩ := trodVars_none hV
  obtain ⟨a0, rfl, rfl, rfl, w0⟩ := open_int Try.underlying2 (hval 0 2 v0 rfl rfl) h0
  obtain ⟨a1, rfl, rfl, rfl, w1⟩ := open_int Try.underlying2 (hval 1 2 v1 rfl rfl) h1
  refine (walk_QLaws a0 a1 w0 w1 W).mono fun e W' ⟨he, hb⟩ => ⟨_, he, ?_⟩
  exact law_post_any laid_out Try.underlying4 hW rfl ⟨rfl, rfl, rfl⟩ rfl (by kernel_rfl) hb

theorem over_QLaws : Rows.qLawsRow.holds Try.pinned (OpenSpec.ofChange Rows.qLawsSpec) :=
  OpenClaim.holds_of_wide 8 Try.f8 rfl rfl rfl rfl rfl rfl rfl ⟨rfl, rfl, rfl, rfl, rfl⟩ rfl rfl rfl rfl rfl (by kernel_rfl) Try.func8 (by kernel_rfl)
    (of_decide_eq_true (by kernel_rfl)) (by unfold Func.isWrapper; first | (rw [if_pos (by decide +kernel)]; kernel_rfl) | (rw [if_neg (by decide +kernel)]; exact ⟨rfl, rfl⟩))
    (fun os started H enc _ => lifted_QLaws os started H enc)

/-- the statement -/
theorem QLaws_holds : Rows.QLawsSaid := over_QLaws
#print axioms QLaws_holds

end Go.Proofs.Ytgbcefdlmockoaa
