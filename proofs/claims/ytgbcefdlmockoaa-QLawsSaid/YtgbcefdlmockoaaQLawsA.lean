/- Layer 1: QLaws, of numbers that cannot be divided, or by a number below nothing. -/
import Derived.Test.YtgbcefdlmockoaaQG
namespace Go.Proofs.Ytgbcefdlmockoaa
open Go.ChangeShapes Go.WideShapes Go.ChangeAt Go.RowKit
set_option linter.unusedVariables false
set_option linter.unusedSimpArgs false
attribute [local go_sem] ite_max ite_min vite_max vite_min ext_cell ext_frozen

theorem div_parts (a b : Int) : a.tdiv b * b + a.tmod b = a ∧ (0 ≤ a → 0 ≤ a.tmod b ∧ a.tmod b ≤ a) ∧ (a ≤ 0 → a ≤ a.tmod b ∧ a.tmod b ≤ 0) := by
  have h3 : (a.tmod b).natAbs = a.natAbs % b.natAbs := Int.natAbs_tmod ..
  have h4 := Nat.mod_le a.natAbs b.natAbs
  have h5 : 0 ≤ a → 0 ≤ a.tmod b := fun h => Int.tmod_nonneg b h
  have h6 : a ≤ 0 → a.tmod b ≤ 0 := fun h => by
    have := Int.tmod_nonneg b (show 0 ≤ -a by omega)
    rw [Int.neg_tmod] at this
    omega
  refine ⟨?_, fun h => ?_, fun h => ?_⟩
  · rw [Int.mul_comm]
    exact Int.mul_tdiv_add_tmod a b
  · have := h5 h
    omega
  · have := h6 h
    omega
theorem div_floor (a b : Int) (hb : 0 < b) : a / b = a.tdiv b ∨ a / b = a.tdiv b - 1 := by
  by_cases h : 0 ≤ a
  · exact .inl (Int.tdiv_eq_ediv_of_nonneg h).symm
  · have h1 := neg_quo (-a) b hb
    have h2 : a.tdiv b = -((-a) / b) := by
      rw [← Int.tdiv_eq_ediv_of_nonneg (show 0 ≤ -a by omega), Int.neg_tdiv, Int.neg_neg]
    rw [Int.neg_neg] at h1
    rw [h1, h2]
    split
    · exact .inl rfl
    · exact .inr rfl

set_option maxRecDepth 100000 in
set_option maxHeartbeats 4000000 in
theorem qlaws_nodiv (a b d x : Int) (w : World) (ha : -9223372036854775808 ≤ a ∧ a ≤ 9223372036854775807) (hb : -9223372036854775808 ≤ b ∧ b ≤ 9223372036854775807) (hd : divV a b = d) (hx : divE a b = x) (hx0 : (x == 0) = false) (hb0 : b ≤ 0) :
    Calls Try.prog 8 #[.int .i64 a, .int .i64 b] w fun e w' => e = .returned (.bool true) ∧ Below w.heap.size w w' := by
  have HD1 := Lib.hid hd
  have HD2 := Lib.hid hx
  clear hd hx
  obtain ⟨v, hv⟩ : ∃ v, fitV (a + b) = v := ⟨_, rfl⟩
  obtain ⟨o, ho⟩ : ∃ o, fitB (a + b) = o := ⟨_, rfl⟩
  have HV := Lib.hid hv
  have HO := Lib.hid ho
  have hsum : o = true → v = a + b ∧ -9223372036854775808 ≤ v ∧ v ≤ 9223372036854775807 := fun h => by
    rw [h] at ho
    have hf : -9223372036854775808 ≤ a + b ∧ a + b ≤ 9223372036854775807 := of_decide_eq_true ho
    rw [fitV_yes hf] at hv
    omega
  clear hv ho
  cases o
  · clear hsum
    go_enter Try.func8, Try.ntmps8
    go_wp2_with fail
    refine (awake1 _).mono ?_
    rintro e w1 ⟨rfl, hb1⟩
    go_wp2_with fail
    refine (qadd_at _ _ v _ _ ha hb HV.out HO.out).mono ?_
    rintro e w2 ⟨rfl, rfl⟩
    go_wp2_with fail
    refine (qdiv_at _ _ d x _ ha hb HD1.out HD2.out).mono ?_
    rintro e w2 ⟨rfl, rfl⟩
    go_wp2
    all_goals go_ret
    all_goals exact ⟨rfl, by (repeat' (first | (with_reducible exact Below.refl _ _) | (with_reducible assumption) | (with_reducible refine below_drewN ?_ _) | (with_reducible refine Below.drew ?_) | (with_reducible refine below_new ?_ (Nat.le_refl _) _) | (with_reducible refine Below.setCell ?_ ?_ _) | (with_reducible refine below_go ?_ (by assumption) (Nat.le_refl _)) | (simp; done) | (simp; omega) | omega))⟩
  · obtain ⟨hva, hvb⟩ := hsum rfl
    have hs1 : fitV (v - b) = a := by rw [hva, Int.add_sub_cancel]; exact fitV_yes ha
    have hs2 : fitB (v - b) = true := by rw [hva, Int.add_sub_cancel]; exact fitB_yes ha
    have HS1 := Lib.hid hs1
    have HS2 := Lib.hid hs2
    clear hs1 hs2 hva hsum
    go_enter Try.func8, Try.ntmps8
    go_wp2_with fail
    refine (awake1 _).mono ?_
    rintro e w1 ⟨rfl, hb1⟩
    go_wp2_with fail
    refine (qadd_at _ _ v _ _ ha hb HV.out HO.out).mono ?_
    rintro e w2 ⟨rfl, rfl⟩
    go_wp2_with fail
    refine (qsub_at _ _ a true _ (by omega) hb HS1.out HS2.out).mono ?_
    rintro e w2 ⟨rfl, rfl⟩
    go_wp2_with fail
    refine (qdiv_at _ _ d x _ ha hb HD1.out HD2.out).mono ?_
    rintro e w2 ⟨rfl, rfl⟩
    go_wp2
    all_goals go_ret
    all_goals exact ⟨rfl, by (repeat' (first | (with_reducible exact Below.refl _ _) | (with_reducible assumption) | (with_reducible refine below_drewN ?_ _) | (with_reducible refine Below.drew ?_) | (with_reducible refine below_new ?_ (Nat.le_refl _) _) | (with_reducible refine Below.setCell ?_ ?_ _) | (with_reducible refine below_go ?_ (by assumption) (Nat.le_refl _)) | (simp; done) | (simp; omega) | omega))⟩

set_option maxRecDepth 100000 in
set_option maxHeartbeats 4000000 in
theorem qlaws_neg (a b : Int) (w : World) (ha : -9223372036854775808 ≤ a ∧ a ≤ 9223372036854775807) (hb : -9223372036854775808 ≤ b ∧ b ≤ 9223372036854775807) (hb0 : b ≠ 0) (hov : ¬ (a = -9223372036854775808 ∧ b = -1)) (hbn : b < 0) :
    Calls Try.prog 8 #[.int .i64 a, .int .i64 b] w fun e w' => e = .returned (.bool true) ∧ Below w.heap.size w w' := by
  have hp := div_parts a b
  have hq := tdiv_bd a b ha hb0 hov
  have e0 : divE a b = 0 := by unfold divE; rw [if_neg hb0, if_neg hov]
  have e1 : divV a b = a.tdiv b := by unfold divV; rw [if_pos e0]
  have e2 : modE b = 0 := by unfold modE; rw [if_neg hb0]
  have e3 : modV a b = a.tmod b := by unfold modV; rw [if_neg hb0]
  obtain ⟨d, hd⟩ : ∃ d, a.tdiv b = d := ⟨_, rfl⟩
  obtain ⟨r, hr⟩ : ∃ r, a.tmod b = r := ⟨_, rfl⟩
  obtain ⟨p, hpp⟩ : ∃ p, d * b = p := ⟨_, rfl⟩
  rw [hd, hr, hpp] at hp
  rw [hd] at hq e1
  rw [hr] at e3
  have HD1 := Lib.hid e1
  have HD2 := Lib.hid e0
  have HR1 := Lib.hid e3
  have HR2 := Lib.hid e2
  have hpb : -9223372036854775808 ≤ p ∧ p ≤ 9223372036854775807 := by omega
  have hrb : -9223372036854775808 ≤ r ∧ r ≤ 9223372036854775807 := by omega
  have hp1 : fitV (d * b) = p := by rw [hpp]; exact fitV_yes hpb
  have hp2 : fitB (d * b) = true := by rw [hpp]; exact fitB_yes hpb
  have HP1 := Lib.hid hp1
  have HP2 := Lib.hid hp2
  have ha1 : fitV (p + r) = a := by rw [hp.1]; exact fitV_yes ha
  have ha2 : fitB (p + r) = true := by rw [hp.1]; exact fitB_yes ha
  have HA1 := Lib.hid ha1
  have HA2 := Lib.hid ha2
  have HPP := Lib.hid hp
  have hrz : (r != 0) = false ∨ ((r != 0) = true ∧ decide (r < 0) = decide (a < 0)) := by
    by_cases z : r = 0
    · exact .inl (by simp [z])
    · refine .inr ⟨by simpa using z, ?_⟩
      rw [decide_eq_decide]
      omega
  clear e0 e1 e2 e3 hr hpp hp1 hp2 ha1 ha2 hp
  clear hov hd hb0
  obtain ⟨A, hA⟩ : ∃ A, decide (a < 0) = A := ⟨_, rfl⟩
  obtain ⟨B, hB⟩ : ∃ B, decide (r < 0) = B := ⟨_, rfl⟩
  have hrz2 : (r != 0) = false ∨ ((r != 0) = true ∧ B = A) := by
    rw [← hA, ← hB]
    exact hrz
  clear hrz
  rcases hrz2 with hrz | ⟨hrz, rfl⟩
  all_goals
    obtain ⟨v, hv⟩ : ∃ v, fitV (a + b) = v := ⟨_, rfl⟩
    obtain ⟨o, ho⟩ : ∃ o, fitB (a + b) = o := ⟨_, rfl⟩
    have HV := Lib.hid hv
    have HO := Lib.hid ho
    have hsum : o = true → v = a + b ∧ -9223372036854775808 ≤ v ∧ v ≤ 9223372036854775807 := fun h => by
      rw [h] at ho
      have hf : -9223372036854775808 ≤ a + b ∧ a + b ≤ 9223372036854775807 := of_decide_eq_true ho
      rw [fitV_yes hf] at hv
      omega
    clear hv ho
    cases o
    · clear hsum
      go_enter Try.func8, Try.ntmps8
      go_wp2_with fail
      refine (awake1 _).mono ?_
      rintro e w1 ⟨rfl, hb1⟩
      go_wp2_with fail
      refine (qadd_at _ _ v _ _ ha hb HV.out HO.out).mono ?_
      rintro e w2 ⟨rfl, rfl⟩
      go_wp2_with fail
      refine (qdiv_at _ _ d 0 _ ha hb HD1.out HD2.out).mono ?_
      rintro e w2 ⟨rfl, rfl⟩
      go_wp2_with fail
      refine (qmod_at _ _ r 0 _ ha hb HR1.out HR2.out).mono ?_
      rintro e w2 ⟨rfl, rfl⟩
      go_wp2_with fail
      refine (qmul_at _ _ p true _ (by omega) hb HP1.out HP2.out).mono ?_
      rintro e w2 ⟨rfl, rfl⟩
      go_wp2_with fail
      refine (qadd_at _ _ a true _ (by omega) (by omega) HA1.out HA2.out).mono ?_
      rintro e w2 ⟨rfl, rfl⟩
      go_wp2
      all_goals go_ret
      all_goals exact ⟨rfl, by (repeat' (first | (with_reducible exact Below.refl _ _) | (with_reducible assumption) | (with_reducible refine below_drewN ?_ _) | (with_reducible refine Below.drew ?_) | (with_reducible refine below_new ?_ (Nat.le_refl _) _) | (with_reducible refine Below.setCell ?_ ?_ _) | (with_reducible refine below_go ?_ (by assumption) (Nat.le_refl _)) | (simp; done) | (simp; omega) | omega))⟩
    · obtain ⟨hva, hvb⟩ := hsum rfl
      have hs1 : fitV (v - b) = a := by rw [hva, Int.add_sub_cancel]; exact fitV_yes ha
      have hs2 : fitB (v - b) = true := by rw [hva, Int.add_sub_cancel]; exact fitB_yes ha
      have HS1 := Lib.hid hs1
      have HS2 := Lib.hid hs2
      clear hs1 hs2 hva hsum
      go_enter Try.func8, Try.ntmps8
      go_wp2_with fail
      refine (awake1 _).mono ?_
      rintro e w1 ⟨rfl, hb1⟩
      go_wp2_with fail
      refine (qadd_at _ _ v _ _ ha hb HV.out HO.out).mono ?_
      rintro e w2 ⟨rfl, rfl⟩
      go_wp2_with fail
      refine (qsub_at _ _ a true _ (by omega) hb HS1.out HS2.out).mono ?_
      rintro e w2 ⟨rfl, rfl⟩
      go_wp2_with fail
      refine (qdiv_at _ _ d 0 _ ha hb HD1.out HD2.out).mono ?_
      rintro e w2 ⟨rfl, rfl⟩
      go_wp2_with fail
      refine (qmod_at _ _ r 0 _ ha hb HR1.out HR2.out).mono ?_
      rintro e w2 ⟨rfl, rfl⟩
      go_wp2_with fail
      refine (qmul_at _ _ p true _ (by omega) hb HP1.out HP2.out).mono ?_
      rintro e w2 ⟨rfl, rfl⟩
      go_wp2_with fail
      refine (qadd_at _ _ a true _ (by omega) (by omega) HA1.out HA2.out).mono ?_
      rintro e w2 ⟨rfl, rfl⟩
      go_wp2
      all_goals go_ret
      all_goals exact ⟨rfl, by (repeat' (first | (with_reducible exact Below.refl _ _) | (with_reducible assumption) | (with_reducible refine below_drewN ?_ _) | (with_reducible refine Below.drew ?_) | (with_reducible refine below_new ?_ (Nat.le_refl _) _) | (with_reducible refine Below.setCell ?_ ?_ _) | (with_reducible refine below_go ?_ (by assumption) (Nat.le_refl _)) | (simp; done) | (simp; omega) | omega))⟩

end Go.Proofs.Ytgbcefdlmockoaa
