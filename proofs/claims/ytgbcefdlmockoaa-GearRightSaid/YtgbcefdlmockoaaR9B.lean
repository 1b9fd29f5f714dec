/- Contracts of the reference of layer 9: what is right and safe; the least of some numbers; turned round. -/
import Derived.Test.YtgbcefdlmockoaaR9A
import Derived.Test.YtgbcefdlmockoaaPGenD
import Derived.Test.YtgbcefdlmockoaaFresh
namespace Go.Proofs.Ytgbcefdlmockoaa
open Go.RowKit
set_option linter.unusedVariables false
set_option linter.unusedSimpArgs false
attribute [local go_sem] ite_max ite_min vite_max vite_min ite_max0 vite_max0 ext_cell ext_frozen

set_option maxRecDepth 100000 in
set_option maxHeartbeats 2000000 in
theorem rright9_any (V A D L H : Int) (w : World) : Calls Try.prog 51 #[.agg #[.int .i64 V, .int .i64 A, .int .i64 D, .int .i64 L, .int .i64 H]] w fun e w' => e = .returned (.bool (rightB ⟨V, A, D, L, H⟩)) ∧ Below w.heap.size w w' := by
  go_enter Try.func51, Try.ntmps51
  go_wp2
  all_goals go_ret
  all_goals
    refine ⟨congrArg (fun b => Ending.returned (.bool b)) ?_, by (repeat' (first | (with_reducible exact Below.refl _ _) | (with_reducible assumption) | (with_reducible refine below_drewN ?_ _) | (with_reducible refine Below.drew ?_) | (with_reducible refine below_new ?_ (Nat.le_refl _) _) | (with_reducible refine Below.setCell ?_ ?_ _) | (with_reducible refine below_go ?_ (by assumption) (Nat.le_refl _)) | (simp; done) | (simp; omega) | omega))⟩
    rw [Bool.eq_iff_iff]
    simp only [rightB, decide_eq_true_eq, Bool.and_eq_true, Bool.false_eq_true, true_iff, false_iff]
    omega
theorem rright9_at (V A D L H : Int) (w : World) (b : Bool) (h : rightB ⟨V, A, D, L, H⟩ = b) : Calls Try.prog 51 #[.agg #[.int .i64 V, .int .i64 A, .int .i64 D, .int .i64 L, .int .i64 H]] w fun e w' => e = .returned (.bool b) ∧ Below w.heap.size w w' := by
  subst h
  exact rright9_any V A D L H w

set_option maxRecDepth 100000 in
set_option maxHeartbeats 2000000 in
theorem rsafe9_any (V A D L H p v : Int) (w : World) (hr : rightB ⟨V, A, D, L, H⟩ = true) (hp : -9223372036854775808 ≤ p ∧ p ≤ 9223372036854775807) :
    Calls Try.prog 52 #[.agg #[.int .i64 V, .int .i64 A, .int .i64 D, .int .i64 L, .int .i64 H], .agg #[.int .i64 p, .int .i64 v]] w fun e w' => e = .returned (.bool (safeB ⟨V, A, D, L, H⟩ ⟨p, v⟩)) ∧ Below w.heap.size w w' := by
  have hy := rightB_yes hr
  simp only at hy
  by_cases c1 : L ≤ p ∧ p ≤ H ∧ v ≤ 1048576 ∧ -1048576 ≤ v
  · by_cases c3 : 0 ≤ v
    · have hb := slw_bound v 0 D (by omega) (by omega) (by omega)
      have hw : safeB ⟨V, A, D, L, H⟩ ⟨p, v⟩ = decide (slw v 0 D ≤ H - p) := by
        rw [Bool.eq_iff_iff]
        simp only [safeB, decide_eq_true_eq]
        omega
      have HW := Lib.hid hw
      clear hw
      go_enter Try.func52, Try.ntmps52
      go_wp2_with fail
      refine wp_region_ext (by kernel_rfl) (by kernel_rfl) ?_
      repeat (go_big_quiet_step (first | (go_at_call 61; exact ext_same (rway9_any _ _ _ (by omega) (by omega)))))
      refine wpQuiet_nil ?_
      intro w1 hb1
      replace hb1 := ext_below hb1
      go_wp2
      go_ret
      rw [HW.out]
      exact ⟨rfl, by (repeat' (first | (with_reducible exact Below.refl _ _) | (with_reducible assumption) | (with_reducible refine below_drewN ?_ _) | (with_reducible refine Below.drew ?_) | (with_reducible refine below_new ?_ (Nat.le_refl _) _) | (with_reducible refine Below.setCell ?_ ?_ _) | (with_reducible refine below_go ?_ (by assumption) (Nat.le_refl _)) | (simp; done) | (simp; omega) | omega))⟩
    · have hb := slw_bound (-v) 0 D (by omega) (by omega) (by omega)
      have hw : safeB ⟨V, A, D, L, H⟩ ⟨p, v⟩ = decide (slw (-v) 0 D ≤ p - L) := by
        rw [Bool.eq_iff_iff]
        simp only [safeB, decide_eq_true_eq]
        omega
      have HW := Lib.hid hw
      clear hw
      go_enter Try.func52, Try.ntmps52
      go_wp2_with fail
      refine wp_region_ext (by kernel_rfl) (by kernel_rfl) ?_
      repeat (go_big_quiet_step (first | (go_at_call 61; exact ext_same (rway9_any _ _ _ (by omega) (by omega)))))
      refine wpQuiet_nil ?_
      intro w1 hb1
      replace hb1 := ext_below hb1
      go_wp2
      go_ret
      rw [HW.out]
      exact ⟨rfl, by (repeat' (first | (with_reducible exact Below.refl _ _) | (with_reducible assumption) | (with_reducible refine below_drewN ?_ _) | (with_reducible refine Below.drew ?_) | (with_reducible refine below_new ?_ (Nat.le_refl _) _) | (with_reducible refine Below.setCell ?_ ?_ _) | (with_reducible refine below_go ?_ (by assumption) (Nat.le_refl _)) | (simp; done) | (simp; omega) | omega))⟩
  · have hw : safeB ⟨V, A, D, L, H⟩ ⟨p, v⟩ = false := decide_eq_false (by simp only; omega)
    have HW := Lib.hid hw
    have hn : p < L ∨ (L ≤ p ∧ H < p) ∨ (L ≤ p ∧ p ≤ H ∧ 1048576 < v) ∨ (L ≤ p ∧ p ≤ H ∧ v ≤ 1048576 ∧ v < -1048576) := by omega
    clear hw c1
    rcases hn with hn | hn | hn | hn
    all_goals
      go_enter Try.func52, Try.ntmps52
      go_wp2
      go_ret
      rw [HW.out]
      exact ⟨rfl, by (repeat' (first | (with_reducible exact Below.refl _ _) | (with_reducible assumption) | (with_reducible refine below_drewN ?_ _) | (with_reducible refine Below.drew ?_) | (with_reducible refine below_new ?_ (Nat.le_refl _) _) | (with_reducible refine Below.setCell ?_ ?_ _) | (with_reducible refine below_go ?_ (by assumption) (Nat.le_refl _)) | (simp; done) | (simp; omega) | omega))⟩
theorem rsafe9_at (V A D L H p v : Int) (w : World) (hr : rightB ⟨V, A, D, L, H⟩ = true) (hp : -9223372036854775808 ≤ p ∧ p ≤ 9223372036854775807) (b : Bool) (h : safeB ⟨V, A, D, L, H⟩ ⟨p, v⟩ = b) :
    Calls Try.prog 52 #[.agg #[.int .i64 V, .int .i64 A, .int .i64 D, .int .i64 L, .int .i64 H], .agg #[.int .i64 p, .int .i64 v]] w fun e w' => e = .returned (.bool b) ∧ Below w.heap.size w w' := by
  subst h
  exact rsafe9_any V A D L H p v w hr hp



/-- the least of the first k of some numbers (of the first one, of none) -/
def lstK (zs : List Int) : Nat → Int
  | 0 => zs[0]?.getD 0
  | k + 1 => min (lstK zs k) (zs[k]?.getD 0)

set_option maxHeartbeats 2000000 in
theorem rleast_at (zs : List Int) (b off n cap : Nat) (w : World) (hlen : zs.length = n) (hpos : 0 < n) (hn : n ≤ cap) (hcap : cap ≤ 9223372036854775807) (hc : ∀ i, i < n → w.cell? ⟨b, off + i, none⟩ = some (.int .i64 (zs[i]?.getD 0))) :
    Calls Try.prog 63 #[.slice (some ⟨b, off, none⟩) n cap] w fun e w' => e = .returned (.int .i64 (lstK zs n)) ∧ w = w' := by
  have h0 := hc 0 hpos
  rw [Nat.add_zero] at h0
  obtain ⟨z0, hz0⟩ : ∃ z0, zs[0]?.getD 0 = z0 := ⟨_, rfl⟩
  rw [hz0] at h0
  have HC := Lib.hid hc
  have HZ := Lib.hid hz0
  have hposI : (0 : Int) < (n : Int) := by omega
  have hnI : (n : Int) ≤ 9223372036854775807 := by omega
  clear hc hz0 hlen
  go_enter Try.func63, Try.ntmps63
  go_wp2_with fail
  go_loop [3, 11] (fun u x => ∃ (m : Int) (k : Nat), k ≤ n ∧ u = .int .i64 m ∧ x = .int .i64 k ∧ Hid (lstK zs k = m)) (fun _ x => n - (intOf x).toNat)
  case atStart => exact ⟨z0, 0, by omega, rfl, rfl, HZ⟩
  case round =>
    obtain ⟨m, k, hk, rfl, rfl, HM⟩ := hrel
    by_cases hlt : k < n
    · obtain ⟨z, hz⟩ : ∃ z, zs[k]?.getD 0 = z := ⟨_, rfl⟩
      have hcell := HC.out k hlt
      rw [hz] at hcell
      have hm2 : lstK zs (k + 1) = min m z := by
        show min (lstK zs k) (zs[k]?.getD 0) = min m z
        rw [HM.out, hz]
      have hk0 : (0 : Int) ≤ (k : Int) := by omega
      have hkn : (k : Int) < (n : Int) := by omega
      clear hz
      by_cases hzm : z < m
      · have h3 : lstK zs (k + 1) = z := by rw [hm2]; omega
        have H3 := Lib.hid h3
        clear hm2 h3
        go_wp2
        go_round
        case rel => exact ⟨z, k + 1, by omega, rfl, by go_num, H3⟩
        case measure => simp [intOf]; omega
      · have h3 : lstK zs (k + 1) = m := by rw [hm2]; omega
        have H3 := Lib.hid h3
        clear hm2 h3
        go_wp2
        go_round
        case rel => exact ⟨m, k + 1, by omega, rfl, by go_num, H3⟩
        case measure => simp [intOf]; omega
    · obtain rfl : n = k := by omega
      go_wp2
      go_ret
      rw [HM.out]
      exact ⟨rfl, rfl⟩

theorem least2 (a b : Int) : lstK [a, b] 2 = min a b := by
  show min (min a a) b = min a b
  omega
theorem least3 (a b c : Int) : lstK [a, b, c] 3 = min (min a b) c := by
  show min (min (min a a) b) c = min (min a b) c
  omega

set_option maxRecDepth 100000 in
set_option maxHeartbeats 2000000 in
theorem rturned_any (V A D L H p v : Int) (w : World) (hb : -9223372036854775807 ≤ L ∧ L ≤ 9223372036854775807 ∧ -9223372036854775807 ≤ H ∧ H ≤ 9223372036854775807 ∧ -9223372036854775807 ≤ p ∧ p ≤ 9223372036854775807 ∧ -9223372036854775807 ≤ v ∧ v ≤ 9223372036854775807) :
    Calls Try.prog 62 #[.agg #[.int .i64 V, .int .i64 A, .int .i64 D, .int .i64 L, .int .i64 H], .agg #[.int .i64 p, .int .i64 v]] w fun e w' => e = .returned (.tuple #[.agg #[.int .i64 V, .int .i64 A, .int .i64 D, .int .i64 (-H), .int .i64 (-L)], .agg #[.int .i64 (-p), .int .i64 (-v)]]) ∧ Below w.heap.size w w' := by
  go_enter Try.func62, Try.ntmps62
  go_wp2_with fail
  go_region
  go_wp2
  exact bodyPost_ret (v := .tuple #[.agg #[.int .i64 V, .int .i64 A, .int .i64 D, .int .i64 (-H), .int .i64 (-L)], .agg #[.int .i64 (-p), .int .i64 (-v)]]) (by simp [results, Try.results62, go_sem]) rfl ⟨rfl, by (repeat' (first | (with_reducible exact Below.refl _ _) | (with_reducible assumption) | (with_reducible refine below_drewN ?_ _) | (with_reducible refine Below.drew ?_) | (with_reducible refine below_new ?_ (Nat.le_refl _) _) | (with_reducible refine Below.setCell ?_ ?_ _) | (with_reducible refine below_go ?_ (by assumption) (Nat.le_refl _)) | (simp; done) | (simp; omega) | omega))⟩

end Go.Proofs.Ytgbcefdlmockoaa
