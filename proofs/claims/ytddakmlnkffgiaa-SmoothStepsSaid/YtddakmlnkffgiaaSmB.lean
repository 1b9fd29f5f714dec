/- Contracts of layer 10: the setpoint; are all places one? -/
import Derived.Test.YtddakmlnkffgiaaSmA
namespace Go.Proofs.Ytddakmlnkffgiaa
open Go.RowKit
set_option linter.unusedVariables false
set_option linter.unusedSimpArgs false
attribute [local go_sem] ite_max ite_min vite_max vite_min ext_cell ext_frozen

set_option maxHeartbeats 1000000 in
theorem sm_right_nil (a : Option Addr) (cap : Nat) (w : World) : Calls Try.prog 50 #[.agg #[.slice a 0 cap]] w fun e w' => e = .returned (.bool false) ∧ Below w.heap.size w w' := by
  go_enter Try.func50, Try.ntmps50
  go_wp2
  go_ret
  exact ⟨rfl, by (repeat' (first | (with_reducible exact Below.refl _ _) | (with_reducible assumption) | (with_reducible refine below_drewN ?_ _) | (with_reducible refine Below.drew ?_) | (with_reducible refine below_new ?_ (Nat.le_refl _) _) | (with_reducible refine Below.setCell ?_ ?_ _) | (with_reducible refine below_go ?_ (by assumption) (Nat.le_refl _)) | (simp; done) | (simp; omega) | omega))⟩

theorem rightW_yes {zs : List Int} {n : Nat} (h : rightW zs n = true) : 1 ≤ n ∧ n ≤ 16 ∧ ∀ i, i < n → -2199023255552 ≤ zs[i]?.getD 0 ∧ zs[i]?.getD 0 ≤ 2199023255552 := by
  simp only [rightW, Bool.and_eq_true, decide_eq_true_eq, Bool.not_eq_true'] at h
  refine ⟨h.1.1, h.1.2, fun i hi => ?_⟩
  have := anyK_no _ _ _ h.2 i hi
  simp only [Bool.not_eq_false'] at this
  exact plB_yes this
theorem rightW_mk {zs : List Int} {n : Nat} (h1 : 1 ≤ n ∧ n ≤ 16) (h : ∀ i, i < n → -2199023255552 ≤ zs[i]?.getD 0 ∧ zs[i]?.getD 0 ≤ 2199023255552) : rightW zs n = true := by
  simp only [rightW, Bool.and_eq_true, decide_eq_true_eq, Bool.not_eq_true']
  refine ⟨h1, anyK_of _ _ _ fun i hi => ?_⟩
  have : plB (zs[i]?.getD 0) = true := decide_eq_true (h i hi)
  simp [this]

/-- the sum of the first k numbers -/
def sumK (zs : List Int) : Nat → Int
  | 0 => 0
  | k + 1 => sumK zs k + zs[k]?.getD 0
theorem sumK_bd (zs : List Int) (n k : Nat) (h : ∀ i, i < n → -2199023255552 ≤ zs[i]?.getD 0 ∧ zs[i]?.getD 0 ≤ 2199023255552) (hk : k ≤ n) : -2199023255552 * (k : Int) ≤ sumK zs k ∧ sumK zs k ≤ 2199023255552 * (k : Int) := by
  induction k with
  | zero => exact ⟨by show -2199023255552 * (0 : Int) ≤ 0; omega, by show (0 : Int) ≤ 2199023255552 * 0; omega⟩
  | succ k ih =>
    have h1 := ih (by omega)
    have h2 := h k (by omega)
    have h3 : sumK zs (k + 1) = sumK zs k + zs[k]?.getD 0 := rfl
    rw [h3]
    omega

set_option maxRecDepth 100000 in
set_option maxHeartbeats 2000000 in
theorem sm_out_at (zs : List Int) (b off n cap : Nat) (x : Int) (w : World) (hn : n ≤ cap) (hcap : cap ≤ 9223372036854775807) (hb : b < w.heap.size) (hc : ∀ i, i < n → w.cell? ⟨b, off + i, none⟩ = some (.int .i64 (zs[i]?.getD 0))) (hr : rightW zs n = true) (hx : sumK zs n = x) :
    Calls Try.prog 44 #[.agg #[.slice (some ⟨b, off, none⟩) n cap]] w fun e w' => e = .returned (.int .i64 x) ∧ Below w.heap.size w w' := by
  have hy := rightW_yes hr
  have HY := Lib.hid hy.2.2
  have hnb : 1 ≤ n ∧ n ≤ 16 := ⟨hy.1, hy.2.1⟩
  have HC := Lib.hid hc
  have HR := Lib.hid hr
  have HX := Lib.hid hx
  clear hc hr hx hy
  go_enter Try.func44, Try.ntmps44
  go_wp2_with fail
  refine (sm_right_at zs b off n cap true _ hn hcap (by simp; omega) (fun i hi => ?_) HR.out).mono ?_
  · have := HC.out i hi
    go_simp
  rintro e w1 ⟨rfl, hb1⟩
  obtain ⟨hb1c, hb1f⟩ := bcell hb1
  have hb1z := hb1.size
  have hb1c0 := fun o => hb1c (w.heap.size) o (by first | (simp; done) | (simp; omega) | (simp at *; omega) | omega)
  have hb1f0 := fun o => hb1f (w.heap.size) o (by first | (simp; done) | (simp; omega) | (simp at *; omega) | omega)
  have hb1l0 := below_lt (b := w.heap.size) hb1 (by first | (simp; done) | (simp; omega) | (simp at *; omega) | omega)
  have hb1c1 := fun o => hb1c (b) o (by first | (simp; done) | (simp; omega) | (simp at *; omega) | omega)
  have hb1f1 := fun o => hb1f (b) o (by first | (simp; done) | (simp; omega) | (simp at *; omega) | omega)
  have hb1l1 := below_lt (b := b) hb1 (by first | (simp; done) | (simp; omega) | (simp at *; omega) | omega)
  go_wp2_with fail
  have hB1 : Below w.heap.size w w1 := by (repeat' (first | (with_reducible exact Below.refl _ _) | (with_reducible assumption) | (with_reducible refine below_drewN ?_ _) | (with_reducible refine Below.drew ?_) | (with_reducible refine below_new ?_ (Nat.le_refl _) _) | (with_reducible refine Below.setCell ?_ ?_ _) | (with_reducible refine below_go ?_ (by assumption) (Nat.le_refl _)) | (simp; done) | (simp; omega) | omega))
  have HC1 : Hid (∀ i, i < n → w1.cell? ⟨b, off + i, none⟩ = some (.int .i64 (zs[i]?.getD 0))) := fun i hi => by rw [hB1.cell hb]; exact HC.out i hi
  clear hb1c hb1f hb1z hb1c0 hb1f0 hb1l0 hb1c1 hb1f1 hb1l1 hb1 HC
  go_loop [3, 12] (fun u v => ∃ k : Nat, k ≤ n ∧ u = .int .i64 (sumK zs k) ∧ v = .int .i64 k) (fun _ v => n - (intOf v).toNat)
  case atStart => exact ⟨0, by omega, rfl, rfl⟩
  case round =>
    obtain ⟨k, hk, rfl, rfl⟩ := hrel
    by_cases hlt : k < n
    · obtain ⟨z, hz⟩ : ∃ z, zs[k]?.getD 0 = z := ⟨_, rfl⟩
      have hcell := HC1.out k hlt
      have hzb := HY.out k hlt
      rw [hz] at hcell hzb
      have hk0 : (0 : Int) ≤ (k : Int) := by omega
      have hkn : (k : Int) < (n : Int) := by omega
      have hsb := sumK_bd zs n k HY.out (by omega)
      have hs : sumK zs (k + 1) = sumK zs k + z := by rw [← hz]; rfl
      have HS := Lib.hid hs
      clear hz hs
      go_wp2
      go_round
      case rel => exact ⟨k + 1, by omega, by rw [HS.out], by go_num⟩
      case measure => simp [intOf]; omega
    · obtain rfl : k = n := by omega
      go_wp2
      go_ret
      rw [HX.out]
      exact ⟨rfl, hB1⟩

set_option maxHeartbeats 1000000 in
theorem sm_rest1_at (z z0 : Int) (B b off n cap : Nat) (w : World) (hpos : 0 < n) (hn : n ≤ cap) (hcap : cap ≤ 9223372036854775807) (hB : w.cell? ⟨B, 0, none⟩ = some (.slice (some ⟨b, off, none⟩) n cap)) (h0 : w.cell? ⟨b, off, none⟩ = some (.int .i64 z0)) :
    Calls Try.prog 66 #[.int .i64 z, .pointer (some ⟨B, 0, none⟩)] w fun e w' => e = .returned (.bool (z != z0)) ∧ w = w' := by
  have hposI : (0 : Int) < (n : Int) := by omega
  go_enter Try.func66, Try.ntmps66
  go_wp2
  go_ret
  exact ⟨rfl, rfl⟩

/-- are all places one? -/
def restW (zs : List Int) (n : Nat) : Bool := rightW zs n && !(anyK (fun z => z != zs[0]?.getD 0) zs n)

set_option maxRecDepth 100000 in
set_option maxHeartbeats 2000000 in
theorem sm_rest_at (zs : List Int) (b off n cap : Nat) (r : Bool) (w : World) (hn : n ≤ cap) (hcap : cap ≤ 9223372036854775807) (hb : b < w.heap.size) (hc : ∀ i, i < n → w.cell? ⟨b, off + i, none⟩ = some (.int .i64 (zs[i]?.getD 0))) (hr : restW zs n = r) :
    Calls Try.prog 47 #[.agg #[.slice (some ⟨b, off, none⟩) n cap]] w fun e w' => e = .returned (.bool r) ∧ Below w.heap.size w w' := by
  have HC := Lib.hid hc
  clear hc
  cases hR : rightW zs n
  · have hr2 : r = false := by rw [← hr]; unfold restW; rw [hR]; rfl
    subst hr2
    have HR := Lib.hid hR
    clear hR hr
    go_enter Try.func47, Try.ntmps47
    go_wp2_with fail
    refine (sm_right_at zs b off n cap false _ hn hcap (by simp; omega) (fun i hi => ?_) HR.out).mono ?_
    · have := HC.out i hi
      go_simp
    rintro e w1 ⟨rfl, hb1⟩
    go_wp2
    go_ret
    exact ⟨rfl, by (repeat' (first | (with_reducible exact Below.refl _ _) | (with_reducible assumption) | (with_reducible refine below_drewN ?_ _) | (with_reducible refine Below.drew ?_) | (with_reducible refine below_new ?_ (Nat.le_refl _) _) | (with_reducible refine Below.setCell ?_ ?_ _) | (with_reducible refine below_go ?_ (by assumption) (Nat.le_refl _)) | (simp; done) | (simp; omega) | omega))⟩
  · have hy := rightW_yes hR
    have hnb : 1 ≤ n ∧ n ≤ 16 := ⟨hy.1, hy.2.1⟩
    obtain ⟨z0, hz0⟩ : ∃ z0, zs[0]?.getD 0 = z0 := ⟨_, rfl⟩
    obtain ⟨q, hq⟩ : ∃ q, anyK (fun z => z != z0) zs n = q := ⟨_, rfl⟩
    have hr2 : (!q) = r := by rw [← hr, ← hq, ← hz0]; unfold restW; rw [hR]; rfl
    have h0 := HC.out 0 (by omega)
    rw [hz0, Nat.add_zero] at h0
    have HQ := Lib.hid hq
    have HR := Lib.hid hR
    subst hr2
    clear hR hr hy hq hz0
    go_enter Try.func47, Try.ntmps47
    go_wp2_with fail
    refine (sm_right_at zs b off n cap true _ hn hcap (by simp; omega) (fun i hi => ?_) HR.out).mono ?_
    · have := HC.out i hi
      go_simp
    rintro e w1 ⟨rfl, hb1⟩
    obtain ⟨hb1c, hb1f⟩ := bcell hb1
    have hb1z := hb1.size
    have hb1c0 := fun o => hb1c (w.heap.size) o (by first | (simp; done) | (simp; omega) | (simp at *; omega) | omega)
    have hb1f0 := fun o => hb1f (w.heap.size) o (by first | (simp; done) | (simp; omega) | (simp at *; omega) | omega)
    have hb1l0 := below_lt (b := w.heap.size) hb1 (by first | (simp; done) | (simp; omega) | (simp at *; omega) | omega)
    have hb1c1 := fun o => hb1c (b) o (by first | (simp; done) | (simp; omega) | (simp at *; omega) | omega)
    have hb1f1 := fun o => hb1f (b) o (by first | (simp; done) | (simp; omega) | (simp at *; omega) | omega)
    have hb1l1 := below_lt (b := b) hb1 (by first | (simp; done) | (simp; omega) | (simp at *; omega) | omega)
    have hB1 : Below w.heap.size w w1 := by (repeat' (first | (with_reducible exact Below.refl _ _) | (with_reducible assumption) | (with_reducible refine below_drewN ?_ _) | (with_reducible refine Below.drew ?_) | (with_reducible refine below_new ?_ (Nat.le_refl _) _) | (with_reducible refine Below.setCell ?_ ?_ _) | (with_reducible refine below_go ?_ (by assumption) (Nat.le_refl _)) | (simp; done) | (simp; omega) | omega))
    go_wp2_with fail
    refine (sm_contains_at 66 #[.pointer (some ⟨w.heap.size, 0, none⟩)] (fun z => z != z0) zs b off n cap q _ cf_rest1 (fun v => sm_rest1_at v z0 _ b off n cap _ (by omega) hn hcap ?_ ?_) hn hcap (fun i hi => ?_) HQ.out).mono ?_
    · go_simp
    · go_simp
    · rw [hB1.cell hb]
      exact HC.out i hi
    rintro e w2 ⟨rfl, rfl⟩
    go_wp2
    go_ret
    exact ⟨rfl, by (repeat' (first | (with_reducible exact Below.refl _ _) | (with_reducible assumption) | (with_reducible refine below_drewN ?_ _) | (with_reducible refine Below.drew ?_) | (with_reducible refine below_new ?_ (Nat.le_refl _) _) | (with_reducible refine Below.setCell ?_ ?_ _) | (with_reducible refine below_go ?_ (by assumption) (Nat.le_refl _)) | (simp; done) | (simp; omega) | omega))⟩

end Go.Proofs.Ytddakmlnkffgiaa
