/- Contracts of layer 9: what is wanted to come to a place; is it landed? -/
import Derived.Test.YtmlndgmkjdkcfaaGenC
namespace Go.Proofs.Ytmlndgmkjdkcfaa
open Go.RowKit
set_option linter.unusedVariables false
set_option linter.unusedSimpArgs false
attribute [local go_sem] ite_max ite_min vite_max vite_min ite_max0 vite_max0 ext_cell ext_frozen

theorem gaway_at (way v : Int) (w : World) (b : Bool) (h : awayB way v = b) : Calls Try.prog 55 #[.int .i64 way, .int .i64 v] w fun e w' => e = .returned (.bool b) ∧ w = w' := by
  subst h
  exact gaway_any way v w

set_option maxRecDepth 100000 in
set_option maxHeartbeats 2000000 in
theorem gto_yes (V A D L H p v t s : Int) (w : World) (hk : okB ⟨V, A, D, L, H⟩ ⟨p, v⟩ = true) :
    Calls Try.prog 30 #[.agg #[.int .i64 V, .int .i64 A, .int .i64 D, .int .i64 L, .int .i64 H], .agg #[.int .i64 p, .int .i64 v], .int .i64 t, .int .i64 s] w fun e w' => e = .returned (.int .i64 (toG ⟨V, A, D, L, H⟩ ⟨p, v⟩ t s)) ∧ Below w.heap.size w w' := by
  have hy := rightB_yes (okB_yes hk).1
  have hs := safeB_yes (okB_yes hk).2
  have hcl := clampL_bd _ t (okB_yes hk).1
  simp only at hy hs hcl
  have hp1 : L ≤ p ∧ p ≤ H := by omega
  have HK := Lib.hid hk
  have hz : toG ⟨V, A, D, L, H⟩ ⟨p, v⟩ t s = (if clampL ⟨V, A, D, L, H⟩ t - p = 0 then 0 else if awayB (clampL ⟨V, A, D, L, H⟩ t - p) v then 0 else towardI (clampL ⟨V, A, D, L, H⟩ t - p) (min (rch (max (clampL ⟨V, A, D, L, H⟩ t - p) (-(clampL ⟨V, A, D, L, H⟩ t - p))) D) (spd s))) := rfl
  obtain ⟨way, hway⟩ : ∃ way, clampL ⟨V, A, D, L, H⟩ t - p = way := ⟨_, rfl⟩
  rw [hway] at hz
  have hwb : -2199023255552 ≤ way ∧ way ≤ 2199023255552 := by omega
  have hway' : max L (min H t) - p = way := hway
  clear hs hk hcl hway
  have HZ := Lib.hid hz
  clear hz
  by_cases c0 : way = 0
  · have hz2 : toG ⟨V, A, D, L, H⟩ ⟨p, v⟩ t s = 0 := by rw [HZ.out]; simp [c0]
    have HZ2 := Lib.hid hz2
    subst c0
    clear hz2
    go_enter Try.func30, Try.ntmps30
    go_wp2_with fail
    refine (gok_at _ _ _ _ _ _ _ _ (by omega) _ HK.out).mono ?_
    rintro e w1 ⟨rfl, hb1⟩
    obtain ⟨hb1c, hb1f⟩ := bcell hb1
    have hb1z := hb1.size
    have hb1c0 := fun o => hb1c (w.heap.size) o (by first | (simp; done) | (simp; omega) | (simp at *; omega) | omega)
    have hb1f0 := fun o => hb1f (w.heap.size) o (by first | (simp; done) | (simp; omega) | (simp at *; omega) | omega)
    have hb1l0 := below_lt (b := w.heap.size) hb1 (by first | (simp; done) | (simp; omega) | (simp at *; omega) | omega)
    have hb1c1 := fun o => hb1c (w.heap.size + 1) o (by first | (simp; done) | (simp; omega) | (simp at *; omega) | omega)
    have hb1f1 := fun o => hb1f (w.heap.size + 1) o (by first | (simp; done) | (simp; omega) | (simp at *; omega) | omega)
    have hb1l1 := below_lt (b := w.heap.size + 1) hb1 (by first | (simp; done) | (simp; omega) | (simp at *; omega) | omega)
    go_wp2
    go_ret
    rw [HZ2.out]
    exact ⟨rfl, by (repeat' (first | (with_reducible exact Below.refl _ _) | (with_reducible assumption) | (with_reducible refine below_drewN ?_ _) | (with_reducible refine Below.drew ?_) | (with_reducible refine below_new ?_ (Nat.le_refl _) _) | (with_reducible refine Below.setCell ?_ ?_ _) | (with_reducible refine below_go ?_ (by assumption) (Nat.le_refl _)) | (simp; done) | (simp; omega) | omega))⟩
  · have d0 : (way == 0) = false := by simpa using c0
    cases ha : awayB way v
    · have hz2 : toG ⟨V, A, D, L, H⟩ ⟨p, v⟩ t s = towardI way (min (rch (max way (-way)) D) (spd s)) := by rw [HZ.out]; simp [c0, ha]
      have HZ2 := Lib.hid hz2
      have HA := Lib.hid ha
      have hrb := rch_bd (max way (-way)) D
      have hsb := spd_bd s
      clear hz2 ha c0
      go_enter Try.func30, Try.ntmps30
      go_wp2_with fail
      refine (gok_at _ _ _ _ _ _ _ _ (by omega) _ HK.out).mono ?_
      rintro e w1 ⟨rfl, hb1⟩
      obtain ⟨hb1c, hb1f⟩ := bcell hb1
      have hb1z := hb1.size
      have hb1c0 := fun o => hb1c (w.heap.size) o (by first | (simp; done) | (simp; omega) | (simp at *; omega) | omega)
      have hb1f0 := fun o => hb1f (w.heap.size) o (by first | (simp; done) | (simp; omega) | (simp at *; omega) | omega)
      have hb1l0 := below_lt (b := w.heap.size) hb1 (by first | (simp; done) | (simp; omega) | (simp at *; omega) | omega)
      have hb1c1 := fun o => hb1c (w.heap.size + 1) o (by first | (simp; done) | (simp; omega) | (simp at *; omega) | omega)
      have hb1f1 := fun o => hb1f (w.heap.size + 1) o (by first | (simp; done) | (simp; omega) | (simp at *; omega) | omega)
      have hb1l1 := below_lt (b := w.heap.size + 1) hb1 (by first | (simp; done) | (simp; omega) | (simp at *; omega) | omega)
      go_wp2_with fail
      refine (gaway_at _ _ _ _ HA.out).mono ?_
      rintro e w2 ⟨rfl, rfl⟩
      go_wp2_with fail
      refine wp_region_ext (by kernel_rfl) (by kernel_rfl) ?_
      repeat (go_big_quiet_step (first | (go_at_call 57; exact ext_same (gspeed_any _ _)) | (go_at_call 58; exact ext_same (gsize_any _ _ (by omega))) | (go_at_call 56; exact ext_same (gtoward_any _ _ _ (by omega))) | (go_at_call 23; exact ext_call (reach_sl _ _ _ (by omega) (by omega)))))
      refine wpQuiet_nil ?_
      intro w3 hb3
      replace hb3 := ext_below hb3
      go_wp2
      go_ret
      rw [HZ2.out]
      exact ⟨rfl, by (repeat' (first | (with_reducible exact Below.refl _ _) | (with_reducible assumption) | (with_reducible refine below_drewN ?_ _) | (with_reducible refine Below.drew ?_) | (with_reducible refine below_new ?_ (Nat.le_refl _) _) | (with_reducible refine Below.setCell ?_ ?_ _) | (with_reducible refine below_go ?_ (by assumption) (Nat.le_refl _)) | (simp; done) | (simp; omega) | omega))⟩
    · have hz2 : toG ⟨V, A, D, L, H⟩ ⟨p, v⟩ t s = 0 := by rw [HZ.out]; simp [ha]
      have HZ2 := Lib.hid hz2
      have HA := Lib.hid ha
      clear hz2 ha c0
      go_enter Try.func30, Try.ntmps30
      go_wp2_with fail
      refine (gok_at _ _ _ _ _ _ _ _ (by omega) _ HK.out).mono ?_
      rintro e w1 ⟨rfl, hb1⟩
      obtain ⟨hb1c, hb1f⟩ := bcell hb1
      have hb1z := hb1.size
      have hb1c0 := fun o => hb1c (w.heap.size) o (by first | (simp; done) | (simp; omega) | (simp at *; omega) | omega)
      have hb1f0 := fun o => hb1f (w.heap.size) o (by first | (simp; done) | (simp; omega) | (simp at *; omega) | omega)
      have hb1l0 := below_lt (b := w.heap.size) hb1 (by first | (simp; done) | (simp; omega) | (simp at *; omega) | omega)
      have hb1c1 := fun o => hb1c (w.heap.size + 1) o (by first | (simp; done) | (simp; omega) | (simp at *; omega) | omega)
      have hb1f1 := fun o => hb1f (w.heap.size + 1) o (by first | (simp; done) | (simp; omega) | (simp at *; omega) | omega)
      have hb1l1 := below_lt (b := w.heap.size + 1) hb1 (by first | (simp; done) | (simp; omega) | (simp at *; omega) | omega)
      go_wp2_with fail
      refine (gaway_at _ _ _ _ HA.out).mono ?_
      rintro e w2 ⟨rfl, rfl⟩
      go_wp2
      go_ret
      rw [HZ2.out]
      exact ⟨rfl, by (repeat' (first | (with_reducible exact Below.refl _ _) | (with_reducible assumption) | (with_reducible refine below_drewN ?_ _) | (with_reducible refine Below.drew ?_) | (with_reducible refine below_new ?_ (Nat.le_refl _) _) | (with_reducible refine Below.setCell ?_ ?_ _) | (with_reducible refine below_go ?_ (by assumption) (Nat.le_refl _)) | (simp; done) | (simp; omega) | omega))⟩

set_option maxRecDepth 100000 in
set_option maxHeartbeats 2000000 in
theorem gto_no (V A D L H p v t s : Int) (w : World) (hk : okB ⟨V, A, D, L, H⟩ ⟨p, v⟩ = false) (hp : -9223372036854775808 ≤ p ∧ p ≤ 9223372036854775807) :
    Calls Try.prog 30 #[.agg #[.int .i64 V, .int .i64 A, .int .i64 D, .int .i64 L, .int .i64 H], .agg #[.int .i64 p, .int .i64 v], .int .i64 t, .int .i64 s] w fun e w' => e = .returned (.int .i64 0) ∧ Below w.heap.size w w' := by
  have HK := Lib.hid hk
  clear hk
  go_enter Try.func30, Try.ntmps30
  go_wp2_with fail
  refine (gok_at _ _ _ _ _ _ _ _ hp _ HK.out).mono ?_
  rintro e w1 ⟨rfl, hb1⟩
  go_wp2
  go_ret
  exact ⟨rfl, by (repeat' (first | (with_reducible exact Below.refl _ _) | (with_reducible assumption) | (with_reducible refine below_drewN ?_ _) | (with_reducible refine Below.drew ?_) | (with_reducible refine below_new ?_ (Nat.le_refl _) _) | (with_reducible refine Below.setCell ?_ ?_ _) | (with_reducible refine below_go ?_ (by assumption) (Nat.le_refl _)) | (simp; done) | (simp; omega) | omega))⟩

set_option maxHeartbeats 1000000 in
theorem glanded_any (p v t : Int) (w : World) : Calls Try.prog 31 #[.agg #[.int .i64 p, .int .i64 v], .int .i64 t] w fun e w' => e = .returned (.bool ((p == t) && (v == 0))) ∧ Below w.heap.size w w' := by
  cases h : (p == t)
  all_goals
    go_enter Try.func31, Try.ntmps31
    go_wp2
    go_ret
    exact ⟨rfl, by (repeat' (first | (with_reducible exact Below.refl _ _) | (with_reducible assumption) | (with_reducible refine below_drewN ?_ _) | (with_reducible refine Below.drew ?_) | (with_reducible refine below_new ?_ (Nat.le_refl _) _) | (with_reducible refine Below.setCell ?_ ?_ _) | (with_reducible refine below_go ?_ (by assumption) (Nat.le_refl _)) | (simp; done) | (simp; omega) | omega))⟩

end Go.Proofs.Ytmlndgmkjdkcfaa
