/- Merged: Contracts of layer 9: what is wanted to come to a place; is it landed? Contracts of layer 9: what is wanted to come by a place and stop at another one. -/
import Derived.Test.YthhfnageadckkaaGreatM04
import Derived.Test.YthhfnageadckkaaGreatM03
set_option linter.unusedVariables false
set_option linter.unusedSimpArgs false
set_option maxHeartbeats 4000000
namespace Go.Proofs.YthhfnageadckkaaGreat
open Go.RowKit
attribute [local go_sem] ite_max ite_min vite_max vite_min ite_max0 vite_max0 ext_cell ext_frozen

theorem gaway_at (way v : Int) (w : World) (b : Bool) (h : awayB way v = b) : Calls Tryz.prog 116 #[.int .i64 way, .int .i64 v] w fun e w' => e = .returned (.bool b) ∧ w = w' := by
 subst h
 exact gaway_any way v w

set_option maxRecDepth 100000 in
theorem gto_yes (V A D L H p v t s : Int) (w : World) (hk : okB ⟨V, A, D, L, H⟩ ⟨p, v⟩ = true) :
  Calls Tryz.prog 100 #[.agg #[.int .i64 V, .int .i64 A, .int .i64 D, .int .i64 L, .int .i64 H], .agg #[.int .i64 p, .int .i64 v], .int .i64 t, .int .i64 s] w fun e w' => e = .returned (.int .i64 (toG ⟨V, A, D, L, H⟩ ⟨p, v⟩ t s)) ∧ Below w.heap.size w w' := by
 have hy := rightB_yes (okB_yes hk).1
 have hs := safeB_yes (okB_yes hk).2
 have hcl := clampL_bd _ t (okB_yes hk).1
 simp only at hy hs hcl
 have hp1 : L ≤ p ∧ p ≤ H := by omega
 have HK := Lib.hid hk
 have hz : toG ⟨V, A, D, L, H⟩ ⟨p, v⟩ t s = (if clampL ⟨V, A, D, L, H⟩ t - p = 0 then 0 else if awayB (clampL ⟨V, A, D, L, H⟩ t - p) v then 0 else towardI (clampL ⟨V, A, D, L, H⟩ t - p) (min (rch (max (clampL ⟨V, A, D, L, H⟩ t - p) (-(clampL ⟨V, A, D, L, H⟩ t - p))) D) (spd s))) := rfl
 obtain ⟨way, hway⟩ : ∃ way, clampL ⟨V, A, D, L, H⟩ t - p = way := ⟨_, rfl⟩
 rw [hway] at hz
 have hwb : -2199023255552 ≤ way ∧ way ≤ 2199023255552 := by omega
 have hway' : max L (min H t) - p = way := hway
 clear hs hk hcl hway
 have HZ := Lib.hid hz
 clear hz
 by_cases c0 : way = 0
 ·have hz2 : toG ⟨V, A, D, L, H⟩ ⟨p, v⟩ t s = 0 := by rw [HZ.out]; simp [c0]
  have HZ2 := Lib.hid hz2
  subst c0
  clear hz2
  go_enter Tryz.func100, Tryz.ntmps100
  go_wp2_with fail
  refine (gok_at _ _ _ _ _ _ _ _ (by omega) _ HK.out).mono ?_
  rintro e w1 ⟨rfl, hb1⟩
  obtain ⟨hb1c, hb1f⟩ := bcell hb1
  have hb1z := hb1.size
  have hb1c0 := fun o => hb1c (w.heap.size) o sideBy
  have hb1f0 := fun o => hb1f (w.heap.size) o sideBy
  have hb1l0 := below_lt (b := w.heap.size) hb1 sideBy
  have hb1c1 := fun o => hb1c (w.heap.size + 1) o sideBy
  have hb1f1 := fun o => hb1f (w.heap.size + 1) o sideBy
  have hb1l1 := below_lt (b := w.heap.size + 1) hb1 sideBy
  go_wp2
  go_ret
  rw [HZ2.out]
  exact ⟨rfl, by exact belowBy⟩
 ·have d0 : (way == 0) = false := by simpa using c0
  cases ha : awayB way v
  ·have hz2 : toG ⟨V, A, D, L, H⟩ ⟨p, v⟩ t s = towardI way (min (rch (max way (-way)) D) (spd s)) := by rw [HZ.out]; simp [c0, ha]
   have HZ2 := Lib.hid hz2
   have HA := Lib.hid ha
   have hrb := rch_bd (max way (-way)) D
   have hsb := spd_bd s
   clear hz2 ha c0
   go_enter Tryz.func100, Tryz.ntmps100
   go_wp2_with fail
   refine (gok_at _ _ _ _ _ _ _ _ (by omega) _ HK.out).mono ?_
   rintro e w1 ⟨rfl, hb1⟩
   obtain ⟨hb1c, hb1f⟩ := bcell hb1
   have hb1z := hb1.size
   have hb1c0 := fun o => hb1c (w.heap.size) o sideBy
   have hb1f0 := fun o => hb1f (w.heap.size) o sideBy
   have hb1l0 := below_lt (b := w.heap.size) hb1 sideBy
   have hb1c1 := fun o => hb1c (w.heap.size + 1) o sideBy
   have hb1f1 := fun o => hb1f (w.heap.size + 1) o sideBy
   have hb1l1 := below_lt (b := w.heap.size + 1) hb1 sideBy
   go_wp2_with fail
   refine (gaway_at _ _ _ _ HA.out).mono ?_
   rintro e w2 ⟨rfl, rfl⟩
   go_wp2_with fail
   refine wp_region_ext (by kernel_rfl) (by kernel_rfl) ?_
   repeat (go_big_quiet_step (first | (go_at_call 118; exact ext_same (gspeed_any _ _)) | (go_at_call 120; exact ext_same (gsize_any _ _ (by omega))) | (go_at_call 117; exact ext_same (gtoward_any _ _ _ (by omega))) | (go_at_call 119; exact ext_call (reach_sl _ _ _ (by omega) (by omega)))))
   refine wpQuiet_nil ?_
   intro w3 hb3
   replace hb3 := ext_below hb3
   go_wp2
   go_ret
   rw [HZ2.out]
   exact ⟨rfl, by exact belowBy⟩
  ·have hz2 : toG ⟨V, A, D, L, H⟩ ⟨p, v⟩ t s = 0 := by rw [HZ.out]; simp [ha]
   have HZ2 := Lib.hid hz2
   have HA := Lib.hid ha
   clear hz2 ha c0
   go_enter Tryz.func100, Tryz.ntmps100
   go_wp2_with fail
   refine (gok_at _ _ _ _ _ _ _ _ (by omega) _ HK.out).mono ?_
   rintro e w1 ⟨rfl, hb1⟩
   obtain ⟨hb1c, hb1f⟩ := bcell hb1
   have hb1z := hb1.size
   have hb1c0 := fun o => hb1c (w.heap.size) o sideBy
   have hb1f0 := fun o => hb1f (w.heap.size) o sideBy
   have hb1l0 := below_lt (b := w.heap.size) hb1 sideBy
   have hb1c1 := fun o => hb1c (w.heap.size + 1) o sideBy
   have hb1f1 := fun o => hb1f (w.heap.size + 1) o sideBy
   have hb1l1 := below_lt (b := w.heap.size + 1) hb1 sideBy
   go_wp2_with fail
   refine (gaway_at _ _ _ _ HA.out).mono ?_
   rintro e w2 ⟨rfl, rfl⟩
   go_wp2
   go_ret
   rw [HZ2.out]
   exact ⟨rfl, by exact belowBy⟩


theorem pass_sl (s u d : Int) (w : World) (hs : 0 ≤ s ∧ s ≤ 2199023255552) (hu : 0 ≤ u ∧ u ≤ 1048576) (hd : 1 ≤ d ∧ d ≤ 1048576) :
  Calls Tryz.prog 121 #[.int .i64 s, .int .i64 u, .int .i64 d] w fun e w' => e = .returned (.int .i64 (pas s u d)) ∧ Below w.heap.size w w' := by
 have h := pass_any s u d w
 rw [wy_id s hs, lss_id d hd, spd_id u hu] at h
 exact h

set_option maxRecDepth 100000 in
theorem gby_yes (V A D L H p v t u f s : Int) (w : World) (hk : okB ⟨V, A, D, L, H⟩ ⟨p, v⟩ = true) :
  Calls Tryz.prog 99 #[.agg #[.int .i64 V, .int .i64 A, .int .i64 D, .int .i64 L, .int .i64 H], .agg #[.int .i64 p, .int .i64 v], .int .i64 t, .int .i64 u, .int .i64 f, .int .i64 s] w fun e w' => e = .returned (.int .i64 (byG ⟨V, A, D, L, H⟩ ⟨p, v⟩ t u f s)) ∧ Below w.heap.size w w' := by
 have hy := rightB_yes (okB_yes hk).1
 have hs := safeB_yes (okB_yes hk).2
 have hcl := clampL_bd _ t (okB_yes hk).1
 have hcf := clampL_bd _ f (okB_yes hk).1
 simp only at hy hs hcl hcf
 have hp1 : L ≤ p ∧ p ≤ H := by omega
 have HK := Lib.hid hk
 have hz : byG ⟨V, A, D, L, H⟩ ⟨p, v⟩ t u f s = (if clampL ⟨V, A, D, L, H⟩ t - p = 0 then 0 else if clampL ⟨V, A, D, L, H⟩ f - p = 0 then 0 else if awayB (clampL ⟨V, A, D, L, H⟩ t - p) (clampL ⟨V, A, D, L, H⟩ f - p) then 0 else if awayB (clampL ⟨V, A, D, L, H⟩ t - p) v then 0 else
   towardI (clampL ⟨V, A, D, L, H⟩ t - p) (min (pas (max (clampL ⟨V, A, D, L, H⟩ t - p) (-(clampL ⟨V, A, D, L, H⟩ t - p))) (spd u) D) (min (rch (max (clampL ⟨V, A, D, L, H⟩ f - p) (-(clampL ⟨V, A, D, L, H⟩ f - p))) D) (spd s)))) := rfl
 obtain ⟨way, hway⟩ : ∃ way, clampL ⟨V, A, D, L, H⟩ t - p = way := ⟨_, rfl⟩
 obtain ⟨fin, hfin⟩ : ∃ fin, clampL ⟨V, A, D, L, H⟩ f - p = fin := ⟨_, rfl⟩
 rw [hway, hfin] at hz
 have hwb : -2199023255552 ≤ way ∧ way ≤ 2199023255552 := by omega
 have hfb : -2199023255552 ≤ fin ∧ fin ≤ 2199023255552 := by omega
 have hway' : max L (min H t) - p = way := hway
 have hfin' : max L (min H f) - p = fin := hfin
 clear hs hk hcl hcf hway hfin
 have HZ := Lib.hid hz
 clear hz
 by_cases c0 : way = 0
 ·have hz2 : byG ⟨V, A, D, L, H⟩ ⟨p, v⟩ t u f s = 0 := by rw [HZ.out]; simp [c0]
  have HZ2 := Lib.hid hz2
  subst c0
  clear hz2
  go_enter Tryz.func99, Tryz.ntmps99
  go_wp2_with fail
  refine (gok_at _ _ _ _ _ _ _ _ (by omega) _ HK.out).mono ?_
  rintro e w1 ⟨rfl, hb1⟩
  obtain ⟨hb1c, hb1f⟩ := bcell hb1
  have hb1z := hb1.size
  have hb1c0 := fun o => hb1c (w.heap.size) o sideBy
  have hb1f0 := fun o => hb1f (w.heap.size) o sideBy
  have hb1l0 := below_lt (b := w.heap.size) hb1 sideBy
  have hb1c1 := fun o => hb1c (w.heap.size + 1) o sideBy
  have hb1f1 := fun o => hb1f (w.heap.size + 1) o sideBy
  have hb1l1 := below_lt (b := w.heap.size + 1) hb1 sideBy
  go_wp2_with fail
  refine wp_region_ext (by kernel_rfl) (by kernel_rfl) ?_
  repeat (go_big_quiet_step (fail))
  refine wpQuiet_nil ?_
  intro w2 hb2
  replace hb2 := ext_below hb2
  obtain ⟨hb2c, hb2f⟩ := bcell hb2
  have hb2z := hb2.size
  have hb2c0 := fun o => hb2c (w.heap.size) o sideBy
  have hb2f0 := fun o => hb2f (w.heap.size) o sideBy
  have hb2l0 := below_lt (b := w.heap.size) hb2 sideBy
  have hb2c1 := fun o => hb2c (w.heap.size + 1) o sideBy
  have hb2f1 := fun o => hb2f (w.heap.size + 1) o sideBy
  have hb2l1 := below_lt (b := w.heap.size + 1) hb2 sideBy
  go_wp2
  go_ret
  rw [HZ2.out]
  exact ⟨rfl, by exact belowBy⟩
 ·have d0 : (way == 0) = false := by simpa using c0
  by_cases c1 : fin = 0
  ·have hz2 : byG ⟨V, A, D, L, H⟩ ⟨p, v⟩ t u f s = 0 := by rw [HZ.out]; simp [c1]
   have HZ2 := Lib.hid hz2
   subst c1
   clear hz2 c0
   go_enter Tryz.func99, Tryz.ntmps99
   go_wp2_with fail
   refine (gok_at _ _ _ _ _ _ _ _ (by omega) _ HK.out).mono ?_
   rintro e w1 ⟨rfl, hb1⟩
   obtain ⟨hb1c, hb1f⟩ := bcell hb1
   have hb1z := hb1.size
   have hb1c0 := fun o => hb1c (w.heap.size) o sideBy
   have hb1f0 := fun o => hb1f (w.heap.size) o sideBy
   have hb1l0 := below_lt (b := w.heap.size) hb1 sideBy
   have hb1c1 := fun o => hb1c (w.heap.size + 1) o sideBy
   have hb1f1 := fun o => hb1f (w.heap.size + 1) o sideBy
   have hb1l1 := below_lt (b := w.heap.size + 1) hb1 sideBy
   go_wp2_with fail
   refine wp_region_ext (by kernel_rfl) (by kernel_rfl) ?_
   repeat (go_big_quiet_step (fail))
   refine wpQuiet_nil ?_
   intro w2 hb2
   replace hb2 := ext_below hb2
   obtain ⟨hb2c, hb2f⟩ := bcell hb2
   have hb2z := hb2.size
   have hb2c0 := fun o => hb2c (w.heap.size) o sideBy
   have hb2f0 := fun o => hb2f (w.heap.size) o sideBy
   have hb2l0 := below_lt (b := w.heap.size) hb2 sideBy
   have hb2c1 := fun o => hb2c (w.heap.size + 1) o sideBy
   have hb2f1 := fun o => hb2f (w.heap.size + 1) o sideBy
   have hb2l1 := below_lt (b := w.heap.size + 1) hb2 sideBy
   go_wp2
   go_ret
   rw [HZ2.out]
   exact ⟨rfl, by exact belowBy⟩
  ·have d1 : (fin == 0) = false := by simpa using c1
   cases ha : awayB way fin
   ·cases ha2 : awayB way v
    ·have hz2 : byG ⟨V, A, D, L, H⟩ ⟨p, v⟩ t u f s = towardI way (min (pas (max way (-way)) (spd u) D) (min (rch (max fin (-fin)) D) (spd s))) := by rw [HZ.out]; simp [c0, c1, ha, ha2]
     have HZ2 := Lib.hid hz2
     have HA := Lib.hid ha
     have HA2 := Lib.hid ha2
     have hrb := rch_bd (max fin (-fin)) D
     have hpb := pas_bd (max way (-way)) (spd u) D
     have hsb := spd_bd s
     have hub := spd_bd u
     clear hz2 ha ha2 c0 c1
     go_enter Tryz.func99, Tryz.ntmps99
     go_wp2_with fail
     refine (gok_at _ _ _ _ _ _ _ _ (by omega) _ HK.out).mono ?_
     rintro e w1 ⟨rfl, hb1⟩
     obtain ⟨hb1c, hb1f⟩ := bcell hb1
     have hb1z := hb1.size
     have hb1c0 := fun o => hb1c (w.heap.size) o sideBy
     have hb1f0 := fun o => hb1f (w.heap.size) o sideBy
     have hb1l0 := below_lt (b := w.heap.size) hb1 sideBy
     have hb1c1 := fun o => hb1c (w.heap.size + 1) o sideBy
     have hb1f1 := fun o => hb1f (w.heap.size + 1) o sideBy
     have hb1l1 := below_lt (b := w.heap.size + 1) hb1 sideBy
     go_wp2_with fail
     refine wp_region_ext (by kernel_rfl) (by kernel_rfl) ?_
     repeat (go_big_quiet_step (fail))
     refine wpQuiet_nil ?_
     intro w2 hb2
     replace hb2 := ext_below hb2
     obtain ⟨hb2c, hb2f⟩ := bcell hb2
     have hb2z := hb2.size
     have hb2c0 := fun o => hb2c (w.heap.size) o sideBy
     have hb2f0 := fun o => hb2f (w.heap.size) o sideBy
     have hb2l0 := below_lt (b := w.heap.size) hb2 sideBy
     have hb2c1 := fun o => hb2c (w.heap.size + 1) o sideBy
     have hb2f1 := fun o => hb2f (w.heap.size + 1) o sideBy
     have hb2l1 := below_lt (b := w.heap.size + 1) hb2 sideBy
     go_wp2_with fail
     refine (gaway_at _ _ _ _ HA.out).mono ?_
     rintro e w3 ⟨rfl, rfl⟩
     go_wp2_with fail
     refine (gaway_at _ _ _ _ HA2.out).mono ?_
     rintro e w3 ⟨rfl, rfl⟩
     go_wp2_with fail
     refine wp_region_ext (by kernel_rfl) (by kernel_rfl) ?_
     repeat (go_big_quiet_step (first | (go_at_call 118; exact ext_same (gspeed_any _ _)) | (go_at_call 120; exact ext_same (gsize_any _ _ (by omega))) | (go_at_call 117; exact ext_same (gtoward_any _ _ _ (by omega))) | (go_at_call 119; exact ext_call (reach_sl _ _ _ (by omega) (by omega))) | (go_at_call 121; exact ext_call (pass_sl _ _ _ _ (by omega) (by omega) (by omega)))))
     refine wpQuiet_nil ?_
     intro w3 hb3
     replace hb3 := ext_below hb3
     go_wp2
     go_ret
     rw [HZ2.out]
     exact ⟨rfl, by exact belowBy⟩
    ·have hz2 : byG ⟨V, A, D, L, H⟩ ⟨p, v⟩ t u f s = 0 := by rw [HZ.out]; simp [c0, c1, ha, ha2]
     have HZ2 := Lib.hid hz2
     have HA := Lib.hid ha
     have HA2 := Lib.hid ha2
     clear hz2 ha ha2 c0 c1
     go_enter Tryz.func99, Tryz.ntmps99
     go_wp2_with fail
     refine (gok_at _ _ _ _ _ _ _ _ (by omega) _ HK.out).mono ?_
     rintro e w1 ⟨rfl, hb1⟩
     obtain ⟨hb1c, hb1f⟩ := bcell hb1
     have hb1z := hb1.size
     have hb1c0 := fun o => hb1c (w.heap.size) o sideBy
     have hb1f0 := fun o => hb1f (w.heap.size) o sideBy
     have hb1l0 := below_lt (b := w.heap.size) hb1 sideBy
     have hb1c1 := fun o => hb1c (w.heap.size + 1) o sideBy
     have hb1f1 := fun o => hb1f (w.heap.size + 1) o sideBy
     have hb1l1 := below_lt (b := w.heap.size + 1) hb1 sideBy
     go_wp2_with fail
     refine wp_region_ext (by kernel_rfl) (by kernel_rfl) ?_
     repeat (go_big_quiet_step (fail))
     refine wpQuiet_nil ?_
     intro w2 hb2
     replace hb2 := ext_below hb2
     obtain ⟨hb2c, hb2f⟩ := bcell hb2
     have hb2z := hb2.size
     have hb2c0 := fun o => hb2c (w.heap.size) o sideBy
     have hb2f0 := fun o => hb2f (w.heap.size) o sideBy
     have hb2l0 := below_lt (b := w.heap.size) hb2 sideBy
     have hb2c1 := fun o => hb2c (w.heap.size + 1) o sideBy
     have hb2f1 := fun o => hb2f (w.heap.size + 1) o sideBy
     have hb2l1 := below_lt (b := w.heap.size + 1) hb2 sideBy
     go_wp2_with fail
     refine (gaway_at _ _ _ _ HA.out).mono ?_
     rintro e w3 ⟨rfl, rfl⟩
     go_wp2_with fail
     refine (gaway_at _ _ _ _ HA2.out).mono ?_
     rintro e w3 ⟨rfl, rfl⟩
     go_wp2
     go_ret
     rw [HZ2.out]
     exact ⟨rfl, by exact belowBy⟩
   ·have hz2 : byG ⟨V, A, D, L, H⟩ ⟨p, v⟩ t u f s = 0 := by rw [HZ.out]; simp [c0, c1, ha]
    have HZ2 := Lib.hid hz2
    have HA := Lib.hid ha
    clear hz2 ha c0 c1
    go_enter Tryz.func99, Tryz.ntmps99
    go_wp2_with fail
    refine (gok_at _ _ _ _ _ _ _ _ (by omega) _ HK.out).mono ?_
    rintro e w1 ⟨rfl, hb1⟩
    obtain ⟨hb1c, hb1f⟩ := bcell hb1
    have hb1z := hb1.size
    have hb1c0 := fun o => hb1c (w.heap.size) o sideBy
    have hb1f0 := fun o => hb1f (w.heap.size) o sideBy
    have hb1l0 := below_lt (b := w.heap.size) hb1 sideBy
    have hb1c1 := fun o => hb1c (w.heap.size + 1) o sideBy
    have hb1f1 := fun o => hb1f (w.heap.size + 1) o sideBy
    have hb1l1 := below_lt (b := w.heap.size + 1) hb1 sideBy
    go_wp2_with fail
    refine wp_region_ext (by kernel_rfl) (by kernel_rfl) ?_
    repeat (go_big_quiet_step (fail))
    refine wpQuiet_nil ?_
    intro w2 hb2
    replace hb2 := ext_below hb2
    obtain ⟨hb2c, hb2f⟩ := bcell hb2
    have hb2z := hb2.size
    have hb2c0 := fun o => hb2c (w.heap.size) o sideBy
    have hb2f0 := fun o => hb2f (w.heap.size) o sideBy
    have hb2l0 := below_lt (b := w.heap.size) hb2 sideBy
    have hb2c1 := fun o => hb2c (w.heap.size + 1) o sideBy
    have hb2f1 := fun o => hb2f (w.heap.size + 1) o sideBy
    have hb2l1 := below_lt (b := w.heap.size + 1) hb2 sideBy
    go_wp2_with fail
    refine (gaway_at _ _ _ _ HA.out).mono ?_
    rintro e w3 ⟨rfl, rfl⟩
    go_wp2
    go_ret
    rw [HZ2.out]
    exact ⟨rfl, by exact belowBy⟩

end Go.Proofs.YthhfnageadckkaaGreat
