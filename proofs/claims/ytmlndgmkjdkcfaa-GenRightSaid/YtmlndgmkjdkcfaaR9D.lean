/- Contracts of the reference of layer 9: what is wanted to come to a place. -/
import Derived.Test.YtmlndgmkjdkcfaaR9C
namespace Go.Proofs.Ytmlndgmkjdkcfaa
open Go.RowKit
set_option linter.unusedVariables false
set_option linter.unusedSimpArgs false
attribute [local go_sem] ite_max ite_min vite_max vite_min ite_max0 vite_max0 ext_cell ext_frozen

theorem toG_clamp (l : LimS) (g : GenS) (t s c : Int) (hr : rightB l = true) (hc : max l.lo (min l.hi t) = c) : toG l g t s = toW (c - g.p) g.v l.d s := by
  rw [toG_way]
  unfold clampL
  rw [hc]
theorem toW_zero (v d s : Int) : toW 0 v d s = 0 := by unfold toW; rw [if_pos rfl]
theorem toW_back (way v d s : Int) (h : 0 < way) (hv : v < 0) : toW way v d s = 0 := by
  unfold toW
  rw [if_neg (by omega), show awayB way v = true from decide_eq_true (by omega)]
  rfl
theorem toW_on (way v d s : Int) (h : 0 < way) (hv : 0 ≤ v) : toW way v d s = min (spd s) (rch way d) := by
  unfold toW
  rw [if_neg (by omega), show awayB way v = false from decide_eq_false (by omega)]
  simp only [Bool.false_eq_true, if_false]
  unfold towardI
  rw [if_neg (by omega), show max way (-way) = way by omega]
  omega

set_option maxRecDepth 100000 in
set_option maxHeartbeats 4000000 in
theorem rto_up (V A D L H p v t s x : Int) (w : World) (hk : okB ⟨V, A, D, L, H⟩ ⟨p, v⟩ = true) (hp : p ≤ max L (min H t)) (hx : toG ⟨V, A, D, L, H⟩ ⟨p, v⟩ t s = x) :
    Calls Try.prog 38 #[.agg #[.int .i64 V, .int .i64 A, .int .i64 D, .int .i64 L, .int .i64 H], .agg #[.int .i64 p, .int .i64 v], .int .i64 t, .int .i64 s] w fun e w' => e = .returned (.int .i64 x) ∧ Below w.heap.size w w' := by
  have hr := (okB_yes hk).1
  have hs := (okB_yes hk).2
  have hy := rightB_yes hr
  have hz := safeB_yes hs
  simp only at hy hz
  have hpb : L ≤ p ∧ p ≤ H := by omega
  have hvb : -1048576 ≤ v ∧ v ≤ 1048576 := by omega
  obtain ⟨c, hc⟩ : ∃ c, max L (min H t) = c := ⟨_, rfl⟩
  have hcb : L ≤ c ∧ c ≤ H := by omega
  rw [hc] at hp
  rw [toG_clamp _ _ _ _ c hr hc] at hx
  simp only at hx
  by_cases h1 : c = p
  · have hx0 : x = 0 := by rw [← hx, h1, Int.sub_self]; exact toW_zero _ _ _
    subst hx0
    have q1 : (c == p) = true := by simpa using h1
    clear hx hk hr hs hz h1
    go_enter Try.func38, Try.ntmps38
    go_wp2_with fail
    refine (rbetween_any _ _ _ _ (by omega)).mono ?_
    rintro e w1 ⟨rfl, rfl⟩
    go_wp2
    go_ret
    exact ⟨rfl, by (repeat' (first | (with_reducible exact Below.refl _ _) | (with_reducible assumption) | (with_reducible refine below_drewN ?_ _) | (with_reducible refine Below.drew ?_) | (with_reducible refine below_new ?_ (Nat.le_refl _) _) | (with_reducible refine Below.setCell ?_ ?_ _) | (with_reducible refine below_go ?_ (by assumption) (Nat.le_refl _)) | (simp; done) | (simp; omega) | omega))⟩
  · have q1 : (c == p) = false := by simpa using h1
    by_cases h2 : v < 0
    · have hx0 : x = 0 := by rw [← hx]; exact toW_back _ _ _ _ (by omega) h2
      subst hx0
      clear hx hk hr hs hz h1
      go_enter Try.func38, Try.ntmps38
      go_wp2_with fail
      refine (rbetween_any _ _ _ _ (by omega)).mono ?_
      rintro e w1 ⟨rfl, rfl⟩
      go_wp2
      go_ret
      exact ⟨rfl, by (repeat' (first | (with_reducible exact Below.refl _ _) | (with_reducible assumption) | (with_reducible refine below_drewN ?_ _) | (with_reducible refine Below.drew ?_) | (with_reducible refine below_new ?_ (Nat.le_refl _) _) | (with_reducible refine Below.setCell ?_ ?_ _) | (with_reducible refine below_go ?_ (by assumption) (Nat.le_refl _)) | (simp; done) | (simp; omega) | omega))⟩
    · have hx0 : min (spd s) (rch (c - p) D) = x := by rw [← hx]; exact (toW_on _ _ _ _ (by omega) (by omega)).symm
      have hrr := fun w => rreach_any (c - p) D w (by omega) (by omega)
      have HX := Lib.hid hx0
      have HR := Lib.hid hrr
      clear hx hk hr hs hz h1 hx0 hrr
      go_enter Try.func38, Try.ntmps38
      go_wp2_with fail
      refine (rbetween_any _ _ _ _ (by omega)).mono ?_
      rintro e w1 ⟨rfl, rfl⟩
      go_wp2_with fail
      refine wp_region_ext_tail 9 (by kernel_rfl) (by kernel_rfl) ?_
      simp only [List.take_succ_cons, List.take_zero, List.drop_succ_cons, List.drop_zero]
      repeat (go_big_quiet_step (first | (go_at_call 24; exact ext_same (rvel_any _ _)) | (go_at_call 63; exact ext_same (HR.out _))))
      refine wpQuiet_nil ?_
      intro w2 hb2
      replace hb2 := ext_below hb2
      go_wp2_with fail
      refine (rleast2 _ _ _ _ _ _ (by simp) HX.out).mono ?_
      rintro e w3 ⟨rfl, rfl⟩
      go_wp2
      go_ret
      exact ⟨rfl, by (repeat' (first | (with_reducible exact Below.refl _ _) | (with_reducible assumption) | (with_reducible refine below_drewN ?_ _) | (with_reducible refine Below.drew ?_) | (with_reducible refine below_new ?_ (Nat.le_refl _) _) | (with_reducible refine Below.setCell ?_ ?_ _) | (with_reducible refine below_go ?_ (by assumption) (Nat.le_refl _)) | (simp; done) | (simp; omega) | omega))⟩

set_option maxRecDepth 100000 in
set_option maxHeartbeats 4000000 in
theorem rto9_at (V A D L H p v t s x : Int) (w : World) (hk : okB ⟨V, A, D, L, H⟩ ⟨p, v⟩ = true) (hx : toG ⟨V, A, D, L, H⟩ ⟨p, v⟩ t s = x) :
    Calls Try.prog 38 #[.agg #[.int .i64 V, .int .i64 A, .int .i64 D, .int .i64 L, .int .i64 H], .agg #[.int .i64 p, .int .i64 v], .int .i64 t, .int .i64 s] w fun e w' => e = .returned (.int .i64 x) ∧ Below w.heap.size w w' := by
  by_cases hp : p ≤ max L (min H t)
  · exact rto_up V A D L H p v t s x w hk hp hx
  · have hr := (okB_yes hk).1
    have hs := (okB_yes hk).2
    have hy := rightB_yes hr
    have hz := safeB_yes hs
    simp only at hy hz
    have hpb : L ≤ p ∧ p ≤ H := by omega
    have hvb : -1048576 ≤ v ∧ v ≤ 1048576 := by omega
    obtain ⟨c, hc⟩ : ∃ c, max L (min H t) = c := ⟨_, rfl⟩
    have hcb : L ≤ c ∧ c ≤ H := by omega
    have hk2 : okB ⟨V, A, D, -H, -L⟩ ⟨-p, -v⟩ = true := by
      have h1 : rightB ⟨V, A, D, -H, -L⟩ = true := by
        have := right_turn ⟨V, A, D, L, H⟩
        rw [hr] at this
        exact this
      have h2 : safeB ⟨V, A, D, -H, -L⟩ ⟨-p, -v⟩ = true := safe_turn_of _ _ hr hs
      simp [okB, h1, h2]
    have hx2 : toG ⟨V, A, D, -H, -L⟩ ⟨-p, -v⟩ (-c) s = -x := by
      rw [toG_clamp _ _ _ _ (-c) (okB_yes hk2).1 (by simp only; omega), ← hx, toG_clamp _ _ _ _ c hr hc, ← toW_turn]
      simp only
      rw [show -c - -p = -(c - p) by omega]
    have hxb : -9223372036854775807 ≤ x ∧ x ≤ 9223372036854775807 := by
      rw [← hx, toG_clamp _ _ _ _ c hr hc]
      have h1 := rch_bd (max (c - p) (-(c - p))) D
      have h2 := spd_bd s
      unfold toW towardI
      simp only
      split
      · omega
      · split
        · omega
        · split
          · omega
          · omega
    have hin := fun w => rto_up V A D (-H) (-L) (-p) (-v) (-c) s (-x) w hk2 (by omega) hx2
    have HI := Lib.hid hin
    rw [hc] at hp
    clear hx hk hr hs hz hk2 hx2 hin
    go_enter Try.func38, Try.ntmps38
    go_wp2_with fail
    refine (rbetween_any _ _ _ _ (by omega)).mono ?_
    rintro e w1 ⟨rfl, rfl⟩
    go_wp2_with fail
    refine (rturned_any V A D L H p v _ (by omega)).mono ?_
    rintro e w1 ⟨rfl, hb1⟩
    go_wp2_with fail
    refine (HI.out _).mono ?_
    rintro e w2 ⟨rfl, hb2⟩
    go_wp2
    go_ret
    exact ⟨rfl, by (repeat' (first | (with_reducible exact Below.refl _ _) | (with_reducible assumption) | (with_reducible refine below_drewN ?_ _) | (with_reducible refine Below.drew ?_) | (with_reducible refine below_new ?_ (Nat.le_refl _) _) | (with_reducible refine Below.setCell ?_ ?_ _) | (with_reducible refine below_go ?_ (by assumption) (Nat.le_refl _)) | (simp; done) | (simp; omega) | omega))⟩

end Go.Proofs.Ytmlndgmkjdkcfaa
