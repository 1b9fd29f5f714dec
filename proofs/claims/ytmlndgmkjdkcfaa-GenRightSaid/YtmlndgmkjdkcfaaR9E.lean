/- Contracts of the reference of layer 9: what is wanted to come by a place and stop at another one. -/
import Derived.Test.YtmlndgmkjdkcfaaR9D
namespace Go.Proofs.Ytmlndgmkjdkcfaa
open Go.RowKit
set_option linter.unusedVariables false
set_option linter.unusedSimpArgs false
attribute [local go_sem] ite_max ite_min vite_max vite_min ite_max0 vite_max0 ext_cell ext_frozen

def byW (way fin v d u s : Int) : Int := if way = 0 then 0 else if fin = 0 then 0 else if awayB way fin then 0 else if awayB way v then 0 else towardI way (min (pas (max way (-way)) (spd u) d) (min (rch (max fin (-fin)) d) (spd s)))
theorem byG_way (l : LimS) (g : GenS) (t u f s c d : Int) (hc : max l.lo (min l.hi t) = c) (hd : max l.lo (min l.hi f) = d) : byG l g t u f s = byW (c - g.p) (d - g.p) g.v l.d u s := by
  subst hc
  subst hd
  rfl
theorem byW_turn (way fin v d u s : Int) : byW (-way) (-fin) (-v) d u s = -byW way fin v d u s := by
  unfold byW
  by_cases c : way = 0
  · rw [if_pos c, if_pos (by omega)]
    rfl
  · rw [if_neg c, if_neg (by omega)]
    by_cases e : fin = 0
    · rw [if_pos e, if_pos (by omega)]
      rfl
    · rw [if_neg e, if_neg (by omega), awayB_turn, awayB_turn, towardI_turn way _ c, show max (-way) (- -way) = max way (-way) by omega, show max (-fin) (- -fin) = max fin (-fin) by omega]
      split
      · rfl
      · split
        · rfl
        · rfl
theorem byW_zero (fin v d u s : Int) : byW 0 fin v d u s = 0 := by unfold byW; rw [if_pos rfl]
theorem byW_off (way fin v d u s : Int) (h : 0 < way) (hf : fin ≤ 0) : byW way fin v d u s = 0 := by
  unfold byW
  rw [if_neg (by omega)]
  by_cases e : fin = 0
  · rw [if_pos e]
  · rw [if_neg e, show awayB way fin = true from decide_eq_true (by omega)]
    rfl
theorem byW_back (way fin v d u s : Int) (h : 0 < way) (hf : 0 < fin) (hv : v < 0) : byW way fin v d u s = 0 := by
  unfold byW
  rw [if_neg (by omega), if_neg (by omega), show awayB way fin = false from decide_eq_false (by omega), show awayB way v = true from decide_eq_true (by omega)]
  rfl
theorem byW_on (way fin v d u s : Int) (h : 0 < way) (hf : 0 < fin) (hv : 0 ≤ v) : byW way fin v d u s = min (min (spd s) (rch fin d)) (pas way (spd u) d) := by
  unfold byW
  rw [if_neg (by omega), if_neg (by omega), show awayB way fin = false from decide_eq_false (by omega), show awayB way v = false from decide_eq_false (by omega)]
  simp only [Bool.false_eq_true, if_false]
  unfold towardI
  rw [if_neg (by omega), show max way (-way) = way by omega, show max fin (-fin) = fin by omega]
  omega
theorem byW_bd (way fin v d u s : Int) : -1048576 ≤ byW way fin v d u s ∧ byW way fin v d u s ≤ 1048576 := by
  have h1 := rch_bd (max fin (-fin)) d
  have h2 := spd_bd s
  have h3 := pas_bd (max way (-way)) (spd u) d
  unfold byW towardI
  split
  · omega
  · split
    · omega
    · split
      · omega
      · split
        · omega
        · split
          · omega
          · omega

set_option maxRecDepth 100000 in
set_option maxHeartbeats 4000000 in
theorem rby_up (V A D L H p v t u f s x : Int) (w : World) (hk : okB ⟨V, A, D, L, H⟩ ⟨p, v⟩ = true) (hp : p ≤ max L (min H t)) (hx : byG ⟨V, A, D, L, H⟩ ⟨p, v⟩ t u f s = x) :
    Calls Try.prog 39 #[.agg #[.int .i64 V, .int .i64 A, .int .i64 D, .int .i64 L, .int .i64 H], .agg #[.int .i64 p, .int .i64 v], .int .i64 t, .int .i64 u, .int .i64 f, .int .i64 s] w fun e w' => e = .returned (.int .i64 x) ∧ Below w.heap.size w w' := by
  have hr := (okB_yes hk).1
  have hs := (okB_yes hk).2
  have hy := rightB_yes hr
  have hz := safeB_yes hs
  simp only at hy hz
  have hpb : L ≤ p ∧ p ≤ H := by omega
  have hvb : -1048576 ≤ v ∧ v ≤ 1048576 := by omega
  obtain ⟨c, hc⟩ : ∃ c, max L (min H t) = c := ⟨_, rfl⟩
  obtain ⟨d, hd⟩ : ∃ d, max L (min H f) = d := ⟨_, rfl⟩
  have hcb : L ≤ c ∧ c ≤ H := by omega
  have hdb : L ≤ d ∧ d ≤ H := by omega
  rw [hc] at hp
  rw [byG_way _ _ _ _ _ _ c d hc hd] at hx
  simp only at hx
  by_cases h1 : c = p
  · have hx0 : x = 0 := by rw [← hx, h1, Int.sub_self]; exact byW_zero _ _ _ _ _
    subst hx0
    have q1 : (c == p) = true := by simpa using h1
    clear hx hk hr hs hz h1
    go_enter Try.func39, Try.ntmps39
    go_wp2_with fail
    refine wp_region_ext (by kernel_rfl) (by kernel_rfl) ?_
    repeat (go_big_quiet_step (first | (go_at_call 64; exact ext_same (rbetween_any _ _ _ _ (by omega)))))
    refine wpQuiet_nil ?_
    intro w1 hb1
    replace hb1 := ext_below hb1
    obtain ⟨hb1c, hb1f⟩ := bcell hb1
    have hb1z := hb1.size
    have hb1c0 := fun o => hb1c (w.heap.size) o (by first | (simp; done) | (simp; omega) | (simp at *; omega) | omega)
    have hb1f0 := fun o => hb1f (w.heap.size) o (by first | (simp; done) | (simp; omega) | (simp at *; omega) | omega)
    have hb1l0 := below_lt (b := w.heap.size) hb1 (by first | (simp; done) | (simp; omega) | (simp at *; omega) | omega)
    have hb1c1 := fun o => hb1c (w.heap.size + 1) o (by first | (simp; done) | (simp; omega) | (simp at *; omega) | omega)
    have hb1f1 := fun o => hb1f (w.heap.size + 1) o (by first | (simp; done) | (simp; omega) | (simp at *; omega) | omega)
    have hb1l1 := below_lt (b := w.heap.size + 1) hb1 (by first | (simp; done) | (simp; omega) | (simp at *; omega) | omega)
    go_wp2
    go_ret
    exact ⟨rfl, by (repeat' (first | (with_reducible exact Below.refl _ _) | (with_reducible assumption) | (with_reducible refine below_drewN ?_ _) | (with_reducible refine Below.drew ?_) | (with_reducible refine below_new ?_ (Nat.le_refl _) _) | (with_reducible refine Below.setCell ?_ ?_ _) | (with_reducible refine below_go ?_ (by assumption) (Nat.le_refl _)) | (simp; done) | (simp; omega) | omega))⟩
  · have q1 : (c == p) = false := by simpa using h1
    by_cases h2 : d ≤ p
    · have hx0 : x = 0 := by rw [← hx]; exact byW_off _ _ _ _ _ _ (by omega) (by omega)
      subst hx0
      clear hx hk hr hs hz h1
      go_enter Try.func39, Try.ntmps39
      go_wp2_with fail
      refine wp_region_ext (by kernel_rfl) (by kernel_rfl) ?_
      repeat (go_big_quiet_step (first | (go_at_call 64; exact ext_same (rbetween_any _ _ _ _ (by omega)))))
      refine wpQuiet_nil ?_
      intro w1 hb1
      replace hb1 := ext_below hb1
      obtain ⟨hb1c, hb1f⟩ := bcell hb1
      have hb1z := hb1.size
      have hb1c0 := fun o => hb1c (w.heap.size) o (by first | (simp; done) | (simp; omega) | (simp at *; omega) | omega)
      have hb1f0 := fun o => hb1f (w.heap.size) o (by first | (simp; done) | (simp; omega) | (simp at *; omega) | omega)
      have hb1l0 := below_lt (b := w.heap.size) hb1 (by first | (simp; done) | (simp; omega) | (simp at *; omega) | omega)
      have hb1c1 := fun o => hb1c (w.heap.size + 1) o (by first | (simp; done) | (simp; omega) | (simp at *; omega) | omega)
      have hb1f1 := fun o => hb1f (w.heap.size + 1) o (by first | (simp; done) | (simp; omega) | (simp at *; omega) | omega)
      have hb1l1 := below_lt (b := w.heap.size + 1) hb1 (by first | (simp; done) | (simp; omega) | (simp at *; omega) | omega)
      go_wp2
      go_ret
      exact ⟨rfl, by (repeat' (first | (with_reducible exact Below.refl _ _) | (with_reducible assumption) | (with_reducible refine below_drewN ?_ _) | (with_reducible refine Below.drew ?_) | (with_reducible refine below_new ?_ (Nat.le_refl _) _) | (with_reducible refine Below.setCell ?_ ?_ _) | (with_reducible refine below_go ?_ (by assumption) (Nat.le_refl _)) | (simp; done) | (simp; omega) | omega))⟩
    · by_cases h3 : v < 0
      · have hx0 : x = 0 := by rw [← hx]; exact byW_back _ _ _ _ _ _ (by omega) (by omega) h3
        subst hx0
        clear hx hk hr hs hz h1
        go_enter Try.func39, Try.ntmps39
        go_wp2_with fail
        refine wp_region_ext (by kernel_rfl) (by kernel_rfl) ?_
        repeat (go_big_quiet_step (first | (go_at_call 64; exact ext_same (rbetween_any _ _ _ _ (by omega)))))
        refine wpQuiet_nil ?_
        intro w1 hb1
        replace hb1 := ext_below hb1
        obtain ⟨hb1c, hb1f⟩ := bcell hb1
        have hb1z := hb1.size
        have hb1c0 := fun o => hb1c (w.heap.size) o (by first | (simp; done) | (simp; omega) | (simp at *; omega) | omega)
        have hb1f0 := fun o => hb1f (w.heap.size) o (by first | (simp; done) | (simp; omega) | (simp at *; omega) | omega)
        have hb1l0 := below_lt (b := w.heap.size) hb1 (by first | (simp; done) | (simp; omega) | (simp at *; omega) | omega)
        have hb1c1 := fun o => hb1c (w.heap.size + 1) o (by first | (simp; done) | (simp; omega) | (simp at *; omega) | omega)
        have hb1f1 := fun o => hb1f (w.heap.size + 1) o (by first | (simp; done) | (simp; omega) | (simp at *; omega) | omega)
        have hb1l1 := below_lt (b := w.heap.size + 1) hb1 (by first | (simp; done) | (simp; omega) | (simp at *; omega) | omega)
        go_wp2
        go_ret
        exact ⟨rfl, by (repeat' (first | (with_reducible exact Below.refl _ _) | (with_reducible assumption) | (with_reducible refine below_drewN ?_ _) | (with_reducible refine Below.drew ?_) | (with_reducible refine below_new ?_ (Nat.le_refl _) _) | (with_reducible refine Below.setCell ?_ ?_ _) | (with_reducible refine below_go ?_ (by assumption) (Nat.le_refl _)) | (simp; done) | (simp; omega) | omega))⟩
      · have hx0 : min (min (spd s) (rch (d - p) D)) (pas (c - p) (spd u) D) = x := by rw [← hx]; exact (byW_on _ _ _ _ _ _ (by omega) (by omega) (by omega)).symm
        have hub := spd_bd u
        have hrr := fun w => rreach_any (d - p) D w (by omega) (by omega)
        have hpp := fun w => rpass_any (c - p) (spd u) D w (by omega) hub (by omega)
        have HX := Lib.hid hx0
        have HR := Lib.hid hrr
        have HP := Lib.hid hpp
        clear hx hk hr hs hz h1 hx0 hrr hpp
        go_enter Try.func39, Try.ntmps39
        go_wp2_with fail
        refine wp_region_ext (by kernel_rfl) (by kernel_rfl) ?_
        repeat (go_big_quiet_step (first | (go_at_call 64; exact ext_same (rbetween_any _ _ _ _ (by omega)))))
        refine wpQuiet_nil ?_
        intro w1 hb1
        replace hb1 := ext_below hb1
        obtain ⟨hb1c, hb1f⟩ := bcell hb1
        have hb1z := hb1.size
        have hb1c0 := fun o => hb1c (w.heap.size) o (by first | (simp; done) | (simp; omega) | (simp at *; omega) | omega)
        have hb1f0 := fun o => hb1f (w.heap.size) o (by first | (simp; done) | (simp; omega) | (simp at *; omega) | omega)
        have hb1l0 := below_lt (b := w.heap.size) hb1 (by first | (simp; done) | (simp; omega) | (simp at *; omega) | omega)
        have hb1c1 := fun o => hb1c (w.heap.size + 1) o (by first | (simp; done) | (simp; omega) | (simp at *; omega) | omega)
        have hb1f1 := fun o => hb1f (w.heap.size + 1) o (by first | (simp; done) | (simp; omega) | (simp at *; omega) | omega)
        have hb1l1 := below_lt (b := w.heap.size + 1) hb1 (by first | (simp; done) | (simp; omega) | (simp at *; omega) | omega)
        go_wp2_with fail
        refine wp_region_ext_tail 18 (by kernel_rfl) (by kernel_rfl) ?_
        simp only [List.take_succ_cons, List.take_zero, List.drop_succ_cons, List.drop_zero]
        repeat (go_big_quiet_step (first | (go_at_call 24; exact ext_same (rvel_any _ _)) | (go_at_call 63; exact ext_same (HR.out _)) | (go_at_call 65; exact ext_same (HP.out _))))
        refine wpQuiet_nil ?_
        intro w2 hb2
        replace hb2 := ext_below hb2
        go_wp2_with fail
        refine (rleast3 _ _ _ _ _ _ _ (by simp) HX.out).mono ?_
        rintro e w3 ⟨rfl, rfl⟩
        go_wp2
        go_ret
        exact ⟨rfl, by (repeat' (first | (with_reducible exact Below.refl _ _) | (with_reducible assumption) | (with_reducible refine below_drewN ?_ _) | (with_reducible refine Below.drew ?_) | (with_reducible refine below_new ?_ (Nat.le_refl _) _) | (with_reducible refine Below.setCell ?_ ?_ _) | (with_reducible refine below_go ?_ (by assumption) (Nat.le_refl _)) | (simp; done) | (simp; omega) | omega))⟩

set_option maxRecDepth 100000 in
set_option maxHeartbeats 4000000 in
theorem rby9_at (V A D L H p v t u f s x : Int) (w : World) (hk : okB ⟨V, A, D, L, H⟩ ⟨p, v⟩ = true) (hx : byG ⟨V, A, D, L, H⟩ ⟨p, v⟩ t u f s = x) :
    Calls Try.prog 39 #[.agg #[.int .i64 V, .int .i64 A, .int .i64 D, .int .i64 L, .int .i64 H], .agg #[.int .i64 p, .int .i64 v], .int .i64 t, .int .i64 u, .int .i64 f, .int .i64 s] w fun e w' => e = .returned (.int .i64 x) ∧ Below w.heap.size w w' := by
  by_cases hp : p ≤ max L (min H t)
  · exact rby_up V A D L H p v t u f s x w hk hp hx
  · have hr := (okB_yes hk).1
    have hs := (okB_yes hk).2
    have hy := rightB_yes hr
    have hz := safeB_yes hs
    simp only at hy hz
    have hpb : L ≤ p ∧ p ≤ H := by omega
    have hvb : -1048576 ≤ v ∧ v ≤ 1048576 := by omega
    obtain ⟨c, hc⟩ : ∃ c, max L (min H t) = c := ⟨_, rfl⟩
    obtain ⟨d, hd⟩ : ∃ d, max L (min H f) = d := ⟨_, rfl⟩
    have hcb : L ≤ c ∧ c ≤ H := by omega
    have hdb : L ≤ d ∧ d ≤ H := by omega
    have hk2 : okB ⟨V, A, D, -H, -L⟩ ⟨-p, -v⟩ = true := by
      have h1 : rightB ⟨V, A, D, -H, -L⟩ = true := by
        have := right_turn ⟨V, A, D, L, H⟩
        rw [hr] at this
        exact this
      have h2 : safeB ⟨V, A, D, -H, -L⟩ ⟨-p, -v⟩ = true := safe_turn_of _ _ hr hs
      simp [okB, h1, h2]
    have hx2 : byG ⟨V, A, D, -H, -L⟩ ⟨-p, -v⟩ (-c) u (-d) s = -x := by
      rw [byG_way _ _ _ _ _ _ (-c) (-d) (by simp only; omega) (by simp only; omega), ← hx, byG_way _ _ _ _ _ _ c d hc hd, ← byW_turn]
      simp only
      rw [show -c - -p = -(c - p) by omega, show -d - -p = -(d - p) by omega]
    have hxb : -1048576 ≤ x ∧ x ≤ 1048576 := by
      rw [← hx, byG_way _ _ _ _ _ _ c d hc hd]
      exact byW_bd _ _ _ _ _ _
    have hin := fun w => rby_up V A D (-H) (-L) (-p) (-v) (-c) u (-d) s (-x) w hk2 (by omega) hx2
    have HI := Lib.hid hin
    rw [hc] at hp
    clear hx hk hr hs hz hk2 hx2 hin
    go_enter Try.func39, Try.ntmps39
    go_wp2_with fail
    refine wp_region_ext (by kernel_rfl) (by kernel_rfl) ?_
    repeat (go_big_quiet_step (first | (go_at_call 64; exact ext_same (rbetween_any _ _ _ _ (by omega)))))
    refine wpQuiet_nil ?_
    intro w1 hb1
    replace hb1 := ext_below hb1
    obtain ⟨hb1c, hb1f⟩ := bcell hb1
    have hb1z := hb1.size
    have hb1c0 := fun o => hb1c (w.heap.size) o (by first | (simp; done) | (simp; omega) | (simp at *; omega) | omega)
    have hb1f0 := fun o => hb1f (w.heap.size) o (by first | (simp; done) | (simp; omega) | (simp at *; omega) | omega)
    have hb1l0 := below_lt (b := w.heap.size) hb1 (by first | (simp; done) | (simp; omega) | (simp at *; omega) | omega)
    have hb1c1 := fun o => hb1c (w.heap.size + 1) o (by first | (simp; done) | (simp; omega) | (simp at *; omega) | omega)
    have hb1f1 := fun o => hb1f (w.heap.size + 1) o (by first | (simp; done) | (simp; omega) | (simp at *; omega) | omega)
    have hb1l1 := below_lt (b := w.heap.size + 1) hb1 (by first | (simp; done) | (simp; omega) | (simp at *; omega) | omega)
    go_wp2_with fail
    refine (rturned_any V A D L H p v _ (by omega)).mono ?_
    rintro e w2 ⟨rfl, hb2⟩
    go_wp2_with fail
    refine (HI.out _).mono ?_
    rintro e w3 ⟨rfl, hb3⟩
    go_wp2
    go_ret
    exact ⟨rfl, by (repeat' (first | (with_reducible exact Below.refl _ _) | (with_reducible assumption) | (with_reducible refine below_drewN ?_ _) | (with_reducible refine Below.drew ?_) | (with_reducible refine below_new ?_ (Nat.le_refl _) _) | (with_reducible refine Below.setCell ?_ ?_ _) | (with_reducible refine below_go ?_ (by assumption) (Nat.le_refl _)) | (simp; done) | (simp; omega) | omega))⟩

end Go.Proofs.Ytmlndgmkjdkcfaa
