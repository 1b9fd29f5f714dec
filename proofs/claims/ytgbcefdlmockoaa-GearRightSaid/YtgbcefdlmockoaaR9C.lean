/- Contracts of the reference of layer 9: what it may do, a step. -/
import Derived.Test.YtgbcefdlmockoaaR9B
import Derived.Test.YtgbcefdlmockoaaPGenE
import Derived.Deep.RegionHeld3
import Derived.Deep.DeepCutAuto
namespace Go.Proofs.Ytgbcefdlmockoaa
open Go.RowKit
set_option linter.unusedVariables false
set_option linter.unusedSimpArgs false
attribute [local go_sem] ite_max ite_min vite_max vite_min ite_max0 vite_max0 ext_cell ext_frozen

theorem cells3 {w : World} (a b c : Int) (T : TypeId) : ∀ i, i < 3 → (w.alloc (.cells #[.int .i64 a, .int .i64 b, .int .i64 c] T)).cell? ⟨w.heap.size, 0 + i, none⟩ = some (.int .i64 (([a, b, c] : List Int)[i]?.getD 0)) := by
  intro i hi
  have h : i = 0 ∨ i = 1 ∨ i = 2 := by omega
  rcases h with rfl | rfl | rfl
  all_goals go_simp
  all_goals rfl
theorem cells2 {w : World} (a b : Int) (T : TypeId) : ∀ i, i < 2 → (w.alloc (.cells #[.int .i64 a, .int .i64 b] T)).cell? ⟨w.heap.size, 0 + i, none⟩ = some (.int .i64 (([a, b] : List Int)[i]?.getD 0)) := by
  intro i hi
  have h : i = 0 ∨ i = 1 := by omega
  rcases h with rfl | rfl
  all_goals go_simp
  all_goals rfl

theorem rleast3 (a b c m : Int) (T : TypeId) (B : Nat) (w : World) (hB : w.heap.size = B) (h : min (min a b) c = m) :
    Calls Try.prog 63 #[.slice (some ⟨B, 0, none⟩) 3 3] (w.alloc (.cells #[.int .i64 a, .int .i64 b, .int .i64 c] T)) fun e w' => e = .returned (.int .i64 m) ∧ w.alloc (.cells #[.int .i64 a, .int .i64 b, .int .i64 c] T) = w' := by
  subst hB
  have := rleast_at [a, b, c] w.heap.size 0 3 3 (w.alloc (.cells #[.int .i64 a, .int .i64 b, .int .i64 c] T)) rfl (by omega) (by omega) (by omega) (cells3 a b c T)
  rw [least3, h] at this
  exact this
theorem rleast2 (a b m : Int) (T : TypeId) (B : Nat) (w : World) (hB : w.heap.size = B) (h : min a b = m) :
    Calls Try.prog 63 #[.slice (some ⟨B, 0, none⟩) 2 2] (w.alloc (.cells #[.int .i64 a, .int .i64 b] T)) fun e w' => e = .returned (.int .i64 m) ∧ w.alloc (.cells #[.int .i64 a, .int .i64 b] T) = w' := by
  subst hB
  have := rleast_at [a, b] w.heap.size 0 2 2 (w.alloc (.cells #[.int .i64 a, .int .i64 b] T)) rfl (by omega) (by omega) (by omega) (cells2 a b T)
  rw [least2, h] at this
  exact this

theorem rleast3g (a b c m : Int) (B : Nat) (w : World) (h0 : w.cell? ⟨B, 0, none⟩ = some (.int .i64 a)) (h1 : w.cell? ⟨B, 1, none⟩ = some (.int .i64 b)) (h2 : w.cell? ⟨B, 2, none⟩ = some (.int .i64 c)) (h : min (min a b) c = m) :
    Calls Try.prog 63 #[.slice (some ⟨B, 0, none⟩) 3 3] w fun e w' => e = .returned (.int .i64 m) ∧ w = w' := by
  have := rleast_at [a, b, c] B 0 3 3 w rfl (by omega) (by omega) (by omega) (fun i hi => by
    have h : i = 0 ∨ i = 1 ∨ i = 2 := by omega
    rcases h with rfl | rfl | rfl
    · exact h0
    · exact h1
    · exact h2)
  rw [least3, h] at this
  exact this

set_option maxRecDepth 100000 in
set_option maxHeartbeats 4000000 in
theorem rmay_up (V A D L H p v lo hi : Int) (w : World) (hr : rightB ⟨V, A, D, L, H⟩ = true) (hs : safeB ⟨V, A, D, L, H⟩ ⟨p, v⟩ = true) (hv : 0 ≤ v) (hlo : mayLo ⟨V, A, D, L, H⟩ ⟨p, v⟩ = lo) (hhi : mayHi ⟨V, A, D, L, H⟩ ⟨p, v⟩ = hi) :
    Calls Try.prog 53 #[.agg #[.int .i64 V, .int .i64 A, .int .i64 D, .int .i64 L, .int .i64 H], .agg #[.int .i64 p, .int .i64 v]] w fun e w' => e = .returned (.tuple #[.int .i64 lo, .int .i64 hi]) ∧ Below w.heap.size w w' := by
  have hy := rightB_yes hr
  have hz := safeB_yes hs
  simp only at hy hz
  have hpb : L ≤ p ∧ p ≤ H := by omega
  have hvb : v ≤ 1048576 := by omega
  have hup := rch_bd (H - p) D
  have hdn := rch_bd (p - L) D
  have e2 : mayHi ⟨V, A, D, L, H⟩ ⟨p, v⟩ = upHi ⟨V, A, D, L, H⟩ v (H - p) := (may_up _ _ hr ⟨hv, hvb⟩).2.2
  have e3 : upHi ⟨V, A, D, L, H⟩ v (H - p) = max (max 0 (v - D)) (min (min (v + A) V) (rch (H - p) D)) := rfl
  rw [e2, e3] at hhi
  have hrr := fun w => rreach_any (H - p) D w (by omega) (by omega)
  have hrl := fun w => rreach_any (p - L) D w (by omega) (by omega)
  by_cases h0 : v = 0
  · subst h0
    have e4 : mayLo ⟨V, A, D, L, H⟩ ⟨p, 0⟩ = -upHi ⟨V, A, D, L, H⟩ 0 (p - L) := by simp [mayLo]
    have e5 : upHi ⟨V, A, D, L, H⟩ 0 (p - L) = max (max 0 (0 - D)) (min (min (0 + A) V) (rch (p - L) D)) := rfl
    rw [e4, e5] at hlo
    obtain ⟨X, hX⟩ : ∃ X, rch (H - p) D = X := ⟨_, rfl⟩
    obtain ⟨Y, hY⟩ : ∃ Y, rch (p - L) D = Y := ⟨_, rfl⟩
    rw [hX] at hhi hup hrr
    rw [hY] at hlo hdn hrl
    have hm1 : min (min A V) X = hi := by omega
    obtain ⟨Z, hm2⟩ : ∃ Z, min (min A V) Y = Z := ⟨_, rfl⟩
    have hZ : IntKind.i64.wrap (-Z) = lo := by rw [IntWalk.i64_in _ (by omega)]; omega
    have hlob : -1048576 ≤ lo ∧ lo ≤ 0 := by omega
    have HM1 := Lib.hid hm1
    have HM2 := Lib.hid hm2
    have HR := Lib.hid hrr
    have HL := Lib.hid hrl
    clear e2 e3 e4 e5 hhi hlo hX hY hz hm1 hm2 hr hs hrr hrl
    go_enter Try.func53, Try.ntmps53
    go_wp2_with fail
    refine wp_region_ext_tail 15 (by kernel_rfl) (by kernel_rfl) ?_
    simp only [List.take_succ_cons, List.take_zero, List.drop_succ_cons, List.drop_zero]
    repeat (go_big_quiet_step (first | (go_at_call 64; exact ext_same (HR.out _))))
    refine wpQuiet_nil ?_
    intro w2 hb2
    replace hb2 := ext_below hb2
    obtain ⟨hb2c, hb2f⟩ := bcell hb2
    have hb2z := hb2.size
    have hb2c0 := fun o => hb2c (w.heap.size) o (by first | (simp; done) | (simp; omega) | (simp at *; omega) | omega)
    have hb2f0 := fun o => hb2f (w.heap.size) o (by first | (simp; done) | (simp; omega) | (simp at *; omega) | omega)
    have hb2l0 := below_lt (b := w.heap.size) hb2 (by first | (simp; done) | (simp; omega) | (simp at *; omega) | omega)
    have hb2c1 := fun o => hb2c (w.heap.size + 1) o (by first | (simp; done) | (simp; omega) | (simp at *; omega) | omega)
    have hb2f1 := fun o => hb2f (w.heap.size + 1) o (by first | (simp; done) | (simp; omega) | (simp at *; omega) | omega)
    have hb2l1 := below_lt (b := w.heap.size + 1) hb2 (by first | (simp; done) | (simp; omega) | (simp at *; omega) | omega)
    go_wp2_with fail
    refine (rleast3 _ _ _ hi _ _ _ (by simp) (by have := HM1.out; omega)).mono ?_
    rintro e w3 ⟨rfl, rfl⟩
    go_wp2_with fail
    have hwr : IntKind.i64.wrap (p - L) = p - L := IntWalk.i64_in _ (by omega)
    go_region_held3 (fun w' => w'.cell? ⟨w.heap.size, 0, none⟩ = some (.int .i64 V) ∧ w'.cell? ⟨w.heap.size, 1, none⟩ = some (.int .i64 A) ∧ w'.cell? ⟨w.heap.size, 2, none⟩ = some (.int .i64 D) ∧ w'.cell? ⟨w.heap.size, 3, none⟩ = some (.int .i64 L) ∧ w'.cell? ⟨w.heap.size + 1, 0, none⟩ = some (.int .i64 p)) (go_keep)
      (first
        | (go_at_call 64; refine (HL.out _).mono ?_; rintro e w' ⟨rfl, rfl⟩)
        | (go_at_call 63; refine (rleast3g A V Y Z _ _ ?_ ?_ ?_ HM2.out).mono ?_; (go_simp); (go_simp); (go_simp); rintro e w' ⟨rfl, rfl⟩))
    all_goals
      go_wp2
      go_ret2
      exact ⟨rfl, by (repeat' (first | (with_reducible exact Below.refl _ _) | (with_reducible assumption) | (with_reducible refine below_drewN ?_ _) | (with_reducible refine Below.drew ?_) | (with_reducible refine below_new ?_ (Nat.le_refl _) _) | (with_reducible refine Below.setCell ?_ ?_ _) | (with_reducible refine below_go ?_ (by assumption) (Nat.le_refl _)) | (simp; done) | (simp; omega) | omega))⟩
  · have hvp : 0 < v := by omega
    have e4 : mayLo ⟨V, A, D, L, H⟩ ⟨p, v⟩ = max 0 (v - D) := (may_up _ _ hr ⟨hv, hvb⟩).2.1 hvp
    rw [e4] at hlo
    obtain ⟨X, hX⟩ : ∃ X, rch (H - p) D = X := ⟨_, rfl⟩
    rw [hX] at hhi hup hrr
    obtain ⟨m, hm⟩ : ∃ m, min (min (v + A) V) X = m := ⟨_, rfl⟩
    have hmb : 0 ≤ m ∧ m ≤ 1048576 := by omega
    have hcase : (v - D < 0 ∧ lo = 0 ∧ hi = m ∧ ¬ m < 0) ∨ (¬ v - D < 0 ∧ v - D = lo ∧ m < lo ∧ hi = lo) ∨ (¬ v - D < 0 ∧ v - D = lo ∧ ¬ m < lo ∧ hi = m) := by omega
    have hv0 : (v == 0) = false := by simpa using h0
    have HM := Lib.hid hm
    have HR := Lib.hid hrr
    clear e2 e3 e4 hhi hlo hX hz hm hr hs hrr hrl h0 hdn
    rcases hcase with ⟨c1, rfl, rfl, c4⟩ | ⟨c1, c2, c3, rfl⟩ | ⟨c1, c2, c3, rfl⟩
    all_goals
      go_enter Try.func53, Try.ntmps53
      go_wp2_with fail
      refine wp_region_ext_tail 15 (by kernel_rfl) (by kernel_rfl) ?_
      simp only [List.take_succ_cons, List.take_zero, List.drop_succ_cons, List.drop_zero]
      repeat (go_big_quiet_step (first | (go_at_call 64; exact ext_same (HR.out _))))
      refine wpQuiet_nil ?_
      intro w2 hb2
      replace hb2 := ext_below hb2
      obtain ⟨hb2c, hb2f⟩ := bcell hb2
      have hb2z := hb2.size
      have hb2c0 := fun o => hb2c (w.heap.size) o (by first | (simp; done) | (simp; omega) | (simp at *; omega) | omega)
      have hb2f0 := fun o => hb2f (w.heap.size) o (by first | (simp; done) | (simp; omega) | (simp at *; omega) | omega)
      have hb2l0 := below_lt (b := w.heap.size) hb2 (by first | (simp; done) | (simp; omega) | (simp at *; omega) | omega)
      have hb2c1 := fun o => hb2c (w.heap.size + 1) o (by first | (simp; done) | (simp; omega) | (simp at *; omega) | omega)
      have hb2f1 := fun o => hb2f (w.heap.size + 1) o (by first | (simp; done) | (simp; omega) | (simp at *; omega) | omega)
      have hb2l1 := below_lt (b := w.heap.size + 1) hb2 (by first | (simp; done) | (simp; omega) | (simp at *; omega) | omega)
      go_wp2_with fail
      refine (rleast3 _ _ _ _ _ _ _ (by simp) HM.out).mono ?_
      rintro e w3 ⟨rfl, rfl⟩
      go_wp2
      go_ret2
      exact ⟨rfl, by (repeat' (first | (with_reducible exact Below.refl _ _) | (with_reducible assumption) | (with_reducible refine below_drewN ?_ _) | (with_reducible refine Below.drew ?_) | (with_reducible refine below_new ?_ (Nat.le_refl _) _) | (with_reducible refine Below.setCell ?_ ?_ _) | (with_reducible refine below_go ?_ (by assumption) (Nat.le_refl _)) | (simp; done) | (simp; omega) | omega))⟩

set_option maxRecDepth 100000 in
set_option maxHeartbeats 4000000 in
theorem rmay9_at (V A D L H p v lo hi : Int) (w : World) (hk : okB ⟨V, A, D, L, H⟩ ⟨p, v⟩ = true) (hlo : mayLo ⟨V, A, D, L, H⟩ ⟨p, v⟩ = lo) (hhi : mayHi ⟨V, A, D, L, H⟩ ⟨p, v⟩ = hi) :
    Calls Try.prog 53 #[.agg #[.int .i64 V, .int .i64 A, .int .i64 D, .int .i64 L, .int .i64 H], .agg #[.int .i64 p, .int .i64 v]] w fun e w' => e = .returned (.tuple #[.int .i64 lo, .int .i64 hi]) ∧ Below w.heap.size w w' := by
  have hr := (okB_yes hk).1
  have hs := (okB_yes hk).2
  by_cases hv : 0 ≤ v
  · exact rmay_up V A D L H p v lo hi w hr hs hv hlo hhi
  · have hb := may_bd _ _ hr hs
    have hy := rightB_yes hr
    have hz := safeB_yes hs
    simp only at hy hz
    have hpb : -1099511627776 ≤ p ∧ p ≤ 1099511627776 := by omega
    have hvb : -1048576 ≤ v := by omega
    rw [hlo, hhi] at hb
    have hr2 : rightB ⟨V, A, D, -H, -L⟩ = true := by
      have := right_turn ⟨V, A, D, L, H⟩
      rw [hr] at this
      exact this
    have hs2 : safeB ⟨V, A, D, -H, -L⟩ ⟨-p, -v⟩ = true := safe_turn_of _ _ hr hs
    have h1 : mayLo ⟨V, A, D, -H, -L⟩ ⟨-p, -v⟩ = -hi := by
      have := mayLo_turn ⟨V, A, D, L, H⟩ ⟨p, v⟩
      rw [hhi] at this
      exact this
    have h2 : mayHi ⟨V, A, D, -H, -L⟩ ⟨-p, -v⟩ = -lo := by
      have := mayHi_turn ⟨V, A, D, L, H⟩ ⟨p, v⟩
      rw [hlo] at this
      exact this
    have hin := fun w => rmay_up V A D (-H) (-L) (-p) (-v) (-hi) (-lo) w hr2 hs2 (by omega) h1 h2
    have HI := Lib.hid hin
    clear hz hr hs hr2 hs2 h1 h2 hin hk hlo hhi
    go_enter Try.func53, Try.ntmps53
    go_wp2_with fail
    refine (rturned_any V A D L H p v _ (by omega)).mono ?_
    rintro e w1 ⟨rfl, hb1⟩
    go_wp2_with fail
    refine (HI.out _).mono ?_
    rintro e w2 ⟨rfl, hb2⟩
    go_wp2
    go_ret2
    exact ⟨rfl, by (repeat' (first | (with_reducible exact Below.refl _ _) | (with_reducible assumption) | (with_reducible refine below_drewN ?_ _) | (with_reducible refine Below.drew ?_) | (with_reducible refine below_new ?_ (Nat.le_refl _) _) | (with_reducible refine Below.setCell ?_ ?_ _) | (with_reducible refine below_go ?_ (by assumption) (Nat.le_refl _)) | (simp; done) | (simp; omega) | omega))⟩



end Go.Proofs.Ytgbcefdlmockoaa
