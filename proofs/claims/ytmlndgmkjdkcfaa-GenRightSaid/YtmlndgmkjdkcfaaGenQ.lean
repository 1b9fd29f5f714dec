/- Layer 9: GenRight, of limits that are not right, or a generator that is not safe. -/
import Derived.Test.YtmlndgmkjdkcfaaR9E
import Derived.Test.YtmlndgmkjdkcfaaGenP
namespace Go.Proofs.Ytmlndgmkjdkcfaa
open Go.ChangeShapes Go.WideShapes Go.ChangeAt Go.RowKit
set_option linter.unusedVariables false
set_option linter.unusedSimpArgs false
attribute [local go_sem] ite_max ite_min vite_max vite_min ite_max0 vite_max0 ext_cell ext_frozen

set_option maxRecDepth 100000 in
set_option maxHeartbeats 8000000 in
theorem genright_wrong (V A D L H p v x t u f s : Int) (w : World) (hr : Hid (rightB ⟨V, A, D, L, H⟩ = false)) (hk : Hid (okB ⟨V, A, D, L, H⟩ ⟨p, v⟩ = false)) (hp : -9223372036854775808 ≤ p ∧ p ≤ 9223372036854775807) :
    Calls Try.prog 12 #[.agg #[.int .i64 V, .int .i64 A, .int .i64 D, .int .i64 L, .int .i64 H], .agg #[.int .i64 p, .int .i64 v], .int .i64 x, .int .i64 t, .int .i64 u, .int .i64 f, .int .i64 s] w fun e w' => e = .returned (.bool true) ∧ Below w.heap.size w w' := by
  have hland : ((p == t) = false ∧ ((p == t) && (v == 0)) = false) ∨ ((p == t) = true ∧ (v == 0) = false ∧ ((p == t) && (v == 0)) = false) ∨ ((p == t) = true ∧ (v == 0) = true ∧ ((p == t) && (v == 0)) = true) := by
    cases h1 : (p == t)
    · exact .inl ⟨rfl, rfl⟩
    · cases h2 : (v == 0)
      · exact .inr (.inl ⟨rfl, rfl, rfl⟩)
      · exact .inr (.inr ⟨rfl, rfl, rfl⟩)
  obtain ⟨b, hb⟩ : ∃ b, ((p == t) && (v == 0)) = b := ⟨_, rfl⟩
  rw [hb] at hland
  have HB := Lib.hid hb
  clear hb
  rcases hland with ⟨q1, rfl⟩ | ⟨q1, q2, rfl⟩ | ⟨q1, q2, rfl⟩
  all_goals
    go_enter Try.func12, Try.ntmps12
    go_wp2_with fail
    refine (awake9 _).mono ?_
    rintro e w1 ⟨rfl, hb1⟩
    obtain ⟨hb1c, hb1f⟩ := bcell hb1
    have hb1z := hb1.size
    have hb1c0 := fun o => hb1c (w.heap.size) o (by first | (simp; done) | (simp; omega) | (simp at *; omega) | omega)
    have hb1f0 := fun o => hb1f (w.heap.size) o (by first | (simp; done) | (simp; omega) | (simp at *; omega) | omega)
    have hb1l0 := below_lt (b := w.heap.size) hb1 (by first | (simp; done) | (simp; omega) | (simp at *; omega) | omega)
    have hb1c1 := fun o => hb1c (w.heap.size + 1) o (by first | (simp; done) | (simp; omega) | (simp at *; omega) | omega)
    have hb1f1 := fun o => hb1f (w.heap.size + 1) o (by first | (simp; done) | (simp; omega) | (simp at *; omega) | omega)
    have hb1l1 := below_lt (b := w.heap.size + 1) hb1 (by first | (simp; done) | (simp; omega) | (simp at *; omega) | omega)
    go_wp2_with fail
    refine (rright9_at _ _ _ _ _ _ _ hr.out).mono ?_
    rintro e w2 ⟨rfl, hb2⟩
    obtain ⟨hb2c, hb2f⟩ := bcell hb2
    have hb2z := hb2.size
    have hb2c0 := fun o => hb2c (w.heap.size) o (by first | (simp; done) | (simp; omega) | (simp at *; omega) | omega)
    have hb2f0 := fun o => hb2f (w.heap.size) o (by first | (simp; done) | (simp; omega) | (simp at *; omega) | omega)
    have hb2l0 := below_lt (b := w.heap.size) hb2 (by first | (simp; done) | (simp; omega) | (simp at *; omega) | omega)
    have hb2c1 := fun o => hb2c (w.heap.size + 1) o (by first | (simp; done) | (simp; omega) | (simp at *; omega) | omega)
    have hb2f1 := fun o => hb2f (w.heap.size + 1) o (by first | (simp; done) | (simp; omega) | (simp at *; omega) | omega)
    have hb2l1 := below_lt (b := w.heap.size + 1) hb2 (by first | (simp; done) | (simp; omega) | (simp at *; omega) | omega)
    go_wp2_with fail
    refine wp_region_ext (by kernel_rfl) (by kernel_rfl) ?_
    repeat (go_big_quiet_step (first | (go_at_call 27; exact ext_call (gright_at _ _ _ _ _ _ _ hr.out)) | (go_at_call 31; exact ext_call (glanded_at _ _ _ _ _ HB.out))))
    refine wpQuiet_nil ?_
    intro w3 hb3
    replace hb3 := ext_below hb3
    obtain ⟨hb3c, hb3f⟩ := bcell hb3
    have hb3z := hb3.size
    have hb3c0 := fun o => hb3c (w.heap.size) o (by first | (simp; done) | (simp; omega) | (simp at *; omega) | omega)
    have hb3f0 := fun o => hb3f (w.heap.size) o (by first | (simp; done) | (simp; omega) | (simp at *; omega) | omega)
    have hb3l0 := below_lt (b := w.heap.size) hb3 (by first | (simp; done) | (simp; omega) | (simp at *; omega) | omega)
    have hb3c1 := fun o => hb3c (w.heap.size + 1) o (by first | (simp; done) | (simp; omega) | (simp at *; omega) | omega)
    have hb3f1 := fun o => hb3f (w.heap.size + 1) o (by first | (simp; done) | (simp; omega) | (simp at *; omega) | omega)
    have hb3l1 := below_lt (b := w.heap.size + 1) hb3 (by first | (simp; done) | (simp; omega) | (simp at *; omega) | omega)
    go_wp2_with fail
    refine (gmay_no _ _ _ _ _ _ _ _ hk.out hp).mono ?_
    rintro e w4 ⟨rfl, hb4⟩
    obtain ⟨hb4c, hb4f⟩ := bcell hb4
    have hb4z := hb4.size
    have hb4c0 := fun o => hb4c (w.heap.size) o (by first | (simp; done) | (simp; omega) | (simp at *; omega) | omega)
    have hb4f0 := fun o => hb4f (w.heap.size) o (by first | (simp; done) | (simp; omega) | (simp at *; omega) | omega)
    have hb4l0 := below_lt (b := w.heap.size) hb4 (by first | (simp; done) | (simp; omega) | (simp at *; omega) | omega)
    have hb4c1 := fun o => hb4c (w.heap.size + 1) o (by first | (simp; done) | (simp; omega) | (simp at *; omega) | omega)
    have hb4f1 := fun o => hb4f (w.heap.size + 1) o (by first | (simp; done) | (simp; omega) | (simp at *; omega) | omega)
    have hb4l1 := below_lt (b := w.heap.size + 1) hb4 (by first | (simp; done) | (simp; omega) | (simp at *; omega) | omega)
    go_wp2_with fail
    refine wp_region_ext (by kernel_rfl) (by kernel_rfl) ?_
    repeat (go_big_quiet_step (first | (go_at_call 29; exact ext_call (gstep_no _ _ _ _ _ _ _ _ _ hk.out hp)) | (go_at_call 30; exact ext_call (gto_no _ _ _ _ _ _ _ _ _ _ hk.out hp)) | (go_at_call 35; exact ext_call (gby_no _ _ _ _ _ _ _ _ _ _ _ _ hk.out hp))))
    refine wpQuiet_nil ?_
    intro w6 hb6
    replace hb6 := ext_below hb6
    go_wp2
    go_ret
    exact ⟨rfl, by (repeat' (first | (with_reducible exact Below.refl _ _) | (with_reducible assumption) | (with_reducible refine below_drewN ?_ _) | (with_reducible refine Below.drew ?_) | (with_reducible refine below_new ?_ (Nat.le_refl _) _) | (with_reducible refine Below.setCell ?_ ?_ _) | (with_reducible refine below_go ?_ (by assumption) (Nat.le_refl _)) | (simp; done) | (simp; omega) | omega))⟩

set_option maxRecDepth 100000 in
set_option maxHeartbeats 8000000 in
theorem genright_unsafe (V A D L H p v x t u f s : Int) (w : World) (hr : Hid (rightB ⟨V, A, D, L, H⟩ = true)) (hs : Hid (safeB ⟨V, A, D, L, H⟩ ⟨p, v⟩ = false)) (hk : Hid (okB ⟨V, A, D, L, H⟩ ⟨p, v⟩ = false)) (hp : -9223372036854775808 ≤ p ∧ p ≤ 9223372036854775807) :
    Calls Try.prog 12 #[.agg #[.int .i64 V, .int .i64 A, .int .i64 D, .int .i64 L, .int .i64 H], .agg #[.int .i64 p, .int .i64 v], .int .i64 x, .int .i64 t, .int .i64 u, .int .i64 f, .int .i64 s] w fun e w' => e = .returned (.bool true) ∧ Below w.heap.size w w' := by
  have hland : ((p == t) = false ∧ ((p == t) && (v == 0)) = false) ∨ ((p == t) = true ∧ (v == 0) = false ∧ ((p == t) && (v == 0)) = false) ∨ ((p == t) = true ∧ (v == 0) = true ∧ ((p == t) && (v == 0)) = true) := by
    cases h1 : (p == t)
    · exact .inl ⟨rfl, rfl⟩
    · cases h2 : (v == 0)
      · exact .inr (.inl ⟨rfl, rfl, rfl⟩)
      · exact .inr (.inr ⟨rfl, rfl, rfl⟩)
  obtain ⟨b, hb⟩ : ∃ b, ((p == t) && (v == 0)) = b := ⟨_, rfl⟩
  rw [hb] at hland
  have HB := Lib.hid hb
  clear hb
  rcases hland with ⟨q1, rfl⟩ | ⟨q1, q2, rfl⟩ | ⟨q1, q2, rfl⟩
  all_goals
    go_enter Try.func12, Try.ntmps12
    go_wp2_with fail
    refine (awake9 _).mono ?_
    rintro e w1 ⟨rfl, hb1⟩
    obtain ⟨hb1c, hb1f⟩ := bcell hb1
    have hb1z := hb1.size
    have hb1c0 := fun o => hb1c (w.heap.size) o (by first | (simp; done) | (simp; omega) | (simp at *; omega) | omega)
    have hb1f0 := fun o => hb1f (w.heap.size) o (by first | (simp; done) | (simp; omega) | (simp at *; omega) | omega)
    have hb1l0 := below_lt (b := w.heap.size) hb1 (by first | (simp; done) | (simp; omega) | (simp at *; omega) | omega)
    have hb1c1 := fun o => hb1c (w.heap.size + 1) o (by first | (simp; done) | (simp; omega) | (simp at *; omega) | omega)
    have hb1f1 := fun o => hb1f (w.heap.size + 1) o (by first | (simp; done) | (simp; omega) | (simp at *; omega) | omega)
    have hb1l1 := below_lt (b := w.heap.size + 1) hb1 (by first | (simp; done) | (simp; omega) | (simp at *; omega) | omega)
    go_wp2_with fail
    refine (rright9_at _ _ _ _ _ _ _ hr.out).mono ?_
    rintro e w2 ⟨rfl, hb2⟩
    obtain ⟨hb2c, hb2f⟩ := bcell hb2
    have hb2z := hb2.size
    have hb2c0 := fun o => hb2c (w.heap.size) o (by first | (simp; done) | (simp; omega) | (simp at *; omega) | omega)
    have hb2f0 := fun o => hb2f (w.heap.size) o (by first | (simp; done) | (simp; omega) | (simp at *; omega) | omega)
    have hb2l0 := below_lt (b := w.heap.size) hb2 (by first | (simp; done) | (simp; omega) | (simp at *; omega) | omega)
    have hb2c1 := fun o => hb2c (w.heap.size + 1) o (by first | (simp; done) | (simp; omega) | (simp at *; omega) | omega)
    have hb2f1 := fun o => hb2f (w.heap.size + 1) o (by first | (simp; done) | (simp; omega) | (simp at *; omega) | omega)
    have hb2l1 := below_lt (b := w.heap.size + 1) hb2 (by first | (simp; done) | (simp; omega) | (simp at *; omega) | omega)
    go_wp2_with fail
    refine wp_region_ext (by kernel_rfl) (by kernel_rfl) ?_
    repeat (go_big_quiet_step (first | (go_at_call 27; exact ext_call (gright_at _ _ _ _ _ _ _ hr.out)) | (go_at_call 31; exact ext_call (glanded_at _ _ _ _ _ HB.out))))
    refine wpQuiet_nil ?_
    intro w3 hb3
    replace hb3 := ext_below hb3
    obtain ⟨hb3c, hb3f⟩ := bcell hb3
    have hb3z := hb3.size
    have hb3c0 := fun o => hb3c (w.heap.size) o (by first | (simp; done) | (simp; omega) | (simp at *; omega) | omega)
    have hb3f0 := fun o => hb3f (w.heap.size) o (by first | (simp; done) | (simp; omega) | (simp at *; omega) | omega)
    have hb3l0 := below_lt (b := w.heap.size) hb3 (by first | (simp; done) | (simp; omega) | (simp at *; omega) | omega)
    have hb3c1 := fun o => hb3c (w.heap.size + 1) o (by first | (simp; done) | (simp; omega) | (simp at *; omega) | omega)
    have hb3f1 := fun o => hb3f (w.heap.size + 1) o (by first | (simp; done) | (simp; omega) | (simp at *; omega) | omega)
    have hb3l1 := below_lt (b := w.heap.size + 1) hb3 (by first | (simp; done) | (simp; omega) | (simp at *; omega) | omega)
    go_wp2_with fail
    refine (gmay_no _ _ _ _ _ _ _ _ hk.out hp).mono ?_
    rintro e w4 ⟨rfl, hb4⟩
    obtain ⟨hb4c, hb4f⟩ := bcell hb4
    have hb4z := hb4.size
    have hb4c0 := fun o => hb4c (w.heap.size) o (by first | (simp; done) | (simp; omega) | (simp at *; omega) | omega)
    have hb4f0 := fun o => hb4f (w.heap.size) o (by first | (simp; done) | (simp; omega) | (simp at *; omega) | omega)
    have hb4l0 := below_lt (b := w.heap.size) hb4 (by first | (simp; done) | (simp; omega) | (simp at *; omega) | omega)
    have hb4c1 := fun o => hb4c (w.heap.size + 1) o (by first | (simp; done) | (simp; omega) | (simp at *; omega) | omega)
    have hb4f1 := fun o => hb4f (w.heap.size + 1) o (by first | (simp; done) | (simp; omega) | (simp at *; omega) | omega)
    have hb4l1 := below_lt (b := w.heap.size + 1) hb4 (by first | (simp; done) | (simp; omega) | (simp at *; omega) | omega)
    go_wp2_with fail
    refine (rsafe9_at _ _ _ _ _ _ _ _ hr.out hp _ hs.out).mono ?_
    rintro e w5 ⟨rfl, hb5⟩
    obtain ⟨hb5c, hb5f⟩ := bcell hb5
    have hb5z := hb5.size
    have hb5c0 := fun o => hb5c (w.heap.size) o (by first | (simp; done) | (simp; omega) | (simp at *; omega) | omega)
    have hb5f0 := fun o => hb5f (w.heap.size) o (by first | (simp; done) | (simp; omega) | (simp at *; omega) | omega)
    have hb5l0 := below_lt (b := w.heap.size) hb5 (by first | (simp; done) | (simp; omega) | (simp at *; omega) | omega)
    have hb5c1 := fun o => hb5c (w.heap.size + 1) o (by first | (simp; done) | (simp; omega) | (simp at *; omega) | omega)
    have hb5f1 := fun o => hb5f (w.heap.size + 1) o (by first | (simp; done) | (simp; omega) | (simp at *; omega) | omega)
    have hb5l1 := below_lt (b := w.heap.size + 1) hb5 (by first | (simp; done) | (simp; omega) | (simp at *; omega) | omega)
    go_wp2_with fail
    refine wp_region_ext (by kernel_rfl) (by kernel_rfl) ?_
    repeat (go_big_quiet_step (first | (go_at_call 29; exact ext_call (gstep_no _ _ _ _ _ _ _ _ _ hk.out hp)) | (go_at_call 30; exact ext_call (gto_no _ _ _ _ _ _ _ _ _ _ hk.out hp)) | (go_at_call 35; exact ext_call (gby_no _ _ _ _ _ _ _ _ _ _ _ _ hk.out hp)) | (go_at_call 28; exact ext_call (gsafe_at _ _ _ _ _ _ _ _ hr.out hp _ hs.out))))
    refine wpQuiet_nil ?_
    intro w6 hb6
    replace hb6 := ext_below hb6
    go_wp2
    go_ret
    exact ⟨rfl, by (repeat' (first | (with_reducible exact Below.refl _ _) | (with_reducible assumption) | (with_reducible refine below_drewN ?_ _) | (with_reducible refine Below.drew ?_) | (with_reducible refine below_new ?_ (Nat.le_refl _) _) | (with_reducible refine Below.setCell ?_ ?_ _) | (with_reducible refine below_go ?_ (by assumption) (Nat.le_refl _)) | (simp; done) | (simp; omega) | omega))⟩

end Go.Proofs.Ytmlndgmkjdkcfaa
