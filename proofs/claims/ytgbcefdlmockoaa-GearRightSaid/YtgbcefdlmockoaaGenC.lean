/- Contracts of layer 9: a step; what is wanted. -/
import Derived.Test.YtgbcefdlmockoaaGenB
import Derived.Test.YtgbcefdlmockoaaPGenB
namespace Go.Proofs.Ytgbcefdlmockoaa
open Go.RowKit
set_option linter.unusedVariables false
set_option linter.unusedSimpArgs false
attribute [local go_sem] ite_max ite_min vite_max vite_min ite_max0 vite_max0 ext_cell ext_frozen

set_option maxRecDepth 100000 in
set_option maxHeartbeats 2000000 in
theorem gstep_yes (V A D L H p v x : Int) (w : World) (hk : okB ⟨V, A, D, L, H⟩ ⟨p, v⟩ = true) :
    Calls Try.prog 36 #[.agg #[.int .i64 V, .int .i64 A, .int .i64 D, .int .i64 L, .int .i64 H], .agg #[.int .i64 p, .int .i64 v], .int .i64 x] w fun e w' => e = .returned (.agg #[.int .i64 (stepG ⟨V, A, D, L, H⟩ ⟨p, v⟩ x).p, .int .i64 (stepG ⟨V, A, D, L, H⟩ ⟨p, v⟩ x).v]) ∧ Below w.heap.size w w' := by
  have hm := may_bd _ _ (okB_yes hk).1 (okB_yes hk).2
  have hy := rightB_yes (okB_yes hk).1
  have hs := safeB_yes (okB_yes hk).2
  simp only at hy hs
  have hp1 : L ≤ p ∧ p ≤ H := by omega
  have HK := Lib.hid hk
  have h1 : (stepG ⟨V, A, D, L, H⟩ ⟨p, v⟩ x).v = max (mayLo ⟨V, A, D, L, H⟩ ⟨p, v⟩) (min (mayHi ⟨V, A, D, L, H⟩ ⟨p, v⟩) x) := rfl
  have h2 : (stepG ⟨V, A, D, L, H⟩ ⟨p, v⟩ x).p = p + max (mayLo ⟨V, A, D, L, H⟩ ⟨p, v⟩) (min (mayHi ⟨V, A, D, L, H⟩ ⟨p, v⟩) x) := rfl
  have H1 := Lib.hid h1
  have H2 := Lib.hid h2
  clear hs hk h1 h2
  go_enter Try.func36, Try.ntmps36
  go_wp2_with fail
  refine (gok_at _ _ _ _ _ _ _ _ (by omega) _ HK.out).mono ?_
  rintro e w1 ⟨rfl, hb1⟩
  obtain ⟨hb1c, hb1f⟩ := bcell hb1
  have hb1z := hb1.size
  have hb1c0 := fun o => hb1c (w.heap.size) o (by first | (simp; done) | (simp; omega) | (simp at *; omega) | omega)
  have hb1f0 := fun o => hb1f (w.heap.size) o (by first | (simp; done) | (simp; omega) | (simp at *; omega) | omega)
  have hb1l0 := below_lt (b := w.heap.size) hb1 (by first | (simp; done) | (simp; omega) | (simp at *; omega) | omega)
  have hb1c1 := fun o => hb1c (w.heap.size + 1) o (by first | (simp; done) | (simp; omega) | (simp at *; omega) | omega)
  have hb1f1 := fun o => hb1f (w.heap.size + 1) o (by first | (simp; done) | (simp; omega) | (simp at *; omega) | omega)
  have hb1l1 := below_lt (b := w.heap.size + 1) hb1 (by first | (simp; done) | (simp; omega) | (simp at *; omega) | omega)
  have hb1c2 := fun o => hb1c (w.heap.size + 2) o (by first | (simp; done) | (simp; omega) | (simp at *; omega) | omega)
  have hb1f2 := fun o => hb1f (w.heap.size + 2) o (by first | (simp; done) | (simp; omega) | (simp at *; omega) | omega)
  have hb1l2 := below_lt (b := w.heap.size + 2) hb1 (by first | (simp; done) | (simp; omega) | (simp at *; omega) | omega)
  go_wp2_with fail
  refine (gmay_yes _ _ _ _ _ _ _ _ HK.out).mono ?_
  rintro e w2 ⟨rfl, hb2⟩
  obtain ⟨hb2c, hb2f⟩ := bcell hb2
  have hb2z := hb2.size
  have hb2c0 := fun o => hb2c (w.heap.size) o (by first | (simp; done) | (simp; omega) | (simp at *; omega) | omega)
  have hb2f0 := fun o => hb2f (w.heap.size) o (by first | (simp; done) | (simp; omega) | (simp at *; omega) | omega)
  have hb2l0 := below_lt (b := w.heap.size) hb2 (by first | (simp; done) | (simp; omega) | (simp at *; omega) | omega)
  have hb2c1 := fun o => hb2c (w.heap.size + 1) o (by first | (simp; done) | (simp; omega) | (simp at *; omega) | omega)
  have hb2f1 := fun o => hb2f (w.heap.size + 1) o (by first | (simp; done) | (simp; omega) | (simp at *; omega) | omega)
  have hb2l1 := below_lt (b := w.heap.size + 1) hb2 (by first | (simp; done) | (simp; omega) | (simp at *; omega) | omega)
  have hb2c2 := fun o => hb2c (w.heap.size + 2) o (by first | (simp; done) | (simp; omega) | (simp at *; omega) | omega)
  have hb2f2 := fun o => hb2f (w.heap.size + 2) o (by first | (simp; done) | (simp; omega) | (simp at *; omega) | omega)
  have hb2l2 := below_lt (b := w.heap.size + 2) hb2 (by first | (simp; done) | (simp; omega) | (simp at *; omega) | omega)
  go_wp2
  rw [H1.out, H2.out]
  exact bodyPost_ret (v := .agg #[.int .i64 (p + max (mayLo ⟨V, A, D, L, H⟩ ⟨p, v⟩) (min (mayHi ⟨V, A, D, L, H⟩ ⟨p, v⟩) x)), .int .i64 (max (mayLo ⟨V, A, D, L, H⟩ ⟨p, v⟩) (min (mayHi ⟨V, A, D, L, H⟩ ⟨p, v⟩) x))]) (by simp [results, Try.results36, go_sem, hb2c2, hb1c2]) rfl ⟨rfl, by (repeat' (first | (with_reducible exact Below.refl _ _) | (with_reducible assumption) | (with_reducible refine below_drewN ?_ _) | (with_reducible refine Below.drew ?_) | (with_reducible refine below_new ?_ (Nat.le_refl _) _) | (with_reducible refine Below.setCell ?_ ?_ _) | (with_reducible refine below_go ?_ (by assumption) (Nat.le_refl _)) | (simp; done) | (simp; omega) | omega))⟩

set_option maxRecDepth 100000 in
set_option maxHeartbeats 2000000 in
theorem gstep_no (V A D L H p v x : Int) (w : World) (hk : okB ⟨V, A, D, L, H⟩ ⟨p, v⟩ = false) (hp : -9223372036854775808 ≤ p ∧ p ≤ 9223372036854775807) :
    Calls Try.prog 36 #[.agg #[.int .i64 V, .int .i64 A, .int .i64 D, .int .i64 L, .int .i64 H], .agg #[.int .i64 p, .int .i64 v], .int .i64 x] w fun e w' => e = .returned (.agg #[.int .i64 p, .int .i64 v]) ∧ Below w.heap.size w w' := by
  have HK := Lib.hid hk
  clear hk
  go_enter Try.func36, Try.ntmps36
  go_wp2_with fail
  refine (gok_at _ _ _ _ _ _ _ _ hp _ HK.out).mono ?_
  rintro e w1 ⟨rfl, hb1⟩
  obtain ⟨hb1c, hb1f⟩ := bcell hb1
  have hb1z := hb1.size
  have hb1c0 := fun o => hb1c (w.heap.size) o (by first | (simp; done) | (simp; omega) | (simp at *; omega) | omega)
  have hb1f0 := fun o => hb1f (w.heap.size) o (by first | (simp; done) | (simp; omega) | (simp at *; omega) | omega)
  have hb1l0 := below_lt (b := w.heap.size) hb1 (by first | (simp; done) | (simp; omega) | (simp at *; omega) | omega)
  have hb1c1 := fun o => hb1c (w.heap.size + 1) o (by first | (simp; done) | (simp; omega) | (simp at *; omega) | omega)
  have hb1f1 := fun o => hb1f (w.heap.size + 1) o (by first | (simp; done) | (simp; omega) | (simp at *; omega) | omega)
  have hb1l1 := below_lt (b := w.heap.size + 1) hb1 (by first | (simp; done) | (simp; omega) | (simp at *; omega) | omega)
  have hb1c2 := fun o => hb1c (w.heap.size + 2) o (by first | (simp; done) | (simp; omega) | (simp at *; omega) | omega)
  have hb1f2 := fun o => hb1f (w.heap.size + 2) o (by first | (simp; done) | (simp; omega) | (simp at *; omega) | omega)
  have hb1l2 := below_lt (b := w.heap.size + 2) hb1 (by first | (simp; done) | (simp; omega) | (simp at *; omega) | omega)
  go_wp2
  exact bodyPost_ret (v := .agg #[.int .i64 p, .int .i64 v]) (by simp [results, Try.results36, go_sem, hb1c2]) rfl ⟨rfl, by (repeat' (first | (with_reducible exact Below.refl _ _) | (with_reducible assumption) | (with_reducible refine below_drewN ?_ _) | (with_reducible refine Below.drew ?_) | (with_reducible refine below_new ?_ (Nat.le_refl _) _) | (with_reducible refine Below.setCell ?_ ?_ _) | (with_reducible refine below_go ?_ (by assumption) (Nat.le_refl _)) | (simp; done) | (simp; omega) | omega))⟩









end Go.Proofs.Ytgbcefdlmockoaa
