/- Contracts of layer 10: a new window. -/
import Derived.Test.YtddakmlnkffgiaaSmC
namespace Go.Proofs.Ytddakmlnkffgiaa
open Go.RowKit
set_option linter.unusedVariables false
set_option linter.unusedSimpArgs false
attribute [local go_sem] ite_max ite_min vite_max vite_min ext_cell ext_frozen

set_option maxRecDepth 100000 in
set_option maxHeartbeats 2000000 in
theorem sm_new_at (pos : Int) (m : Nat) (w : World) (hm : 1 ≤ m ∧ m ≤ 16) (hp : plB pos = true) : Calls Try.prog 43 #[.int .i64 (m : Int), .int .i64 pos] w fun e w' => ∃ b, e = .returned (.tuple #[.agg #[.slice (some ⟨b, 0, none⟩) m m], .int .i64 0]) ∧ w.heap.size ≤ b ∧ Below w.heap.size w w' ∧ Hid (w'.heap[b]? = some (.cells (curK pos m m).toArray 2)) := by
  have hm1 : (1 : Int) ≤ (m : Int) ∧ (m : Int) ≤ 16 := by omega
  have HP := Lib.hid hp
  clear hp
  go_enter Try.func43, Try.ntmps43
  go_wp2_with fail
  refine (sm_place_any pos _).mono ?_
  rw [HP.out]
  rintro e w1 ⟨rfl, rfl⟩
  go_wp2_with fail
  refine (sm_repeat_at pos m _ 0 1 _ hm (by omega) ?_ ?_).mono ?_
  · go_simp
  · go_simp
  rintro e w2 ⟨rfl, hb2, hc2⟩
  have hc3 : Hid (w2.heap[w.heap.size + 1 + 1]? = some (.cells (curK pos m m).toArray 2)) := Lib.hid (by simpa using hc2.out)
  clear hc2
  obtain ⟨hb2c, hb2f⟩ := bcell hb2
  have hb2z := hb2.size
  have hb2c0 := fun o => hb2c (w.heap.size) o (by first | (simp; done) | (simp; omega) | (simp at *; omega) | omega)
  have hb2f0 := fun o => hb2f (w.heap.size) o (by first | (simp; done) | (simp; omega) | (simp at *; omega) | omega)
  have hb2l0 := below_lt (b := w.heap.size) hb2 (by first | (simp; done) | (simp; omega) | (simp at *; omega) | omega)
  go_wp2
  exact bodyPost_ret (v := .tuple #[.agg #[.slice (some ⟨w.heap.size + 1 + 1, 0, none⟩) m m], .int .i64 0]) (by simp [results, Try.results43, go_sem, hb2c0]) rfl ⟨_, rfl, by omega, by (repeat' (first | (with_reducible exact Below.refl _ _) | (with_reducible assumption) | (with_reducible refine below_drewN ?_ _) | (with_reducible refine Below.drew ?_) | (with_reducible refine below_new ?_ (Nat.le_refl _) _) | (with_reducible refine Below.setCell ?_ ?_ _) | (with_reducible refine below_go ?_ (by assumption) (Nat.le_refl _)) | (simp; done) | (simp; omega) | omega)), Lib.hid (by rw [Below.heap_setCell _ _ _ _ (by show w.heap.size + 1 + 1 ≠ w.heap.size; omega)]; exact hc3.out)⟩

set_option maxRecDepth 100000 in
set_option maxHeartbeats 2000000 in
theorem sm_new_no (pos : Int) (m : Int) (w : World) (hn : (decide (1 ≤ m ∧ m ≤ 16) && plB pos) = false) : Calls Try.prog 43 #[.int .i64 m, .int .i64 pos] w fun e w' => e = .returned (.tuple #[.agg #[.slice none 0 0], .int .i64 1]) ∧ Below w.heap.size w w' := by
  by_cases h1 : 1 ≤ m
  · by_cases h2 : m ≤ 16
    · have hp : plB pos = false := by simpa [h1, h2] using hn
      have HP := Lib.hid hp
      clear hp hn
      go_enter Try.func43, Try.ntmps43
      go_wp2_with fail
      refine (sm_place_any pos _).mono ?_
      rw [HP.out]
      rintro e w1 ⟨rfl, rfl⟩
      go_wp2
      exact bodyPost_ret (v := .tuple #[.agg #[.slice none 0 0], .int .i64 1]) (by simp [results, Try.results43, go_sem]) rfl ⟨rfl, by (repeat' (first | (with_reducible exact Below.refl _ _) | (with_reducible assumption) | (with_reducible refine below_drewN ?_ _) | (with_reducible refine Below.drew ?_) | (with_reducible refine below_new ?_ (Nat.le_refl _) _) | (with_reducible refine Below.setCell ?_ ?_ _) | (with_reducible refine below_go ?_ (by assumption) (Nat.le_refl _)) | (simp; done) | (simp; omega) | omega))⟩
    · clear hn
      go_enter Try.func43, Try.ntmps43
      go_wp2
      exact bodyPost_ret (v := .tuple #[.agg #[.slice none 0 0], .int .i64 1]) (by simp [results, Try.results43, go_sem]) rfl ⟨rfl, by (repeat' (first | (with_reducible exact Below.refl _ _) | (with_reducible assumption) | (with_reducible refine below_drewN ?_ _) | (with_reducible refine Below.drew ?_) | (with_reducible refine below_new ?_ (Nat.le_refl _) _) | (with_reducible refine Below.setCell ?_ ?_ _) | (with_reducible refine below_go ?_ (by assumption) (Nat.le_refl _)) | (simp; done) | (simp; omega) | omega))⟩
  · clear hn
    have h2 : m < 1 := by omega
    go_enter Try.func43, Try.ntmps43
    go_wp2
    exact bodyPost_ret (v := .tuple #[.agg #[.slice none 0 0], .int .i64 1]) (by simp [results, Try.results43, go_sem]) rfl ⟨rfl, by (repeat' (first | (with_reducible exact Below.refl _ _) | (with_reducible assumption) | (with_reducible refine below_drewN ?_ _) | (with_reducible refine Below.drew ?_) | (with_reducible refine below_new ?_ (Nat.le_refl _) _) | (with_reducible refine Below.setCell ?_ ?_ _) | (with_reducible refine below_go ?_ (by assumption) (Nat.le_refl _)) | (simp; done) | (simp; omega) | omega))⟩

end Go.Proofs.Ytddakmlnkffgiaa
