/- Contracts of layer 10's statements: awake, place. -/
import Derived.Test.YtddakmlnkffgiaaSmF
namespace Go.Proofs.Ytddakmlnkffgiaa
open Go.RowKit
set_option linter.unusedVariables false
set_option linter.unusedSimpArgs false
attribute [local go_sem] ite_max ite_min vite_max vite_min ext_cell ext_frozen

theorem OnW.store {w : World} {zs : List Int} {n g k : Nat} (h : OnW w zs n g k) {a : Addr} (hne : g ≠ a.block) (u : Value) : OnW (w.setCell a u) zs n g k :=
  ⟨h.nk, h.km, Nat.lt_of_lt_of_le h.gl ((Below.refl 0 w).setCell (p := a) (Nat.zero_le _) u).size, fun i hi => by rw [World.cell?_of_block (w := w) (Below.heap_setCell w a u g hne)]; exact h.cs i hi⟩

set_option maxHeartbeats 1000000 in
theorem lawplace_any (n : Int) (w : World) : Calls Try.prog 46 #[.int .i64 n] w fun e w' => e = .returned (.bool (plB n)) ∧ w = w' := by
  by_cases h1 : -2199023255552 ≤ n
  · go_enter Try.func46, Try.ntmps46
    go_wp2
    go_ret
    exact ⟨by simp [h1, plB], rfl⟩
  · have hp : plB n = false := decide_eq_false (by omega)
    have h2 : decide (-2199023255552 ≤ n) = false := decide_eq_false h1
    have HP := Lib.hid hp
    clear hp h1
    go_enter Try.func46, Try.ntmps46
    go_wp2
    go_ret
    rw [HP.out]
    exact ⟨rfl, rfl⟩

set_option maxRecDepth 100000 in
set_option maxHeartbeats 4000000 in
theorem awake10_at (w : World) : Calls Try.prog 42 #[] w fun e w' => e = .returned (.bool true) ∧ Below w.heap.size w w' := by
  go_enter Try.func42, Try.ntmps42
  go_wp2_with fail
  refine (sm_new_w 5 2 _ (by omega) (by decide)).mono ?_
  rintro e w1 ⟨g1, rfl, hg1, hb1, o1⟩
  go_wp2_with fail
  refine (sm_push_w (List.replicate 2 5) g1 2 2 7 _ (o1.below ?_) (by decide) (by decide)).mono ?_
  · (repeat' (first | (with_reducible exact Below.refl _ _) | (with_reducible assumption) | (with_reducible refine below_drewN ?_ _) | (with_reducible refine Below.drew ?_) | (with_reducible refine below_new ?_ (Nat.le_refl _) _) | (with_reducible refine Below.setCell ?_ ?_ _) | (with_reducible refine below_go ?_ (by assumption) (Nat.le_refl _)) | (simp; done) | (simp; omega) | omega))
  rintro e w2 ⟨g2, k2, rfl, hg2, hb2, o2⟩
  obtain ⟨hb2c, hb2f⟩ := bcell hb2
  have hb2z := hb2.size
  have hb2c0 := fun o => hb2c (w1.heap.size) o (by first | (simp; done) | (simp; omega) | (simp at *; omega) | omega)
  have hb2f0 := fun o => hb2f (w1.heap.size) o (by first | (simp; done) | (simp; omega) | (simp at *; omega) | omega)
  have hb2l0 := below_lt (b := w1.heap.size) hb2 (by first | (simp; done) | (simp; omega) | (simp at *; omega) | omega)
  go_wp2_with fail
  have hg2b : w1.heap.size + 1 ≤ g2 := by simpa using hg2
  have os2 := o2.store (a := ⟨w1.heap.size, 0, none⟩) (by show g2 ≠ w1.heap.size; omega) (Value.slice (some ⟨g2, 0, none⟩) 2 k2)
  refine (sm_push_w (7 :: List.replicate 2 5) g2 2 k2 7 _ os2 (by decide) (by decide)).mono ?_
  rintro e w3 ⟨g3, k3, rfl, hg3, hb3, o3⟩
  have ot2 := os2.below hb3
  have hw1 := hb1.size
  have hB2 : Below w.heap.size w w2 := by (repeat' (first | (with_reducible exact Below.refl _ _) | (with_reducible assumption) | (with_reducible refine below_drewN ?_ _) | (with_reducible refine Below.drew ?_) | (with_reducible refine below_new ?_ (Nat.le_refl _) _) | (with_reducible refine Below.setCell ?_ ?_ _) | (with_reducible refine below_go ?_ (by assumption) (Nat.le_refl _)) | (simp; done) | (simp; omega) | omega))
  have hz3 := ((Below.refl 0 w2).setCell (p := ⟨w1.heap.size, 0, none⟩) (Nat.zero_le _) (Value.slice (some ⟨g2, 0, none⟩) 2 k2)).size
  have hB3 : Below w.heap.size w w3 := (hB2.setCell (p := ⟨w1.heap.size, 0, none⟩) (by show w.heap.size ≤ w1.heap.size; omega) _).trans (hb3.mono (Nat.le_trans hB2.size hz3))
  obtain ⟨hb3c, hb3f⟩ := bcell hb3
  have hb3z := hb3.size
  have hb3c0 := fun o => hb3c (w1.heap.size) o (by first | (simp; done) | (simp; omega) | (simp at *; omega) | omega)
  have hb3f0 := fun o => hb3f (w1.heap.size) o (by first | (simp; done) | (simp; omega) | (simp at *; omega) | omega)
  have hb3l0 := below_lt (b := w1.heap.size) hb3 (by first | (simp; done) | (simp; omega) | (simp at *; omega) | omega)
  go_wp2_with fail
  refine (sm_out_w (7 :: List.replicate 2 5) g2 2 k2 12 _ (ot2.below ?_) (by decide) (by decide)).mono ?_
  · (repeat' (first | (with_reducible exact Below.refl _ _) | (with_reducible assumption) | (with_reducible refine below_drewN ?_ _) | (with_reducible refine Below.drew ?_) | (with_reducible refine below_new ?_ (Nat.le_refl _) _) | (with_reducible refine Below.setCell ?_ ?_ _) | (with_reducible refine below_go ?_ (by assumption) (Nat.le_refl _)) | (simp; done) | (simp; omega) | omega))
  rintro e w4 ⟨rfl, hb4⟩
  obtain ⟨hb4c, hb4f⟩ := bcell hb4
  have hb4z := hb4.size
  have hb4c0 := fun o => hb4c (w1.heap.size) o (by first | (simp; done) | (simp; omega) | (simp at *; omega) | omega)
  have hb4f0 := fun o => hb4f (w1.heap.size) o (by first | (simp; done) | (simp; omega) | (simp at *; omega) | omega)
  have hb4l0 := below_lt (b := w1.heap.size) hb4 (by first | (simp; done) | (simp; omega) | (simp at *; omega) | omega)
  have hb4c1 := fun o => hb4c (w3.heap.size) o (by first | (simp; done) | (simp; omega) | (simp at *; omega) | omega)
  have hb4f1 := fun o => hb4f (w3.heap.size) o (by first | (simp; done) | (simp; omega) | (simp at *; omega) | omega)
  have hb4l1 := below_lt (b := w3.heap.size) hb4 (by first | (simp; done) | (simp; omega) | (simp at *; omega) | omega)
  go_wp2_with fail
  refine (sm_out_w (7 :: 7 :: List.replicate 2 5) g3 2 k3 14 _ (o3.below ?_) (by decide) (by decide)).mono ?_
  · (repeat' (first | (with_reducible exact Below.refl _ _) | (with_reducible assumption) | (with_reducible refine below_drewN ?_ _) | (with_reducible refine Below.drew ?_) | (with_reducible refine below_new ?_ (Nat.le_refl _) _) | (with_reducible refine Below.setCell ?_ ?_ _) | (with_reducible refine below_go ?_ (by assumption) (Nat.le_refl _)) | (simp; done) | (simp; omega) | omega))
  rintro e w5 ⟨rfl, hb5⟩
  obtain ⟨hb5c, hb5f⟩ := bcell hb5
  have hb5z := hb5.size
  have hb5c0 := fun o => hb5c (w1.heap.size) o (by first | (simp; done) | (simp; omega) | (simp at *; omega) | omega)
  have hb5f0 := fun o => hb5f (w1.heap.size) o (by first | (simp; done) | (simp; omega) | (simp at *; omega) | omega)
  have hb5l0 := below_lt (b := w1.heap.size) hb5 (by first | (simp; done) | (simp; omega) | (simp at *; omega) | omega)
  have hb5c1 := fun o => hb5c (w3.heap.size) o (by first | (simp; done) | (simp; omega) | (simp at *; omega) | omega)
  have hb5f1 := fun o => hb5f (w3.heap.size) o (by first | (simp; done) | (simp; omega) | (simp at *; omega) | omega)
  have hb5l1 := below_lt (b := w3.heap.size) hb5 (by first | (simp; done) | (simp; omega) | (simp at *; omega) | omega)
  go_wp2_with fail
  refine (sm_rest_w (7 :: 7 :: List.replicate 2 5) g3 2 k3 true _ (o3.below ?_) (by decide)).mono ?_
  · (repeat' (first | (with_reducible exact Below.refl _ _) | (with_reducible assumption) | (with_reducible refine below_drewN ?_ _) | (with_reducible refine Below.drew ?_) | (with_reducible refine below_new ?_ (Nat.le_refl _) _) | (with_reducible refine Below.setCell ?_ ?_ _) | (with_reducible refine below_go ?_ (by assumption) (Nat.le_refl _)) | (simp; done) | (simp; omega) | omega))
  rintro e w6 ⟨rfl, hb6⟩
  obtain ⟨hb6c, hb6f⟩ := bcell hb6
  have hb6z := hb6.size
  have hb6c0 := fun o => hb6c (w1.heap.size) o (by first | (simp; done) | (simp; omega) | (simp at *; omega) | omega)
  have hb6f0 := fun o => hb6f (w1.heap.size) o (by first | (simp; done) | (simp; omega) | (simp at *; omega) | omega)
  have hb6l0 := below_lt (b := w1.heap.size) hb6 (by first | (simp; done) | (simp; omega) | (simp at *; omega) | omega)
  have hb6c1 := fun o => hb6c (w3.heap.size) o (by first | (simp; done) | (simp; omega) | (simp at *; omega) | omega)
  have hb6f1 := fun o => hb6f (w3.heap.size) o (by first | (simp; done) | (simp; omega) | (simp at *; omega) | omega)
  have hb6l1 := below_lt (b := w3.heap.size) hb6 (by first | (simp; done) | (simp; omega) | (simp at *; omega) | omega)
  go_wp2_with fail
  refine (sm_rest_w (7 :: List.replicate 2 5) g2 2 k2 false _ (ot2.below ?_) (by decide)).mono ?_
  · (repeat' (first | (with_reducible exact Below.refl _ _) | (with_reducible assumption) | (with_reducible refine below_drewN ?_ _) | (with_reducible refine Below.drew ?_) | (with_reducible refine below_new ?_ (Nat.le_refl _) _) | (with_reducible refine Below.setCell ?_ ?_ _) | (with_reducible refine below_go ?_ (by assumption) (Nat.le_refl _)) | (simp; done) | (simp; omega) | omega))
  rintro e w7 ⟨rfl, hb7⟩
  go_wp2
  go_ret
  exact ⟨rfl, by (repeat' (first | (with_reducible exact Below.refl _ _) | (with_reducible assumption) | (with_reducible refine below_drewN ?_ _) | (with_reducible refine Below.drew ?_) | (with_reducible refine below_new ?_ (Nat.le_refl _) _) | (with_reducible refine Below.setCell ?_ ?_ _) | (with_reducible refine below_go ?_ (by assumption) (Nat.le_refl _)) | (simp; done) | (simp; omega) | omega))⟩

end Go.Proofs.Ytddakmlnkffgiaa
