/- Layer 21: the laws are awake. -/
import Derived.Test.YtcamegfnhbbaeaaM09
namespace Go.Proofs.Ytcamegfnhbbaeaa
open Go.RowKit
set_option linter.unusedVariables false
set_option linter.unusedSimpArgs false
attribute [local go_sem] ite_max ite_min vite_max vite_min ext_cell ext_frozen

set_option maxRecDepth 100000 in
set_option maxHeartbeats 2000000 in
theorem awake21 (w : World) : Calls Try.prog 6 #[] w fun e w' => e = .returned (.bool true) ∧ Below w.heap.size w w' := by
  go_enter Try.func6, Try.ntmps6
  go_wp2_with fail
  refine (fexpr_mul w.heap.size _ (by simp) ?hc).mono ?_
  case hc => exact fun j u hu => heap_cell j _ (heap_alloc_new w _) (by rw [List.getElem?_toArray]; exact hu)
  rintro e w1 ⟨⟨s1, s2, rfl⟩, hb1⟩
  have hz1 : w.heap.size + 1 ≤ w1.heap.size := by have := hb1.size; simp at this; omega
  have hB1 : Below w.heap.size w w1 := by (repeat' (first | (with_reducible exact Below.refl _ _) | (with_reducible assumption) | (with_reducible refine below_drewN ?_ _) | (with_reducible refine Below.drew ?_) | (with_reducible refine below_new ?_ (Nat.le_refl _) _) | (with_reducible refine Below.setCell ?_ ?_ _) | (with_reducible refine below_go ?_ (by assumption) (Nat.le_refl _)) | (simp; done) | (simp; omega) | omega))
  clear hb1
  go_upto_region 2 with (fail)
  refine wp_name fun W hW => ?_
  have c0 : W.cell? ⟨w1.heap.size, 0, none⟩ = some (.int .i64 1) := by rw [hW.out]; go_simp
  have c1 : W.cell? ⟨w1.heap.size, 1, none⟩ = some (.int .i64 6) := by rw [hW.out]; go_simp
  have hl : w1.heap.size < W.heap.size := by rw [hW.out]; simp
  have hBW : Below w.heap.size w W := by rw [hW.out]; (repeat' (first | (with_reducible exact Below.refl _ _) | (with_reducible assumption) | (with_reducible refine below_drewN ?_ _) | (with_reducible refine Below.drew ?_) | (with_reducible refine below_new ?_ (Nat.le_refl _) _) | (with_reducible refine Below.setCell ?_ ?_ _) | (with_reducible refine below_go ?_ (by assumption) (Nat.le_refl _)) | (simp; done) | (simp; omega) | omega))
  have hzW := hBW.size
  clear hW hB1
  have HLI : Hid (Lies (W.alloc (.cells #[.int .i64 2, .int .i64 5] 2)) (W.heap.size + 1) 1 (some ⟨W.heap.size, 0, none⟩) 2 (intsF [2, 5])) := Lib.hid ⟨rfl, fun _ => ⟨_, 0, rfl, Nat.lt_succ_self _, fun j u hu => by
    rw [Nat.zero_add]
    exact heap_cell j _ (heap_alloc_new W _) (by rw [List.getElem?_toArray]; exact hu)⟩⟩
  go_wp2_with fail
  refine (fop_any 9 [2, 5] false _ 2 2 _ ?hlies (by omega) (by omega) (by intro z hz; simp at hz; omega)).mono ?_
  case hlies => exact HLI.out.wide (by simp)
  rintro e w2 ⟨rfl, hb2⟩
  rw [show opV (opF 9 [2, 5] false) = .tuple #[.int .i64 (-3), .bool false, .int .i64 0] from by kernel_rfl]
  obtain ⟨hb2c, hb2f⟩ := bcell hb2
  have hb2z := hb2.size
  have hb2c0 := fun o => hb2c (w1.heap.size) o (by first | (simp; done) | (simp; omega) | (simp at *; omega) | omega)
  have hb2f0 := fun o => hb2f (w1.heap.size) o (by first | (simp; done) | (simp; omega) | (simp at *; omega) | omega)
  have hb2l0 := below_lt (b := w1.heap.size) hb2 (by first | (simp; done) | (simp; omega) | (simp at *; omega) | omega)
  go_wp2
  go_ret
  exact ⟨rfl, by (repeat' (first | (with_reducible exact Below.refl _ _) | (with_reducible assumption) | (with_reducible refine below_drewN ?_ _) | (with_reducible refine Below.drew ?_) | (with_reducible refine below_new ?_ (Nat.le_refl _) _) | (with_reducible refine Below.setCell ?_ ?_ _) | (with_reducible refine below_go ?_ (by assumption) (Nat.le_refl _)) | (simp; done) | (simp; omega) | omega))⟩
end Go.Proofs.Ytcamegfnhbbaeaa
