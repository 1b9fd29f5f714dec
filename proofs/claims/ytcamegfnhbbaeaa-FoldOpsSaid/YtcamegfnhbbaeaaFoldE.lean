/- Layer 21: a leaf is folded to itself. -/
import Derived.Test.YtcamegfnhbbaeaaFoldD
namespace Go.Proofs.Ytcamegfnhbbaeaa
open Go.RowKit
set_option linter.unusedVariables false
set_option linter.unusedSimpArgs false
attribute [local go_sem] ite_max ite_min vite_max vite_min ext_cell ext_frozen

set_option maxRecDepth 100000 in
set_option maxHeartbeats 1000000 in
theorem fexpr_leaf (k ln : Int) (s1 s2 : ByteArray) (w : World) :
    Calls Try.prog 15 #[.agg #[.int .i64 1, .int .i64 k, .string s1, .string s2, .slice none 0 0, .int .i64 ln]] w fun e w' => e = .returned (.agg #[.int .i64 1, .int .i64 k, .string s1, .string s2, .slice none 0 0, .int .i64 ln]) ∧ Below w.heap.size w w' := by
  go_enter Try.func15, Try.ntmps15
  go_wp2_with fail
  refine wp_name fun W hW => ?_
  have c0 : W.cell? ⟨w.heap.size, 0, none⟩ = some (.int .i64 1) := by rw [hW.out]; go_simp
  have c1 : W.cell? ⟨w.heap.size, 1, none⟩ = some (.int .i64 k) := by rw [hW.out]; go_simp
  have c2 : W.cell? ⟨w.heap.size, 2, none⟩ = some (.string s1) := by rw [hW.out]; go_simp
  have c3 : W.cell? ⟨w.heap.size, 3, none⟩ = some (.string s2) := by rw [hW.out]; go_simp
  have c4 : W.cell? ⟨w.heap.size, 4, none⟩ = some (.slice none 0 0) := by rw [hW.out]; go_simp
  have c5 : W.cell? ⟨w.heap.size, 5, none⟩ = some (.int .i64 ln) := by rw [hW.out]; go_simp
  have cf : ∀ o, W.frozen? ⟨w.heap.size, o, none⟩ = false := fun o => by rw [hW.out]; go_simp
  have z0 : (W.cell? ⟨w.heap.size + 1, 0, none⟩).isSome = true := by rw [hW.out]; go_simp
  have z1 : (W.cell? ⟨w.heap.size + 1, 1, none⟩).isSome = true := by rw [hW.out]; go_simp
  have z2 : (W.cell? ⟨w.heap.size + 1, 2, none⟩).isSome = true := by rw [hW.out]; go_simp
  have z3 : (W.cell? ⟨w.heap.size + 1, 3, none⟩).isSome = true := by rw [hW.out]; go_simp
  have z4 : (W.cell? ⟨w.heap.size + 1, 4, none⟩).isSome = true := by rw [hW.out]; go_simp
  have z5 : (W.cell? ⟨w.heap.size + 1, 5, none⟩).isSome = true := by rw [hW.out]; go_simp
  have zf : ∀ o, W.frozen? ⟨w.heap.size + 1, o, none⟩ = false := fun o => by rw [hW.out]; go_simp
  have hB : Below w.heap.size w W := by rw [hW.out]; (repeat' (first | (with_reducible exact Below.refl _ _) | (with_reducible assumption) | (with_reducible refine below_drewN ?_ _) | (with_reducible refine Below.drew ?_) | (with_reducible refine below_new ?_ (Nat.le_refl _) _) | (with_reducible refine Below.setCell ?_ ?_ _) | (with_reducible refine below_go ?_ (by assumption) (Nat.le_refl _)) | (simp; done) | (simp; omega) | omega))
  obtain ⟨y0, h0⟩ := Option.isSome_iff_exists.1 z0
  obtain ⟨y1, h1⟩ := Option.isSome_iff_exists.1 z1
  obtain ⟨y2, h2⟩ := Option.isSome_iff_exists.1 z2
  obtain ⟨y3, h3⟩ := Option.isSome_iff_exists.1 z3
  obtain ⟨y4, h4⟩ := Option.isSome_iff_exists.1 z4
  obtain ⟨y5, h5⟩ := Option.isSome_iff_exists.1 z5
  clear hW z0 z1 z2 z3 z4 z5
  go_loopw [3, 22] (fun v u wr => v = .slice none 0 0 ∧ u = .int .i64 0 ∧ wr = W) (fun _ _ _ => 0)
  case atStart => exact ⟨rfl, rfl, rfl⟩
  case round =>
    obtain ⟨rfl, rfl, rfl⟩ := hrel
    go_wp2
    refine bodyPost_ret (v := .agg #[.int .i64 1, .int .i64 k, .string s1, .string s2, .slice none 0 0, .int .i64 ln]) ?_ rfl ⟨rfl, ?_⟩
    · simp [results, Try.results15, go_sem, h0, h1, h2, h3, h4, h5, zf]
    · (repeat' (first | (with_reducible exact Below.refl _ _) | (with_reducible assumption) | (with_reducible refine below_drewN ?_ _) | (with_reducible refine Below.drew ?_) | (with_reducible refine below_new ?_ (Nat.le_refl _) _) | (with_reducible refine Below.setCell ?_ ?_ _) | (with_reducible refine below_go ?_ (by assumption) (Nat.le_refl _)) | (simp; done) | (simp; omega) | omega))

end Go.Proofs.Ytcamegfnhbbaeaa
