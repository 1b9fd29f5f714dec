/- Contracts of the reference of layer 1: two numbers together; sums and differences. -/
import Derived.Test.YtcamegfnhbbaeaaRefD
namespace Go.Proofs.Ytcamegfnhbbaeaa
open Go.RowKit
set_option linter.unusedVariables false
set_option linter.unusedSimpArgs false
attribute [local go_sem] ite_max ite_min vite_max vite_min ext_cell ext_frozen

set_option maxRecDepth 100000 in
set_option maxHeartbeats 1000000 in
theorem rplus_same (A C : Int) (m : Bool) (w : World) (hA : 0 ≤ A ∧ A < 340282366920938463463374607431768211456) (hC : 0 ≤ C ∧ C < 340282366920938463463374607431768211456) (hs : A + C < 340282366920938463463374607431768211456) :
    Calls Try.prog 45 #[.agg #[.int .u64 (d0 A), .int .u64 (d1 A), .int .u64 (d2 A), .int .u64 (d3 A), .bool m], .agg #[.int .u64 (d0 C), .int .u64 (d1 C), .int .u64 (d2 C), .int .u64 (d3 C), .bool m]] w fun e w' =>
      e = .returned (.agg #[.int .u64 (d0 (A + C)), .int .u64 (d1 (A + C)), .int .u64 (d2 (A + C)), .int .u64 (d3 (A + C)), .bool m]) ∧ Below w.heap.size w w' := by
  go_enter Try.func45, Try.ntmps45
  go_wp2_with fail
  refine (rsum_at A C m m _ hA hC hs).mono ?_
  rintro e w1 ⟨rfl, hb1⟩
  obtain ⟨hb1c, hb1f⟩ := bcell hb1
  have hb1z := hb1.size
  have hb1c0 := fun o => hb1c (w.heap.size) o (by first | (simp; done) | (simp; omega) | (simp at *; omega) | omega)
  have hb1f0 := fun o => hb1f (w.heap.size) o (by first | (simp; done) | (simp; omega) | (simp at *; omega) | omega)
  have hb1l0 := below_lt (b := w.heap.size) hb1 (by first | (simp; done) | (simp; omega) | (simp at *; omega) | omega)
  have hb1c1 := fun o => hb1c (w.heap.size + 1) o (by first | (simp; done) | (simp; omega) | (simp at *; omega) | omega)
  have hb1f1 := fun o => hb1f (w.heap.size + 1) o (by first | (simp; done) | (simp; omega) | (simp at *; omega) | omega)
  have hb1l1 := below_lt (b := w.heap.size + 1) hb1 (by first | (simp; done) | (simp; omega) | (simp at *; omega) | omega)
  have hb1c2 := fun o => hb1c (w.heap.size + 1 + 1) o (by first | (simp; done) | (simp; omega) | (simp at *; omega) | omega)
  have hb1f2 := fun o => hb1f (w.heap.size + 1 + 1) o (by first | (simp; done) | (simp; omega) | (simp at *; omega) | omega)
  have hb1l2 := below_lt (b := w.heap.size + 1 + 1) hb1 (by first | (simp; done) | (simp; omega) | (simp at *; omega) | omega)
  go_wp2
  exact bodyPost_ret (v := .agg #[.int .u64 (d0 (A + C)), .int .u64 (d1 (A + C)), .int .u64 (d2 (A + C)), .int .u64 (d3 (A + C)), .bool m]) (by simp [results, Try.results45, go_sem, hb1c2]) rfl ⟨rfl, by (repeat' (first | (with_reducible exact Below.refl _ _) | (with_reducible assumption) | (with_reducible refine below_drewN ?_ _) | (with_reducible refine Below.drew ?_) | (with_reducible refine below_new ?_ (Nat.le_refl _) _) | (with_reducible refine Below.setCell ?_ ?_ _) | (with_reducible refine below_go ?_ (by assumption) (Nat.le_refl _)) | (simp; done) | (simp; omega) | omega))⟩

set_option maxRecDepth 100000 in
set_option maxHeartbeats 1000000 in
theorem rplus_ge (A C : Int) (m n : Bool) (w : World) (hA : 0 ≤ A ∧ A < 340282366920938463463374607431768211456) (hC : 0 ≤ C ∧ C < 340282366920938463463374607431768211456) (hs : C ≤ A) (hne : (m == n) = false) :
    Calls Try.prog 45 #[.agg #[.int .u64 (d0 A), .int .u64 (d1 A), .int .u64 (d2 A), .int .u64 (d3 A), .bool m], .agg #[.int .u64 (d0 C), .int .u64 (d1 C), .int .u64 (d2 C), .int .u64 (d3 C), .bool n]] w fun e w' =>
      e = .returned (.agg #[.int .u64 (d0 (A - C)), .int .u64 (d1 (A - C)), .int .u64 (d2 (A - C)), .int .u64 (d3 (A - C)), .bool m]) ∧ Below w.heap.size w w' := by
  have hc := fun w => rcmp_at A C m n w hA hC
  have hv : 0 ≤ cmpV A C := by
    by_cases h : A = C
    · rw [cmpV_eq h]; omega
    · rw [cmpV_gt (by omega)]; omega
  generalize cmpV A C = q at hc hv
  have HC := Lib.hid hc
  clear hc
  go_enter Try.func45, Try.ntmps45
  go_wp2_with fail
  refine (HC.out _).mono ?_
  rintro e w1 ⟨rfl, hb1⟩
  obtain ⟨hb1c, hb1f⟩ := bcell hb1
  have hb1z := hb1.size
  have hb1c0 := fun o => hb1c (w.heap.size) o (by first | (simp; done) | (simp; omega) | (simp at *; omega) | omega)
  have hb1f0 := fun o => hb1f (w.heap.size) o (by first | (simp; done) | (simp; omega) | (simp at *; omega) | omega)
  have hb1l0 := below_lt (b := w.heap.size) hb1 (by first | (simp; done) | (simp; omega) | (simp at *; omega) | omega)
  have hb1c1 := fun o => hb1c (w.heap.size + 1) o (by first | (simp; done) | (simp; omega) | (simp at *; omega) | omega)
  have hb1f1 := fun o => hb1f (w.heap.size + 1) o (by first | (simp; done) | (simp; omega) | (simp at *; omega) | omega)
  have hb1l1 := below_lt (b := w.heap.size + 1) hb1 (by first | (simp; done) | (simp; omega) | (simp at *; omega) | omega)
  have hb1c2 := fun o => hb1c (w.heap.size + 1 + 1) o (by first | (simp; done) | (simp; omega) | (simp at *; omega) | omega)
  have hb1f2 := fun o => hb1f (w.heap.size + 1 + 1) o (by first | (simp; done) | (simp; omega) | (simp at *; omega) | omega)
  have hb1l2 := below_lt (b := w.heap.size + 1 + 1) hb1 (by first | (simp; done) | (simp; omega) | (simp at *; omega) | omega)
  go_wp2_with fail
  refine (rless_at A C m n _ hA hC hs).mono ?_
  rintro e w2 ⟨rfl, hb2⟩
  have z1 := hb1.size
  obtain ⟨hb2c, hb2f⟩ := bcell hb2
  have hb2z := hb2.size
  have hb2c0 := fun o => hb2c (w.heap.size) o (by first | (simp; done) | (simp; omega) | (simp at *; omega) | omega)
  have hb2f0 := fun o => hb2f (w.heap.size) o (by first | (simp; done) | (simp; omega) | (simp at *; omega) | omega)
  have hb2l0 := below_lt (b := w.heap.size) hb2 (by first | (simp; done) | (simp; omega) | (simp at *; omega) | omega)
  have hb2c1 := fun o => hb2c (w.heap.size + 1) o (by first | (simp; done) | (simp; omega) | (simp at *; omega) | omega)
  have hb2f1 := fun o => hb2f (w.heap.size + 1) o (by first | (simp; done) | (simp; omega) | (simp at *; omega) | omega)
  have hb2l1 := below_lt (b := w.heap.size + 1) hb2 (by first | (simp; done) | (simp; omega) | (simp at *; omega) | omega)
  have hb2c2 := fun o => hb2c (w.heap.size + 1 + 1) o (by first | (simp; done) | (simp; omega) | (simp at *; omega) | omega)
  have hb2f2 := fun o => hb2f (w.heap.size + 1 + 1) o (by first | (simp; done) | (simp; omega) | (simp at *; omega) | omega)
  have hb2l2 := below_lt (b := w.heap.size + 1 + 1) hb2 (by first | (simp; done) | (simp; omega) | (simp at *; omega) | omega)
  go_wp2
  exact bodyPost_ret (v := .agg #[.int .u64 (d0 (A - C)), .int .u64 (d1 (A - C)), .int .u64 (d2 (A - C)), .int .u64 (d3 (A - C)), .bool m]) (by simp [results, Try.results45, go_sem, hb1c2, hb2c2]) rfl ⟨rfl, by (repeat' (first | (with_reducible exact Below.refl _ _) | (with_reducible assumption) | (with_reducible refine below_drewN ?_ _) | (with_reducible refine Below.drew ?_) | (with_reducible refine below_new ?_ (Nat.le_refl _) _) | (with_reducible refine Below.setCell ?_ ?_ _) | (with_reducible refine below_go ?_ (by assumption) (Nat.le_refl _)) | (simp; done) | (simp; omega) | omega))⟩

set_option maxRecDepth 100000 in
set_option maxHeartbeats 1000000 in
theorem rplus_lt (A C : Int) (m n : Bool) (w : World) (hA : 0 ≤ A ∧ A < 340282366920938463463374607431768211456) (hC : 0 ≤ C ∧ C < 340282366920938463463374607431768211456) (hs : A < C) (hne : (m == n) = false) :
    Calls Try.prog 45 #[.agg #[.int .u64 (d0 A), .int .u64 (d1 A), .int .u64 (d2 A), .int .u64 (d3 A), .bool m], .agg #[.int .u64 (d0 C), .int .u64 (d1 C), .int .u64 (d2 C), .int .u64 (d3 C), .bool n]] w fun e w' =>
      e = .returned (.agg #[.int .u64 (d0 (C - A)), .int .u64 (d1 (C - A)), .int .u64 (d2 (C - A)), .int .u64 (d3 (C - A)), .bool n]) ∧ Below w.heap.size w w' := by
  have hc := fun w => rcmp_at A C m n w hA hC
  have hv : cmpV A C < 0 := by rw [cmpV_lt hs]; omega
  generalize cmpV A C = q at hc hv
  have HC := Lib.hid hc
  clear hc
  go_enter Try.func45, Try.ntmps45
  go_wp2_with fail
  refine (HC.out _).mono ?_
  rintro e w1 ⟨rfl, hb1⟩
  obtain ⟨hb1c, hb1f⟩ := bcell hb1
  have hb1z := hb1.size
  have hb1c0 := fun o => hb1c (w.heap.size) o (by first | (simp; done) | (simp; omega) | (simp at *; omega) | omega)
  have hb1f0 := fun o => hb1f (w.heap.size) o (by first | (simp; done) | (simp; omega) | (simp at *; omega) | omega)
  have hb1l0 := below_lt (b := w.heap.size) hb1 (by first | (simp; done) | (simp; omega) | (simp at *; omega) | omega)
  have hb1c1 := fun o => hb1c (w.heap.size + 1) o (by first | (simp; done) | (simp; omega) | (simp at *; omega) | omega)
  have hb1f1 := fun o => hb1f (w.heap.size + 1) o (by first | (simp; done) | (simp; omega) | (simp at *; omega) | omega)
  have hb1l1 := below_lt (b := w.heap.size + 1) hb1 (by first | (simp; done) | (simp; omega) | (simp at *; omega) | omega)
  have hb1c2 := fun o => hb1c (w.heap.size + 1 + 1) o (by first | (simp; done) | (simp; omega) | (simp at *; omega) | omega)
  have hb1f2 := fun o => hb1f (w.heap.size + 1 + 1) o (by first | (simp; done) | (simp; omega) | (simp at *; omega) | omega)
  have hb1l2 := below_lt (b := w.heap.size + 1 + 1) hb1 (by first | (simp; done) | (simp; omega) | (simp at *; omega) | omega)
  go_wp2_with fail
  refine (rless_at C A n m _ hC hA (by omega)).mono ?_
  rintro e w2 ⟨rfl, hb2⟩
  have z1 := hb1.size
  obtain ⟨hb2c, hb2f⟩ := bcell hb2
  have hb2z := hb2.size
  have hb2c0 := fun o => hb2c (w.heap.size) o (by first | (simp; done) | (simp; omega) | (simp at *; omega) | omega)
  have hb2f0 := fun o => hb2f (w.heap.size) o (by first | (simp; done) | (simp; omega) | (simp at *; omega) | omega)
  have hb2l0 := below_lt (b := w.heap.size) hb2 (by first | (simp; done) | (simp; omega) | (simp at *; omega) | omega)
  have hb2c1 := fun o => hb2c (w.heap.size + 1) o (by first | (simp; done) | (simp; omega) | (simp at *; omega) | omega)
  have hb2f1 := fun o => hb2f (w.heap.size + 1) o (by first | (simp; done) | (simp; omega) | (simp at *; omega) | omega)
  have hb2l1 := below_lt (b := w.heap.size + 1) hb2 (by first | (simp; done) | (simp; omega) | (simp at *; omega) | omega)
  have hb2c2 := fun o => hb2c (w.heap.size + 1 + 1) o (by first | (simp; done) | (simp; omega) | (simp at *; omega) | omega)
  have hb2f2 := fun o => hb2f (w.heap.size + 1 + 1) o (by first | (simp; done) | (simp; omega) | (simp at *; omega) | omega)
  have hb2l2 := below_lt (b := w.heap.size + 1 + 1) hb2 (by first | (simp; done) | (simp; omega) | (simp at *; omega) | omega)
  go_wp2
  exact bodyPost_ret (v := .agg #[.int .u64 (d0 (C - A)), .int .u64 (d1 (C - A)), .int .u64 (d2 (C - A)), .int .u64 (d3 (C - A)), .bool n]) (by simp [results, Try.results45, go_sem, hb1c2, hb2c2]) rfl ⟨rfl, by (repeat' (first | (with_reducible exact Below.refl _ _) | (with_reducible assumption) | (with_reducible refine below_drewN ?_ _) | (with_reducible refine Below.drew ?_) | (with_reducible refine below_new ?_ (Nat.le_refl _) _) | (with_reducible refine Below.setCell ?_ ?_ _) | (with_reducible refine below_go ?_ (by assumption) (Nat.le_refl _)) | (simp; done) | (simp; omega) | omega))⟩

end Go.Proofs.Ytcamegfnhbbaeaa
