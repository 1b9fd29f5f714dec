/- Merged: Plain numbers: products of sizes, part by part. No program in sight. Contracts of the reference of layer 1: a product. Plain numbers: a quotient, bit by bit. No program in sight. Contracts of the reference of layer 1: a quotient and its rest, bit by bit. -/
import Derived.Test.YtcamegfnhbbaeaaPWide
import Derived.Test.YtcamegfnhbbaeaaM05
import Derived.Test.YtcamegfnhbbaeaaM02
import Derived.RegionTactic
namespace Go.Proofs.Ytcamegfnhbbaeaa
set_option linter.unusedVariables false
set_option linter.unusedSimpArgs false

theorem shift1 (p : Int) (h : 0 ≤ p ∧ p < 18446744073709551616) : d0 (4294967296 * p) = 0 ∧ d1 (4294967296 * p) = p % 4294967296 ∧ d2 (4294967296 * p) = p / 4294967296 ∧ d3 (4294967296 * p) = 0 := by
  unfold d0 d1 d2 d3
  omega
theorem shift2 (p : Int) (h : 0 ≤ p ∧ p < 18446744073709551616) : d0 (18446744073709551616 * p) = 0 ∧ d1 (18446744073709551616 * p) = 0 ∧ d2 (18446744073709551616 * p) = p % 4294967296 ∧ d3 (18446744073709551616 * p) = p / 4294967296 := by
  unfold d0 d1 d2 d3
  omega
theorem mul_lt64 (x y : Int) (hx : 0 ≤ x ∧ x < 4294967296) (hy : 0 ≤ y ∧ y < 4294967296) : 0 ≤ x * y ∧ x * y ≤ 18446744065119617025 := by
  refine ⟨Int.mul_nonneg hx.1 hy.1, ?_⟩
  have h1 : x * y ≤ 4294967295 * y := Int.mul_le_mul_of_nonneg_right (by omega) hy.1
  have h2 : 4294967295 * y ≤ 4294967295 * 4294967295 := Int.mul_le_mul_of_nonneg_left (by omega) (by omega)
  omega
theorem prod_parts (a0 a1 b0 b1 A C : Int) (hA : A = a0 + 4294967296 * a1) (hC : C = b0 + 4294967296 * b1) : a0 * b0 + 4294967296 * (a0 * b1) + 4294967296 * (a1 * b0) + 18446744073709551616 * (a1 * b1) = A * C := by
  subst hA
  subst hC
  rw [Int.add_mul, Int.mul_add, Int.mul_add, Int.mul_assoc 4294967296 a1 b0, Int.mul_left_comm a0 4294967296 b1, Int.mul_assoc 4294967296 a1 (4294967296 * b1), Int.mul_left_comm a1 4294967296 b1, ← Int.mul_assoc 4294967296 4294967296 (a1 * b1)]
  omega

end Go.Proofs.Ytcamegfnhbbaeaa

namespace Go.Proofs.Ytcamegfnhbbaeaa
open Go.RowKit
set_option linter.unusedVariables false
set_option linter.unusedSimpArgs false
attribute [local go_sem] ite_max ite_min vite_max vite_min ext_cell ext_frozen

/-- where the product's walk stands: the two factors' boxes, the result's, and 'out', which holds S -/
structure TmS (w w' : World) (a0 a1 b0 b1 S : Int) (m n : Bool) : Prop where
  be : Below w.heap.size w w'
  sz : w.heap.size + 3 < w'.heap.size
  x0 : w'.cell? ⟨w.heap.size, 0, none⟩ = some (.int .u64 a0)
  x1 : w'.cell? ⟨w.heap.size, 1, none⟩ = some (.int .u64 a1)
  x4 : w'.cell? ⟨w.heap.size, 4, none⟩ = some (.bool m)
  y0 : w'.cell? ⟨w.heap.size + 1, 0, none⟩ = some (.int .u64 b0)
  y1 : w'.cell? ⟨w.heap.size + 1, 1, none⟩ = some (.int .u64 b1)
  y4 : w'.cell? ⟨w.heap.size + 1, 4, none⟩ = some (.bool n)
  r : wideAt w' (w.heap.size + 2)
  o0 : w'.cell? ⟨w.heap.size + 3, 0, none⟩ = some (.int .u64 (d0 S))
  o1 : w'.cell? ⟨w.heap.size + 3, 1, none⟩ = some (.int .u64 (d1 S))
  o2 : w'.cell? ⟨w.heap.size + 3, 2, none⟩ = some (.int .u64 (d2 S))
  o3 : w'.cell? ⟨w.heap.size + 3, 3, none⟩ = some (.int .u64 (d3 S))
  o4 : w'.cell? ⟨w.heap.size + 3, 4, none⟩ = some (.bool false)
  of : ∀ o, w'.frozen? ⟨w.heap.size + 3, o, none⟩ = false
theorem wideAt.below {w w' : World} {b : Nat} (h : wideAt w b) (hb : b < w.heap.size) (hw : Below w.heap.size w w') : wideAt w' b :=
  ⟨(hw.cell (p := ⟨b, 0, none⟩) hb).trans h.c0, (hw.cell (p := ⟨b, 1, none⟩) hb).trans h.c1, (hw.cell (p := ⟨b, 2, none⟩) hb).trans h.c2, (hw.cell (p := ⟨b, 3, none⟩) hb).trans h.c3, (hw.cell (p := ⟨b, 4, none⟩) hb).trans h.c4, fun o => (hw.frozen (p := ⟨b, o, none⟩) hb).trans (h.f o)⟩
theorem TmS.below {w wr w' : World} {a0 a1 b0 b1 S : Int} {m n : Bool} (s : TmS w wr a0 a1 b0 b1 S m n) (h : Below wr.heap.size wr w') : TmS w w' a0 a1 b0 b1 S m n := by
  have z := s.sz
  have c := fun (b o : Nat) (hb : b < wr.heap.size) => h.cell (p := ⟨b, o, none⟩) hb
  exact ⟨s.be.trans (h.mono s.be.size), Nat.lt_of_lt_of_le s.sz h.size, (c _ _ (by omega)).trans s.x0, (c _ _ (by omega)).trans s.x1, (c _ _ (by omega)).trans s.x4, (c _ _ (by omega)).trans s.y0, (c _ _ (by omega)).trans s.y1, (c _ _ (by omega)).trans s.y4,
    s.r.below (by omega) h, (c _ _ (by omega)).trans s.o0, (c _ _ (by omega)).trans s.o1, (c _ _ (by omega)).trans s.o2, (c _ _ (by omega)).trans s.o3, (c _ _ (by omega)).trans s.o4, fun o => (h.frozen (p := ⟨w.heap.size + 3, o, none⟩) (by show w.heap.size + 3 < _; omega)).trans (s.of o)⟩

set_option maxRecDepth 100000 in
set_option maxHeartbeats 8000000 in
theorem rtimes_at (A C : Int) (m n : Bool) (w : World) (hA : 0 ≤ A ∧ A < 18446744073709551616) (hC : 0 ≤ C ∧ C < 18446744073709551616) :
    Calls Try.prog 48 #[.agg #[.int .u64 (d0 A), .int .u64 (d1 A), .int .u64 (d2 A), .int .u64 (d3 A), .bool m], .agg #[.int .u64 (d0 C), .int .u64 (d1 C), .int .u64 (d2 C), .int .u64 (d3 C), .bool n]] w fun e w' =>
      e = .returned (.agg #[.int .u64 (d0 (A * C)), .int .u64 (d1 (A * C)), .int .u64 (d2 (A * C)), .int .u64 (d3 (A * C)), .bool (m != n)]) ∧ Below w.heap.size w w' := by
  have ha := dg_bd A
  have hc := dg_bd C
  obtain ⟨p0, p1, p2, p3⟩ := dg_low A hA
  obtain ⟨q0, q1, q2, q3⟩ := dg_low C hC
  have hsa := dg_sum A (by omega)
  have hsc := dg_sum C (by omega)
  rw [p2, p3] at hsa ⊢
  rw [q2, q3] at hsc ⊢
  clear p0 p1 p2 p3 q0 q1 q2 q3
  have HPR := Lib.hid (prod_parts (d0 A) (d1 A) (d0 C) (d1 C) A C (by omega) (by omega))
  have m00 := mul_lt64 (d0 A) (d0 C) ha.1 hc.1
  have m01 := mul_lt64 (d0 A) (d1 C) ha.1 hc.2.1
  have m10 := mul_lt64 (d1 A) (d0 C) ha.2.1 hc.1
  have m11 := mul_lt64 (d1 A) (d1 C) ha.2.1 hc.2.1
  obtain ⟨e00, h00⟩ : ∃ x, d0 A * d0 C = x := ⟨_, rfl⟩
  obtain ⟨e01, h01⟩ : ∃ x, d0 A * d1 C = x := ⟨_, rfl⟩
  obtain ⟨e10, h10⟩ : ∃ x, d1 A * d0 C = x := ⟨_, rfl⟩
  obtain ⟨e11, h11⟩ : ∃ x, d1 A * d1 C = x := ⟨_, rfl⟩
  rw [h00, h01, h10, h11] at HPR
  rw [h00] at m00
  rw [h01] at m01
  rw [h10] at m10
  rw [h11] at m11
  obtain ⟨P, hP⟩ : ∃ P, A * C = P := ⟨_, rfl⟩
  rw [hP] at HPR ⊢
  generalize d0 A = a0 at *
  generalize d1 A = a1 at *
  generalize d0 C = b0 at *
  generalize d1 C = b1 at *
  clear hsa hsc hP
  go_enter Try.func48, Try.ntmps48
  go_wp2_with fail
  have hsq : A * C = A * C := rfl
  clear hsq
  go_loopw [6] (fun i w' => ∃ (j : Nat), j ≤ 2 ∧ i = .int .i64 (j : Int) ∧ Hid (TmS w w' a0 a1 b0 b1 (pk5 j 0 (e00 + 4294967296 * e01) P 0 0) m n)) (fun i _ => 2 - (intOf i).toNat)
  case atStart => exact ⟨0, by omega, rfl, Lib.hid ⟨by (repeat' (first | (with_reducible exact Below.refl _ _) | (with_reducible assumption) | (with_reducible refine below_drewN ?_ _) | (with_reducible refine Below.drew ?_) | (with_reducible refine below_new ?_ (Nat.le_refl _) _) | (with_reducible refine Below.setCell ?_ ?_ _) | (with_reducible refine below_go ?_ (by assumption) (Nat.le_refl _)) | (simp; done) | (simp; omega) | omega)), by simp, by go_simp, by go_simp, by go_simp, by go_simp, by go_simp, by go_simp, ⟨by go_simp, by go_simp, by go_simp, by go_simp, by go_simp, fun o => by go_simp⟩, by go_simp; rfl, by go_simp; rfl, by go_simp; rfl, by go_simp; rfl, by go_simp, fun o => by go_simp⟩⟩
  case round =>
    obtain ⟨j, hj, rfl, HT⟩ := hrel
    rcases (by omega : j = 0 ∨ j = 1 ∨ j = 2) with rfl | rfl | rfl
    · simp only [show ((0 : Nat) : Int) = 0 from rfl]
      go_wp2_with fail
      go_loopw [7] (fun i w' => ∃ (k : Nat), k ≤ 2 ∧ i = .int .i64 (k : Int) ∧ Hid (TmS w w' a0 a1 b0 b1 (pk5 k (0) (e00) (e00 + 4294967296 * e01) 0 0) m n)) (fun i _ => 2 - (intOf i).toNat)
      case atStart => exact ⟨0, by omega, rfl, HT⟩
      case round =>
        clear HT
        obtain ⟨k, hk, rfl, HT⟩ := hrel
        rcases (by omega : k = 0 ∨ k = 1 ∨ k = 2) with rfl | rfl | rfl
        · obtain ⟨l1, l2, l3, l4⟩ := dg_low e00 (by omega)
          have hsum := fun w => rsum_at (0) (e00) false false w (by omega) (by omega) (by omega)
          rw [l1, l2, l3, l4, show 0 + e00 = e00 by omega] at hsum
          have HSUM := Lib.hid hsum
          clear l1 l2 l3 l4 hsum
          have x0 := HT.out.x0
          have y0 := HT.out.y0
          have z3 := HT.out.sz
          have z0 : w.heap.size < wr.heap.size := by omega
          have z1 : w.heap.size + 1 < wr.heap.size := by omega
          go_wp2_with fail
          refine wp_region_ext (by kernel_rfl) (by kernel_rfl) ?_
          repeat (go_big_quiet_step (fail))
          refine wpQuiet_nil ?_
          intro w8 hb8
          replace hb8 := ext_below hb8
          have HT8 := Lib.hid (HT.out.below hb8)
          clear hb8 x0 y0 z3 z0 z1 HT
          have o0 := HT8.out.o0
          have o1 := HT8.out.o1
          have o2 := HT8.out.o2
          have o3 := HT8.out.o3
          have o4 := HT8.out.o4
          have z3 := HT8.out.sz
          go_wp2_with fail
          refine (HSUM.out _).mono ?_
          rintro e w9 ⟨rfl, hb9⟩
          have HT9 := Lib.hid (HT8.out.below (w' := w9) (by (repeat' (first | (with_reducible exact Below.refl _ _) | (with_reducible assumption) | (with_reducible refine below_drewN ?_ _) | (with_reducible refine Below.drew ?_) | (with_reducible refine below_new ?_ (Nat.le_refl _) _) | (with_reducible refine Below.setCell ?_ ?_ _) | (with_reducible refine below_go ?_ (by assumption) (Nat.le_refl _)) | (simp; done) | (simp; omega) | omega))))
          have z9 := HT9.out.sz
          have s0 := HT9.out.o0
          have s1 := HT9.out.o1
          have s2 := HT9.out.o2
          have s3 := HT9.out.o3
          have s4 := HT9.out.o4
          have sf := HT9.out.of
          clear o0 o1 o2 o3 o4 z3 HT8 hb9
          go_wp2
          go_roundw
          case rel =>
            obtain ⟨t0, t1, tx0, tx1, tx4, ty0, ty1, ty4, ⟨r0, r1, r2, r3, r4, rf⟩, to0, to1, to2, to3, to4, tof⟩ := HT9.out
            clear s0 s1 s2 s3 s4 sf HT9
            refine ⟨1, by omega, rfl, Lib.hid ⟨by (repeat' (first | (with_reducible exact Below.refl _ _) | (with_reducible assumption) | (with_reducible refine below_drewN ?_ _) | (with_reducible refine Below.drew ?_) | (with_reducible refine below_new ?_ (Nat.le_refl _) _) | (with_reducible refine Below.setCell ?_ ?_ _) | (with_reducible refine below_go ?_ (by assumption) (Nat.le_refl _)) | (simp; done) | (simp; omega) | omega)), by simp; omega, by go_simp, by go_simp, by go_simp, by go_simp, by go_simp, by go_simp, ⟨by go_simp, by go_simp, by go_simp, by go_simp, by go_simp, fun o => by go_simp⟩, ?_, ?_, ?_, ?_, by go_simp, fun o => by go_simp⟩⟩
            all_goals (simp only [pk5]; go_simp)
          case measure => simp [intOf]
        · obtain ⟨l1, l2, l3, l4⟩ := shift1 e01 (by omega)
          have hsum := fun w => rsum_at (e00) (4294967296 * e01) false false w (by omega) (by omega) (by omega)
          rw [l1, l2, l3, l4, show e00 + 4294967296 * e01 = e00 + 4294967296 * e01 by omega] at hsum
          have HSUM := Lib.hid hsum
          clear l1 l2 l3 l4 hsum
          have x0 := HT.out.x0
          have y1 := HT.out.y1
          have z3 := HT.out.sz
          have z0 : w.heap.size < wr.heap.size := by omega
          have z1 : w.heap.size + 1 < wr.heap.size := by omega
          go_wp2_with fail
          refine wp_region_ext (by kernel_rfl) (by kernel_rfl) ?_
          repeat (go_big_quiet_step (fail))
          refine wpQuiet_nil ?_
          intro w8 hb8
          replace hb8 := ext_below hb8
          have HT8 := Lib.hid (HT.out.below hb8)
          clear hb8 x0 y1 z3 z0 z1 HT
          have o0 := HT8.out.o0
          have o1 := HT8.out.o1
          have o2 := HT8.out.o2
          have o3 := HT8.out.o3
          have o4 := HT8.out.o4
          have z3 := HT8.out.sz
          go_wp2_with fail
          refine (HSUM.out _).mono ?_
          rintro e w9 ⟨rfl, hb9⟩
          have HT9 := Lib.hid (HT8.out.below (w' := w9) (by (repeat' (first | (with_reducible exact Below.refl _ _) | (with_reducible assumption) | (with_reducible refine below_drewN ?_ _) | (with_reducible refine Below.drew ?_) | (with_reducible refine below_new ?_ (Nat.le_refl _) _) | (with_reducible refine Below.setCell ?_ ?_ _) | (with_reducible refine below_go ?_ (by assumption) (Nat.le_refl _)) | (simp; done) | (simp; omega) | omega))))
          have z9 := HT9.out.sz
          have s0 := HT9.out.o0
          have s1 := HT9.out.o1
          have s2 := HT9.out.o2
          have s3 := HT9.out.o3
          have s4 := HT9.out.o4
          have sf := HT9.out.of
          clear o0 o1 o2 o3 o4 z3 HT8 hb9
          go_wp2
          go_roundw
          case rel =>
            obtain ⟨t0, t1, tx0, tx1, tx4, ty0, ty1, ty4, ⟨r0, r1, r2, r3, r4, rf⟩, to0, to1, to2, to3, to4, tof⟩ := HT9.out
            clear s0 s1 s2 s3 s4 sf HT9
            refine ⟨2, by omega, rfl, Lib.hid ⟨by (repeat' (first | (with_reducible exact Below.refl _ _) | (with_reducible assumption) | (with_reducible refine below_drewN ?_ _) | (with_reducible refine Below.drew ?_) | (with_reducible refine below_new ?_ (Nat.le_refl _) _) | (with_reducible refine Below.setCell ?_ ?_ _) | (with_reducible refine below_go ?_ (by assumption) (Nat.le_refl _)) | (simp; done) | (simp; omega) | omega)), by simp; omega, by go_simp, by go_simp, by go_simp, by go_simp, by go_simp, by go_simp, ⟨by go_simp, by go_simp, by go_simp, by go_simp, by go_simp, fun o => by go_simp⟩, ?_, ?_, ?_, ?_, by go_simp, fun o => by go_simp⟩⟩
            all_goals (simp only [pk5]; go_simp)
          case measure => simp [intOf]
        · go_wp2
          go_roundw
          case rel => exact ⟨1, by omega, rfl, HT⟩
          case measure => simp [intOf]
    · simp only [show ((1 : Nat) : Int) = 1 from rfl]
      go_wp2_with fail
      go_loopw [7] (fun i w' => ∃ (k : Nat), k ≤ 2 ∧ i = .int .i64 (k : Int) ∧ Hid (TmS w w' a0 a1 b0 b1 (pk5 k (e00 + 4294967296 * e01) (e00 + 4294967296 * e01 + 4294967296 * e10) (P) 0 0) m n)) (fun i _ => 2 - (intOf i).toNat)
      case atStart => exact ⟨0, by omega, rfl, HT⟩
      case round =>
        clear HT
        obtain ⟨k, hk, rfl, HT⟩ := hrel
        rcases (by omega : k = 0 ∨ k = 1 ∨ k = 2) with rfl | rfl | rfl
        · obtain ⟨l1, l2, l3, l4⟩ := shift1 e10 (by omega)
          have hsum := fun w => rsum_at (e00 + 4294967296 * e01) (4294967296 * e10) false false w (by omega) (by omega) (by omega)
          rw [l1, l2, l3, l4, show e00 + 4294967296 * e01 + 4294967296 * e10 = e00 + 4294967296 * e01 + 4294967296 * e10 by omega] at hsum
          have HSUM := Lib.hid hsum
          clear l1 l2 l3 l4 hsum
          have x1 := HT.out.x1
          have y0 := HT.out.y0
          have z3 := HT.out.sz
          have z0 : w.heap.size < wr.heap.size := by omega
          have z1 : w.heap.size + 1 < wr.heap.size := by omega
          go_wp2_with fail
          refine wp_region_ext (by kernel_rfl) (by kernel_rfl) ?_
          repeat (go_big_quiet_step (fail))
          refine wpQuiet_nil ?_
          intro w8 hb8
          replace hb8 := ext_below hb8
          have HT8 := Lib.hid (HT.out.below hb8)
          clear hb8 x1 y0 z3 z0 z1 HT
          have o0 := HT8.out.o0
          have o1 := HT8.out.o1
          have o2 := HT8.out.o2
          have o3 := HT8.out.o3
          have o4 := HT8.out.o4
          have z3 := HT8.out.sz
          go_wp2_with fail
          refine (HSUM.out _).mono ?_
          rintro e w9 ⟨rfl, hb9⟩
          have HT9 := Lib.hid (HT8.out.below (w' := w9) (by (repeat' (first | (with_reducible exact Below.refl _ _) | (with_reducible assumption) | (with_reducible refine below_drewN ?_ _) | (with_reducible refine Below.drew ?_) | (with_reducible refine below_new ?_ (Nat.le_refl _) _) | (with_reducible refine Below.setCell ?_ ?_ _) | (with_reducible refine below_go ?_ (by assumption) (Nat.le_refl _)) | (simp; done) | (simp; omega) | omega))))
          have z9 := HT9.out.sz
          have s0 := HT9.out.o0
          have s1 := HT9.out.o1
          have s2 := HT9.out.o2
          have s3 := HT9.out.o3
          have s4 := HT9.out.o4
          have sf := HT9.out.of
          clear o0 o1 o2 o3 o4 z3 HT8 hb9
          go_wp2
          go_roundw
          case rel =>
            obtain ⟨t0, t1, tx0, tx1, tx4, ty0, ty1, ty4, ⟨r0, r1, r2, r3, r4, rf⟩, to0, to1, to2, to3, to4, tof⟩ := HT9.out
            clear s0 s1 s2 s3 s4 sf HT9
            refine ⟨1, by omega, rfl, Lib.hid ⟨by (repeat' (first | (with_reducible exact Below.refl _ _) | (with_reducible assumption) | (with_reducible refine below_drewN ?_ _) | (with_reducible refine Below.drew ?_) | (with_reducible refine below_new ?_ (Nat.le_refl _) _) | (with_reducible refine Below.setCell ?_ ?_ _) | (with_reducible refine below_go ?_ (by assumption) (Nat.le_refl _)) | (simp; done) | (simp; omega) | omega)), by simp; omega, by go_simp, by go_simp, by go_simp, by go_simp, by go_simp, by go_simp, ⟨by go_simp, by go_simp, by go_simp, by go_simp, by go_simp, fun o => by go_simp⟩, ?_, ?_, ?_, ?_, by go_simp, fun o => by go_simp⟩⟩
            all_goals (simp only [pk5]; go_simp)
          case measure => simp [intOf]
        · obtain ⟨l1, l2, l3, l4⟩ := shift2 e11 (by omega)
          have hsum := fun w => rsum_at (e00 + 4294967296 * e01 + 4294967296 * e10) (18446744073709551616 * e11) false false w (by omega) (by omega) (by omega)
          rw [l1, l2, l3, l4, HPR.out] at hsum
          have HSUM := Lib.hid hsum
          clear l1 l2 l3 l4 hsum
          have x1 := HT.out.x1
          have y1 := HT.out.y1
          have z3 := HT.out.sz
          have z0 : w.heap.size < wr.heap.size := by omega
          have z1 : w.heap.size + 1 < wr.heap.size := by omega
          go_wp2_with fail
          refine wp_region_ext (by kernel_rfl) (by kernel_rfl) ?_
          repeat (go_big_quiet_step (fail))
          refine wpQuiet_nil ?_
          intro w8 hb8
          replace hb8 := ext_below hb8
          have HT8 := Lib.hid (HT.out.below hb8)
          clear hb8 x1 y1 z3 z0 z1 HT
          have o0 := HT8.out.o0
          have o1 := HT8.out.o1
          have o2 := HT8.out.o2
          have o3 := HT8.out.o3
          have o4 := HT8.out.o4
          have z3 := HT8.out.sz
          go_wp2_with fail
          refine (HSUM.out _).mono ?_
          rintro e w9 ⟨rfl, hb9⟩
          have HT9 := Lib.hid (HT8.out.below (w' := w9) (by (repeat' (first | (with_reducible exact Below.refl _ _) | (with_reducible assumption) | (with_reducible refine below_drewN ?_ _) | (with_reducible refine Below.drew ?_) | (with_reducible refine below_new ?_ (Nat.le_refl _) _) | (with_reducible refine Below.setCell ?_ ?_ _) | (with_reducible refine below_go ?_ (by assumption) (Nat.le_refl _)) | (simp; done) | (simp; omega) | omega))))
          have z9 := HT9.out.sz
          have s0 := HT9.out.o0
          have s1 := HT9.out.o1
          have s2 := HT9.out.o2
          have s3 := HT9.out.o3
          have s4 := HT9.out.o4
          have sf := HT9.out.of
          clear o0 o1 o2 o3 o4 z3 HT8 hb9
          go_wp2
          go_roundw
          case rel =>
            obtain ⟨t0, t1, tx0, tx1, tx4, ty0, ty1, ty4, ⟨r0, r1, r2, r3, r4, rf⟩, to0, to1, to2, to3, to4, tof⟩ := HT9.out
            clear s0 s1 s2 s3 s4 sf HT9
            refine ⟨2, by omega, rfl, Lib.hid ⟨by (repeat' (first | (with_reducible exact Below.refl _ _) | (with_reducible assumption) | (with_reducible refine below_drewN ?_ _) | (with_reducible refine Below.drew ?_) | (with_reducible refine below_new ?_ (Nat.le_refl _) _) | (with_reducible refine Below.setCell ?_ ?_ _) | (with_reducible refine below_go ?_ (by assumption) (Nat.le_refl _)) | (simp; done) | (simp; omega) | omega)), by simp; omega, by go_simp, by go_simp, by go_simp, by go_simp, by go_simp, by go_simp, ⟨by go_simp, by go_simp, by go_simp, by go_simp, by go_simp, fun o => by go_simp⟩, ?_, ?_, ?_, ?_, by go_simp, fun o => by go_simp⟩⟩
            all_goals (simp only [pk5]; go_simp)
          case measure => simp [intOf]
        · go_wp2
          go_roundw
          case rel => exact ⟨2, by omega, rfl, HT⟩
          case measure => simp [intOf]
    · have HT2 := Lib.hid HT.out
      obtain ⟨t0, t1, tx0, tx1, tx4, ty0, ty1, ty4, ⟨r0, r1, r2, r3, r4, rf⟩, to0, to1, to2, to3, to4, tof⟩ := HT.out
      simp only [pk5] at to0 to1 to2 to3
      have z0 : w.heap.size < wr.heap.size := by omega
      have z1 : w.heap.size + 1 < wr.heap.size := by omega
      have z2 : w.heap.size + 1 + 1 < wr.heap.size := by omega
      have z3 : w.heap.size + 1 + 1 + 1 < wr.heap.size := by omega
      go_wp2
      exact bodyPost_ret (v := .agg #[.int .u64 (d0 P), .int .u64 (d1 P), .int .u64 (d2 P), .int .u64 (d3 P), .bool (m != n)]) (by simp [results, Try.results48, go_sem, r0, r1, r2, r3, r4, rf]; cases m <;> cases n <;> rfl) rfl ⟨rfl, by (repeat' (first | (with_reducible exact Below.refl _ _) | (with_reducible assumption) | (with_reducible refine below_drewN ?_ _) | (with_reducible refine Below.drew ?_) | (with_reducible refine below_new ?_ (Nat.le_refl _) _) | (with_reducible refine Below.setCell ?_ ?_ _) | (with_reducible refine below_go ?_ (by assumption) (Nat.le_refl _)) | (simp; done) | (simp; omega) | omega))⟩

end Go.Proofs.Ytcamegfnhbbaeaa

namespace Go.Proofs.Ytcamegfnhbbaeaa
set_option linter.unusedVariables false
set_option linter.unusedSimpArgs false

/-- a number without its last k bits -/
def tpN (A : Int) (k : Nat) : Int := A / ((2 ^ k : Nat) : Int)
theorem tpN_zero (A : Int) : tpN A 0 = A := by simp [tpN]
theorem tpN_bd (A : Int) (k : Nat) (h : 0 ≤ A) : 0 ≤ tpN A k ∧ tpN A k ≤ A := by
  unfold tpN
  have h2 : (0 : Int) < ((2 ^ k : Nat) : Int) := by
    have := Nat.two_pow_pos k
    omega
  exact ⟨Int.ediv_nonneg h (by omega), Int.ediv_le_self _ h⟩
theorem tpN_top (A : Int) (h : 0 ≤ A ∧ A < 340282366920938463463374607431768211456) : tpN A 128 = 0 := by
  unfold tpN
  rw [show ((2 ^ 128 : Nat) : Int) = 340282366920938463463374607431768211456 by decide]
  omega
theorem tpN_succ (A : Int) (k : Nat) : tpN A (k + 1) = tpN A k / 2 := by
  unfold tpN
  rw [Nat.pow_succ, Int.natCast_mul, Int.ediv_ediv_of_nonneg (Int.natCast_nonneg _)]
  rfl
/-- the bit that comes up -/
def btN (A : Int) (k : Nat) : Int := tpN A k % 2
theorem tpN_bit (A : Int) (k : Nat) : tpN A k = 2 * tpN A (k + 1) + btN A k := by
  rw [tpN_succ]
  unfold btN
  omega
theorem btN_bd (A : Int) (k : Nat) : btN A k = 0 ∨ btN A k = 1 := by
  unfold btN
  omega

/-- part j of a size -/
def prt (j : Nat) (v : Int) : Int := v / ((2 ^ (32 * j) : Nat) : Int) % 4294967296
theorem prt_0 (v : Int) : prt 0 v = d0 v := by unfold prt d0; rw [show ((2 ^ (32 * 0) : Nat) : Int) = 1 by decide, Int.ediv_one]
theorem prt_1 (v : Int) : prt 1 v = d1 v := by unfold prt d1; rw [show ((2 ^ (32 * 1) : Nat) : Int) = 4294967296 by decide]
theorem prt_2 (v : Int) : prt 2 v = d2 v := by unfold prt d2; rw [show ((2 ^ (32 * 2) : Nat) : Int) = 18446744073709551616 by decide]
theorem prt_3 (v : Int) : prt 3 v = d3 v := by unfold prt d3; rw [show ((2 ^ (32 * 3) : Nat) : Int) = 79228162514264337593543950336 by decide]

theorem prt_bit (A : Int) (j s : Nat) (hA : 0 ≤ A) (hs : s < 32) : prt j A / ((2 ^ s : Nat) : Int) % 2 = btN A (32 * j + s) := by
  obtain ⟨a, rfl⟩ := Int.eq_ofNat_of_zero_le hA
  unfold prt btN tpN
  have h1 : ((a : Int) / ((2 ^ (32 * j) : Nat) : Int) % 4294967296 / ((2 ^ s : Nat) : Int) % 2) = ((a / 2 ^ (32 * j) % 2 ^ 32 / 2 ^ s % 2 : Nat) : Int) := by
    simp only [Int.natCast_emod, Int.natCast_ediv]
    rfl
  have h2 : ((a : Int) / ((2 ^ (32 * j + s) : Nat) : Int) % 2) = ((a / 2 ^ (32 * j + s) % 2 : Nat) : Int) := by
    simp only [Int.natCast_emod, Int.natCast_ediv]
    rfl
  rw [h1, h2]
  congr 1
  have e1 := Nat.testBit_mod_two_pow (a / 2 ^ (32 * j)) 32 s
  rw [Nat.testBit_div_two_pow] at e1
  rw [Nat.testBit_eq_decide_div_mod_eq, Nat.testBit_eq_decide_div_mod_eq, decide_eq_true hs, Bool.true_and, Bool.eq_iff_iff, decide_eq_true_eq, decide_eq_true_eq] at e1
  have c1 := Nat.mod_two_eq_zero_or_one (a / 2 ^ (32 * j) % 2 ^ 32 / 2 ^ s)
  have c2 := Nat.mod_two_eq_zero_or_one (a / 2 ^ (32 * j + s))
  rw [show s + 32 * j = 32 * j + s by omega] at e1
  rcases c1 with c1 | c1 <;> rcases c2 with c2 | c2 <;> rw [c1, c2] <;> rw [c1, c2] at e1 <;> simp at e1

/-- what stands behind a bit: the rest, the quotient -/
def rsN (A D : Int) (k : Nat) : Int := tpN A k % D
def qtN (A D : Int) (k : Nat) : Int := tpN A k / D
theorem rsN_bd (A D : Int) (k : Nat) (hD : 1 ≤ D) : 0 ≤ rsN A D k ∧ rsN A D k < D := ⟨Int.emod_nonneg _ (by omega), Int.emod_lt_of_pos _ (by omega)⟩
theorem qtN_bd (A D : Int) (k : Nat) (hA : 0 ≤ A) (hD : 1 ≤ D) : 0 ≤ qtN A D k ∧ qtN A D k ≤ A := by
  have h := tpN_bd A k hA
  have h1 : 0 ≤ tpN A k / D := Int.ediv_nonneg (by omega) (by omega)
  have h2 := Int.ediv_le_self (a := tpN A k) D (by omega)
  unfold qtN
  omega
theorem by_step (A D : Int) (k : Nat) (hA : 0 ≤ A) (hD : 1 ≤ D) :
    (D ≤ rsN A D (k + 1) + rsN A D (k + 1) + btN A k → rsN A D k = rsN A D (k + 1) + rsN A D (k + 1) + btN A k - D ∧ qtN A D k = qtN A D (k + 1) + qtN A D (k + 1) + 1) ∧
    (rsN A D (k + 1) + rsN A D (k + 1) + btN A k < D → rsN A D k = rsN A D (k + 1) + rsN A D (k + 1) + btN A k ∧ qtN A D k = qtN A D (k + 1) + qtN A D (k + 1)) := by
  have hb := btN_bd A k
  have ht := tpN_bit A k
  have hr := rsN_bd A D (k + 1) hD
  have hm := Int.mul_ediv_add_emod (tpN A (k + 1)) D
  have h0 := tpN_bd A (k + 1) hA
  unfold rsN qtN at *
  generalize tpN A (k + 1) / D = Q at *
  generalize tpN A (k + 1) % D = R at *
  generalize btN A k = b at *
  have key : tpN A k = D * Q + D * Q + (R + R + b) := by omega
  have e1 : D * (Q + Q) = D * Q + D * Q := Int.mul_add _ _ _
  have e2 : D * (Q + Q + 1) = D * Q + D * Q + D := by rw [Int.mul_add, e1, Int.mul_one]
  constructor
  · intro h
    have := (Int.ediv_emod_unique (a := tpN A k) (b := D) (r := R + R + b - D) (q := Q + Q + 1) (by omega)).2 ⟨by omega, by omega, by omega⟩
    exact ⟨this.2, this.1⟩
  · intro h
    have := (Int.ediv_emod_unique (a := tpN A k) (b := D) (r := R + R + b) (q := Q + Q) (by omega)).2 ⟨by omega, by omega, by omega⟩
    exact ⟨this.2, this.1⟩
theorem dbl_parts (v : Int) (h : 0 ≤ v ∧ v < 170141183460469231731687303715884105728) : d0 (v + v + 1) = d0 (v + v) + 1 ∧ d1 (v + v + 1) = d1 (v + v) ∧ d2 (v + v + 1) = d2 (v + v) ∧ d3 (v + v + 1) = d3 (v + v) ∧ 0 ≤ d0 (v + v) ∧ d0 (v + v) ≤ 4294967294 := by
  unfold d0 d1 d2 d3
  omega
theorem qt_dbl (A D : Int) (k : Nat) (hA : 0 ≤ A) (hD : 1 ≤ D) : qtN A D (k + 1) + qtN A D (k + 1) ≤ A := by
  have h := by_step A D k hA hD
  have h2 := qtN_bd A D k hA hD
  by_cases c : D ≤ rsN A D (k + 1) + rsN A D (k + 1) + btN A k
  · have := h.1 c; omega
  · have := h.2 (by omega); omega

end Go.Proofs.Ytcamegfnhbbaeaa

namespace Go.Proofs.Ytcamegfnhbbaeaa
open Go.RowKit
set_option linter.unusedVariables false
set_option linter.unusedSimpArgs false
attribute [local go_sem] ite_max ite_min vite_max vite_min ext_cell ext_frozen

/-- where the walk of the quotient stands: the two numbers' boxes, the results', the quotient so far, the rest so far -/
structure ByS (w w' : World) (A D : Int) (n : Bool) (q0 q1 q2 q3 p0 p1 p2 p3 : Int) : Prop where
  be : Below w.heap.size w w'
  sz : w.heap.size + 5 < w'.heap.size
  xs : ∀ j : Nat, j < 4 → w'.cell? ⟨w.heap.size, j, none⟩ = some (.int .u64 (prt j A))
  y0 : w'.cell? ⟨w.heap.size + 1, 0, none⟩ = some (.int .u64 (d0 D))
  y1 : w'.cell? ⟨w.heap.size + 1, 1, none⟩ = some (.int .u64 (d1 D))
  y2 : w'.cell? ⟨w.heap.size + 1, 2, none⟩ = some (.int .u64 (d2 D))
  y3 : w'.cell? ⟨w.heap.size + 1, 3, none⟩ = some (.int .u64 (d3 D))
  y4 : w'.cell? ⟨w.heap.size + 1, 4, none⟩ = some (.bool n)
  r : wideAt w' (w.heap.size + 2)
  s : wideAt w' (w.heap.size + 3)
  q0 : w'.cell? ⟨w.heap.size + 4, 0, none⟩ = some (.int .u64 q0)
  q1 : w'.cell? ⟨w.heap.size + 4, 1, none⟩ = some (.int .u64 q1)
  q2 : w'.cell? ⟨w.heap.size + 4, 2, none⟩ = some (.int .u64 q2)
  q3 : w'.cell? ⟨w.heap.size + 4, 3, none⟩ = some (.int .u64 q3)
  q4 : w'.cell? ⟨w.heap.size + 4, 4, none⟩ = some (.bool false)
  qf : ∀ o, w'.frozen? ⟨w.heap.size + 4, o, none⟩ = false
  p0 : w'.cell? ⟨w.heap.size + 5, 0, none⟩ = some (.int .u64 p0)
  p1 : w'.cell? ⟨w.heap.size + 5, 1, none⟩ = some (.int .u64 p1)
  p2 : w'.cell? ⟨w.heap.size + 5, 2, none⟩ = some (.int .u64 p2)
  p3 : w'.cell? ⟨w.heap.size + 5, 3, none⟩ = some (.int .u64 p3)
  p4 : w'.cell? ⟨w.heap.size + 5, 4, none⟩ = some (.bool false)
  pf : ∀ o, w'.frozen? ⟨w.heap.size + 5, o, none⟩ = false
theorem ByS.below {w wr w' : World} {A D : Int} {n : Bool} {q0 q1 q2 q3 p0 p1 p2 p3 : Int} (s : ByS w wr A D n q0 q1 q2 q3 p0 p1 p2 p3) (h : Below wr.heap.size wr w') : ByS w w' A D n q0 q1 q2 q3 p0 p1 p2 p3 := by
  have z := s.sz
  have c := fun (b o : Nat) (hb : b < wr.heap.size) => h.cell (p := ⟨b, o, none⟩) hb
  have f := fun (b o : Nat) (hb : b < wr.heap.size) => h.frozen (p := ⟨b, o, none⟩) hb
  exact ⟨s.be.trans (h.mono s.be.size), Nat.lt_of_lt_of_le s.sz h.size, fun j hj => (c _ _ (by omega)).trans (s.xs j hj), (c _ _ (by omega)).trans s.y0, (c _ _ (by omega)).trans s.y1, (c _ _ (by omega)).trans s.y2, (c _ _ (by omega)).trans s.y3, (c _ _ (by omega)).trans s.y4,
    s.r.below (by omega) h, s.s.below (by omega) h, (c _ _ (by omega)).trans s.q0, (c _ _ (by omega)).trans s.q1, (c _ _ (by omega)).trans s.q2, (c _ _ (by omega)).trans s.q3, (c _ _ (by omega)).trans s.q4, fun o => (f _ _ (by omega)).trans (s.qf o),
    (c _ _ (by omega)).trans s.p0, (c _ _ (by omega)).trans s.p1, (c _ _ (by omega)).trans s.p2, (c _ _ (by omega)).trans s.p3, (c _ _ (by omega)).trans s.p4, fun o => (f _ _ (by omega)).trans (s.pf o)⟩
theorem ByS.eq {w w' : World} {A D : Int} {n : Bool} {a0 a1 a2 a3 b0 b1 b2 b3 q0 q1 q2 q3 p0 p1 p2 p3 : Int} (s : ByS w w' A D n a0 a1 a2 a3 b0 b1 b2 b3) (h : a0 = q0 ∧ a1 = q1 ∧ a2 = q2 ∧ a3 = q3 ∧ b0 = p0 ∧ b1 = p1 ∧ b2 = p2 ∧ b3 = p3) : ByS w w' A D n q0 q1 q2 q3 p0 p1 p2 p3 := by
  obtain ⟨rfl, rfl, rfl, rfl, rfl, rfl, rfl, rfl⟩ := h
  exact s
/-- the same, by the two numbers -/
def ByN (w w' : World) (A D : Int) (n : Bool) (Q R : Int) : Prop := ByS w w' A D n (d0 Q) (d1 Q) (d2 Q) (d3 Q) (d0 R) (d1 R) (d2 R) (d3 R)

/-- what holds on the way through a round -/
structure ByR (A D Q R Q' R' b : Int) : Prop where
  qb : 0 ≤ Q ∧ Q + Q + 1 < 340282366920938463463374607431768211456 ∧ 0 ≤ R ∧ R < D
  yes : D ≤ R + R + b → R' = R + R + b - D ∧ Q' = Q + Q + 1
  no : R + R + b < D → R' = R + R + b ∧ Q' = Q + Q

set_option maxRecDepth 100000 in
set_option maxHeartbeats 8000000 in
theorem rby_at (A D : Int) (m n : Bool) (w : World) (hA : 0 ≤ A ∧ A < 340282366920938463463374607431768211456) (hD : 1 ≤ D ∧ D ≤ 18446744073709551616) :
    Calls Try.prog 49 #[.agg #[.int .u64 (d0 A), .int .u64 (d1 A), .int .u64 (d2 A), .int .u64 (d3 A), .bool m], .agg #[.int .u64 (d0 D), .int .u64 (d1 D), .int .u64 (d2 D), .int .u64 (d3 D), .bool n]] w fun e w' =>
      e = .returned (.tuple #[.agg #[.int .u64 (d0 (A / D)), .int .u64 (d1 (A / D)), .int .u64 (d2 (A / D)), .int .u64 (d3 (A / D)), .bool false], .agg #[.int .u64 (d0 (A % D)), .int .u64 (d1 (A % D)), .int .u64 (d2 (A % D)), .int .u64 (d3 (A % D)), .bool false]]) ∧ Below w.heap.size w w' := by
  have HXS : Hid (prt 0 A = d0 A ∧ prt 1 A = d1 A ∧ prt 2 A = d2 A ∧ prt 3 A = d3 A) := Lib.hid ⟨prt_0 A, prt_1 A, prt_2 A, prt_3 A⟩
  have HQT : Hid (∀ k : Nat, 0 ≤ qtN A D k ∧ qtN A D k ≤ A) := Lib.hid fun k => qtN_bd A D k hA.1 hD.1
  go_enter Try.func49, Try.ntmps49
  go_wp2_with fail
  go_loopw [8] (fun i w' => ∃ (k : Nat), k ≤ 128 ∧ i = .int .i64 ((k : Int) - 1) ∧ Hid (ByN w w' A D n (qtN A D k) (rsN A D k))) (fun i _ => (intOf i + 1).toNat)
  case atStart =>
    refine ⟨128, by omega, rfl, Lib.hid ?_⟩
    have e1 : qtN A D 128 = 0 := by unfold qtN; rw [tpN_top A hA]; exact Int.zero_ediv _
    have e2 : rsN A D 128 = 0 := by unfold rsN; rw [tpN_top A hA]; exact Int.zero_emod _
    rw [e1, e2]
    refine ⟨by (repeat' (first | (with_reducible exact Below.refl _ _) | (with_reducible assumption) | (with_reducible refine below_drewN ?_ _) | (with_reducible refine Below.drew ?_) | (with_reducible refine below_new ?_ (Nat.le_refl _) _) | (with_reducible refine Below.setCell ?_ ?_ _) | (with_reducible refine below_go ?_ (by assumption) (Nat.le_refl _)) | (simp; done) | (simp; omega) | omega)), by simp, fun j hj => ?_, by go_simp, by go_simp, by go_simp, by go_simp, by go_simp, ⟨by go_simp, by go_simp, by go_simp, by go_simp, by go_simp, fun o => by go_simp⟩, ⟨by go_simp, by go_simp, by go_simp, by go_simp, by go_simp, fun o => by go_simp⟩,
      by go_simp; rfl, by go_simp; rfl, by go_simp; rfl, by go_simp; rfl, by go_simp, fun o => by go_simp, by go_simp; rfl, by go_simp; rfl, by go_simp; rfl, by go_simp; rfl, by go_simp, fun o => by go_simp⟩
    obtain ⟨e0, e1, e2, e3⟩ := HXS.out
    rcases (by omega : j = 0 ∨ j = 1 ∨ j = 2 ∨ j = 3) with rfl | rfl | rfl | rfl
    · rw [e0]; go_simp
    · rw [e1]; go_simp
    · rw [e2]; go_simp
    · rw [e3]; go_simp
  case round =>
    obtain ⟨k, hk, rfl, HT⟩ := hrel
    cases k with
    | zero =>
      have e1 : qtN A D 0 = A / D := by unfold qtN; rw [tpN_zero]
      have e2 : rsN A D 0 = A % D := by unfold rsN; rw [tpN_zero]
      have hT := HT.out
      rw [e1, e2] at hT
      unfold ByN at hT
      have HT0 := Lib.hid hT
      clear hT HT e1 e2 HXS HQT
      obtain ⟨t0, t1, tx, ty0, ty1, ty2, ty3, ty4, ⟨r0, r1, r2, r3, r4, rf⟩, ⟨s0, s1, s2, s3, s4, sf⟩, tq0, tq1, tq2, tq3, tq4, tqf, tp0, tp1, tp2, tp3, tp4, tpf⟩ := HT0.out
      clear tx ty0 ty1 ty2 ty3 ty4 HT0
      have v2 : w.heap.size + 1 + 1 < wr.heap.size := by omega
      have v3 : w.heap.size + 1 + 1 + 1 < wr.heap.size := by omega
      have v4 : w.heap.size + 1 + 1 + 1 + 1 < wr.heap.size := by omega
      have v5 : w.heap.size + 1 + 1 + 1 + 1 + 1 < wr.heap.size := by omega
      go_wp2_with fail
      go_region
      all_goals
        go_wp2
        exact bodyPost_ret (v := .tuple #[.agg #[.int .u64 (d0 (A / D)), .int .u64 (d1 (A / D)), .int .u64 (d2 (A / D)), .int .u64 (d3 (A / D)), .bool false], .agg #[.int .u64 (d0 (A % D)), .int .u64 (d1 (A % D)), .int .u64 (d2 (A % D)), .int .u64 (d3 (A % D)), .bool false]])
          (by simp [results, Try.results49, go_sem, r0, r1, r2, r3, r4, rf, s0, s1, s2, s3, s4, sf]) rfl ⟨rfl, by (repeat' (first | (with_reducible exact Below.refl _ _) | (with_reducible assumption) | (with_reducible refine below_drewN ?_ _) | (with_reducible refine Below.drew ?_) | (with_reducible refine below_new ?_ (Nat.le_refl _) _) | (with_reducible refine Below.setCell ?_ ?_ _) | (with_reducible refine below_go ?_ (by assumption) (Nat.le_refl _)) | (simp; done) | (simp; omega) | omega))⟩
    | succ j =>
      have HR : Hid (ByR A D (qtN A D (j + 1)) (rsN A D (j + 1)) (qtN A D j) (rsN A D j) (btN A j)) := by
        have h1 := by_step A D j hA.1 hD.1
        have h2 := rsN_bd A D (j + 1) hD.1
        have h3 := qt_dbl A D j hA.1 hD.1
        have h4 := (HQT.out (j + 1)).1
        exact Lib.hid ⟨⟨h4, by omega, h2⟩, h1.1, h1.2⟩
      have HBIT : Hid (prt (j / 32) A / ((2 ^ (j % 32) : Nat) : Int) % 2 = btN A j) := Lib.hid (by
        rw [prt_bit A (j / 32) (j % 32) hA.1 (by omega), show 32 * (j / 32) + j % 32 = j by omega])
      have hbb := btN_bd A j
      generalize btN A j = b at *
      generalize qtN A D (j + 1) = Q at *
      generalize rsN A D (j + 1) = R at *
      obtain ⟨Q', hQ'⟩ : ∃ q, qtN A D j = q := ⟨_, rfl⟩
      obtain ⟨R', hR'⟩ : ∃ q, rsN A D j = q := ⟨_, rfl⟩
      rw [hQ', hR'] at HR
      have HQR := Lib.hid (show qtN A D j = Q' ∧ rsN A D j = R' from ⟨hQ', hR'⟩)
      clear hQ' hR'
      have hR := HR.out.qb
      have HS1 := Lib.hid (fun w => rsum_at R R false false w (by omega) (by omega) (by omega))
      have HS2 := Lib.hid (fun w => rsum_at Q Q false false w (by omega) (by omega) (by omega))
      have hT := HT.out
      unfold ByN at hT
      have HT0 := Lib.hid hT
      clear hT HT hR
      rw [show (((j + 1 : Nat) : Int) - 1) = (j : Int) by omega]
      have p0 := HT0.out.p0
      have p1 := HT0.out.p1
      have p2 := HT0.out.p2
      have p3 := HT0.out.p3
      have p4 := HT0.out.p4
      have z5 := HT0.out.sz
      go_wp2_with fail
      refine (HS1.out _).mono ?_
      rintro e w1 ⟨rfl, hb1⟩
      have HT1 := Lib.hid (HT0.out.below hb1)
      clear p0 p1 p2 p3 p4 z5 HT0 hb1
      obtain ⟨x0, hx0⟩ : ∃ x, d0 (R + R) = x := ⟨_, rfl⟩
      obtain ⟨x1, hx1⟩ : ∃ x, d1 (R + R) = x := ⟨_, rfl⟩
      obtain ⟨x2, hx2⟩ : ∃ x, d2 (R + R) = x := ⟨_, rfl⟩
      obtain ⟨x3, hx3⟩ : ∃ x, d3 (R + R) = x := ⟨_, rfl⟩
      rw [hx0, hx1, hx2, hx3]
      have HX := Lib.hid (show d0 (R + R) = x0 ∧ d1 (R + R) = x1 ∧ d2 (R + R) = x2 ∧ d3 (R + R) = x3 from ⟨hx0, hx1, hx2, hx3⟩)
      clear hx0 hx1 hx2 hx3
      have p0 := HT1.out.p0
      have p1 := HT1.out.p1
      have p2 := HT1.out.p2
      have p3 := HT1.out.p3
      have p4 := HT1.out.p4
      have pf := HT1.out.pf
      have q0 := HT1.out.q0
      have q1 := HT1.out.q1
      have q2 := HT1.out.q2
      have q3 := HT1.out.q3
      have q4 := HT1.out.q4
      have z5 := HT1.out.sz
      go_wp2_with fail
      refine (HS2.out _).mono ?_
      rintro e w2 ⟨rfl, hb2⟩
      obtain ⟨hb2c, hb2f⟩ := bcell hb2
      have hb2z := hb2.size
      have hb2c0 := fun o => hb2c (w.heap.size) o (by first | (simp; done) | (simp; omega) | (simp at *; omega) | omega)
      have hb2f0 := fun o => hb2f (w.heap.size) o (by first | (simp; done) | (simp; omega) | (simp at *; omega) | omega)
      have hb2l0 := below_lt (b := w.heap.size) hb2 (by first | (simp; done) | (simp; omega) | (simp at *; omega) | omega)
      have hb2c1 := fun o => hb2c (w.heap.size + 1) o (by first | (simp; done) | (simp; omega) | (simp at *; omega) | omega)
      have hb2f1 := fun o => hb2f (w.heap.size + 1) o (by first | (simp; done) | (simp; omega) | (simp at *; omega) | omega)
      have hb2l1 := below_lt (b := w.heap.size + 1) hb2 (by first | (simp; done) | (simp; omega) | (simp at *; omega) | omega)
      have hb2c2 := fun o => hb2c (w.heap.size + 2) o (by first | (simp; done) | (simp; omega) | (simp at *; omega) | omega)
      have hb2f2 := fun o => hb2f (w.heap.size + 2) o (by first | (simp; done) | (simp; omega) | (simp at *; omega) | omega)
      have hb2l2 := below_lt (b := w.heap.size + 2) hb2 (by first | (simp; done) | (simp; omega) | (simp at *; omega) | omega)
      have hb2c3 := fun o => hb2c (w.heap.size + 3) o (by first | (simp; done) | (simp; omega) | (simp at *; omega) | omega)
      have hb2f3 := fun o => hb2f (w.heap.size + 3) o (by first | (simp; done) | (simp; omega) | (simp at *; omega) | omega)
      have hb2l3 := below_lt (b := w.heap.size + 3) hb2 (by first | (simp; done) | (simp; omega) | (simp at *; omega) | omega)
      have hb2c4 := fun o => hb2c (w.heap.size + 4) o (by first | (simp; done) | (simp; omega) | (simp at *; omega) | omega)
      have hb2f4 := fun o => hb2f (w.heap.size + 4) o (by first | (simp; done) | (simp; omega) | (simp at *; omega) | omega)
      have hb2l4 := below_lt (b := w.heap.size + 4) hb2 (by first | (simp; done) | (simp; omega) | (simp at *; omega) | omega)
      have hb2c5 := fun o => hb2c (w.heap.size + 5) o (by first | (simp; done) | (simp; omega) | (simp at *; omega) | omega)
      have hb2f5 := fun o => hb2f (w.heap.size + 5) o (by first | (simp; done) | (simp; omega) | (simp at *; omega) | omega)
      have hb2l5 := below_lt (b := w.heap.size + 5) hb2 (by first | (simp; done) | (simp; omega) | (simp at *; omega) | omega)
      have HT2 : Hid (ByS w w2 A D n (d0 Q) (d1 Q) (d2 Q) (d3 Q) x0 x1 x2 x3) := by
        obtain ⟨t0, t1, tx, ty0, ty1, ty2, ty3, ty4, ⟨r0, r1, r2, r3, r4, rf⟩, ⟨s0, s1, s2, s3, s4, sf⟩, tq0, tq1, tq2, tq3, tq4, tqf, tp0, tp1, tp2, tp3, tp4, tpf⟩ := HT1.out
        clear p0 p1 p2 p3 p4 pf q0 q1 q2 q3 q4 z5 HT1 HXS HQT HR HBIT HS1 HS2 HX hbb
        exact Lib.hid ⟨by (repeat' (first | (with_reducible exact Below.refl _ _) | (with_reducible assumption) | (with_reducible refine below_drewN ?_ _) | (with_reducible refine Below.drew ?_) | (with_reducible refine below_new ?_ (Nat.le_refl _) _) | (with_reducible refine Below.setCell ?_ ?_ _) | (with_reducible refine below_go ?_ (by assumption) (Nat.le_refl _)) | (simp; done) | (simp; omega) | omega)), by omega, fun j hj => by have := tx j hj; go_simp, by go_simp, by go_simp, by go_simp, by go_simp, by go_simp, ⟨by go_simp, by go_simp, by go_simp, by go_simp, by go_simp, fun o => by go_simp⟩, ⟨by go_simp, by go_simp, by go_simp, by go_simp, by go_simp, fun o => by go_simp⟩,
          by go_simp, by go_simp, by go_simp, by go_simp, by go_simp, fun o => by go_simp, by go_simp, by go_simp, by go_simp, by go_simp, by go_simp, fun o => by go_simp⟩
      clear p0 p1 p2 p3 p4 pf q0 q1 q2 q3 q4 z5 HT1 hb2 hb2c hb2f hb2z hb2c0 hb2c1 hb2c2 hb2c3 hb2c4 hb2c5 hb2f0 hb2f1 hb2f2 hb2f3 hb2f4 hb2f5 hb2l0 hb2l1 hb2l2 hb2l3 hb2l4 hb2l5
      obtain ⟨z0, hz0⟩ : ∃ x, d0 (Q + Q) = x := ⟨_, rfl⟩
      obtain ⟨z1, hz1⟩ : ∃ x, d1 (Q + Q) = x := ⟨_, rfl⟩
      obtain ⟨z2, hz2⟩ : ∃ x, d2 (Q + Q) = x := ⟨_, rfl⟩
      obtain ⟨z3, hz3⟩ : ∃ x, d3 (Q + Q) = x := ⟨_, rfl⟩
      rw [hz0, hz1, hz2, hz3]
      have HZ := Lib.hid (show d0 (Q + Q) = z0 ∧ d1 (Q + Q) = z1 ∧ d2 (Q + Q) = z2 ∧ d3 (Q + Q) = z3 from ⟨hz0, hz1, hz2, hz3⟩)
      clear hz0 hz1 hz2 hz3
      obtain ⟨jj, hjj⟩ : ∃ jj : Nat, j / 32 = jj := ⟨_, rfl⟩
      obtain ⟨ss, hss⟩ : ∃ ss : Nat, j % 32 = ss := ⟨_, rfl⟩
      rw [hjj, hss] at HBIT
      have e32 : (j : Int) / 32 = (jj : Int) := by omega
      have f32 : (j : Int) % 32 = (ss : Int) := by omega
      have hj4 : jj < 4 := by omega
      have hs32 : ss < 32 := by omega
      have hj127 : j ≤ 127 := by omega
      clear hjj hss
      have x := HT2.out.xs jj hj4
      have p0 := HT2.out.p0
      have p1 := HT2.out.p1
      have p2 := HT2.out.p2
      have p3 := HT2.out.p3
      have p4 := HT2.out.p4
      have pf := HT2.out.pf
      have q0 := HT2.out.q0
      have q1 := HT2.out.q1
      have q2 := HT2.out.q2
      have q3 := HT2.out.q3
      have q4 := HT2.out.q4
      have qf := HT2.out.qf
      have y0 := HT2.out.y0
      have y1 := HT2.out.y1
      have y2 := HT2.out.y2
      have y3 := HT2.out.y3
      have y4 := HT2.out.y4
      have hdb := dbl_parts R (by have := HR.out.qb; omega)
      have hdq := dbl_parts Q (by have := HR.out.qb; omega)
      have HDQ := Lib.hid hdq
      have hx0b : 0 ≤ x0 ∧ x0 ≤ 4294967294 := by have := HX.out.1; omega
      have hz0b : 0 ≤ z0 ∧ z0 ≤ 4294967294 := by have := HZ.out.1; omega
      obtain ⟨X, eX⟩ : ∃ X, prt jj A / (2 : Int) ^ ss = X := ⟨_, rfl⟩
      have hXb : X % 2 = b := by
        have := HBIT.out
        rw [Int.natCast_pow] at this
        rw [← eX]
        exact this
      have hX0 : 0 ≤ X := by
        rw [← eX]
        refine Int.ediv_nonneg ?_ ?_
        · unfold prt; exact Int.emod_nonneg _ (by omega)
        · have : (0 : Int) ≤ ((2 ^ ss : Nat) : Int) := Int.natCast_nonneg _
          rw [Int.natCast_pow] at this
          exact this
      have HDB := Lib.hid hdb
      clear hdb hdq HBIT
      rcases hbb with rfl | rfl
      · have hbit : (X % 2 == 1) = decide (0 = 1) := by rw [hXb]; rfl
        simp only [Nat.reduceEqDiff, decide_true, decide_false, Nat.zero_ne_one] at hbit
        obtain ⟨y0', hy⟩ : ∃ y, x0 + 0 = y := ⟨_, rfl⟩
        have HY : Hid (d0 (R + R + 0) = y0' ∧ d1 (R + R + 0) = x1 ∧ d2 (R + R + 0) = x2 ∧ d3 (R + R + 0) = x3) := Lib.hid (by
          obtain ⟨a0, a1, a2, a3⟩ := HX.out
          obtain ⟨c0, c1, c2, c3, -⟩ := HDB.out
          first
            | exact ⟨by rw [c0, a0, hy], by rw [c1, a1], by rw [c2, a2], by rw [c3, a3]⟩
            | (rw [Int.add_zero]; exact ⟨by rw [a0]; omega, a1, a2, a3⟩))
        clear hXb HX HDB
        have hcm := fun w => rcmp_at (R + R + 0) D false n w (by have := HR.out.qb; omega) (by omega)
        have hls := fun (w : World) (h : D ≤ R + R + 0) => rless_at (R + R + 0) D false n w (by have := HR.out.qb; omega) (by omega) h
        rw [HY.out.1, HY.out.2.1, HY.out.2.2.1, HY.out.2.2.2] at hcm hls
        have HCM := Lib.hid hcm
        have HLS := Lib.hid hls
        have HY2 := Lib.hid HY.out
        clear hcm hls HY
        first | (rw [Int.add_zero] at hy; have hy2 := hy.symm; clear hy; subst hy2) | skip
        have z5 := HT2.out.sz
        go_wp2_with fail
        refine (HCM.out _).mono ?_
        rintro e w3 ⟨rfl, hb3⟩
        obtain ⟨hb3c, hb3f⟩ := bcell hb3
        have hb3z := hb3.size
        have hb3c0 := fun o => hb3c (w.heap.size) o (by first | (simp; done) | (simp; omega) | (simp at *; omega) | omega)
        have hb3f0 := fun o => hb3f (w.heap.size) o (by first | (simp; done) | (simp; omega) | (simp at *; omega) | omega)
        have hb3l0 := below_lt (b := w.heap.size) hb3 (by first | (simp; done) | (simp; omega) | (simp at *; omega) | omega)
        have hb3c1 := fun o => hb3c (w.heap.size + 1) o (by first | (simp; done) | (simp; omega) | (simp at *; omega) | omega)
        have hb3f1 := fun o => hb3f (w.heap.size + 1) o (by first | (simp; done) | (simp; omega) | (simp at *; omega) | omega)
        have hb3l1 := below_lt (b := w.heap.size + 1) hb3 (by first | (simp; done) | (simp; omega) | (simp at *; omega) | omega)
        have hb3c2 := fun o => hb3c (w.heap.size + 2) o (by first | (simp; done) | (simp; omega) | (simp at *; omega) | omega)
        have hb3f2 := fun o => hb3f (w.heap.size + 2) o (by first | (simp; done) | (simp; omega) | (simp at *; omega) | omega)
        have hb3l2 := below_lt (b := w.heap.size + 2) hb3 (by first | (simp; done) | (simp; omega) | (simp at *; omega) | omega)
        have hb3c3 := fun o => hb3c (w.heap.size + 3) o (by first | (simp; done) | (simp; omega) | (simp at *; omega) | omega)
        have hb3f3 := fun o => hb3f (w.heap.size + 3) o (by first | (simp; done) | (simp; omega) | (simp at *; omega) | omega)
        have hb3l3 := below_lt (b := w.heap.size + 3) hb3 (by first | (simp; done) | (simp; omega) | (simp at *; omega) | omega)
        have hb3c4 := fun o => hb3c (w.heap.size + 4) o (by first | (simp; done) | (simp; omega) | (simp at *; omega) | omega)
        have hb3f4 := fun o => hb3f (w.heap.size + 4) o (by first | (simp; done) | (simp; omega) | (simp at *; omega) | omega)
        have hb3l4 := below_lt (b := w.heap.size + 4) hb3 (by first | (simp; done) | (simp; omega) | (simp at *; omega) | omega)
        have hb3c5 := fun o => hb3c (w.heap.size + 5) o (by first | (simp; done) | (simp; omega) | (simp at *; omega) | omega)
        have hb3f5 := fun o => hb3f (w.heap.size + 5) o (by first | (simp; done) | (simp; omega) | (simp at *; omega) | omega)
        have hb3l5 := below_lt (b := w.heap.size + 5) hb3 (by first | (simp; done) | (simp; omega) | (simp at *; omega) | omega)
        have HT3 : Hid (ByS w w3 A D n z0 z1 z2 z3 y0' x1 x2 x3) := by
          obtain ⟨t0, t1, tx, ty0, ty1, ty2, ty3, ty4, ⟨r0, r1, r2, r3, r4, rf⟩, ⟨s0, s1, s2, s3, s4, sf⟩, tq0, tq1, tq2, tq3, tq4, tqf, tp0, tp1, tp2, tp3, tp4, tpf⟩ := HT2.out
          clear x p0 p1 p2 p3 p4 pf q0 q1 q2 q3 q4 qf y0 y1 y2 y3 y4 HT2 HXS HQT HR HS1 HS2 HZ HCM HLS e32 f32 eX hX0 hbit HDQ
          exact Lib.hid ⟨by (repeat' (first | (with_reducible exact Below.refl _ _) | (with_reducible assumption) | (with_reducible refine below_drewN ?_ _) | (with_reducible refine Below.drew ?_) | (with_reducible refine below_new ?_ (Nat.le_refl _) _) | (with_reducible refine Below.setCell ?_ ?_ _) | (with_reducible refine below_go ?_ (by assumption) (Nat.le_refl _)) | (simp; done) | (simp; omega) | omega)), by first | omega | (simp; omega), fun j hj => by have := tx j hj; go_simp, by go_simp, by go_simp, by go_simp, by go_simp, by go_simp, ⟨by go_simp, by go_simp, by go_simp, by go_simp, by go_simp, fun o => by go_simp⟩, ⟨by go_simp, by go_simp, by go_simp, by go_simp, by go_simp, fun o => by go_simp⟩, by go_simp, by go_simp, by go_simp, by go_simp, by go_simp, fun o => by go_simp, by go_simp, by go_simp, by go_simp, by go_simp, by go_simp, fun o => by go_simp⟩
        clear x p0 p1 p2 p3 p4 pf q0 q1 q2 q3 q4 qf y0 y1 y2 y3 y4 HT2 HCM e32 f32 eX hX0 hbit hb3 hb3c hb3f hb3z hb3c0 hb3c1 hb3c2 hb3c3 hb3c4 hb3c5 hb3f0 hb3f1 hb3f2 hb3f3 hb3f4 hb3f5 hb3l0 hb3l1 hb3l2 hb3l3 hb3l4 hb3l5
        obtain ⟨c, hc⟩ : ∃ c, cmpV (R + R + 0) D = c := ⟨_, rfl⟩
        rw [hc]
        by_cases hge : D ≤ R + R + 0
        · have hc0 : 0 ≤ c := by
            rw [← hc]
            by_cases h : R + R + 0 = D
            · rw [cmpV_eq h]; omega
            · rw [cmpV_gt (by omega)]; omega
          have HL2 := Lib.hid (fun w => HLS.out w hge)
          have HE : Hid (R' = R + R + 0 - D ∧ Q' = Q + Q + 1) := Lib.hid (HR.out.yes hge)
          clear HLS HR hc
          have p0 := HT3.out.p0
          have p1 := HT3.out.p1
          have p2 := HT3.out.p2
          have p3 := HT3.out.p3
          have p4 := HT3.out.p4
          have y0 := HT3.out.y0
          have y1 := HT3.out.y1
          have y2 := HT3.out.y2
          have y3 := HT3.out.y3
          have y4 := HT3.out.y4
          go_wp2_with fail
          refine (HL2.out _).mono ?_
          rintro e w4 ⟨rfl, hb4⟩
          have HT4 := Lib.hid (HT3.out.below hb4)
          clear HT3 p0 p1 p2 p3 p4 y0 y1 y2 y3 y4 hb4
          obtain ⟨t0, t1, tx, ty0, ty1, ty2, ty3, ty4, ⟨r0, r1, r2, r3, r4, rf⟩, ⟨s0, s1, s2, s3, s4, sf⟩, tq0, tq1, tq2, tq3, tq4, tqf, tp0, tp1, tp2, tp3, tp4, tpf⟩ := HT4.out
          clear HT4
          go_wp2
          go_roundw
          case rel =>
            refine ⟨j, by omega, rfl, Lib.hid (ByS.eq (a0 := z0 + 1) (a1 := z1) (a2 := z2) (a3 := z3) (b0 := d0 (R + R + 0 - D)) (b1 := d1 (R + R + 0 - D)) (b2 := d2 (R + R + 0 - D)) (b3 := d3 (R + R + 0 - D)) ?_ ?_)⟩
            · clear HXS HQT HS1 HS2 HZ HL2 HDQ HE
              exact ⟨by (repeat' (first | (with_reducible exact Below.refl _ _) | (with_reducible assumption) | (with_reducible refine below_drewN ?_ _) | (with_reducible refine Below.drew ?_) | (with_reducible refine below_new ?_ (Nat.le_refl _) _) | (with_reducible refine Below.setCell ?_ ?_ _) | (with_reducible refine below_go ?_ (by assumption) (Nat.le_refl _)) | (simp; done) | (simp; omega) | omega)), by first | omega | (simp; omega), fun j hj => by have := tx j hj; go_simp, by go_simp, by go_simp, by go_simp, by go_simp, by go_simp, ⟨by go_simp, by go_simp, by go_simp, by go_simp, by go_simp, fun o => by go_simp⟩, ⟨by go_simp, by go_simp, by go_simp, by go_simp, by go_simp, fun o => by go_simp⟩, by go_simp, by go_simp, by go_simp, by go_simp, by go_simp, fun o => by go_simp, by go_simp, by go_simp, by go_simp, by go_simp, by go_simp, fun o => by go_simp⟩
            · obtain ⟨e1, e2⟩ := HE.out
              obtain ⟨a0, a1, a2, a3⟩ := HZ.out
              obtain ⟨c0, c1, c2, c3, -⟩ := HDQ.out
              rw [HQR.out.1, HQR.out.2, e1, e2]
              exact ⟨by rw [c0, a0], by rw [c1, a1], by rw [c2, a2], by rw [c3, a3], rfl, rfl, rfl, rfl⟩
          case measure => simp [intOf]
        · have hc0 : c < 0 := by
            rw [← hc, cmpV_lt (by omega)]; omega
          have HE : Hid (R' = R + R + 0 ∧ Q' = Q + Q) := Lib.hid (HR.out.no (by omega))
          clear HR hc
          go_wp2
          go_roundw
          case rel =>
            refine ⟨j, by omega, rfl, Lib.hid (HT3.out.eq ?_)⟩
            obtain ⟨e1, e2⟩ := HE.out
            obtain ⟨a0, a1, a2, a3⟩ := HZ.out
            obtain ⟨b0, b1, b2, b3⟩ := HY2.out
            rw [HQR.out.1, HQR.out.2, e1, e2]
            exact ⟨a0.symm, a1.symm, a2.symm, a3.symm, b0.symm, b1.symm, b2.symm, b3.symm⟩
          case measure => simp [intOf]
      · have hbit : (X % 2 == 1) = decide (1 = 1) := by rw [hXb]; rfl
        simp only [Nat.reduceEqDiff, decide_true, decide_false, Nat.zero_ne_one] at hbit
        obtain ⟨y0', hy⟩ : ∃ y, x0 + 1 = y := ⟨_, rfl⟩
        have HY : Hid (d0 (R + R + 1) = y0' ∧ d1 (R + R + 1) = x1 ∧ d2 (R + R + 1) = x2 ∧ d3 (R + R + 1) = x3) := Lib.hid (by
          obtain ⟨a0, a1, a2, a3⟩ := HX.out
          obtain ⟨c0, c1, c2, c3, -⟩ := HDB.out
          first
            | exact ⟨by rw [c0, a0, hy], by rw [c1, a1], by rw [c2, a2], by rw [c3, a3]⟩
            | (rw [Int.add_zero]; exact ⟨by rw [a0]; omega, a1, a2, a3⟩))
        clear hXb HX HDB
        have hcm := fun w => rcmp_at (R + R + 1) D false n w (by have := HR.out.qb; omega) (by omega)
        have hls := fun (w : World) (h : D ≤ R + R + 1) => rless_at (R + R + 1) D false n w (by have := HR.out.qb; omega) (by omega) h
        rw [HY.out.1, HY.out.2.1, HY.out.2.2.1, HY.out.2.2.2] at hcm hls
        have HCM := Lib.hid hcm
        have HLS := Lib.hid hls
        have HY2 := Lib.hid HY.out
        clear hcm hls HY
        first | (rw [Int.add_zero] at hy; have hy2 := hy.symm; clear hy; subst hy2) | skip
        have z5 := HT2.out.sz
        go_wp2_with fail
        refine (HCM.out _).mono ?_
        rintro e w3 ⟨rfl, hb3⟩
        obtain ⟨hb3c, hb3f⟩ := bcell hb3
        have hb3z := hb3.size
        have hb3c0 := fun o => hb3c (w.heap.size) o (by first | (simp; done) | (simp; omega) | (simp at *; omega) | omega)
        have hb3f0 := fun o => hb3f (w.heap.size) o (by first | (simp; done) | (simp; omega) | (simp at *; omega) | omega)
        have hb3l0 := below_lt (b := w.heap.size) hb3 (by first | (simp; done) | (simp; omega) | (simp at *; omega) | omega)
        have hb3c1 := fun o => hb3c (w.heap.size + 1) o (by first | (simp; done) | (simp; omega) | (simp at *; omega) | omega)
        have hb3f1 := fun o => hb3f (w.heap.size + 1) o (by first | (simp; done) | (simp; omega) | (simp at *; omega) | omega)
        have hb3l1 := below_lt (b := w.heap.size + 1) hb3 (by first | (simp; done) | (simp; omega) | (simp at *; omega) | omega)
        have hb3c2 := fun o => hb3c (w.heap.size + 2) o (by first | (simp; done) | (simp; omega) | (simp at *; omega) | omega)
        have hb3f2 := fun o => hb3f (w.heap.size + 2) o (by first | (simp; done) | (simp; omega) | (simp at *; omega) | omega)
        have hb3l2 := below_lt (b := w.heap.size + 2) hb3 (by first | (simp; done) | (simp; omega) | (simp at *; omega) | omega)
        have hb3c3 := fun o => hb3c (w.heap.size + 3) o (by first | (simp; done) | (simp; omega) | (simp at *; omega) | omega)
        have hb3f3 := fun o => hb3f (w.heap.size + 3) o (by first | (simp; done) | (simp; omega) | (simp at *; omega) | omega)
        have hb3l3 := below_lt (b := w.heap.size + 3) hb3 (by first | (simp; done) | (simp; omega) | (simp at *; omega) | omega)
        have hb3c4 := fun o => hb3c (w.heap.size + 4) o (by first | (simp; done) | (simp; omega) | (simp at *; omega) | omega)
        have hb3f4 := fun o => hb3f (w.heap.size + 4) o (by first | (simp; done) | (simp; omega) | (simp at *; omega) | omega)
        have hb3l4 := below_lt (b := w.heap.size + 4) hb3 (by first | (simp; done) | (simp; omega) | (simp at *; omega) | omega)
        have hb3c5 := fun o => hb3c (w.heap.size + 5) o (by first | (simp; done) | (simp; omega) | (simp at *; omega) | omega)
        have hb3f5 := fun o => hb3f (w.heap.size + 5) o (by first | (simp; done) | (simp; omega) | (simp at *; omega) | omega)
        have hb3l5 := below_lt (b := w.heap.size + 5) hb3 (by first | (simp; done) | (simp; omega) | (simp at *; omega) | omega)
        have HT3 : Hid (ByS w w3 A D n z0 z1 z2 z3 y0' x1 x2 x3) := by
          obtain ⟨t0, t1, tx, ty0, ty1, ty2, ty3, ty4, ⟨r0, r1, r2, r3, r4, rf⟩, ⟨s0, s1, s2, s3, s4, sf⟩, tq0, tq1, tq2, tq3, tq4, tqf, tp0, tp1, tp2, tp3, tp4, tpf⟩ := HT2.out
          clear x p0 p1 p2 p3 p4 pf q0 q1 q2 q3 q4 qf y0 y1 y2 y3 y4 HT2 HXS HQT HR HS1 HS2 HZ HCM HLS e32 f32 eX hX0 hbit HDQ
          exact Lib.hid ⟨by (repeat' (first | (with_reducible exact Below.refl _ _) | (with_reducible assumption) | (with_reducible refine below_drewN ?_ _) | (with_reducible refine Below.drew ?_) | (with_reducible refine below_new ?_ (Nat.le_refl _) _) | (with_reducible refine Below.setCell ?_ ?_ _) | (with_reducible refine below_go ?_ (by assumption) (Nat.le_refl _)) | (simp; done) | (simp; omega) | omega)), by first | omega | (simp; omega), fun j hj => by have := tx j hj; go_simp, by go_simp, by go_simp, by go_simp, by go_simp, by go_simp, ⟨by go_simp, by go_simp, by go_simp, by go_simp, by go_simp, fun o => by go_simp⟩, ⟨by go_simp, by go_simp, by go_simp, by go_simp, by go_simp, fun o => by go_simp⟩, by go_simp, by go_simp, by go_simp, by go_simp, by go_simp, fun o => by go_simp, by go_simp, by go_simp, by go_simp, by go_simp, by go_simp, fun o => by go_simp⟩
        clear x p0 p1 p2 p3 p4 pf q0 q1 q2 q3 q4 qf y0 y1 y2 y3 y4 HT2 HCM e32 f32 eX hX0 hbit hb3 hb3c hb3f hb3z hb3c0 hb3c1 hb3c2 hb3c3 hb3c4 hb3c5 hb3f0 hb3f1 hb3f2 hb3f3 hb3f4 hb3f5 hb3l0 hb3l1 hb3l2 hb3l3 hb3l4 hb3l5
        obtain ⟨c, hc⟩ : ∃ c, cmpV (R + R + 1) D = c := ⟨_, rfl⟩
        rw [hc]
        by_cases hge : D ≤ R + R + 1
        · have hc0 : 0 ≤ c := by
            rw [← hc]
            by_cases h : R + R + 1 = D
            · rw [cmpV_eq h]; omega
            · rw [cmpV_gt (by omega)]; omega
          have HL2 := Lib.hid (fun w => HLS.out w hge)
          have HE : Hid (R' = R + R + 1 - D ∧ Q' = Q + Q + 1) := Lib.hid (HR.out.yes hge)
          clear HLS HR hc
          have p0 := HT3.out.p0
          have p1 := HT3.out.p1
          have p2 := HT3.out.p2
          have p3 := HT3.out.p3
          have p4 := HT3.out.p4
          have y0 := HT3.out.y0
          have y1 := HT3.out.y1
          have y2 := HT3.out.y2
          have y3 := HT3.out.y3
          have y4 := HT3.out.y4
          go_wp2_with fail
          refine (HL2.out _).mono ?_
          rintro e w4 ⟨rfl, hb4⟩
          have HT4 := Lib.hid (HT3.out.below hb4)
          clear HT3 p0 p1 p2 p3 p4 y0 y1 y2 y3 y4 hb4
          obtain ⟨t0, t1, tx, ty0, ty1, ty2, ty3, ty4, ⟨r0, r1, r2, r3, r4, rf⟩, ⟨s0, s1, s2, s3, s4, sf⟩, tq0, tq1, tq2, tq3, tq4, tqf, tp0, tp1, tp2, tp3, tp4, tpf⟩ := HT4.out
          clear HT4
          go_wp2
          go_roundw
          case rel =>
            refine ⟨j, by omega, rfl, Lib.hid (ByS.eq (a0 := z0 + 1) (a1 := z1) (a2 := z2) (a3 := z3) (b0 := d0 (R + R + 1 - D)) (b1 := d1 (R + R + 1 - D)) (b2 := d2 (R + R + 1 - D)) (b3 := d3 (R + R + 1 - D)) ?_ ?_)⟩
            · clear HXS HQT HS1 HS2 HZ HL2 HDQ HE
              exact ⟨by (repeat' (first | (with_reducible exact Below.refl _ _) | (with_reducible assumption) | (with_reducible refine below_drewN ?_ _) | (with_reducible refine Below.drew ?_) | (with_reducible refine below_new ?_ (Nat.le_refl _) _) | (with_reducible refine Below.setCell ?_ ?_ _) | (with_reducible refine below_go ?_ (by assumption) (Nat.le_refl _)) | (simp; done) | (simp; omega) | omega)), by first | omega | (simp; omega), fun j hj => by have := tx j hj; go_simp, by go_simp, by go_simp, by go_simp, by go_simp, by go_simp, ⟨by go_simp, by go_simp, by go_simp, by go_simp, by go_simp, fun o => by go_simp⟩, ⟨by go_simp, by go_simp, by go_simp, by go_simp, by go_simp, fun o => by go_simp⟩, by go_simp, by go_simp, by go_simp, by go_simp, by go_simp, fun o => by go_simp, by go_simp, by go_simp, by go_simp, by go_simp, by go_simp, fun o => by go_simp⟩
            · obtain ⟨e1, e2⟩ := HE.out
              obtain ⟨a0, a1, a2, a3⟩ := HZ.out
              obtain ⟨c0, c1, c2, c3, -⟩ := HDQ.out
              rw [HQR.out.1, HQR.out.2, e1, e2]
              exact ⟨by rw [c0, a0], by rw [c1, a1], by rw [c2, a2], by rw [c3, a3], rfl, rfl, rfl, rfl⟩
          case measure => simp [intOf]
        · have hc0 : c < 0 := by
            rw [← hc, cmpV_lt (by omega)]; omega
          have HE : Hid (R' = R + R + 1 ∧ Q' = Q + Q) := Lib.hid (HR.out.no (by omega))
          clear HR hc
          go_wp2
          go_roundw
          case rel =>
            refine ⟨j, by omega, rfl, Lib.hid (HT3.out.eq ?_)⟩
            obtain ⟨e1, e2⟩ := HE.out
            obtain ⟨a0, a1, a2, a3⟩ := HZ.out
            obtain ⟨b0, b1, b2, b3⟩ := HY2.out
            rw [HQR.out.1, HQR.out.2, e1, e2]
            exact ⟨a0.symm, a1.symm, a2.symm, a3.symm, b0.symm, b1.symm, b2.symm, b3.symm⟩
          case measure => simp [intOf]

end Go.Proofs.Ytcamegfnhbbaeaa
