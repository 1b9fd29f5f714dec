/- Contracts of the reference of layer 1: a product. -/
import Derived.Test.YtcamegfnhbbaeaaRefF
import Derived.Test.YtcamegfnhbbaeaaPTimes
namespace Go.Proofs.Ytcamegfnhbbaeaa
open Go.RowKit
set_option linter.unusedVariables false
set_option linter.unusedSimpArgs false
attribute [local go_sem] ite_max ite_min vite_max vite_min ext_cell ext_frozen

/-- where the product's walk stands: the two factors' boxes, the result's, and 'out', which holds S -/
structure TmS (w w' : World) (a0 a1 b0 b1 S : Int) (m n : Bool) : Prop where
  be : Below w.heap.size w w'
  sz : w.heap.size + 3 < w'.heap.size
  x0 : w'.cell? ⟨w.heap.size, 0, none⟩ = some (.int .u64 a0)
  x1 : w'.cell? ⟨w.heap.size, 1, none⟩ = some (.int .u64 a1)
  x4 : w'.cell? ⟨w.heap.size, 4, none⟩ = some (.bool m)
  y0 : w'.cell? ⟨w.heap.size + 1, 0, none⟩ = some (.int .u64 b0)
  y1 : w'.cell? ⟨w.heap.size + 1, 1, none⟩ = some (.int .u64 b1)
  y4 : w'.cell? ⟨w.heap.size + 1, 4, none⟩ = some (.bool n)
  r : wideAt w' (w.heap.size + 2)
  o0 : w'.cell? ⟨w.heap.size + 3, 0, none⟩ = some (.int .u64 (d0 S))
  o1 : w'.cell? ⟨w.heap.size + 3, 1, none⟩ = some (.int .u64 (d1 S))
  o2 : w'.cell? ⟨w.heap.size + 3, 2, none⟩ = some (.int .u64 (d2 S))
  o3 : w'.cell? ⟨w.heap.size + 3, 3, none⟩ = some (.int .u64 (d3 S))
  o4 : w'.cell? ⟨w.heap.size + 3, 4, none⟩ = some (.bool false)
  of : ∀ o, w'.frozen? ⟨w.heap.size + 3, o, none⟩ = false
theorem wideAt.below {w w' : World} {b : Nat} (h : wideAt w b) (hb : b < w.heap.size) (hw : Below w.heap.size w w') : wideAt w' b :=
  ⟨(hw.cell (p := ⟨b, 0, none⟩) hb).trans h.c0, (hw.cell (p := ⟨b, 1, none⟩) hb).trans h.c1, (hw.cell (p := ⟨b, 2, none⟩) hb).trans h.c2, (hw.cell (p := ⟨b, 3, none⟩) hb).trans h.c3, (hw.cell (p := ⟨b, 4, none⟩) hb).trans h.c4, fun o => (hw.frozen (p := ⟨b, o, none⟩) hb).trans (h.f o)⟩
theorem TmS.below {w wr w' : World} {a0 a1 b0 b1 S : Int} {m n : Bool} (s : TmS w wr a0 a1 b0 b1 S m n) (h : Below wr.heap.size wr w') : TmS w w' a0 a1 b0 b1 S m n := by
  have z := s.sz
  have c := fun (b o : Nat) (hb : b < wr.heap.size) => h.cell (p := ⟨b, o, none⟩) hb
  exact ⟨s.be.trans (h.mono s.be.size), Nat.lt_of_lt_of_le s.sz h.size, (c _ _ (by omega)).trans s.x0, (c _ _ (by omega)).trans s.x1, (c _ _ (by omega)).trans s.x4, (c _ _ (by omega)).trans s.y0, (c _ _ (by omega)).trans s.y1, (c _ _ (by omega)).trans s.y4,
    s.r.below (by omega) h, (c _ _ (by omega)).trans s.o0, (c _ _ (by omega)).trans s.o1, (c _ _ (by omega)).trans s.o2, (c _ _ (by omega)).trans s.o3, (c _ _ (by omega)).trans s.o4, fun o => (h.frozen (p := ⟨w.heap.size + 3, o, none⟩) (by show w.heap.size + 3 < _; omega)).trans (s.of o)⟩

set_option maxRecDepth 100000 in
set_option maxHeartbeats 8000000 in
theorem rtimes_at (A C : Int) (m n : Bool) (w : World) (hA : 0 ≤ A ∧ A < 18446744073709551616) (hC : 0 ≤ C ∧ C < 18446744073709551616) :
    Calls Try.prog 48 #[.agg #[.int .u64 (d0 A), .int .u64 (d1 A), .int .u64 (d2 A), .int .u64 (d3 A), .bool m], .agg #[.int .u64 (d0 C), .int .u64 (d1 C), .int .u64 (d2 C), .int .u64 (d3 C), .bool n]] w fun e w' =>
      e = .returned (.agg #[.int .u64 (d0 (A * C)), .int .u64 (d1 (A * C)), .int .u64 (d2 (A * C)), .int .u64 (d3 (A * C)), .bool (m != n)]) ∧ Below w.heap.size w w' := by
  have ha := dg_bd A
  have hc := dg_bd C
  obtain ⟨p0, p1, p2, p3⟩ := dg_low A hA
  obtain ⟨q0, q1, q2, q3⟩ := dg_low C hC
  have hsa := dg_sum A (by omega)
  have hsc := dg_sum C (by omega)
  rw [p2, p3] at hsa ⊢
  rw [q2, q3] at hsc ⊢
  clear p0 p1 p2 p3 q0 q1 q2 q3
  have HPR := Lib.hid (prod_parts (d0 A) (d1 A) (d0 C) (d1 C) A C (by omega) (by omega))
  have m00 := mul_lt64 (d0 A) (d0 C) ha.1 hc.1
  have m01 := mul_lt64 (d0 A) (d1 C) ha.1 hc.2.1
  have m10 := mul_lt64 (d1 A) (d0 C) ha.2.1 hc.1
  have m11 := mul_lt64 (d1 A) (d1 C) ha.2.1 hc.2.1
  obtain ⟨e00, h00⟩ : ∃ x, d0 A * d0 C = x := ⟨_, rfl⟩
  obtain ⟨e01, h01⟩ : ∃ x, d0 A * d1 C = x := ⟨_, rfl⟩
  obtain ⟨e10, h10⟩ : ∃ x, d1 A * d0 C = x := ⟨_, rfl⟩
  obtain ⟨e11, h11⟩ : ∃ x, d1 A * d1 C = x := ⟨_, rfl⟩
  rw [h00, h01, h10, h11] at HPR
  rw [h00] at m00
  rw [h01] at m01
  rw [h10] at m10
  rw [h11] at m11
  obtain ⟨P, hP⟩ : ∃ P, A * C = P := ⟨_, rfl⟩
  rw [hP] at HPR ⊢
  generalize d0 A = a0 at *
  generalize d1 A = a1 at *
  generalize d0 C = b0 at *
  generalize d1 C = b1 at *
  clear hsa hsc hP
  go_enter Try.func48, Try.ntmps48
  go_wp2_with fail
  have hsq : A * C = A * C := rfl
  clear hsq
  go_loopw [6] (fun i w' => ∃ (j : Nat), j ≤ 2 ∧ i = .int .i64 (j : Int) ∧ Hid (TmS w w' a0 a1 b0 b1 (pk5 j 0 (e00 + 4294967296 * e01) P 0 0) m n)) (fun i _ => 2 - (intOf i).toNat)
  case atStart => exact ⟨0, by omega, rfl, Lib.hid ⟨by (repeat' (first | (with_reducible exact Below.refl _ _) | (with_reducible assumption) | (with_reducible refine below_drewN ?_ _) | (with_reducible refine Below.drew ?_) | (with_reducible refine below_new ?_ (Nat.le_refl _) _) | (with_reducible refine Below.setCell ?_ ?_ _) | (with_reducible refine below_go ?_ (by assumption) (Nat.le_refl _)) | (simp; done) | (simp; omega) | omega)), by simp, by go_simp, by go_simp, by go_simp, by go_simp, by go_simp, by go_simp, ⟨by go_simp, by go_simp, by go_simp, by go_simp, by go_simp, fun o => by go_simp⟩, by go_simp; rfl, by go_simp; rfl, by go_simp; rfl, by go_simp; rfl, by go_simp, fun o => by go_simp⟩⟩
  case round =>
    obtain ⟨j, hj, rfl, HT⟩ := hrel
    rcases (by omega : j = 0 ∨ j = 1 ∨ j = 2) with rfl | rfl | rfl
    · simp only [show ((0 : Nat) : Int) = 0 from rfl]
      go_wp2_with fail
      go_loopw [7] (fun i w' => ∃ (k : Nat), k ≤ 2 ∧ i = .int .i64 (k : Int) ∧ Hid (TmS w w' a0 a1 b0 b1 (pk5 k (0) (e00) (e00 + 4294967296 * e01) 0 0) m n)) (fun i _ => 2 - (intOf i).toNat)
      case atStart => exact ⟨0, by omega, rfl, HT⟩
      case round =>
        clear HT
        obtain ⟨k, hk, rfl, HT⟩ := hrel
        rcases (by omega : k = 0 ∨ k = 1 ∨ k = 2) with rfl | rfl | rfl
        · obtain ⟨l1, l2, l3, l4⟩ := dg_low e00 (by omega)
          have hsum := fun w => rsum_at (0) (e00) false false w (by omega) (by omega) (by omega)
          rw [l1, l2, l3, l4, show 0 + e00 = e00 by omega] at hsum
          have HSUM := Lib.hid hsum
          clear l1 l2 l3 l4 hsum
          have x0 := HT.out.x0
          have y0 := HT.out.y0
          have z3 := HT.out.sz
          have z0 : w.heap.size < wr.heap.size := by omega
          have z1 : w.heap.size + 1 < wr.heap.size := by omega
          go_wp2_with fail
          refine wp_region_ext (by kernel_rfl) (by kernel_rfl) ?_
          repeat (go_big_quiet_step (fail))
          refine wpQuiet_nil ?_
          intro w8 hb8
          replace hb8 := ext_below hb8
          have HT8 := Lib.hid (HT.out.below hb8)
          clear hb8 x0 y0 z3 z0 z1 HT
          have o0 := HT8.out.o0
          have o1 := HT8.out.o1
          have o2 := HT8.out.o2
          have o3 := HT8.out.o3
          have o4 := HT8.out.o4
          have z3 := HT8.out.sz
          go_wp2_with fail
          refine (HSUM.out _).mono ?_
          rintro e w9 ⟨rfl, hb9⟩
          have HT9 := Lib.hid (HT8.out.below (w' := w9) (by (repeat' (first | (with_reducible exact Below.refl _ _) | (with_reducible assumption) | (with_reducible refine below_drewN ?_ _) | (with_reducible refine Below.drew ?_) | (with_reducible refine below_new ?_ (Nat.le_refl _) _) | (with_reducible refine Below.setCell ?_ ?_ _) | (with_reducible refine below_go ?_ (by assumption) (Nat.le_refl _)) | (simp; done) | (simp; omega) | omega))))
          have z9 := HT9.out.sz
          have s0 := HT9.out.o0
          have s1 := HT9.out.o1
          have s2 := HT9.out.o2
          have s3 := HT9.out.o3
          have s4 := HT9.out.o4
          have sf := HT9.out.of
          clear o0 o1 o2 o3 o4 z3 HT8 hb9
          go_wp2
          go_roundw
          case rel =>
            obtain ⟨t0, t1, tx0, tx1, tx4, ty0, ty1, ty4, ⟨r0, r1, r2, r3, r4, rf⟩, to0, to1, to2, to3, to4, tof⟩ := HT9.out
            clear s0 s1 s2 s3 s4 sf HT9
            refine ⟨1, by omega, rfl, Lib.hid ⟨by (repeat' (first | (with_reducible exact Below.refl _ _) | (with_reducible assumption) | (with_reducible refine below_drewN ?_ _) | (with_reducible refine Below.drew ?_) | (with_reducible refine below_new ?_ (Nat.le_refl _) _) | (with_reducible refine Below.setCell ?_ ?_ _) | (with_reducible refine below_go ?_ (by assumption) (Nat.le_refl _)) | (simp; done) | (simp; omega) | omega)), by simp; omega, by go_simp, by go_simp, by go_simp, by go_simp, by go_simp, by go_simp, ⟨by go_simp, by go_simp, by go_simp, by go_simp, by go_simp, fun o => by go_simp⟩, ?_, ?_, ?_, ?_, by go_simp, fun o => by go_simp⟩⟩
            all_goals (simp only [pk5]; go_simp)
          case measure => simp [intOf]
        · obtain ⟨l1, l2, l3, l4⟩ := shift1 e01 (by omega)
          have hsum := fun w => rsum_at (e00) (4294967296 * e01) false false w (by omega) (by omega) (by omega)
          rw [l1, l2, l3, l4, show e00 + 4294967296 * e01 = e00 + 4294967296 * e01 by omega] at hsum
          have HSUM := Lib.hid hsum
          clear l1 l2 l3 l4 hsum
          have x0 := HT.out.x0
          have y1 := HT.out.y1
          have z3 := HT.out.sz
          have z0 : w.heap.size < wr.heap.size := by omega
          have z1 : w.heap.size + 1 < wr.heap.size := by omega
          go_wp2_with fail
          refine wp_region_ext (by kernel_rfl) (by kernel_rfl) ?_
          repeat (go_big_quiet_step (fail))
          refine wpQuiet_nil ?_
          intro w8 hb8
          replace hb8 := ext_below hb8
          have HT8 := Lib.hid (HT.out.below hb8)
          clear hb8 x0 y1 z3 z0 z1 HT
          have o0 := HT8.out.o0
          have o1 := HT8.out.o1
          have o2 := HT8.out.o2
          have o3 := HT8.out.o3
          have o4 := HT8.out.o4
          have z3 := HT8.out.sz
          go_wp2_with fail
          refine (HSUM.out _).mono ?_
          rintro e w9 ⟨rfl, hb9⟩
          have HT9 := Lib.hid (HT8.out.below (w' := w9) (by (repeat' (first | (with_reducible exact Below.refl _ _) | (with_reducible assumption) | (with_reducible refine below_drewN ?_ _) | (with_reducible refine Below.drew ?_) | (with_reducible refine below_new ?_ (Nat.le_refl _) _) | (with_reducible refine Below.setCell ?_ ?_ _) | (with_reducible refine below_go ?_ (by assumption) (Nat.le_refl _)) | (simp; done) | (simp; omega) | omega))))
          have z9 := HT9.out.sz
          have s0 := HT9.out.o0
          have s1 := HT9.out.o1
          have s2 := HT9.out.o2
          have s3 := HT9.out.o3
          have s4 := HT9.out.o4
          have sf := HT9.out.of
          clear o0 o1 o2 o3 o4 z3 HT8 hb9
          go_wp2
          go_roundw
          case rel =>
            obtain ⟨t0, t1, tx0, tx1, tx4, ty0, ty1, ty4, ⟨r0, r1, r2, r3, r4, rf⟩, to0, to1, to2, to3, to4, tof⟩ := HT9.out
            clear s0 s1 s2 s3 s4 sf HT9
            refine ⟨2, by omega, rfl, Lib.hid ⟨by (repeat' (first | (with_reducible exact Below.refl _ _) | (with_reducible assumption) | (with_reducible refine below_drewN ?_ _) | (with_reducible refine Below.drew ?_) | (with_reducible refine below_new ?_ (Nat.le_refl _) _) | (with_reducible refine Below.setCell ?_ ?_ _) | (with_reducible refine below_go ?_ (by assumption) (Nat.le_refl _)) | (simp; done) | (simp; omega) | omega)), by simp; omega, by go_simp, by go_simp, by go_simp, by go_simp, by go_simp, by go_simp, ⟨by go_simp, by go_simp, by go_simp, by go_simp, by go_simp, fun o => by go_simp⟩, ?_, ?_, ?_, ?_, by go_simp, fun o => by go_simp⟩⟩
            all_goals (simp only [pk5]; go_simp)
          case measure => simp [intOf]
        · go_wp2
          go_roundw
          case rel => exact ⟨1, by omega, rfl, HT⟩
          case measure => simp [intOf]
    · simp only [show ((1 : Nat) : Int) = 1 from rfl]
      go_wp2_with fail
      go_loopw [7] (fun i w' => ∃ (k : Nat), k ≤ 2 ∧ i = .int .i64 (k : Int) ∧ Hid (TmS w w' a0 a1 b0 b1 (pk5 k (e00 + 4294967296 * e01) (e00 + 4294967296 * e01 + 4294967296 * e10) (P) 0 0) m n)) (fun i _ => 2 - (intOf i).toNat)
      case atStart => exact ⟨0, by omega, rfl, HT⟩
      case round =>
        clear HT
        obtain ⟨k, hk, rfl, HT⟩ := hrel
        rcases (by omega : k = 0 ∨ k = 1 ∨ k = 2) with rfl | rfl | rfl
        · obtain ⟨l1, l2, l3, l4⟩ := shift1 e10 (by omega)
          have hsum := fun w => rsum_at (e00 + 4294967296 * e01) (4294967296 * e10) false false w (by omega) (by omega) (by omega)
          rw [l1, l2, l3, l4, show e00 + 4294967296 * e01 + 4294967296 * e10 = e00 + 4294967296 * e01 + 4294967296 * e10 by omega] at hsum
          have HSUM := Lib.hid hsum
          clear l1 l2 l3 l4 hsum
          have x1 := HT.out.x1
          have y0 := HT.out.y0
          have z3 := HT.out.sz
          have z0 : w.heap.size < wr.heap.size := by omega
          have z1 : w.heap.size + 1 < wr.heap.size := by omega
          go_wp2_with fail
          refine wp_region_ext (by kernel_rfl) (by kernel_rfl) ?_
          repeat (go_big_quiet_step (fail))
          refine wpQuiet_nil ?_
          intro w8 hb8
          replace hb8 := ext_below hb8
          have HT8 := Lib.hid (HT.out.below hb8)
          clear hb8 x1 y0 z3 z0 z1 HT
          have o0 := HT8.out.o0
          have o1 := HT8.out.o1
          have o2 := HT8.out.o2
          have o3 := HT8.out.o3
          have o4 := HT8.out.o4
          have z3 := HT8.out.sz
          go_wp2_with fail
          refine (HSUM.out _).mono ?_
          rintro e w9 ⟨rfl, hb9⟩
          have HT9 := Lib.hid (HT8.out.below (w' := w9) (by (repeat' (first | (with_reducible exact Below.refl _ _) | (with_reducible assumption) | (with_reducible refine below_drewN ?_ _) | (with_reducible refine Below.drew ?_) | (with_reducible refine below_new ?_ (Nat.le_refl _) _) | (with_reducible refine Below.setCell ?_ ?_ _) | (with_reducible refine below_go ?_ (by assumption) (Nat.le_refl _)) | (simp; done) | (simp; omega) | omega))))
          have z9 := HT9.out.sz
          have s0 := HT9.out.o0
          have s1 := HT9.out.o1
          have s2 := HT9.out.o2
          have s3 := HT9.out.o3
          have s4 := HT9.out.o4
          have sf := HT9.out.of
          clear o0 o1 o2 o3 o4 z3 HT8 hb9
          go_wp2
          go_roundw
          case rel =>
            obtain ⟨t0, t1, tx0, tx1, tx4, ty0, ty1, ty4, ⟨r0, r1, r2, r3, r4, rf⟩, to0, to1, to2, to3, to4, tof⟩ := HT9.out
            clear s0 s1 s2 s3 s4 sf HT9
            refine ⟨1, by omega, rfl, Lib.hid ⟨by (repeat' (first | (with_reducible exact Below.refl _ _) | (with_reducible assumption) | (with_reducible refine below_drewN ?_ _) | (with_reducible refine Below.drew ?_) | (with_reducible refine below_new ?_ (Nat.le_refl _) _) | (with_reducible refine Below.setCell ?_ ?_ _) | (with_reducible refine below_go ?_ (by assumption) (Nat.le_refl _)) | (simp; done) | (simp; omega) | omega)), by simp; omega, by go_simp, by go_simp, by go_simp, by go_simp, by go_simp, by go_simp, ⟨by go_simp, by go_simp, by go_simp, by go_simp, by go_simp, fun o => by go_simp⟩, ?_, ?_, ?_, ?_, by go_simp, fun o => by go_simp⟩⟩
            all_goals (simp only [pk5]; go_simp)
          case measure => simp [intOf]
        · obtain ⟨l1, l2, l3, l4⟩ := shift2 e11 (by omega)
          have hsum := fun w => rsum_at (e00 + 4294967296 * e01 + 4294967296 * e10) (18446744073709551616 * e11) false false w (by omega) (by omega) (by omega)
          rw [l1, l2, l3, l4, HPR.out] at hsum
          have HSUM := Lib.hid hsum
          clear l1 l2 l3 l4 hsum
          have x1 := HT.out.x1
          have y1 := HT.out.y1
          have z3 := HT.out.sz
          have z0 : w.heap.size < wr.heap.size := by omega
          have z1 : w.heap.size + 1 < wr.heap.size := by omega
          go_wp2_with fail
          refine wp_region_ext (by kernel_rfl) (by kernel_rfl) ?_
          repeat (go_big_quiet_step (fail))
          refine wpQuiet_nil ?_
          intro w8 hb8
          replace hb8 := ext_below hb8
          have HT8 := Lib.hid (HT.out.below hb8)
          clear hb8 x1 y1 z3 z0 z1 HT
          have o0 := HT8.out.o0
          have o1 := HT8.out.o1
          have o2 := HT8.out.o2
          have o3 := HT8.out.o3
          have o4 := HT8.out.o4
          have z3 := HT8.out.sz
          go_wp2_with fail
          refine (HSUM.out _).mono ?_
          rintro e w9 ⟨rfl, hb9⟩
          have HT9 := Lib.hid (HT8.out.below (w' := w9) (by (repeat' (first | (with_reducible exact Below.refl _ _) | (with_reducible assumption) | (with_reducible refine below_drewN ?_ _) | (with_reducible refine Below.drew ?_) | (with_reducible refine below_new ?_ (Nat.le_refl _) _) | (with_reducible refine Below.setCell ?_ ?_ _) | (with_reducible refine below_go ?_ (by assumption) (Nat.le_refl _)) | (simp; done) | (simp; omega) | omega))))
          have z9 := HT9.out.sz
          have s0 := HT9.out.o0
          have s1 := HT9.out.o1
          have s2 := HT9.out.o2
          have s3 := HT9.out.o3
          have s4 := HT9.out.o4
          have sf := HT9.out.of
          clear o0 o1 o2 o3 o4 z3 HT8 hb9
          go_wp2
          go_roundw
          case rel =>
            obtain ⟨t0, t1, tx0, tx1, tx4, ty0, ty1, ty4, ⟨r0, r1, r2, r3, r4, rf⟩, to0, to1, to2, to3, to4, tof⟩ := HT9.out
            clear s0 s1 s2 s3 s4 sf HT9
            refine ⟨2, by omega, rfl, Lib.hid ⟨by (repeat' (first | (with_reducible exact Below.refl _ _) | (with_reducible assumption) | (with_reducible refine below_drewN ?_ _) | (with_reducible refine Below.drew ?_) | (with_reducible refine below_new ?_ (Nat.le_refl _) _) | (with_reducible refine Below.setCell ?_ ?_ _) | (with_reducible refine below_go ?_ (by assumption) (Nat.le_refl _)) | (simp; done) | (simp; omega) | omega)), by simp; omega, by go_simp, by go_simp, by go_simp, by go_simp, by go_simp, by go_simp, ⟨by go_simp, by go_simp, by go_simp, by go_simp, by go_simp, fun o => by go_simp⟩, ?_, ?_, ?_, ?_, by go_simp, fun o => by go_simp⟩⟩
            all_goals (simp only [pk5]; go_simp)
          case measure => simp [intOf]
        · go_wp2
          go_roundw
          case rel => exact ⟨2, by omega, rfl, HT⟩
          case measure => simp [intOf]
    · have HT2 := Lib.hid HT.out
      obtain ⟨t0, t1, tx0, tx1, tx4, ty0, ty1, ty4, ⟨r0, r1, r2, r3, r4, rf⟩, to0, to1, to2, to3, to4, tof⟩ := HT.out
      simp only [pk5] at to0 to1 to2 to3
      have z0 : w.heap.size < wr.heap.size := by omega
      have z1 : w.heap.size + 1 < wr.heap.size := by omega
      have z2 : w.heap.size + 1 + 1 < wr.heap.size := by omega
      have z3 : w.heap.size + 1 + 1 + 1 < wr.heap.size := by omega
      go_wp2
      exact bodyPost_ret (v := .agg #[.int .u64 (d0 P), .int .u64 (d1 P), .int .u64 (d2 P), .int .u64 (d3 P), .bool (m != n)]) (by simp [results, Try.results48, go_sem, r0, r1, r2, r3, r4, rf]; cases m <;> cases n <;> rfl) rfl ⟨rfl, by (repeat' (first | (with_reducible exact Below.refl _ _) | (with_reducible assumption) | (with_reducible refine below_drewN ?_ _) | (with_reducible refine Below.drew ?_) | (with_reducible refine below_new ?_ (Nat.le_refl _) _) | (with_reducible refine Below.setCell ?_ ?_ _) | (with_reducible refine below_go ?_ (by assumption) (Nat.le_refl _)) | (simp; done) | (simp; omega) | omega))⟩

end Go.Proofs.Ytcamegfnhbbaeaa
