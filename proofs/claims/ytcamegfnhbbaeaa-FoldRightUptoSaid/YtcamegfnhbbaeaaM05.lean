/- Merged: Contracts of the reference of layer 1: a size and its sign, in four parts. Contracts of the reference of layer 1: differences of sizes. Contracts of the reference of layer 1: which size is greater. Contracts of the reference of layer 1: zero, turned, room. Contracts of the reference of layer 1: two numbers together; sums and differences. Contracts of the reference of layer 1: Add, Sub. -/
import Derived.Test.YtcamegfnhbbaeaaPWide
import Derived.Test.YtcamegfnhbbaeaaM02
import Derived.Test.YtcamegfnhbbaeaaQA
namespace Go.Proofs.Ytcamegfnhbbaeaa
open Go.RowKit
set_option linter.unusedVariables false
set_option linter.unusedSimpArgs false
attribute [local go_sem] ite_max ite_min vite_max vite_min ext_cell ext_frozen

set_option maxRecDepth 100000 in
set_option maxHeartbeats 2000000 in
theorem rof_at (a : Int) (w : World) (ha : -9223372036854775808 ≤ a ∧ a ≤ 9223372036854775807) :
    Calls Try.prog 46 #[.int .i64 a] w fun e w' => e = .returned (.agg #[.int .u64 (d0 (max a (-a))), .int .u64 (d1 (max a (-a))), .int .u64 (d2 (max a (-a))), .int .u64 (d3 (max a (-a))), .bool (decide (a < 0))]) ∧ Below w.heap.size w w' := by
  have hl := dg_low (max a (-a)) (by omega)
  obtain ⟨e0, e1, e2, e3⟩ := hl
  rw [e0, e1, e2, e3]
  clear e0 e1 e2 e3
  by_cases h : 0 ≤ a
  · rw [show max a (-a) = a by omega]
    have hs : decide (a < 0) = false := decide_eq_false (by omega)
    rw [hs]
    go_enter Try.func46, Try.ntmps46
    go_wp2
    exact bodyPost_ret (v := .agg #[.int .u64 (a % 4294967296), .int .u64 (a / 4294967296), .int .u64 0, .int .u64 0, .bool false]) (by simp [results, Try.results46, go_sem]) rfl ⟨rfl, by (repeat' (first | (with_reducible exact Below.refl _ _) | (with_reducible assumption) | (with_reducible refine below_drewN ?_ _) | (with_reducible refine Below.drew ?_) | (with_reducible refine below_new ?_ (Nat.le_refl _) _) | (with_reducible refine Below.setCell ?_ ?_ _) | (with_reducible refine below_go ?_ (by assumption) (Nat.le_refl _)) | (simp; done) | (simp; omega) | omega))⟩
  · rw [show max a (-a) = -a by omega]
    have hs : decide (a < 0) = true := decide_eq_true (by omega)
    rw [hs]
    obtain ⟨b, hb⟩ : ∃ b, -a = b := ⟨_, rfl⟩
    rw [hb]
    have hbb : 0 ≤ b ∧ b ≤ 9223372036854775808 := by omega
    obtain ⟨t, ht⟩ : ∃ t, IntKind.u64.wrap a = t := ⟨_, rfl⟩
    have h2 : IntKind.u64.wrap (-t) = b := by
      rw [← ht, ← hb, IntKind.wrap_u64, IntKind.wrap_u64]
      omega
    clear hb
    go_enter Try.func46, Try.ntmps46
    go_wp2
    exact bodyPost_ret (v := .agg #[.int .u64 (b % 4294967296), .int .u64 (b / 4294967296), .int .u64 0, .int .u64 0, .bool true]) (by simp [results, Try.results46, go_sem]) rfl ⟨rfl, by (repeat' (first | (with_reducible exact Below.refl _ _) | (with_reducible assumption) | (with_reducible refine below_drewN ?_ _) | (with_reducible refine Below.drew ?_) | (with_reducible refine below_new ?_ (Nat.le_refl _) _) | (with_reducible refine Below.setCell ?_ ?_ _) | (with_reducible refine below_go ?_ (by assumption) (Nat.le_refl _)) | (simp; done) | (simp; omega) | omega))⟩

/-- one of five -/
def pk5 (k : Nat) (x0 x1 x2 x3 x4 : Int) : Int := match k with | 0 => x0 | 1 => x1 | 2 => x2 | 3 => x3 | _ => x4
/-- a variable of that type, whatever it holds -/
structure wideAt (w : World) (b : Nat) : Prop where
  c0 : w.cell? ⟨b, 0, none⟩ = some (.int .u64 0)
  c1 : w.cell? ⟨b, 1, none⟩ = some (.int .u64 0)
  c2 : w.cell? ⟨b, 2, none⟩ = some (.int .u64 0)
  c3 : w.cell? ⟨b, 3, none⟩ = some (.int .u64 0)
  c4 : w.cell? ⟨b, 4, none⟩ = some (.bool false)
  f : ∀ o, w.frozen? ⟨b, o, none⟩ = false

set_option maxRecDepth 100000 in
set_option maxHeartbeats 4000000 in
theorem rsum_at (A C : Int) (m n : Bool) (w : World) (hA : 0 ≤ A ∧ A < 340282366920938463463374607431768211456) (hC : 0 ≤ C ∧ C < 340282366920938463463374607431768211456) (hs : A + C < 340282366920938463463374607431768211456) :
    Calls Try.prog 65 #[.agg #[.int .u64 (d0 A), .int .u64 (d1 A), .int .u64 (d2 A), .int .u64 (d3 A), .bool m], .agg #[.int .u64 (d0 C), .int .u64 (d1 C), .int .u64 (d2 C), .int .u64 (d3 C), .bool n]] w fun e w' =>
      e = .returned (.agg #[.int .u64 (d0 (A + C)), .int .u64 (d1 (A + C)), .int .u64 (d2 (A + C)), .int .u64 (d3 (A + C)), .bool m]) ∧ Below w.heap.size w w' := by
  have ha := dg_bd A
  have hc := dg_bd C
  obtain ⟨r0, e0⟩ : ∃ r, (d0 A + d0 C) % 4294967296 = r := ⟨_, rfl⟩
  obtain ⟨c1, f0⟩ : ∃ r, (d0 A + d0 C) / 4294967296 = r := ⟨_, rfl⟩
  obtain ⟨r1, e1⟩ : ∃ r, (d1 A + d1 C + c1) % 4294967296 = r := ⟨_, rfl⟩
  obtain ⟨c2, f1⟩ : ∃ r, (d1 A + d1 C + c1) / 4294967296 = r := ⟨_, rfl⟩
  obtain ⟨r2, e2⟩ : ∃ r, (d2 A + d2 C + c2) % 4294967296 = r := ⟨_, rfl⟩
  obtain ⟨c3, f2⟩ : ∃ r, (d2 A + d2 C + c2) / 4294967296 = r := ⟨_, rfl⟩
  obtain ⟨r3, e3⟩ : ∃ r, (d3 A + d3 C + c3) % 4294967296 = r := ⟨_, rfl⟩
  obtain ⟨q0, q1, q2, q3⟩ := sum_parts A C hA hC hs r0 r1 r2 r3 c1 c2 c3 e0 f0 e1 f1 e2 f2 e3
  rw [← q0, ← q1, ← q2, ← q3]
  clear q0 q1 q2 q3 hs hA hC
  generalize d0 A = a0 at *
  generalize d1 A = a1 at *
  generalize d2 A = a2 at *
  generalize d3 A = a3 at *
  generalize d0 C = b0 at *
  generalize d1 C = b1 at *
  generalize d2 C = b2 at *
  generalize d3 C = b3 at *
  have k1 : 0 ≤ c1 ∧ c1 ≤ 1 := by omega
  have k2 : 0 ≤ c2 ∧ c2 ≤ 1 := by omega
  have k3 : 0 ≤ c3 ∧ c3 ≤ 1 := by omega
  obtain ⟨c4, f3⟩ : ∃ r, (a3 + b3 + c3) / 4294967296 = r := ⟨_, rfl⟩
  go_enter Try.func65, Try.ntmps65
  go_wp2_with fail
  go_loopw [5, 6] (fun u i w' => ∃ (k : Nat), k ≤ 4 ∧ i = .int .i64 (k : Int) ∧ u = .int .u64 (pk5 k 0 c1 c2 c3 c4) ∧ Below w.heap.size w w' ∧ w.heap.size + 2 < w'.heap.size ∧
    w'.cell? ⟨w.heap.size, 0, none⟩ = some (.int .u64 (bif decide (0 < k) then r0 else a0)) ∧ w'.cell? ⟨w.heap.size, 1, none⟩ = some (.int .u64 (bif decide (1 < k) then r1 else a1)) ∧ w'.cell? ⟨w.heap.size, 2, none⟩ = some (.int .u64 (bif decide (2 < k) then r2 else a2)) ∧ w'.cell? ⟨w.heap.size, 3, none⟩ = some (.int .u64 (bif decide (3 < k) then r3 else a3)) ∧ w'.cell? ⟨w.heap.size, 4, none⟩ = some (.bool m) ∧ (∀ o, w'.frozen? ⟨w.heap.size, o, none⟩ = false) ∧
    w'.cell? ⟨w.heap.size + 1, 0, none⟩ = some (.int .u64 b0) ∧ w'.cell? ⟨w.heap.size + 1, 1, none⟩ = some (.int .u64 b1) ∧ w'.cell? ⟨w.heap.size + 1, 2, none⟩ = some (.int .u64 b2) ∧ w'.cell? ⟨w.heap.size + 1, 3, none⟩ = some (.int .u64 b3) ∧
    wideAt w' (w.heap.size + 2)) (fun _ i _ => 4 - (intOf i).toNat)
  case atStart => exact ⟨0, by omega, rfl, rfl, by (repeat' (first | (with_reducible exact Below.refl _ _) | (with_reducible assumption) | (with_reducible refine below_drewN ?_ _) | (with_reducible refine Below.drew ?_) | (with_reducible refine below_new ?_ (Nat.le_refl _) _) | (with_reducible refine Below.setCell ?_ ?_ _) | (with_reducible refine below_go ?_ (by assumption) (Nat.le_refl _)) | (simp; done) | (simp; omega) | omega)), by simp, by go_simp, by go_simp, by go_simp, by go_simp, by go_simp, fun o => by go_simp, by go_simp, by go_simp, by go_simp, by go_simp, ⟨by go_simp, by go_simp, by go_simp, by go_simp, by go_simp, fun o => by go_simp⟩⟩
  case round =>
    obtain ⟨k, hk, rfl, rfl, hbr, hsz, x0, x1, x2, x3, x4, xf, y0, y1, y2, y3, hw⟩ := hrel
    have HW := Lib.hid hw
    clear hw
    rcases (by omega : k = 0 ∨ k = 1 ∨ k = 2 ∨ k = 3 ∨ k = 4) with rfl | rfl | rfl | rfl | rfl
    all_goals simp only [pk5, Nat.lt_irrefl, decide_false, cond_false, Nat.reduceLT, decide_true, cond_true, Nat.zero_lt_one] at x0 x1 x2 x3 ⊢
    all_goals obtain ⟨v0, v1, v2, v3, v4, vf⟩ := HW.out
    all_goals clear HW
    all_goals have z1 : w.heap.size < wr.heap.size := by omega
    all_goals have z2 : w.heap.size + 1 < wr.heap.size := by omega
    · go_wp2_with fail
      refine wp_region_ext (by kernel_rfl) (by kernel_rfl) ?_
      repeat (go_big_quiet_step (fail))
      refine wpQuiet_nil ?_
      intro w8 hb8
      replace hb8 := ext_below hb8
      have z3 := hb8.size
      obtain ⟨hb8c, hb8f⟩ := bcell hb8
      have hb8z := hb8.size
      have hb8c0 := fun o => hb8c (w.heap.size) o (by first | (simp; done) | (simp; omega) | (simp at *; omega) | omega)
      have hb8f0 := fun o => hb8f (w.heap.size) o (by first | (simp; done) | (simp; omega) | (simp at *; omega) | omega)
      have hb8l0 := below_lt (b := w.heap.size) hb8 (by first | (simp; done) | (simp; omega) | (simp at *; omega) | omega)
      have hb8c1 := fun o => hb8c (w.heap.size + 1) o (by first | (simp; done) | (simp; omega) | (simp at *; omega) | omega)
      have hb8f1 := fun o => hb8f (w.heap.size + 1) o (by first | (simp; done) | (simp; omega) | (simp at *; omega) | omega)
      have hb8l1 := below_lt (b := w.heap.size + 1) hb8 (by first | (simp; done) | (simp; omega) | (simp at *; omega) | omega)
      have hb8c2 := fun o => hb8c (w.heap.size + 2) o (by first | (simp; done) | (simp; omega) | (simp at *; omega) | omega)
      have hb8f2 := fun o => hb8f (w.heap.size + 2) o (by first | (simp; done) | (simp; omega) | (simp at *; omega) | omega)
      have hb8l2 := below_lt (b := w.heap.size + 2) hb8 (by first | (simp; done) | (simp; omega) | (simp at *; omega) | omega)
      go_wp2
      go_roundw
      case rel => exact ⟨0 + 1, by omega, rfl, congrArg (Value.int .u64) f0, by (repeat' (first | (with_reducible exact Below.refl _ _) | (with_reducible assumption) | (with_reducible refine below_drewN ?_ _) | (with_reducible refine Below.drew ?_) | (with_reducible refine below_new ?_ (Nat.le_refl _) _) | (with_reducible refine Below.setCell ?_ ?_ _) | (with_reducible refine below_go ?_ (by assumption) (Nat.le_refl _)) | (simp; done) | (simp; omega) | omega)), by simp; omega, by go_simp, by go_simp, by go_simp, by go_simp, by go_simp, fun o => by go_simp, by go_simp, by go_simp, by go_simp, by go_simp, ⟨by go_simp, by go_simp, by go_simp, by go_simp, by go_simp, fun o => by go_simp⟩⟩
      case measure => simp [intOf]
    · go_wp2_with fail
      refine wp_region_ext (by kernel_rfl) (by kernel_rfl) ?_
      repeat (go_big_quiet_step (fail))
      refine wpQuiet_nil ?_
      intro w8 hb8
      replace hb8 := ext_below hb8
      have z3 := hb8.size
      obtain ⟨hb8c, hb8f⟩ := bcell hb8
      have hb8z := hb8.size
      have hb8c0 := fun o => hb8c (w.heap.size) o (by first | (simp; done) | (simp; omega) | (simp at *; omega) | omega)
      have hb8f0 := fun o => hb8f (w.heap.size) o (by first | (simp; done) | (simp; omega) | (simp at *; omega) | omega)
      have hb8l0 := below_lt (b := w.heap.size) hb8 (by first | (simp; done) | (simp; omega) | (simp at *; omega) | omega)
      have hb8c1 := fun o => hb8c (w.heap.size + 1) o (by first | (simp; done) | (simp; omega) | (simp at *; omega) | omega)
      have hb8f1 := fun o => hb8f (w.heap.size + 1) o (by first | (simp; done) | (simp; omega) | (simp at *; omega) | omega)
      have hb8l1 := below_lt (b := w.heap.size + 1) hb8 (by first | (simp; done) | (simp; omega) | (simp at *; omega) | omega)
      have hb8c2 := fun o => hb8c (w.heap.size + 2) o (by first | (simp; done) | (simp; omega) | (simp at *; omega) | omega)
      have hb8f2 := fun o => hb8f (w.heap.size + 2) o (by first | (simp; done) | (simp; omega) | (simp at *; omega) | omega)
      have hb8l2 := below_lt (b := w.heap.size + 2) hb8 (by first | (simp; done) | (simp; omega) | (simp at *; omega) | omega)
      go_wp2
      go_roundw
      case rel => exact ⟨1 + 1, by omega, rfl, congrArg (Value.int .u64) f1, by (repeat' (first | (with_reducible exact Below.refl _ _) | (with_reducible assumption) | (with_reducible refine below_drewN ?_ _) | (with_reducible refine Below.drew ?_) | (with_reducible refine below_new ?_ (Nat.le_refl _) _) | (with_reducible refine Below.setCell ?_ ?_ _) | (with_reducible refine below_go ?_ (by assumption) (Nat.le_refl _)) | (simp; done) | (simp; omega) | omega)), by simp; omega, by go_simp, by go_simp, by go_simp, by go_simp, by go_simp, fun o => by go_simp, by go_simp, by go_simp, by go_simp, by go_simp, ⟨by go_simp, by go_simp, by go_simp, by go_simp, by go_simp, fun o => by go_simp⟩⟩
      case measure => simp [intOf]
    · go_wp2_with fail
      refine wp_region_ext (by kernel_rfl) (by kernel_rfl) ?_
      repeat (go_big_quiet_step (fail))
      refine wpQuiet_nil ?_
      intro w8 hb8
      replace hb8 := ext_below hb8
      have z3 := hb8.size
      obtain ⟨hb8c, hb8f⟩ := bcell hb8
      have hb8z := hb8.size
      have hb8c0 := fun o => hb8c (w.heap.size) o (by first | (simp; done) | (simp; omega) | (simp at *; omega) | omega)
      have hb8f0 := fun o => hb8f (w.heap.size) o (by first | (simp; done) | (simp; omega) | (simp at *; omega) | omega)
      have hb8l0 := below_lt (b := w.heap.size) hb8 (by first | (simp; done) | (simp; omega) | (simp at *; omega) | omega)
      have hb8c1 := fun o => hb8c (w.heap.size + 1) o (by first | (simp; done) | (simp; omega) | (simp at *; omega) | omega)
      have hb8f1 := fun o => hb8f (w.heap.size + 1) o (by first | (simp; done) | (simp; omega) | (simp at *; omega) | omega)
      have hb8l1 := below_lt (b := w.heap.size + 1) hb8 (by first | (simp; done) | (simp; omega) | (simp at *; omega) | omega)
      have hb8c2 := fun o => hb8c (w.heap.size + 2) o (by first | (simp; done) | (simp; omega) | (simp at *; omega) | omega)
      have hb8f2 := fun o => hb8f (w.heap.size + 2) o (by first | (simp; done) | (simp; omega) | (simp at *; omega) | omega)
      have hb8l2 := below_lt (b := w.heap.size + 2) hb8 (by first | (simp; done) | (simp; omega) | (simp at *; omega) | omega)
      go_wp2
      go_roundw
      case rel => exact ⟨2 + 1, by omega, rfl, congrArg (Value.int .u64) f2, by (repeat' (first | (with_reducible exact Below.refl _ _) | (with_reducible assumption) | (with_reducible refine below_drewN ?_ _) | (with_reducible refine Below.drew ?_) | (with_reducible refine below_new ?_ (Nat.le_refl _) _) | (with_reducible refine Below.setCell ?_ ?_ _) | (with_reducible refine below_go ?_ (by assumption) (Nat.le_refl _)) | (simp; done) | (simp; omega) | omega)), by simp; omega, by go_simp, by go_simp, by go_simp, by go_simp, by go_simp, fun o => by go_simp, by go_simp, by go_simp, by go_simp, by go_simp, ⟨by go_simp, by go_simp, by go_simp, by go_simp, by go_simp, fun o => by go_simp⟩⟩
      case measure => simp [intOf]
    · go_wp2_with fail
      refine wp_region_ext (by kernel_rfl) (by kernel_rfl) ?_
      repeat (go_big_quiet_step (fail))
      refine wpQuiet_nil ?_
      intro w8 hb8
      replace hb8 := ext_below hb8
      have z3 := hb8.size
      obtain ⟨hb8c, hb8f⟩ := bcell hb8
      have hb8z := hb8.size
      have hb8c0 := fun o => hb8c (w.heap.size) o (by first | (simp; done) | (simp; omega) | (simp at *; omega) | omega)
      have hb8f0 := fun o => hb8f (w.heap.size) o (by first | (simp; done) | (simp; omega) | (simp at *; omega) | omega)
      have hb8l0 := below_lt (b := w.heap.size) hb8 (by first | (simp; done) | (simp; omega) | (simp at *; omega) | omega)
      have hb8c1 := fun o => hb8c (w.heap.size + 1) o (by first | (simp; done) | (simp; omega) | (simp at *; omega) | omega)
      have hb8f1 := fun o => hb8f (w.heap.size + 1) o (by first | (simp; done) | (simp; omega) | (simp at *; omega) | omega)
      have hb8l1 := below_lt (b := w.heap.size + 1) hb8 (by first | (simp; done) | (simp; omega) | (simp at *; omega) | omega)
      have hb8c2 := fun o => hb8c (w.heap.size + 2) o (by first | (simp; done) | (simp; omega) | (simp at *; omega) | omega)
      have hb8f2 := fun o => hb8f (w.heap.size + 2) o (by first | (simp; done) | (simp; omega) | (simp at *; omega) | omega)
      have hb8l2 := below_lt (b := w.heap.size + 2) hb8 (by first | (simp; done) | (simp; omega) | (simp at *; omega) | omega)
      go_wp2
      go_roundw
      case rel => exact ⟨3 + 1, by omega, rfl, congrArg (Value.int .u64) f3, by (repeat' (first | (with_reducible exact Below.refl _ _) | (with_reducible assumption) | (with_reducible refine below_drewN ?_ _) | (with_reducible refine Below.drew ?_) | (with_reducible refine below_new ?_ (Nat.le_refl _) _) | (with_reducible refine Below.setCell ?_ ?_ _) | (with_reducible refine below_go ?_ (by assumption) (Nat.le_refl _)) | (simp; done) | (simp; omega) | omega)), by simp; omega, by go_simp, by go_simp, by go_simp, by go_simp, by go_simp, fun o => by go_simp, by go_simp, by go_simp, by go_simp, by go_simp, ⟨by go_simp, by go_simp, by go_simp, by go_simp, by go_simp, fun o => by go_simp⟩⟩
      case measure => simp [intOf]
    · go_wp2
      exact bodyPost_ret (v := .agg #[.int .u64 r0, .int .u64 r1, .int .u64 r2, .int .u64 r3, .bool m]) (by simp [results, Try.results65, go_sem, v0, v1, v2, v3, v4, vf]) rfl ⟨rfl, by (repeat' (first | (with_reducible exact Below.refl _ _) | (with_reducible assumption) | (with_reducible refine below_drewN ?_ _) | (with_reducible refine Below.drew ?_) | (with_reducible refine below_new ?_ (Nat.le_refl _) _) | (with_reducible refine Below.setCell ?_ ?_ _) | (with_reducible refine below_go ?_ (by assumption) (Nat.le_refl _)) | (simp; done) | (simp; omega) | omega))⟩

end Go.Proofs.Ytcamegfnhbbaeaa

namespace Go.Proofs.Ytcamegfnhbbaeaa
open Go.RowKit
set_option linter.unusedVariables false
set_option linter.unusedSimpArgs false
attribute [local go_sem] ite_max ite_min vite_max vite_min ext_cell ext_frozen

set_option maxRecDepth 100000 in
set_option maxHeartbeats 4000000 in
theorem rless_at (A C : Int) (m n : Bool) (w : World) (hA : 0 ≤ A ∧ A < 340282366920938463463374607431768211456) (hC : 0 ≤ C ∧ C < 340282366920938463463374607431768211456) (hs : C ≤ A) :
    Calls Try.prog 67 #[.agg #[.int .u64 (d0 A), .int .u64 (d1 A), .int .u64 (d2 A), .int .u64 (d3 A), .bool m], .agg #[.int .u64 (d0 C), .int .u64 (d1 C), .int .u64 (d2 C), .int .u64 (d3 C), .bool n]] w fun e w' =>
      e = .returned (.agg #[.int .u64 (d0 (A - C)), .int .u64 (d1 (A - C)), .int .u64 (d2 (A - C)), .int .u64 (d3 (A - C)), .bool m]) ∧ Below w.heap.size w w' := by
  have ha := dg_bd A
  have hc := dg_bd C
  obtain ⟨r0, e0⟩ : ∃ r, (d0 A + 4294967296 - d0 C) % 4294967296 = r := ⟨_, rfl⟩
  obtain ⟨c1, f0⟩ : ∃ r, 1 - (d0 A + 4294967296 - d0 C) / 4294967296 = r := ⟨_, rfl⟩
  obtain ⟨r1, e1⟩ : ∃ r, (d1 A + 4294967296 - d1 C - c1) % 4294967296 = r := ⟨_, rfl⟩
  obtain ⟨c2, f1⟩ : ∃ r, 1 - (d1 A + 4294967296 - d1 C - c1) / 4294967296 = r := ⟨_, rfl⟩
  obtain ⟨r2, e2⟩ : ∃ r, (d2 A + 4294967296 - d2 C - c2) % 4294967296 = r := ⟨_, rfl⟩
  obtain ⟨c3, f2⟩ : ∃ r, 1 - (d2 A + 4294967296 - d2 C - c2) / 4294967296 = r := ⟨_, rfl⟩
  obtain ⟨r3, e3⟩ : ∃ r, (d3 A + 4294967296 - d3 C - c3) % 4294967296 = r := ⟨_, rfl⟩
  obtain ⟨q0, q1, q2, q3⟩ := less_parts A C hA hC hs r0 r1 r2 r3 c1 c2 c3 e0 f0 e1 f1 e2 f2 e3
  rw [← q0, ← q1, ← q2, ← q3]
  clear q0 q1 q2 q3 hs hA hC
  generalize d0 A = a0 at *
  generalize d1 A = a1 at *
  generalize d2 A = a2 at *
  generalize d3 A = a3 at *
  generalize d0 C = b0 at *
  generalize d1 C = b1 at *
  generalize d2 C = b2 at *
  generalize d3 C = b3 at *
  have k1 : 0 ≤ c1 ∧ c1 ≤ 1 := by omega
  have k2 : 0 ≤ c2 ∧ c2 ≤ 1 := by omega
  have k3 : 0 ≤ c3 ∧ c3 ≤ 1 := by omega
  obtain ⟨c4, f3⟩ : ∃ r, 1 - (a3 + 4294967296 - b3 - c3) / 4294967296 = r := ⟨_, rfl⟩
  go_enter Try.func67, Try.ntmps67
  go_wp2_with fail
  go_loopw [5, 6] (fun u i w' => ∃ (k : Nat), k ≤ 4 ∧ i = .int .i64 (k : Int) ∧ u = .int .u64 (pk5 k 0 c1 c2 c3 c4) ∧ Below w.heap.size w w' ∧ w.heap.size + 2 < w'.heap.size ∧
    w'.cell? ⟨w.heap.size, 0, none⟩ = some (.int .u64 (bif decide (0 < k) then r0 else a0)) ∧ w'.cell? ⟨w.heap.size, 1, none⟩ = some (.int .u64 (bif decide (1 < k) then r1 else a1)) ∧ w'.cell? ⟨w.heap.size, 2, none⟩ = some (.int .u64 (bif decide (2 < k) then r2 else a2)) ∧ w'.cell? ⟨w.heap.size, 3, none⟩ = some (.int .u64 (bif decide (3 < k) then r3 else a3)) ∧ w'.cell? ⟨w.heap.size, 4, none⟩ = some (.bool m) ∧ (∀ o, w'.frozen? ⟨w.heap.size, o, none⟩ = false) ∧
    w'.cell? ⟨w.heap.size + 1, 0, none⟩ = some (.int .u64 b0) ∧ w'.cell? ⟨w.heap.size + 1, 1, none⟩ = some (.int .u64 b1) ∧ w'.cell? ⟨w.heap.size + 1, 2, none⟩ = some (.int .u64 b2) ∧ w'.cell? ⟨w.heap.size + 1, 3, none⟩ = some (.int .u64 b3) ∧
    wideAt w' (w.heap.size + 2)) (fun _ i _ => 4 - (intOf i).toNat)
  case atStart => exact ⟨0, by omega, rfl, rfl, by (repeat' (first | (with_reducible exact Below.refl _ _) | (with_reducible assumption) | (with_reducible refine below_drewN ?_ _) | (with_reducible refine Below.drew ?_) | (with_reducible refine below_new ?_ (Nat.le_refl _) _) | (with_reducible refine Below.setCell ?_ ?_ _) | (with_reducible refine below_go ?_ (by assumption) (Nat.le_refl _)) | (simp; done) | (simp; omega) | omega)), by simp, by go_simp, by go_simp, by go_simp, by go_simp, by go_simp, fun o => by go_simp, by go_simp, by go_simp, by go_simp, by go_simp, ⟨by go_simp, by go_simp, by go_simp, by go_simp, by go_simp, fun o => by go_simp⟩⟩
  case round =>
    obtain ⟨k, hk, rfl, rfl, hbr, hsz, x0, x1, x2, x3, x4, xf, y0, y1, y2, y3, hw⟩ := hrel
    have HW := Lib.hid hw
    clear hw
    rcases (by omega : k = 0 ∨ k = 1 ∨ k = 2 ∨ k = 3 ∨ k = 4) with rfl | rfl | rfl | rfl | rfl
    all_goals simp only [pk5, Nat.lt_irrefl, decide_false, cond_false, Nat.reduceLT, decide_true, cond_true, Nat.zero_lt_one] at x0 x1 x2 x3 ⊢
    all_goals obtain ⟨v0, v1, v2, v3, v4, vf⟩ := HW.out
    all_goals clear HW
    all_goals have z1 : w.heap.size < wr.heap.size := by omega
    all_goals have z2 : w.heap.size + 1 < wr.heap.size := by omega
    · go_wp2_with fail
      refine wp_region_ext (by kernel_rfl) (by kernel_rfl) ?_
      repeat (go_big_quiet_step (fail))
      refine wpQuiet_nil ?_
      intro w8 hb8
      replace hb8 := ext_below hb8
      have z3 := hb8.size
      obtain ⟨hb8c, hb8f⟩ := bcell hb8
      have hb8z := hb8.size
      have hb8c0 := fun o => hb8c (w.heap.size) o (by first | (simp; done) | (simp; omega) | (simp at *; omega) | omega)
      have hb8f0 := fun o => hb8f (w.heap.size) o (by first | (simp; done) | (simp; omega) | (simp at *; omega) | omega)
      have hb8l0 := below_lt (b := w.heap.size) hb8 (by first | (simp; done) | (simp; omega) | (simp at *; omega) | omega)
      have hb8c1 := fun o => hb8c (w.heap.size + 1) o (by first | (simp; done) | (simp; omega) | (simp at *; omega) | omega)
      have hb8f1 := fun o => hb8f (w.heap.size + 1) o (by first | (simp; done) | (simp; omega) | (simp at *; omega) | omega)
      have hb8l1 := below_lt (b := w.heap.size + 1) hb8 (by first | (simp; done) | (simp; omega) | (simp at *; omega) | omega)
      have hb8c2 := fun o => hb8c (w.heap.size + 2) o (by first | (simp; done) | (simp; omega) | (simp at *; omega) | omega)
      have hb8f2 := fun o => hb8f (w.heap.size + 2) o (by first | (simp; done) | (simp; omega) | (simp at *; omega) | omega)
      have hb8l2 := below_lt (b := w.heap.size + 2) hb8 (by first | (simp; done) | (simp; omega) | (simp at *; omega) | omega)
      go_wp2
      go_roundw
      case rel => exact ⟨0 + 1, by omega, rfl, rfl, by (repeat' (first | (with_reducible exact Below.refl _ _) | (with_reducible assumption) | (with_reducible refine below_drewN ?_ _) | (with_reducible refine Below.drew ?_) | (with_reducible refine below_new ?_ (Nat.le_refl _) _) | (with_reducible refine Below.setCell ?_ ?_ _) | (with_reducible refine below_go ?_ (by assumption) (Nat.le_refl _)) | (simp; done) | (simp; omega) | omega)), by simp; omega, by go_simp, by go_simp, by go_simp, by go_simp, by go_simp, fun o => by go_simp, by go_simp, by go_simp, by go_simp, by go_simp, ⟨by go_simp, by go_simp, by go_simp, by go_simp, by go_simp, fun o => by go_simp⟩⟩
      case measure => simp [intOf]
    · go_wp2_with fail
      refine wp_region_ext (by kernel_rfl) (by kernel_rfl) ?_
      repeat (go_big_quiet_step (fail))
      refine wpQuiet_nil ?_
      intro w8 hb8
      replace hb8 := ext_below hb8
      have z3 := hb8.size
      obtain ⟨hb8c, hb8f⟩ := bcell hb8
      have hb8z := hb8.size
      have hb8c0 := fun o => hb8c (w.heap.size) o (by first | (simp; done) | (simp; omega) | (simp at *; omega) | omega)
      have hb8f0 := fun o => hb8f (w.heap.size) o (by first | (simp; done) | (simp; omega) | (simp at *; omega) | omega)
      have hb8l0 := below_lt (b := w.heap.size) hb8 (by first | (simp; done) | (simp; omega) | (simp at *; omega) | omega)
      have hb8c1 := fun o => hb8c (w.heap.size + 1) o (by first | (simp; done) | (simp; omega) | (simp at *; omega) | omega)
      have hb8f1 := fun o => hb8f (w.heap.size + 1) o (by first | (simp; done) | (simp; omega) | (simp at *; omega) | omega)
      have hb8l1 := below_lt (b := w.heap.size + 1) hb8 (by first | (simp; done) | (simp; omega) | (simp at *; omega) | omega)
      have hb8c2 := fun o => hb8c (w.heap.size + 2) o (by first | (simp; done) | (simp; omega) | (simp at *; omega) | omega)
      have hb8f2 := fun o => hb8f (w.heap.size + 2) o (by first | (simp; done) | (simp; omega) | (simp at *; omega) | omega)
      have hb8l2 := below_lt (b := w.heap.size + 2) hb8 (by first | (simp; done) | (simp; omega) | (simp at *; omega) | omega)
      go_wp2
      go_roundw
      case rel => exact ⟨1 + 1, by omega, rfl, rfl, by (repeat' (first | (with_reducible exact Below.refl _ _) | (with_reducible assumption) | (with_reducible refine below_drewN ?_ _) | (with_reducible refine Below.drew ?_) | (with_reducible refine below_new ?_ (Nat.le_refl _) _) | (with_reducible refine Below.setCell ?_ ?_ _) | (with_reducible refine below_go ?_ (by assumption) (Nat.le_refl _)) | (simp; done) | (simp; omega) | omega)), by simp; omega, by go_simp, by go_simp, by go_simp, by go_simp, by go_simp, fun o => by go_simp, by go_simp, by go_simp, by go_simp, by go_simp, ⟨by go_simp, by go_simp, by go_simp, by go_simp, by go_simp, fun o => by go_simp⟩⟩
      case measure => simp [intOf]
    · go_wp2_with fail
      refine wp_region_ext (by kernel_rfl) (by kernel_rfl) ?_
      repeat (go_big_quiet_step (fail))
      refine wpQuiet_nil ?_
      intro w8 hb8
      replace hb8 := ext_below hb8
      have z3 := hb8.size
      obtain ⟨hb8c, hb8f⟩ := bcell hb8
      have hb8z := hb8.size
      have hb8c0 := fun o => hb8c (w.heap.size) o (by first | (simp; done) | (simp; omega) | (simp at *; omega) | omega)
      have hb8f0 := fun o => hb8f (w.heap.size) o (by first | (simp; done) | (simp; omega) | (simp at *; omega) | omega)
      have hb8l0 := below_lt (b := w.heap.size) hb8 (by first | (simp; done) | (simp; omega) | (simp at *; omega) | omega)
      have hb8c1 := fun o => hb8c (w.heap.size + 1) o (by first | (simp; done) | (simp; omega) | (simp at *; omega) | omega)
      have hb8f1 := fun o => hb8f (w.heap.size + 1) o (by first | (simp; done) | (simp; omega) | (simp at *; omega) | omega)
      have hb8l1 := below_lt (b := w.heap.size + 1) hb8 (by first | (simp; done) | (simp; omega) | (simp at *; omega) | omega)
      have hb8c2 := fun o => hb8c (w.heap.size + 2) o (by first | (simp; done) | (simp; omega) | (simp at *; omega) | omega)
      have hb8f2 := fun o => hb8f (w.heap.size + 2) o (by first | (simp; done) | (simp; omega) | (simp at *; omega) | omega)
      have hb8l2 := below_lt (b := w.heap.size + 2) hb8 (by first | (simp; done) | (simp; omega) | (simp at *; omega) | omega)
      go_wp2
      go_roundw
      case rel => exact ⟨2 + 1, by omega, rfl, rfl, by (repeat' (first | (with_reducible exact Below.refl _ _) | (with_reducible assumption) | (with_reducible refine below_drewN ?_ _) | (with_reducible refine Below.drew ?_) | (with_reducible refine below_new ?_ (Nat.le_refl _) _) | (with_reducible refine Below.setCell ?_ ?_ _) | (with_reducible refine below_go ?_ (by assumption) (Nat.le_refl _)) | (simp; done) | (simp; omega) | omega)), by simp; omega, by go_simp, by go_simp, by go_simp, by go_simp, by go_simp, fun o => by go_simp, by go_simp, by go_simp, by go_simp, by go_simp, ⟨by go_simp, by go_simp, by go_simp, by go_simp, by go_simp, fun o => by go_simp⟩⟩
      case measure => simp [intOf]
    · go_wp2_with fail
      refine wp_region_ext (by kernel_rfl) (by kernel_rfl) ?_
      repeat (go_big_quiet_step (fail))
      refine wpQuiet_nil ?_
      intro w8 hb8
      replace hb8 := ext_below hb8
      have z3 := hb8.size
      obtain ⟨hb8c, hb8f⟩ := bcell hb8
      have hb8z := hb8.size
      have hb8c0 := fun o => hb8c (w.heap.size) o (by first | (simp; done) | (simp; omega) | (simp at *; omega) | omega)
      have hb8f0 := fun o => hb8f (w.heap.size) o (by first | (simp; done) | (simp; omega) | (simp at *; omega) | omega)
      have hb8l0 := below_lt (b := w.heap.size) hb8 (by first | (simp; done) | (simp; omega) | (simp at *; omega) | omega)
      have hb8c1 := fun o => hb8c (w.heap.size + 1) o (by first | (simp; done) | (simp; omega) | (simp at *; omega) | omega)
      have hb8f1 := fun o => hb8f (w.heap.size + 1) o (by first | (simp; done) | (simp; omega) | (simp at *; omega) | omega)
      have hb8l1 := below_lt (b := w.heap.size + 1) hb8 (by first | (simp; done) | (simp; omega) | (simp at *; omega) | omega)
      have hb8c2 := fun o => hb8c (w.heap.size + 2) o (by first | (simp; done) | (simp; omega) | (simp at *; omega) | omega)
      have hb8f2 := fun o => hb8f (w.heap.size + 2) o (by first | (simp; done) | (simp; omega) | (simp at *; omega) | omega)
      have hb8l2 := below_lt (b := w.heap.size + 2) hb8 (by first | (simp; done) | (simp; omega) | (simp at *; omega) | omega)
      go_wp2
      go_roundw
      case rel => exact ⟨3 + 1, by omega, rfl, rfl, by (repeat' (first | (with_reducible exact Below.refl _ _) | (with_reducible assumption) | (with_reducible refine below_drewN ?_ _) | (with_reducible refine Below.drew ?_) | (with_reducible refine below_new ?_ (Nat.le_refl _) _) | (with_reducible refine Below.setCell ?_ ?_ _) | (with_reducible refine below_go ?_ (by assumption) (Nat.le_refl _)) | (simp; done) | (simp; omega) | omega)), by simp; omega, by go_simp, by go_simp, by go_simp, by go_simp, by go_simp, fun o => by go_simp, by go_simp, by go_simp, by go_simp, by go_simp, ⟨by go_simp, by go_simp, by go_simp, by go_simp, by go_simp, fun o => by go_simp⟩⟩
      case measure => simp [intOf]
    · go_wp2
      exact bodyPost_ret (v := .agg #[.int .u64 r0, .int .u64 r1, .int .u64 r2, .int .u64 r3, .bool m]) (by simp [results, Try.results67, go_sem, v0, v1, v2, v3, v4, vf]) rfl ⟨rfl, by (repeat' (first | (with_reducible exact Below.refl _ _) | (with_reducible assumption) | (with_reducible refine below_drewN ?_ _) | (with_reducible refine Below.drew ?_) | (with_reducible refine below_new ?_ (Nat.le_refl _) _) | (with_reducible refine Below.setCell ?_ ?_ _) | (with_reducible refine below_go ?_ (by assumption) (Nat.le_refl _)) | (simp; done) | (simp; omega) | omega))⟩

end Go.Proofs.Ytcamegfnhbbaeaa

namespace Go.Proofs.Ytcamegfnhbbaeaa
open Go.RowKit
set_option linter.unusedVariables false
set_option linter.unusedSimpArgs false
attribute [local go_sem] ite_max ite_min vite_max vite_min ext_cell ext_frozen

/-- -1, 0, 1 -/
def cmpV (A C : Int) : Int := if A < C then -1 else if C < A then 1 else 0
theorem cmpV_lt {A C : Int} (h : A < C) : cmpV A C = -1 := by unfold cmpV; rw [if_pos h]
theorem cmpV_gt {A C : Int} (h : C < A) : cmpV A C = 1 := by unfold cmpV; rw [if_neg (by omega), if_pos h]
theorem cmpV_eq {A C : Int} (h : A = C) : cmpV A C = 0 := by unfold cmpV; rw [if_neg (by omega), if_neg (by omega)]

/-- where the loop stands: the parts above are the same -/
def topEq (A C : Int) (k : Nat) : Prop := (k < 4 → d3 A = d3 C) ∧ (k < 3 → d2 A = d2 C) ∧ (k < 2 → d1 A = d1 C) ∧ (k < 1 → d0 A = d0 C)

def dgN (k : Nat) (v : Int) : Int := match k with | 0 => d0 v | 1 => d1 v | 2 => d2 v | _ => d3 v
theorem top_lt (A C : Int) (hA : 0 ≤ A ∧ A < 340282366920938463463374607431768211456) (hC : 0 ≤ C ∧ C < 340282366920938463463374607431768211456) (k : Nat) (hk : k < 4) (h : topEq A C (k + 1)) : (dgN k A < dgN k C → A < C) ∧ (dgN k C < dgN k A → C < A) ∧ (dgN k A = dgN k C → topEq A C k) := by
  have HP := cmp_parts A C hA hC
  obtain ⟨t3, t2, t1, t0⟩ := h
  rcases (by omega : k = 0 ∨ k = 1 ∨ k = 2 ∨ k = 3) with rfl | rfl | rfl | rfl
  · have p := (((HP.2.2 (t3 (by omega))).2.2 (t2 (by omega))).2.2 (t1 (by omega)))
    exact ⟨p.1, p.2.1, fun e => ⟨fun _ => t3 (by omega), fun _ => t2 (by omega), fun _ => t1 (by omega), fun _ => e⟩⟩
  · have p := ((HP.2.2 (t3 (by omega))).2.2 (t2 (by omega)))
    exact ⟨p.1, p.2.1, fun e => ⟨fun _ => t3 (by omega), fun _ => t2 (by omega), fun _ => e, fun h => by omega⟩⟩
  · have p := (HP.2.2 (t3 (by omega)))
    exact ⟨p.1, p.2.1, fun e => ⟨fun _ => t3 (by omega), fun _ => e, fun h => by omega, fun h => by omega⟩⟩
  · exact ⟨HP.1, HP.2.1, fun e => ⟨fun _ => e, fun h => by omega, fun h => by omega, fun h => by omega⟩⟩

set_option maxRecDepth 100000 in
set_option maxHeartbeats 4000000 in
theorem rcmp_at (A C : Int) (m n : Bool) (w : World) (hA : 0 ≤ A ∧ A < 340282366920938463463374607431768211456) (hC : 0 ≤ C ∧ C < 340282366920938463463374607431768211456) :
    Calls Try.prog 66 #[.agg #[.int .u64 (d0 A), .int .u64 (d1 A), .int .u64 (d2 A), .int .u64 (d3 A), .bool m], .agg #[.int .u64 (d0 C), .int .u64 (d1 C), .int .u64 (d2 C), .int .u64 (d3 C), .bool n]] w fun e w' =>
      e = .returned (.int .i64 (cmpV A C)) ∧ Below w.heap.size w w' := by
  have HP := Lib.hid (cmp_parts A C hA hC)
  have HTL := Lib.hid (top_lt A C hA hC)
  have ha := dg_bd A
  have hc := dg_bd C
  obtain ⟨R, hR⟩ : ∃ R, cmpV A C = R := ⟨_, rfl⟩
  rw [hR]
  have HR := Lib.hid hR
  clear hR hA hC
  go_enter Try.func66, Try.ntmps66
  go_wp2_with fail
  go_loopw [5] (fun i w' => ∃ (k : Nat), k ≤ 4 ∧ i = .int .i64 ((k : Int) - 1) ∧ Hid (topEq A C k) ∧ Below w.heap.size w w' ∧ w.heap.size + 1 < w'.heap.size ∧
    w'.cell? ⟨w.heap.size, 0, none⟩ = some (.int .u64 (d0 A)) ∧ w'.cell? ⟨w.heap.size, 1, none⟩ = some (.int .u64 (d1 A)) ∧ w'.cell? ⟨w.heap.size, 2, none⟩ = some (.int .u64 (d2 A)) ∧ w'.cell? ⟨w.heap.size, 3, none⟩ = some (.int .u64 (d3 A)) ∧
    w'.cell? ⟨w.heap.size + 1, 0, none⟩ = some (.int .u64 (d0 C)) ∧ w'.cell? ⟨w.heap.size + 1, 1, none⟩ = some (.int .u64 (d1 C)) ∧ w'.cell? ⟨w.heap.size + 1, 2, none⟩ = some (.int .u64 (d2 C)) ∧ w'.cell? ⟨w.heap.size + 1, 3, none⟩ = some (.int .u64 (d3 C))) (fun i _ => (intOf i + 1).toNat)
  case atStart => exact ⟨4, by omega, rfl, Lib.hid ⟨fun h => by omega, fun h => by omega, fun h => by omega, fun h => by omega⟩, by (repeat' (first | (with_reducible exact Below.refl _ _) | (with_reducible assumption) | (with_reducible refine below_drewN ?_ _) | (with_reducible refine Below.drew ?_) | (with_reducible refine below_new ?_ (Nat.le_refl _) _) | (with_reducible refine Below.setCell ?_ ?_ _) | (with_reducible refine below_go ?_ (by assumption) (Nat.le_refl _)) | (simp; done) | (simp; omega) | omega)), by simp, by go_simp, by go_simp, by go_simp, by go_simp, by go_simp, by go_simp, by go_simp, by go_simp⟩
  case round =>
    obtain ⟨k, hk, rfl, HT, hbr, hsz, x0, x1, x2, x3, y0, y1, y2, y3⟩ := hrel
    have z1 : w.heap.size < wr.heap.size := by omega
    rcases (by omega : k = 0 ∨ k = 1 ∨ k = 2 ∨ k = 3 ∨ k = 4) with rfl | rfl | rfl | rfl | rfl
    · have HF : Hid (0 = R) := Lib.hid (by
        obtain ⟨t3, t2, t1, t0⟩ := HT.out
        rw [← HR.out]
        exact (cmpV_eq ((((HP.out.2.2 (t3 (by omega))).2.2 (t2 (by omega))).2.2 (t1 (by omega))).2.2 (t0 (by omega)))).symm)
      go_wp2
      go_ret
      rw [HF.out]
      exact ⟨rfl, by (repeat' (first | (with_reducible exact Below.refl _ _) | (with_reducible assumption) | (with_reducible refine below_drewN ?_ _) | (with_reducible refine Below.drew ?_) | (with_reducible refine below_new ?_ (Nat.le_refl _) _) | (with_reducible refine Below.setCell ?_ ?_ _) | (with_reducible refine below_go ?_ (by assumption) (Nat.le_refl _)) | (simp; done) | (simp; omega) | omega))⟩
    · obtain ⟨l1, l2, l3⟩ := HTL.out 0 (by omega) HT.out
      obtain ⟨p, hp⟩ : ∃ p, d0 A = p := ⟨_, rfl⟩
      obtain ⟨q, hq⟩ : ∃ q, d0 C = q := ⟨_, rfl⟩
      have L1 : Hid (p < q → A < C) := Lib.hid (by rw [← hp, ← hq]; exact l1)
      have L2 : Hid (q < p → C < A) := Lib.hid (by rw [← hp, ← hq]; exact l2)
      have L3 : Hid (p = q → topEq A C 0) := Lib.hid (by rw [← hp, ← hq]; exact l3)
      rw [hp] at x0 ha
      rw [hq] at y0 hc
      have HPP := Lib.hid hp
      have HQQ := Lib.hid hq
      clear hp hq l1 l2 l3
      by_cases h1 : p < q
      · have HF : Hid (-1 = R) := Lib.hid (by rw [← HR.out]; exact (cmpV_lt (L1.out h1)).symm)
        go_wp2_with fail
        refine wp_region_ext (by kernel_rfl) (by kernel_rfl) ?_
        repeat (go_big_quiet_step (fail))
        refine wpQuiet_nil ?_
        intro w8 hb8
        replace hb8 := ext_below hb8
        go_wp2
        go_ret
        rw [HF.out]
        exact ⟨rfl, by (repeat' (first | (with_reducible exact Below.refl _ _) | (with_reducible assumption) | (with_reducible refine below_drewN ?_ _) | (with_reducible refine Below.drew ?_) | (with_reducible refine below_new ?_ (Nat.le_refl _) _) | (with_reducible refine Below.setCell ?_ ?_ _) | (with_reducible refine below_go ?_ (by assumption) (Nat.le_refl _)) | (simp; done) | (simp; omega) | omega))⟩
      · by_cases h2 : q < p
        · have HF : Hid (1 = R) := Lib.hid (by rw [← HR.out]; exact (cmpV_gt (L2.out h2)).symm)
          go_wp2_with fail
          refine wp_region_ext (by kernel_rfl) (by kernel_rfl) ?_
          repeat (go_big_quiet_step (fail))
          refine wpQuiet_nil ?_
          intro w8 hb8
          replace hb8 := ext_below hb8
          obtain ⟨hb8c, hb8f⟩ := bcell hb8
          have hb8z := hb8.size
          have hb8c0 := fun o => hb8c (w.heap.size) o (by first | (simp; done) | (simp; omega) | (simp at *; omega) | omega)
          have hb8f0 := fun o => hb8f (w.heap.size) o (by first | (simp; done) | (simp; omega) | (simp at *; omega) | omega)
          have hb8l0 := below_lt (b := w.heap.size) hb8 (by first | (simp; done) | (simp; omega) | (simp at *; omega) | omega)
          have hb8c1 := fun o => hb8c (w.heap.size + 1) o (by first | (simp; done) | (simp; omega) | (simp at *; omega) | omega)
          have hb8f1 := fun o => hb8f (w.heap.size + 1) o (by first | (simp; done) | (simp; omega) | (simp at *; omega) | omega)
          have hb8l1 := below_lt (b := w.heap.size + 1) hb8 (by first | (simp; done) | (simp; omega) | (simp at *; omega) | omega)
          have z3 := hb8.size
          have z4 : w.heap.size + 1 < w8.heap.size := by omega
          have z5 : w.heap.size < w8.heap.size := by omega
          go_wp2_with fail
          refine wp_region_ext (by kernel_rfl) (by kernel_rfl) ?_
          repeat (go_big_quiet_step (fail))
          refine wpQuiet_nil ?_
          intro w9 hb9
          replace hb9 := ext_below hb9
          go_wp2
          go_ret
          rw [HF.out]
          exact ⟨rfl, by (repeat' (first | (with_reducible exact Below.refl _ _) | (with_reducible assumption) | (with_reducible refine below_drewN ?_ _) | (with_reducible refine Below.drew ?_) | (with_reducible refine below_new ?_ (Nat.le_refl _) _) | (with_reducible refine Below.setCell ?_ ?_ _) | (with_reducible refine below_go ?_ (by assumption) (Nat.le_refl _)) | (simp; done) | (simp; omega) | omega))⟩
        · have HT' := Lib.hid (L3.out (by omega))
          go_wp2_with fail
          refine wp_region_ext (by kernel_rfl) (by kernel_rfl) ?_
          repeat (go_big_quiet_step (fail))
          refine wpQuiet_nil ?_
          intro w8 hb8
          replace hb8 := ext_below hb8
          obtain ⟨hb8c, hb8f⟩ := bcell hb8
          have hb8z := hb8.size
          have hb8c0 := fun o => hb8c (w.heap.size) o (by first | (simp; done) | (simp; omega) | (simp at *; omega) | omega)
          have hb8f0 := fun o => hb8f (w.heap.size) o (by first | (simp; done) | (simp; omega) | (simp at *; omega) | omega)
          have hb8l0 := below_lt (b := w.heap.size) hb8 (by first | (simp; done) | (simp; omega) | (simp at *; omega) | omega)
          have hb8c1 := fun o => hb8c (w.heap.size + 1) o (by first | (simp; done) | (simp; omega) | (simp at *; omega) | omega)
          have hb8f1 := fun o => hb8f (w.heap.size + 1) o (by first | (simp; done) | (simp; omega) | (simp at *; omega) | omega)
          have hb8l1 := below_lt (b := w.heap.size + 1) hb8 (by first | (simp; done) | (simp; omega) | (simp at *; omega) | omega)
          have z3 := hb8.size
          have z4 : w.heap.size + 1 < w8.heap.size := by omega
          have z5 : w.heap.size < w8.heap.size := by omega
          go_wp2_with fail
          refine wp_region_ext (by kernel_rfl) (by kernel_rfl) ?_
          repeat (go_big_quiet_step (fail))
          refine wpQuiet_nil ?_
          intro w9 hb9
          replace hb9 := ext_below hb9
          obtain ⟨hb9c, hb9f⟩ := bcell hb9
          have hb9z := hb9.size
          have hb9c0 := fun o => hb9c (w.heap.size) o (by first | (simp; done) | (simp; omega) | (simp at *; omega) | omega)
          have hb9f0 := fun o => hb9f (w.heap.size) o (by first | (simp; done) | (simp; omega) | (simp at *; omega) | omega)
          have hb9l0 := below_lt (b := w.heap.size) hb9 (by first | (simp; done) | (simp; omega) | (simp at *; omega) | omega)
          have hb9c1 := fun o => hb9c (w.heap.size + 1) o (by first | (simp; done) | (simp; omega) | (simp at *; omega) | omega)
          have hb9f1 := fun o => hb9f (w.heap.size + 1) o (by first | (simp; done) | (simp; omega) | (simp at *; omega) | omega)
          have hb9l1 := below_lt (b := w.heap.size + 1) hb9 (by first | (simp; done) | (simp; omega) | (simp at *; omega) | omega)
          have z6 := hb9.size
          go_wp2
          go_roundw
          case rel =>
            refine ⟨0, by omega, rfl, HT', by (repeat' (first | (with_reducible exact Below.refl _ _) | (with_reducible assumption) | (with_reducible refine below_drewN ?_ _) | (with_reducible refine Below.drew ?_) | (with_reducible refine below_new ?_ (Nat.le_refl _) _) | (with_reducible refine Below.setCell ?_ ?_ _) | (with_reducible refine below_go ?_ (by assumption) (Nat.le_refl _)) | (simp; done) | (simp; omega) | omega)), by omega, ?_, ?_, ?_, ?_, ?_, ?_, ?_, ?_⟩
            all_goals first | rw [HPP.out] | rw [HQQ.out] | skip
            all_goals go_simp
          case measure => simp [intOf]
    · obtain ⟨l1, l2, l3⟩ := HTL.out 1 (by omega) HT.out
      obtain ⟨p, hp⟩ : ∃ p, d1 A = p := ⟨_, rfl⟩
      obtain ⟨q, hq⟩ : ∃ q, d1 C = q := ⟨_, rfl⟩
      have L1 : Hid (p < q → A < C) := Lib.hid (by rw [← hp, ← hq]; exact l1)
      have L2 : Hid (q < p → C < A) := Lib.hid (by rw [← hp, ← hq]; exact l2)
      have L3 : Hid (p = q → topEq A C 1) := Lib.hid (by rw [← hp, ← hq]; exact l3)
      rw [hp] at x1 ha
      rw [hq] at y1 hc
      have HPP := Lib.hid hp
      have HQQ := Lib.hid hq
      clear hp hq l1 l2 l3
      by_cases h1 : p < q
      · have HF : Hid (-1 = R) := Lib.hid (by rw [← HR.out]; exact (cmpV_lt (L1.out h1)).symm)
        go_wp2_with fail
        refine wp_region_ext (by kernel_rfl) (by kernel_rfl) ?_
        repeat (go_big_quiet_step (fail))
        refine wpQuiet_nil ?_
        intro w8 hb8
        replace hb8 := ext_below hb8
        go_wp2
        go_ret
        rw [HF.out]
        exact ⟨rfl, by (repeat' (first | (with_reducible exact Below.refl _ _) | (with_reducible assumption) | (with_reducible refine below_drewN ?_ _) | (with_reducible refine Below.drew ?_) | (with_reducible refine below_new ?_ (Nat.le_refl _) _) | (with_reducible refine Below.setCell ?_ ?_ _) | (with_reducible refine below_go ?_ (by assumption) (Nat.le_refl _)) | (simp; done) | (simp; omega) | omega))⟩
      · by_cases h2 : q < p
        · have HF : Hid (1 = R) := Lib.hid (by rw [← HR.out]; exact (cmpV_gt (L2.out h2)).symm)
          go_wp2_with fail
          refine wp_region_ext (by kernel_rfl) (by kernel_rfl) ?_
          repeat (go_big_quiet_step (fail))
          refine wpQuiet_nil ?_
          intro w8 hb8
          replace hb8 := ext_below hb8
          obtain ⟨hb8c, hb8f⟩ := bcell hb8
          have hb8z := hb8.size
          have hb8c0 := fun o => hb8c (w.heap.size) o (by first | (simp; done) | (simp; omega) | (simp at *; omega) | omega)
          have hb8f0 := fun o => hb8f (w.heap.size) o (by first | (simp; done) | (simp; omega) | (simp at *; omega) | omega)
          have hb8l0 := below_lt (b := w.heap.size) hb8 (by first | (simp; done) | (simp; omega) | (simp at *; omega) | omega)
          have hb8c1 := fun o => hb8c (w.heap.size + 1) o (by first | (simp; done) | (simp; omega) | (simp at *; omega) | omega)
          have hb8f1 := fun o => hb8f (w.heap.size + 1) o (by first | (simp; done) | (simp; omega) | (simp at *; omega) | omega)
          have hb8l1 := below_lt (b := w.heap.size + 1) hb8 (by first | (simp; done) | (simp; omega) | (simp at *; omega) | omega)
          have z3 := hb8.size
          have z4 : w.heap.size + 1 < w8.heap.size := by omega
          have z5 : w.heap.size < w8.heap.size := by omega
          go_wp2_with fail
          refine wp_region_ext (by kernel_rfl) (by kernel_rfl) ?_
          repeat (go_big_quiet_step (fail))
          refine wpQuiet_nil ?_
          intro w9 hb9
          replace hb9 := ext_below hb9
          go_wp2
          go_ret
          rw [HF.out]
          exact ⟨rfl, by (repeat' (first | (with_reducible exact Below.refl _ _) | (with_reducible assumption) | (with_reducible refine below_drewN ?_ _) | (with_reducible refine Below.drew ?_) | (with_reducible refine below_new ?_ (Nat.le_refl _) _) | (with_reducible refine Below.setCell ?_ ?_ _) | (with_reducible refine below_go ?_ (by assumption) (Nat.le_refl _)) | (simp; done) | (simp; omega) | omega))⟩
        · have HT' := Lib.hid (L3.out (by omega))
          go_wp2_with fail
          refine wp_region_ext (by kernel_rfl) (by kernel_rfl) ?_
          repeat (go_big_quiet_step (fail))
          refine wpQuiet_nil ?_
          intro w8 hb8
          replace hb8 := ext_below hb8
          obtain ⟨hb8c, hb8f⟩ := bcell hb8
          have hb8z := hb8.size
          have hb8c0 := fun o => hb8c (w.heap.size) o (by first | (simp; done) | (simp; omega) | (simp at *; omega) | omega)
          have hb8f0 := fun o => hb8f (w.heap.size) o (by first | (simp; done) | (simp; omega) | (simp at *; omega) | omega)
          have hb8l0 := below_lt (b := w.heap.size) hb8 (by first | (simp; done) | (simp; omega) | (simp at *; omega) | omega)
          have hb8c1 := fun o => hb8c (w.heap.size + 1) o (by first | (simp; done) | (simp; omega) | (simp at *; omega) | omega)
          have hb8f1 := fun o => hb8f (w.heap.size + 1) o (by first | (simp; done) | (simp; omega) | (simp at *; omega) | omega)
          have hb8l1 := below_lt (b := w.heap.size + 1) hb8 (by first | (simp; done) | (simp; omega) | (simp at *; omega) | omega)
          have z3 := hb8.size
          have z4 : w.heap.size + 1 < w8.heap.size := by omega
          have z5 : w.heap.size < w8.heap.size := by omega
          go_wp2_with fail
          refine wp_region_ext (by kernel_rfl) (by kernel_rfl) ?_
          repeat (go_big_quiet_step (fail))
          refine wpQuiet_nil ?_
          intro w9 hb9
          replace hb9 := ext_below hb9
          obtain ⟨hb9c, hb9f⟩ := bcell hb9
          have hb9z := hb9.size
          have hb9c0 := fun o => hb9c (w.heap.size) o (by first | (simp; done) | (simp; omega) | (simp at *; omega) | omega)
          have hb9f0 := fun o => hb9f (w.heap.size) o (by first | (simp; done) | (simp; omega) | (simp at *; omega) | omega)
          have hb9l0 := below_lt (b := w.heap.size) hb9 (by first | (simp; done) | (simp; omega) | (simp at *; omega) | omega)
          have hb9c1 := fun o => hb9c (w.heap.size + 1) o (by first | (simp; done) | (simp; omega) | (simp at *; omega) | omega)
          have hb9f1 := fun o => hb9f (w.heap.size + 1) o (by first | (simp; done) | (simp; omega) | (simp at *; omega) | omega)
          have hb9l1 := below_lt (b := w.heap.size + 1) hb9 (by first | (simp; done) | (simp; omega) | (simp at *; omega) | omega)
          have z6 := hb9.size
          go_wp2
          go_roundw
          case rel =>
            refine ⟨1, by omega, rfl, HT', by (repeat' (first | (with_reducible exact Below.refl _ _) | (with_reducible assumption) | (with_reducible refine below_drewN ?_ _) | (with_reducible refine Below.drew ?_) | (with_reducible refine below_new ?_ (Nat.le_refl _) _) | (with_reducible refine Below.setCell ?_ ?_ _) | (with_reducible refine below_go ?_ (by assumption) (Nat.le_refl _)) | (simp; done) | (simp; omega) | omega)), by omega, ?_, ?_, ?_, ?_, ?_, ?_, ?_, ?_⟩
            all_goals first | rw [HPP.out] | rw [HQQ.out] | skip
            all_goals go_simp
          case measure => simp [intOf]
    · obtain ⟨l1, l2, l3⟩ := HTL.out 2 (by omega) HT.out
      obtain ⟨p, hp⟩ : ∃ p, d2 A = p := ⟨_, rfl⟩
      obtain ⟨q, hq⟩ : ∃ q, d2 C = q := ⟨_, rfl⟩
      have L1 : Hid (p < q → A < C) := Lib.hid (by rw [← hp, ← hq]; exact l1)
      have L2 : Hid (q < p → C < A) := Lib.hid (by rw [← hp, ← hq]; exact l2)
      have L3 : Hid (p = q → topEq A C 2) := Lib.hid (by rw [← hp, ← hq]; exact l3)
      rw [hp] at x2 ha
      rw [hq] at y2 hc
      have HPP := Lib.hid hp
      have HQQ := Lib.hid hq
      clear hp hq l1 l2 l3
      by_cases h1 : p < q
      · have HF : Hid (-1 = R) := Lib.hid (by rw [← HR.out]; exact (cmpV_lt (L1.out h1)).symm)
        go_wp2_with fail
        refine wp_region_ext (by kernel_rfl) (by kernel_rfl) ?_
        repeat (go_big_quiet_step (fail))
        refine wpQuiet_nil ?_
        intro w8 hb8
        replace hb8 := ext_below hb8
        go_wp2
        go_ret
        rw [HF.out]
        exact ⟨rfl, by (repeat' (first | (with_reducible exact Below.refl _ _) | (with_reducible assumption) | (with_reducible refine below_drewN ?_ _) | (with_reducible refine Below.drew ?_) | (with_reducible refine below_new ?_ (Nat.le_refl _) _) | (with_reducible refine Below.setCell ?_ ?_ _) | (with_reducible refine below_go ?_ (by assumption) (Nat.le_refl _)) | (simp; done) | (simp; omega) | omega))⟩
      · by_cases h2 : q < p
        · have HF : Hid (1 = R) := Lib.hid (by rw [← HR.out]; exact (cmpV_gt (L2.out h2)).symm)
          go_wp2_with fail
          refine wp_region_ext (by kernel_rfl) (by kernel_rfl) ?_
          repeat (go_big_quiet_step (fail))
          refine wpQuiet_nil ?_
          intro w8 hb8
          replace hb8 := ext_below hb8
          obtain ⟨hb8c, hb8f⟩ := bcell hb8
          have hb8z := hb8.size
          have hb8c0 := fun o => hb8c (w.heap.size) o (by first | (simp; done) | (simp; omega) | (simp at *; omega) | omega)
          have hb8f0 := fun o => hb8f (w.heap.size) o (by first | (simp; done) | (simp; omega) | (simp at *; omega) | omega)
          have hb8l0 := below_lt (b := w.heap.size) hb8 (by first | (simp; done) | (simp; omega) | (simp at *; omega) | omega)
          have hb8c1 := fun o => hb8c (w.heap.size + 1) o (by first | (simp; done) | (simp; omega) | (simp at *; omega) | omega)
          have hb8f1 := fun o => hb8f (w.heap.size + 1) o (by first | (simp; done) | (simp; omega) | (simp at *; omega) | omega)
          have hb8l1 := below_lt (b := w.heap.size + 1) hb8 (by first | (simp; done) | (simp; omega) | (simp at *; omega) | omega)
          have z3 := hb8.size
          have z4 : w.heap.size + 1 < w8.heap.size := by omega
          have z5 : w.heap.size < w8.heap.size := by omega
          go_wp2_with fail
          refine wp_region_ext (by kernel_rfl) (by kernel_rfl) ?_
          repeat (go_big_quiet_step (fail))
          refine wpQuiet_nil ?_
          intro w9 hb9
          replace hb9 := ext_below hb9
          go_wp2
          go_ret
          rw [HF.out]
          exact ⟨rfl, by (repeat' (first | (with_reducible exact Below.refl _ _) | (with_reducible assumption) | (with_reducible refine below_drewN ?_ _) | (with_reducible refine Below.drew ?_) | (with_reducible refine below_new ?_ (Nat.le_refl _) _) | (with_reducible refine Below.setCell ?_ ?_ _) | (with_reducible refine below_go ?_ (by assumption) (Nat.le_refl _)) | (simp; done) | (simp; omega) | omega))⟩
        · have HT' := Lib.hid (L3.out (by omega))
          go_wp2_with fail
          refine wp_region_ext (by kernel_rfl) (by kernel_rfl) ?_
          repeat (go_big_quiet_step (fail))
          refine wpQuiet_nil ?_
          intro w8 hb8
          replace hb8 := ext_below hb8
          obtain ⟨hb8c, hb8f⟩ := bcell hb8
          have hb8z := hb8.size
          have hb8c0 := fun o => hb8c (w.heap.size) o (by first | (simp; done) | (simp; omega) | (simp at *; omega) | omega)
          have hb8f0 := fun o => hb8f (w.heap.size) o (by first | (simp; done) | (simp; omega) | (simp at *; omega) | omega)
          have hb8l0 := below_lt (b := w.heap.size) hb8 (by first | (simp; done) | (simp; omega) | (simp at *; omega) | omega)
          have hb8c1 := fun o => hb8c (w.heap.size + 1) o (by first | (simp; done) | (simp; omega) | (simp at *; omega) | omega)
          have hb8f1 := fun o => hb8f (w.heap.size + 1) o (by first | (simp; done) | (simp; omega) | (simp at *; omega) | omega)
          have hb8l1 := below_lt (b := w.heap.size + 1) hb8 (by first | (simp; done) | (simp; omega) | (simp at *; omega) | omega)
          have z3 := hb8.size
          have z4 : w.heap.size + 1 < w8.heap.size := by omega
          have z5 : w.heap.size < w8.heap.size := by omega
          go_wp2_with fail
          refine wp_region_ext (by kernel_rfl) (by kernel_rfl) ?_
          repeat (go_big_quiet_step (fail))
          refine wpQuiet_nil ?_
          intro w9 hb9
          replace hb9 := ext_below hb9
          obtain ⟨hb9c, hb9f⟩ := bcell hb9
          have hb9z := hb9.size
          have hb9c0 := fun o => hb9c (w.heap.size) o (by first | (simp; done) | (simp; omega) | (simp at *; omega) | omega)
          have hb9f0 := fun o => hb9f (w.heap.size) o (by first | (simp; done) | (simp; omega) | (simp at *; omega) | omega)
          have hb9l0 := below_lt (b := w.heap.size) hb9 (by first | (simp; done) | (simp; omega) | (simp at *; omega) | omega)
          have hb9c1 := fun o => hb9c (w.heap.size + 1) o (by first | (simp; done) | (simp; omega) | (simp at *; omega) | omega)
          have hb9f1 := fun o => hb9f (w.heap.size + 1) o (by first | (simp; done) | (simp; omega) | (simp at *; omega) | omega)
          have hb9l1 := below_lt (b := w.heap.size + 1) hb9 (by first | (simp; done) | (simp; omega) | (simp at *; omega) | omega)
          have z6 := hb9.size
          go_wp2
          go_roundw
          case rel =>
            refine ⟨2, by omega, rfl, HT', by (repeat' (first | (with_reducible exact Below.refl _ _) | (with_reducible assumption) | (with_reducible refine below_drewN ?_ _) | (with_reducible refine Below.drew ?_) | (with_reducible refine below_new ?_ (Nat.le_refl _) _) | (with_reducible refine Below.setCell ?_ ?_ _) | (with_reducible refine below_go ?_ (by assumption) (Nat.le_refl _)) | (simp; done) | (simp; omega) | omega)), by omega, ?_, ?_, ?_, ?_, ?_, ?_, ?_, ?_⟩
            all_goals first | rw [HPP.out] | rw [HQQ.out] | skip
            all_goals go_simp
          case measure => simp [intOf]
    · obtain ⟨l1, l2, l3⟩ := HTL.out 3 (by omega) HT.out
      obtain ⟨p, hp⟩ : ∃ p, d3 A = p := ⟨_, rfl⟩
      obtain ⟨q, hq⟩ : ∃ q, d3 C = q := ⟨_, rfl⟩
      have L1 : Hid (p < q → A < C) := Lib.hid (by rw [← hp, ← hq]; exact l1)
      have L2 : Hid (q < p → C < A) := Lib.hid (by rw [← hp, ← hq]; exact l2)
      have L3 : Hid (p = q → topEq A C 3) := Lib.hid (by rw [← hp, ← hq]; exact l3)
      rw [hp] at x3 ha
      rw [hq] at y3 hc
      have HPP := Lib.hid hp
      have HQQ := Lib.hid hq
      clear hp hq l1 l2 l3
      by_cases h1 : p < q
      · have HF : Hid (-1 = R) := Lib.hid (by rw [← HR.out]; exact (cmpV_lt (L1.out h1)).symm)
        go_wp2_with fail
        refine wp_region_ext (by kernel_rfl) (by kernel_rfl) ?_
        repeat (go_big_quiet_step (fail))
        refine wpQuiet_nil ?_
        intro w8 hb8
        replace hb8 := ext_below hb8
        go_wp2
        go_ret
        rw [HF.out]
        exact ⟨rfl, by (repeat' (first | (with_reducible exact Below.refl _ _) | (with_reducible assumption) | (with_reducible refine below_drewN ?_ _) | (with_reducible refine Below.drew ?_) | (with_reducible refine below_new ?_ (Nat.le_refl _) _) | (with_reducible refine Below.setCell ?_ ?_ _) | (with_reducible refine below_go ?_ (by assumption) (Nat.le_refl _)) | (simp; done) | (simp; omega) | omega))⟩
      · by_cases h2 : q < p
        · have HF : Hid (1 = R) := Lib.hid (by rw [← HR.out]; exact (cmpV_gt (L2.out h2)).symm)
          go_wp2_with fail
          refine wp_region_ext (by kernel_rfl) (by kernel_rfl) ?_
          repeat (go_big_quiet_step (fail))
          refine wpQuiet_nil ?_
          intro w8 hb8
          replace hb8 := ext_below hb8
          obtain ⟨hb8c, hb8f⟩ := bcell hb8
          have hb8z := hb8.size
          have hb8c0 := fun o => hb8c (w.heap.size) o (by first | (simp; done) | (simp; omega) | (simp at *; omega) | omega)
          have hb8f0 := fun o => hb8f (w.heap.size) o (by first | (simp; done) | (simp; omega) | (simp at *; omega) | omega)
          have hb8l0 := below_lt (b := w.heap.size) hb8 (by first | (simp; done) | (simp; omega) | (simp at *; omega) | omega)
          have hb8c1 := fun o => hb8c (w.heap.size + 1) o (by first | (simp; done) | (simp; omega) | (simp at *; omega) | omega)
          have hb8f1 := fun o => hb8f (w.heap.size + 1) o (by first | (simp; done) | (simp; omega) | (simp at *; omega) | omega)
          have hb8l1 := below_lt (b := w.heap.size + 1) hb8 (by first | (simp; done) | (simp; omega) | (simp at *; omega) | omega)
          have z3 := hb8.size
          have z4 : w.heap.size + 1 < w8.heap.size := by omega
          have z5 : w.heap.size < w8.heap.size := by omega
          go_wp2_with fail
          refine wp_region_ext (by kernel_rfl) (by kernel_rfl) ?_
          repeat (go_big_quiet_step (fail))
          refine wpQuiet_nil ?_
          intro w9 hb9
          replace hb9 := ext_below hb9
          go_wp2
          go_ret
          rw [HF.out]
          exact ⟨rfl, by (repeat' (first | (with_reducible exact Below.refl _ _) | (with_reducible assumption) | (with_reducible refine below_drewN ?_ _) | (with_reducible refine Below.drew ?_) | (with_reducible refine below_new ?_ (Nat.le_refl _) _) | (with_reducible refine Below.setCell ?_ ?_ _) | (with_reducible refine below_go ?_ (by assumption) (Nat.le_refl _)) | (simp; done) | (simp; omega) | omega))⟩
        · have HT' := Lib.hid (L3.out (by omega))
          go_wp2_with fail
          refine wp_region_ext (by kernel_rfl) (by kernel_rfl) ?_
          repeat (go_big_quiet_step (fail))
          refine wpQuiet_nil ?_
          intro w8 hb8
          replace hb8 := ext_below hb8
          obtain ⟨hb8c, hb8f⟩ := bcell hb8
          have hb8z := hb8.size
          have hb8c0 := fun o => hb8c (w.heap.size) o (by first | (simp; done) | (simp; omega) | (simp at *; omega) | omega)
          have hb8f0 := fun o => hb8f (w.heap.size) o (by first | (simp; done) | (simp; omega) | (simp at *; omega) | omega)
          have hb8l0 := below_lt (b := w.heap.size) hb8 (by first | (simp; done) | (simp; omega) | (simp at *; omega) | omega)
          have hb8c1 := fun o => hb8c (w.heap.size + 1) o (by first | (simp; done) | (simp; omega) | (simp at *; omega) | omega)
          have hb8f1 := fun o => hb8f (w.heap.size + 1) o (by first | (simp; done) | (simp; omega) | (simp at *; omega) | omega)
          have hb8l1 := below_lt (b := w.heap.size + 1) hb8 (by first | (simp; done) | (simp; omega) | (simp at *; omega) | omega)
          have z3 := hb8.size
          have z4 : w.heap.size + 1 < w8.heap.size := by omega
          have z5 : w.heap.size < w8.heap.size := by omega
          go_wp2_with fail
          refine wp_region_ext (by kernel_rfl) (by kernel_rfl) ?_
          repeat (go_big_quiet_step (fail))
          refine wpQuiet_nil ?_
          intro w9 hb9
          replace hb9 := ext_below hb9
          obtain ⟨hb9c, hb9f⟩ := bcell hb9
          have hb9z := hb9.size
          have hb9c0 := fun o => hb9c (w.heap.size) o (by first | (simp; done) | (simp; omega) | (simp at *; omega) | omega)
          have hb9f0 := fun o => hb9f (w.heap.size) o (by first | (simp; done) | (simp; omega) | (simp at *; omega) | omega)
          have hb9l0 := below_lt (b := w.heap.size) hb9 (by first | (simp; done) | (simp; omega) | (simp at *; omega) | omega)
          have hb9c1 := fun o => hb9c (w.heap.size + 1) o (by first | (simp; done) | (simp; omega) | (simp at *; omega) | omega)
          have hb9f1 := fun o => hb9f (w.heap.size + 1) o (by first | (simp; done) | (simp; omega) | (simp at *; omega) | omega)
          have hb9l1 := below_lt (b := w.heap.size + 1) hb9 (by first | (simp; done) | (simp; omega) | (simp at *; omega) | omega)
          have z6 := hb9.size
          go_wp2
          go_roundw
          case rel =>
            refine ⟨3, by omega, rfl, HT', by (repeat' (first | (with_reducible exact Below.refl _ _) | (with_reducible assumption) | (with_reducible refine below_drewN ?_ _) | (with_reducible refine Below.drew ?_) | (with_reducible refine below_new ?_ (Nat.le_refl _) _) | (with_reducible refine Below.setCell ?_ ?_ _) | (with_reducible refine below_go ?_ (by assumption) (Nat.le_refl _)) | (simp; done) | (simp; omega) | omega)), by omega, ?_, ?_, ?_, ?_, ?_, ?_, ?_, ?_⟩
            all_goals first | rw [HPP.out] | rw [HQQ.out] | skip
            all_goals go_simp
          case measure => simp [intOf]

end Go.Proofs.Ytcamegfnhbbaeaa

namespace Go.Proofs.Ytcamegfnhbbaeaa
open Go.RowKit
set_option linter.unusedVariables false
set_option linter.unusedSimpArgs false
attribute [local go_sem] ite_max ite_min vite_max vite_min ext_cell ext_frozen

set_option maxRecDepth 100000 in
set_option maxHeartbeats 1000000 in
theorem rturned_at (a0 a1 a2 a3 : Int) (m : Bool) (w : World) :
    Calls Try.prog 47 #[.agg #[.int .u64 a0, .int .u64 a1, .int .u64 a2, .int .u64 a3, .bool m]] w fun e w' =>
      e = .returned (.agg #[.int .u64 a0, .int .u64 a1, .int .u64 a2, .int .u64 a3, .bool (!m)]) ∧ Below w.heap.size w w' := by
  go_enter Try.func47, Try.ntmps47
  go_wp2
  exact bodyPost_ret (v := .agg #[.int .u64 a0, .int .u64 a1, .int .u64 a2, .int .u64 a3, .bool (!m)]) (by simp [results, Try.results47, go_sem]) rfl ⟨rfl, by (repeat' (first | (with_reducible exact Below.refl _ _) | (with_reducible assumption) | (with_reducible refine below_drewN ?_ _) | (with_reducible refine Below.drew ?_) | (with_reducible refine below_new ?_ (Nat.le_refl _) _) | (with_reducible refine Below.setCell ?_ ?_ _) | (with_reducible refine below_go ?_ (by assumption) (Nat.le_refl _)) | (simp; done) | (simp; omega) | omega))⟩

theorem cmpV_zero (A : Int) (hA : 0 ≤ A) : (cmpV A 0 == 0) = decide (A = 0) := by
  by_cases h : A = 0
  · rw [cmpV_eq h, decide_eq_true h]; rfl
  · rw [cmpV_gt (by omega), decide_eq_false h]; rfl



set_option maxRecDepth 100000 in
set_option maxHeartbeats 1000000 in
theorem rroom_at (A x : Int) (m : Bool) (w : World) (hA : 0 ≤ A ∧ A < 340282366920938463463374607431768211456) (hx : (m = true ∧ -A = x) ∨ (m = false ∧ A = x)) :
    Calls Try.prog 44 #[.agg #[.int .u64 (d0 A), .int .u64 (d1 A), .int .u64 (d2 A), .int .u64 (d3 A), .bool m]] w fun e w' => e = .returned (.tuple #[.int .i64 (fitV x), .bool (fitB x)]) ∧ Below w.heap.size w w' := by
  have hb := dg_bd A
  have hs := dg_sum A hA
  by_cases hlow : A < 18446744073709551616
  · obtain ⟨e2, e3⟩ := (dg_high A hA).2 hlow
    rw [e2, e3] at hs ⊢
    clear e2 e3
    generalize d0 A = a0 at *
    generalize d1 A = a1 at *
    generalize d2 A = a2 at *
    generalize d3 A = a3 at *
    have hn : a1 * 4294967296 + a0 = A := by omega
    have hm0 : 0 ≤ a1 * 4294967296 ∧ a1 * 4294967296 ≤ 18446744069414584320 := by omega
    obtain ⟨p, hp⟩ : ∃ p, a1 * 4294967296 = p := ⟨_, rfl⟩
    rw [hp] at hn hm0
    have hA1 : 0 ≤ A ∧ A ≤ 18446744073709551615 := by omega
    clear hs hlow hA
    by_cases h63 : A < 9223372036854775808
    · cases m
      · obtain rfl : A = x := by rcases hx with ⟨h, _⟩ | ⟨_, h⟩; cases h; exact h
        rw [fitV_yes (by omega), fitB_yes (by omega)]
        clear hx
        go_enter Try.func44, Try.ntmps44
        go_wp2
        go_ret2
        exact ⟨rfl, by (repeat' (first | (with_reducible exact Below.refl _ _) | (with_reducible assumption) | (with_reducible refine below_drewN ?_ _) | (with_reducible refine Below.drew ?_) | (with_reducible refine below_new ?_ (Nat.le_refl _) _) | (with_reducible refine Below.setCell ?_ ?_ _) | (with_reducible refine below_go ?_ (by assumption) (Nat.le_refl _)) | (simp; done) | (simp; omega) | omega))⟩
      · obtain rfl : -A = x := by rcases hx with ⟨_, h⟩ | ⟨h, _⟩; exact h; cases h
        rw [fitV_yes (by omega), fitB_yes (by omega)]
        clear hx
        go_enter Try.func44, Try.ntmps44
        go_wp2
        go_ret2
        exact ⟨rfl, by (repeat' (first | (with_reducible exact Below.refl _ _) | (with_reducible assumption) | (with_reducible refine below_drewN ?_ _) | (with_reducible refine Below.drew ?_) | (with_reducible refine below_new ?_ (Nat.le_refl _) _) | (with_reducible refine Below.setCell ?_ ?_ _) | (with_reducible refine below_go ?_ (by assumption) (Nat.le_refl _)) | (simp; done) | (simp; omega) | omega))⟩
    · by_cases he : m = true ∧ A = 9223372036854775808
      · obtain ⟨rfl, rfl⟩ := he
        obtain rfl : -9223372036854775808 = x := by rcases hx with ⟨_, h⟩ | ⟨h, _⟩; exact h; cases h
        rw [fitV_yes (by omega), fitB_yes (by omega)]
        clear hx
        go_enter Try.func44, Try.ntmps44
        go_wp2
        go_ret2
        exact ⟨rfl, by (repeat' (first | (with_reducible exact Below.refl _ _) | (with_reducible assumption) | (with_reducible refine below_drewN ?_ _) | (with_reducible refine Below.drew ?_) | (with_reducible refine below_new ?_ (Nat.le_refl _) _) | (with_reducible refine Below.setCell ?_ ?_ _) | (with_reducible refine below_go ?_ (by assumption) (Nat.le_refl _)) | (simp; done) | (simp; omega) | omega))⟩
      · have hno : ¬ (-9223372036854775808 ≤ x ∧ x ≤ 9223372036854775807) := by
          rcases hx with ⟨h1, h2⟩ | ⟨_, h⟩
          · have : A ≠ 9223372036854775808 := fun e => he ⟨h1, e⟩
            omega
          · omega
        rw [fitV_no hno, fitB_no hno]
        have h64 : ¬ A < 9223372036854775808 := h63
        cases m
        · clear hx hno he
          go_enter Try.func44, Try.ntmps44
          go_wp2
          go_ret2
          exact ⟨rfl, by (repeat' (first | (with_reducible exact Below.refl _ _) | (with_reducible assumption) | (with_reducible refine below_drewN ?_ _) | (with_reducible refine Below.drew ?_) | (with_reducible refine below_new ?_ (Nat.le_refl _) _) | (with_reducible refine Below.setCell ?_ ?_ _) | (with_reducible refine below_go ?_ (by assumption) (Nat.le_refl _)) | (simp; done) | (simp; omega) | omega))⟩
        · have hne : (A == 9223372036854775808) = false := beq_eq_false_iff_ne.2 fun e => he ⟨rfl, e⟩
          clear hx hno he
          go_enter Try.func44, Try.ntmps44
          go_wp2
          go_ret2
          exact ⟨rfl, by (repeat' (first | (with_reducible exact Below.refl _ _) | (with_reducible assumption) | (with_reducible refine below_drewN ?_ _) | (with_reducible refine Below.drew ?_) | (with_reducible refine below_new ?_ (Nat.le_refl _) _) | (with_reducible refine Below.setCell ?_ ?_ _) | (with_reducible refine below_go ?_ (by assumption) (Nat.le_refl _)) | (simp; done) | (simp; omega) | omega))⟩
  · have hno : ¬ (-9223372036854775808 ≤ x ∧ x ≤ 9223372036854775807) := by omega
    rw [fitV_no hno, fitB_no hno]
    have hh := fun h => hlow ((dg_high A hA).1 h)
    by_cases h2 : d2 A = 0
    · have h3 : d3 A ≠ 0 := fun h => hh ⟨h2, h⟩
      rw [h2]
      clear hh h2 hno hlow hx hs hA
      generalize d0 A = a0 at *
      generalize d1 A = a1 at *
      generalize d2 A = a2 at *
      generalize d3 A = a3 at *
      have h3b : (a3 != 0) = true := by rw [bne_iff_ne]; exact h3
      go_enter Try.func44, Try.ntmps44
      go_wp2
      go_ret2
      exact ⟨rfl, by (repeat' (first | (with_reducible exact Below.refl _ _) | (with_reducible assumption) | (with_reducible refine below_drewN ?_ _) | (with_reducible refine Below.drew ?_) | (with_reducible refine below_new ?_ (Nat.le_refl _) _) | (with_reducible refine Below.setCell ?_ ?_ _) | (with_reducible refine below_go ?_ (by assumption) (Nat.le_refl _)) | (simp; done) | (simp; omega) | omega))⟩
    · clear hh hno hlow hx hs hA
      generalize d0 A = a0 at *
      generalize d1 A = a1 at *
      generalize d2 A = a2 at *
      generalize d3 A = a3 at *
      have h2b : (a2 != 0) = true := by rw [bne_iff_ne]; exact h2
      go_enter Try.func44, Try.ntmps44
      go_wp2
      go_ret2
      exact ⟨rfl, by (repeat' (first | (with_reducible exact Below.refl _ _) | (with_reducible assumption) | (with_reducible refine below_drewN ?_ _) | (with_reducible refine Below.drew ?_) | (with_reducible refine below_new ?_ (Nat.le_refl _) _) | (with_reducible refine Below.setCell ?_ ?_ _) | (with_reducible refine below_go ?_ (by assumption) (Nat.le_refl _)) | (simp; done) | (simp; omega) | omega))⟩

end Go.Proofs.Ytcamegfnhbbaeaa

namespace Go.Proofs.Ytcamegfnhbbaeaa
open Go.RowKit
set_option linter.unusedVariables false
set_option linter.unusedSimpArgs false
attribute [local go_sem] ite_max ite_min vite_max vite_min ext_cell ext_frozen

set_option maxRecDepth 100000 in
set_option maxHeartbeats 1000000 in
theorem rplus_same (A C : Int) (m : Bool) (w : World) (hA : 0 ≤ A ∧ A < 340282366920938463463374607431768211456) (hC : 0 ≤ C ∧ C < 340282366920938463463374607431768211456) (hs : A + C < 340282366920938463463374607431768211456) :
    Calls Try.prog 45 #[.agg #[.int .u64 (d0 A), .int .u64 (d1 A), .int .u64 (d2 A), .int .u64 (d3 A), .bool m], .agg #[.int .u64 (d0 C), .int .u64 (d1 C), .int .u64 (d2 C), .int .u64 (d3 C), .bool m]] w fun e w' =>
      e = .returned (.agg #[.int .u64 (d0 (A + C)), .int .u64 (d1 (A + C)), .int .u64 (d2 (A + C)), .int .u64 (d3 (A + C)), .bool m]) ∧ Below w.heap.size w w' := by
  go_enter Try.func45, Try.ntmps45
  go_wp2_with fail
  refine (rsum_at A C m m _ hA hC hs).mono ?_
  rintro e w1 ⟨rfl, hb1⟩
  obtain ⟨hb1c, hb1f⟩ := bcell hb1
  have hb1z := hb1.size
  have hb1c0 := fun o => hb1c (w.heap.size) o (by first | (simp; done) | (simp; omega) | (simp at *; omega) | omega)
  have hb1f0 := fun o => hb1f (w.heap.size) o (by first | (simp; done) | (simp; omega) | (simp at *; omega) | omega)
  have hb1l0 := below_lt (b := w.heap.size) hb1 (by first | (simp; done) | (simp; omega) | (simp at *; omega) | omega)
  have hb1c1 := fun o => hb1c (w.heap.size + 1) o (by first | (simp; done) | (simp; omega) | (simp at *; omega) | omega)
  have hb1f1 := fun o => hb1f (w.heap.size + 1) o (by first | (simp; done) | (simp; omega) | (simp at *; omega) | omega)
  have hb1l1 := below_lt (b := w.heap.size + 1) hb1 (by first | (simp; done) | (simp; omega) | (simp at *; omega) | omega)
  have hb1c2 := fun o => hb1c (w.heap.size + 1 + 1) o (by first | (simp; done) | (simp; omega) | (simp at *; omega) | omega)
  have hb1f2 := fun o => hb1f (w.heap.size + 1 + 1) o (by first | (simp; done) | (simp; omega) | (simp at *; omega) | omega)
  have hb1l2 := below_lt (b := w.heap.size + 1 + 1) hb1 (by first | (simp; done) | (simp; omega) | (simp at *; omega) | omega)
  go_wp2
  exact bodyPost_ret (v := .agg #[.int .u64 (d0 (A + C)), .int .u64 (d1 (A + C)), .int .u64 (d2 (A + C)), .int .u64 (d3 (A + C)), .bool m]) (by simp [results, Try.results45, go_sem, hb1c2]) rfl ⟨rfl, by (repeat' (first | (with_reducible exact Below.refl _ _) | (with_reducible assumption) | (with_reducible refine below_drewN ?_ _) | (with_reducible refine Below.drew ?_) | (with_reducible refine below_new ?_ (Nat.le_refl _) _) | (with_reducible refine Below.setCell ?_ ?_ _) | (with_reducible refine below_go ?_ (by assumption) (Nat.le_refl _)) | (simp; done) | (simp; omega) | omega))⟩

set_option maxRecDepth 100000 in
set_option maxHeartbeats 1000000 in
theorem rplus_ge (A C : Int) (m n : Bool) (w : World) (hA : 0 ≤ A ∧ A < 340282366920938463463374607431768211456) (hC : 0 ≤ C ∧ C < 340282366920938463463374607431768211456) (hs : C ≤ A) (hne : (m == n) = false) :
    Calls Try.prog 45 #[.agg #[.int .u64 (d0 A), .int .u64 (d1 A), .int .u64 (d2 A), .int .u64 (d3 A), .bool m], .agg #[.int .u64 (d0 C), .int .u64 (d1 C), .int .u64 (d2 C), .int .u64 (d3 C), .bool n]] w fun e w' =>
      e = .returned (.agg #[.int .u64 (d0 (A - C)), .int .u64 (d1 (A - C)), .int .u64 (d2 (A - C)), .int .u64 (d3 (A - C)), .bool m]) ∧ Below w.heap.size w w' := by
  have hc := fun w => rcmp_at A C m n w hA hC
  have hv : 0 ≤ cmpV A C := by
    by_cases h : A = C
    · rw [cmpV_eq h]; omega
    · rw [cmpV_gt (by omega)]; omega
  generalize cmpV A C = q at hc hv
  have HC := Lib.hid hc
  clear hc
  go_enter Try.func45, Try.ntmps45
  go_wp2_with fail
  refine (HC.out _).mono ?_
  rintro e w1 ⟨rfl, hb1⟩
  obtain ⟨hb1c, hb1f⟩ := bcell hb1
  have hb1z := hb1.size
  have hb1c0 := fun o => hb1c (w.heap.size) o (by first | (simp; done) | (simp; omega) | (simp at *; omega) | omega)
  have hb1f0 := fun o => hb1f (w.heap.size) o (by first | (simp; done) | (simp; omega) | (simp at *; omega) | omega)
  have hb1l0 := below_lt (b := w.heap.size) hb1 (by first | (simp; done) | (simp; omega) | (simp at *; omega) | omega)
  have hb1c1 := fun o => hb1c (w.heap.size + 1) o (by first | (simp; done) | (simp; omega) | (simp at *; omega) | omega)
  have hb1f1 := fun o => hb1f (w.heap.size + 1) o (by first | (simp; done) | (simp; omega) | (simp at *; omega) | omega)
  have hb1l1 := below_lt (b := w.heap.size + 1) hb1 (by first | (simp; done) | (simp; omega) | (simp at *; omega) | omega)
  have hb1c2 := fun o => hb1c (w.heap.size + 1 + 1) o (by first | (simp; done) | (simp; omega) | (simp at *; omega) | omega)
  have hb1f2 := fun o => hb1f (w.heap.size + 1 + 1) o (by first | (simp; done) | (simp; omega) | (simp at *; omega) | omega)
  have hb1l2 := below_lt (b := w.heap.size + 1 + 1) hb1 (by first | (simp; done) | (simp; omega) | (simp at *; omega) | omega)
  go_wp2_with fail
  refine (rless_at A C m n _ hA hC hs).mono ?_
  rintro e w2 ⟨rfl, hb2⟩
  have z1 := hb1.size
  obtain ⟨hb2c, hb2f⟩ := bcell hb2
  have hb2z := hb2.size
  have hb2c0 := fun o => hb2c (w.heap.size) o (by first | (simp; done) | (simp; omega) | (simp at *; omega) | omega)
  have hb2f0 := fun o => hb2f (w.heap.size) o (by first | (simp; done) | (simp; omega) | (simp at *; omega) | omega)
  have hb2l0 := below_lt (b := w.heap.size) hb2 (by first | (simp; done) | (simp; omega) | (simp at *; omega) | omega)
  have hb2c1 := fun o => hb2c (w.heap.size + 1) o (by first | (simp; done) | (simp; omega) | (simp at *; omega) | omega)
  have hb2f1 := fun o => hb2f (w.heap.size + 1) o (by first | (simp; done) | (simp; omega) | (simp at *; omega) | omega)
  have hb2l1 := below_lt (b := w.heap.size + 1) hb2 (by first | (simp; done) | (simp; omega) | (simp at *; omega) | omega)
  have hb2c2 := fun o => hb2c (w.heap.size + 1 + 1) o (by first | (simp; done) | (simp; omega) | (simp at *; omega) | omega)
  have hb2f2 := fun o => hb2f (w.heap.size + 1 + 1) o (by first | (simp; done) | (simp; omega) | (simp at *; omega) | omega)
  have hb2l2 := below_lt (b := w.heap.size + 1 + 1) hb2 (by first | (simp; done) | (simp; omega) | (simp at *; omega) | omega)
  go_wp2
  exact bodyPost_ret (v := .agg #[.int .u64 (d0 (A - C)), .int .u64 (d1 (A - C)), .int .u64 (d2 (A - C)), .int .u64 (d3 (A - C)), .bool m]) (by simp [results, Try.results45, go_sem, hb1c2, hb2c2]) rfl ⟨rfl, by (repeat' (first | (with_reducible exact Below.refl _ _) | (with_reducible assumption) | (with_reducible refine below_drewN ?_ _) | (with_reducible refine Below.drew ?_) | (with_reducible refine below_new ?_ (Nat.le_refl _) _) | (with_reducible refine Below.setCell ?_ ?_ _) | (with_reducible refine below_go ?_ (by assumption) (Nat.le_refl _)) | (simp; done) | (simp; omega) | omega))⟩

set_option maxRecDepth 100000 in
set_option maxHeartbeats 1000000 in
theorem rplus_lt (A C : Int) (m n : Bool) (w : World) (hA : 0 ≤ A ∧ A < 340282366920938463463374607431768211456) (hC : 0 ≤ C ∧ C < 340282366920938463463374607431768211456) (hs : A < C) (hne : (m == n) = false) :
    Calls Try.prog 45 #[.agg #[.int .u64 (d0 A), .int .u64 (d1 A), .int .u64 (d2 A), .int .u64 (d3 A), .bool m], .agg #[.int .u64 (d0 C), .int .u64 (d1 C), .int .u64 (d2 C), .int .u64 (d3 C), .bool n]] w fun e w' =>
      e = .returned (.agg #[.int .u64 (d0 (C - A)), .int .u64 (d1 (C - A)), .int .u64 (d2 (C - A)), .int .u64 (d3 (C - A)), .bool n]) ∧ Below w.heap.size w w' := by
  have hc := fun w => rcmp_at A C m n w hA hC
  have hv : cmpV A C < 0 := by rw [cmpV_lt hs]; omega
  generalize cmpV A C = q at hc hv
  have HC := Lib.hid hc
  clear hc
  go_enter Try.func45, Try.ntmps45
  go_wp2_with fail
  refine (HC.out _).mono ?_
  rintro e w1 ⟨rfl, hb1⟩
  obtain ⟨hb1c, hb1f⟩ := bcell hb1
  have hb1z := hb1.size
  have hb1c0 := fun o => hb1c (w.heap.size) o (by first | (simp; done) | (simp; omega) | (simp at *; omega) | omega)
  have hb1f0 := fun o => hb1f (w.heap.size) o (by first | (simp; done) | (simp; omega) | (simp at *; omega) | omega)
  have hb1l0 := below_lt (b := w.heap.size) hb1 (by first | (simp; done) | (simp; omega) | (simp at *; omega) | omega)
  have hb1c1 := fun o => hb1c (w.heap.size + 1) o (by first | (simp; done) | (simp; omega) | (simp at *; omega) | omega)
  have hb1f1 := fun o => hb1f (w.heap.size + 1) o (by first | (simp; done) | (simp; omega) | (simp at *; omega) | omega)
  have hb1l1 := below_lt (b := w.heap.size + 1) hb1 (by first | (simp; done) | (simp; omega) | (simp at *; omega) | omega)
  have hb1c2 := fun o => hb1c (w.heap.size + 1 + 1) o (by first | (simp; done) | (simp; omega) | (simp at *; omega) | omega)
  have hb1f2 := fun o => hb1f (w.heap.size + 1 + 1) o (by first | (simp; done) | (simp; omega) | (simp at *; omega) | omega)
  have hb1l2 := below_lt (b := w.heap.size + 1 + 1) hb1 (by first | (simp; done) | (simp; omega) | (simp at *; omega) | omega)
  go_wp2_with fail
  refine (rless_at C A n m _ hC hA (by omega)).mono ?_
  rintro e w2 ⟨rfl, hb2⟩
  have z1 := hb1.size
  obtain ⟨hb2c, hb2f⟩ := bcell hb2
  have hb2z := hb2.size
  have hb2c0 := fun o => hb2c (w.heap.size) o (by first | (simp; done) | (simp; omega) | (simp at *; omega) | omega)
  have hb2f0 := fun o => hb2f (w.heap.size) o (by first | (simp; done) | (simp; omega) | (simp at *; omega) | omega)
  have hb2l0 := below_lt (b := w.heap.size) hb2 (by first | (simp; done) | (simp; omega) | (simp at *; omega) | omega)
  have hb2c1 := fun o => hb2c (w.heap.size + 1) o (by first | (simp; done) | (simp; omega) | (simp at *; omega) | omega)
  have hb2f1 := fun o => hb2f (w.heap.size + 1) o (by first | (simp; done) | (simp; omega) | (simp at *; omega) | omega)
  have hb2l1 := below_lt (b := w.heap.size + 1) hb2 (by first | (simp; done) | (simp; omega) | (simp at *; omega) | omega)
  have hb2c2 := fun o => hb2c (w.heap.size + 1 + 1) o (by first | (simp; done) | (simp; omega) | (simp at *; omega) | omega)
  have hb2f2 := fun o => hb2f (w.heap.size + 1 + 1) o (by first | (simp; done) | (simp; omega) | (simp at *; omega) | omega)
  have hb2l2 := below_lt (b := w.heap.size + 1 + 1) hb2 (by first | (simp; done) | (simp; omega) | (simp at *; omega) | omega)
  go_wp2
  exact bodyPost_ret (v := .agg #[.int .u64 (d0 (C - A)), .int .u64 (d1 (C - A)), .int .u64 (d2 (C - A)), .int .u64 (d3 (C - A)), .bool n]) (by simp [results, Try.results45, go_sem, hb1c2, hb2c2]) rfl ⟨rfl, by (repeat' (first | (with_reducible exact Below.refl _ _) | (with_reducible assumption) | (with_reducible refine below_drewN ?_ _) | (with_reducible refine Below.drew ?_) | (with_reducible refine below_new ?_ (Nat.le_refl _) _) | (with_reducible refine Below.setCell ?_ ?_ _) | (with_reducible refine below_go ?_ (by assumption) (Nat.le_refl _)) | (simp; done) | (simp; omega) | omega))⟩

end Go.Proofs.Ytcamegfnhbbaeaa

namespace Go.Proofs.Ytcamegfnhbbaeaa
open Go.RowKit
set_option linter.unusedVariables false
set_option linter.unusedSimpArgs false
attribute [local go_sem] ite_max ite_min vite_max vite_min ext_cell ext_frozen

/-- a size with its sign -/
def sg (V : Int) (k : Bool) : Int := bif k then -V else V
theorem sg_cases (V : Int) (k : Bool) (x : Int) (h : sg V k = x) : (k = true ∧ -V = x) ∨ (k = false ∧ V = x) := by
  cases k
  · exact .inr ⟨rfl, h⟩
  · exact .inl ⟨rfl, h⟩
/-- some number in parts, of that value -/
def PlusPost (x : Int) (w : World) (e : Ending) (w' : World) : Prop := ∃ (V : Int) (k : Bool), e = .returned (.agg #[.int .u64 (d0 V), .int .u64 (d1 V), .int .u64 (d2 V), .int .u64 (d3 V), .bool k]) ∧ (0 ≤ V ∧ V < 340282366920938463463374607431768211456) ∧ sg V k = x ∧ Below w.heap.size w w'

theorem rplus_any (A C x : Int) (m n : Bool) (w : World) (hA : 0 ≤ A ∧ A < 340282366920938463463374607431768211456) (hC : 0 ≤ C ∧ C < 340282366920938463463374607431768211456) (hs : A + C < 340282366920938463463374607431768211456) (hx : sg A m + sg C n = x) :
    Calls Try.prog 45 #[.agg #[.int .u64 (d0 A), .int .u64 (d1 A), .int .u64 (d2 A), .int .u64 (d3 A), .bool m], .agg #[.int .u64 (d0 C), .int .u64 (d1 C), .int .u64 (d2 C), .int .u64 (d3 C), .bool n]] w (PlusPost x w) := by
  subst hx
  cases hmn : (m == n)
  · by_cases h : C ≤ A
    · refine (rplus_ge A C m n w hA hC h hmn).mono ?_
      rintro e w' ⟨rfl, hb⟩
      refine ⟨A - C, m, rfl, by omega, ?_, hb⟩
      cases m <;> cases n <;> simp_all [sg] <;> omega
    · refine (rplus_lt A C m n w hA hC (by omega) hmn).mono ?_
      rintro e w' ⟨rfl, hb⟩
      refine ⟨C - A, n, rfl, by omega, ?_, hb⟩
      cases m <;> cases n <;> simp_all [sg] <;> omega
  · obtain rfl : m = n := by simpa using hmn
    refine (rplus_same A C m w hA hC hs).mono ?_
    rintro e w' ⟨rfl, hb⟩
    refine ⟨A + C, m, rfl, by omega, ?_, hb⟩
    cases m <;> simp [sg] <;> omega

set_option maxRecDepth 100000 in
set_option maxHeartbeats 1000000 in
theorem radd_at (a b x : Int) (w : World) (ha : -9223372036854775808 ≤ a ∧ a ≤ 9223372036854775807) (hb : -9223372036854775808 ≤ b ∧ b ≤ 9223372036854775807) (hx : a + b = x) :
    Calls Try.prog 22 #[.int .i64 a, .int .i64 b] w fun e w' => e = .returned (.tuple #[.int .i64 (fitV x), .bool (fitB x)]) ∧ Below w.heap.size w w' := by
  have HX : Hid (sg (max a (-a)) (decide (a < 0)) + sg (max b (-b)) (decide (b < 0)) = x) := Lib.hid (by
    by_cases h1 : a < 0 <;> by_cases h2 : b < 0 <;> simp only [h1, h2, decide_true, decide_false, sg, cond_true, cond_false] <;> omega)
  have hA : 0 ≤ max a (-a) ∧ max a (-a) ≤ 9223372036854775808 := by omega
  have hB : 0 ≤ max b (-b) ∧ max b (-b) ≤ 9223372036854775808 := by omega
  have HOA := Lib.hid (fun w => rof_at a w ha)
  have HOB := Lib.hid (fun w => rof_at b w hb)
  generalize max a (-a) = A at *
  generalize max b (-b) = B at *
  obtain ⟨sa, hsa⟩ : ∃ sa, decide (a < 0) = sa := ⟨_, rfl⟩
  obtain ⟨sb, hsb⟩ : ∃ sb, decide (b < 0) = sb := ⟨_, rfl⟩
  rw [hsa] at HOA HX
  rw [hsb] at HOB HX
  clear hx hsa hsb
  go_enter Try.func22, Try.ntmps22
  go_wp2_with fail
  refine (HOA.out _).mono ?_
  rintro e w1 ⟨rfl, hb1⟩
  go_wp2_with fail
  refine (HOB.out _).mono ?_
  rintro e w2 ⟨rfl, hb2⟩
  go_wp2_with fail
  refine (rplus_any A B x sa sb _ (by omega) (by omega) (by omega) HX.out).mono ?_
  rintro e w3 ⟨V, k, rfl, hV, hk, hb3⟩
  have HK := Lib.hid hk
  clear hk
  go_wp2_with fail
  refine (rroom_at V x k _ hV (sg_cases V k x HK.out)).mono ?_
  rintro e w4 ⟨rfl, hb4⟩
  go_wp2
  go_ret2
  exact ⟨rfl, (hb1.trans (hb2.mono hb1.size)).trans ((hb3.mono (Nat.le_trans hb1.size hb2.size)).trans (hb4.mono (Nat.le_trans hb1.size (Nat.le_trans hb2.size hb3.size))))⟩

set_option maxRecDepth 100000 in
set_option maxHeartbeats 1000000 in
theorem rsub_at (a b x : Int) (w : World) (ha : -9223372036854775808 ≤ a ∧ a ≤ 9223372036854775807) (hb : -9223372036854775808 ≤ b ∧ b ≤ 9223372036854775807) (hx : a - b = x) :
    Calls Try.prog 21 #[.int .i64 a, .int .i64 b] w fun e w' => e = .returned (.tuple #[.int .i64 (fitV x), .bool (fitB x)]) ∧ Below w.heap.size w w' := by
  have HX : Hid (sg (max a (-a)) (decide (a < 0)) + sg (max b (-b)) (!decide (b < 0)) = x) := Lib.hid (by
    by_cases h1 : a < 0 <;> by_cases h2 : b < 0 <;> simp only [h1, h2, decide_true, decide_false, sg, cond_true, cond_false, Bool.not_true, Bool.not_false] <;> omega)
  have hA : 0 ≤ max a (-a) ∧ max a (-a) ≤ 9223372036854775808 := by omega
  have hB : 0 ≤ max b (-b) ∧ max b (-b) ≤ 9223372036854775808 := by omega
  have HOA := Lib.hid (fun w => rof_at a w ha)
  have HOB := Lib.hid (fun w => rof_at b w hb)
  generalize max a (-a) = A at *
  generalize max b (-b) = B at *
  obtain ⟨sa, hsa⟩ : ∃ sa, decide (a < 0) = sa := ⟨_, rfl⟩
  obtain ⟨sb, hsb⟩ : ∃ sb, decide (b < 0) = sb := ⟨_, rfl⟩
  rw [hsa] at HOA HX
  rw [hsb] at HOB HX
  clear hx hsa hsb
  go_enter Try.func21, Try.ntmps21
  go_wp2_with fail
  refine (HOA.out _).mono ?_
  rintro e w1 ⟨rfl, hb1⟩
  go_wp2_with fail
  refine (HOB.out _).mono ?_
  rintro e w2 ⟨rfl, hb2⟩
  go_wp2_with fail
  refine (rturned_at _ _ _ _ sb _).mono ?_
  rintro e w2' ⟨rfl, hb2'⟩
  go_wp2_with fail
  refine (rplus_any A B x sa (!sb) _ (by omega) (by omega) (by omega) HX.out).mono ?_
  rintro e w3 ⟨V, k, rfl, hV, hk, hb3⟩
  have HK := Lib.hid hk
  clear hk
  go_wp2_with fail
  refine (rroom_at V x k _ hV (sg_cases V k x HK.out)).mono ?_
  rintro e w4 ⟨rfl, hb4⟩
  go_wp2
  go_ret2
  have z1 := hb1.size
  have z2 := hb2.size
  have z3 := hb2'.size
  have z4 := hb3.size
  exact ⟨rfl, (((hb1.trans (hb2.mono (by omega))).trans (hb2'.mono (by omega))).trans (hb3.mono (by omega))).trans (hb4.mono (by omega))⟩

end Go.Proofs.Ytcamegfnhbbaeaa
