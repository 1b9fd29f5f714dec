/- Contracts of the reference of layer 1: a size and its sign, in four parts. -/
import Derived.Test.YtcamegfnhbbaeaaPWide
import Derived.Test.YtcamegfnhbbaeaaExt
namespace Go.Proofs.Ytcamegfnhbbaeaa
open Go.RowKit
set_option linter.unusedVariables false
set_option linter.unusedSimpArgs false
attribute [local go_sem] ite_max ite_min vite_max vite_min ext_cell ext_frozen

set_option maxRecDepth 100000 in
set_option maxHeartbeats 2000000 in
theorem rof_at (a : Int) (w : World) (ha : -9223372036854775808 ≤ a ∧ a ≤ 9223372036854775807) :
    Calls Try.prog 46 #[.int .i64 a] w fun e w' => e = .returned (.agg #[.int .u64 (d0 (max a (-a))), .int .u64 (d1 (max a (-a))), .int .u64 (d2 (max a (-a))), .int .u64 (d3 (max a (-a))), .bool (decide (a < 0))]) ∧ Below w.heap.size w w' := by
  have hl := dg_low (max a (-a)) (by omega)
  obtain ⟨e0, e1, e2, e3⟩ := hl
  rw [e0, e1, e2, e3]
  clear e0 e1 e2 e3
  by_cases h : 0 ≤ a
  · rw [show max a (-a) = a by omega]
    have hs : decide (a < 0) = false := decide_eq_false (by omega)
    rw [hs]
    go_enter Try.func46, Try.ntmps46
    go_wp2
    exact bodyPost_ret (v := .agg #[.int .u64 (a % 4294967296), .int .u64 (a / 4294967296), .int .u64 0, .int .u64 0, .bool false]) (by simp [results, Try.results46, go_sem]) rfl ⟨rfl, by (repeat' (first | (with_reducible exact Below.refl _ _) | (with_reducible assumption) | (with_reducible refine below_drewN ?_ _) | (with_reducible refine Below.drew ?_) | (with_reducible refine below_new ?_ (Nat.le_refl _) _) | (with_reducible refine Below.setCell ?_ ?_ _) | (with_reducible refine below_go ?_ (by assumption) (Nat.le_refl _)) | (simp; done) | (simp; omega) | omega))⟩
  · rw [show max a (-a) = -a by omega]
    have hs : decide (a < 0) = true := decide_eq_true (by omega)
    rw [hs]
    obtain ⟨b, hb⟩ : ∃ b, -a = b := ⟨_, rfl⟩
    rw [hb]
    have hbb : 0 ≤ b ∧ b ≤ 9223372036854775808 := by omega
    obtain ⟨t, ht⟩ : ∃ t, IntKind.u64.wrap a = t := ⟨_, rfl⟩
    have h2 : IntKind.u64.wrap (-t) = b := by
      rw [← ht, ← hb, IntKind.wrap_u64, IntKind.wrap_u64]
      omega
    clear hb
    go_enter Try.func46, Try.ntmps46
    go_wp2
    exact bodyPost_ret (v := .agg #[.int .u64 (b % 4294967296), .int .u64 (b / 4294967296), .int .u64 0, .int .u64 0, .bool true]) (by simp [results, Try.results46, go_sem]) rfl ⟨rfl, by (repeat' (first | (with_reducible exact Below.refl _ _) | (with_reducible assumption) | (with_reducible refine below_drewN ?_ _) | (with_reducible refine Below.drew ?_) | (with_reducible refine below_new ?_ (Nat.le_refl _) _) | (with_reducible refine Below.setCell ?_ ?_ _) | (with_reducible refine below_go ?_ (by assumption) (Nat.le_refl _)) | (simp; done) | (simp; omega) | omega))⟩

/-- one of five -/
def pk5 (k : Nat) (x0 x1 x2 x3 x4 : Int) : Int := match k with | 0 => x0 | 1 => x1 | 2 => x2 | 3 => x3 | _ => x4
/-- a variable of that type, whatever it holds -/
structure wideAt (w : World) (b : Nat) : Prop where
  c0 : w.cell? ⟨b, 0, none⟩ = some (.int .u64 0)
  c1 : w.cell? ⟨b, 1, none⟩ = some (.int .u64 0)
  c2 : w.cell? ⟨b, 2, none⟩ = some (.int .u64 0)
  c3 : w.cell? ⟨b, 3, none⟩ = some (.int .u64 0)
  c4 : w.cell? ⟨b, 4, none⟩ = some (.bool false)
  f : ∀ o, w.frozen? ⟨b, o, none⟩ = false

set_option maxRecDepth 100000 in
set_option maxHeartbeats 4000000 in
theorem rsum_at (A C : Int) (m n : Bool) (w : World) (hA : 0 ≤ A ∧ A < 340282366920938463463374607431768211456) (hC : 0 ≤ C ∧ C < 340282366920938463463374607431768211456) (hs : A + C < 340282366920938463463374607431768211456) :
    Calls Try.prog 65 #[.agg #[.int .u64 (d0 A), .int .u64 (d1 A), .int .u64 (d2 A), .int .u64 (d3 A), .bool m], .agg #[.int .u64 (d0 C), .int .u64 (d1 C), .int .u64 (d2 C), .int .u64 (d3 C), .bool n]] w fun e w' =>
      e = .returned (.agg #[.int .u64 (d0 (A + C)), .int .u64 (d1 (A + C)), .int .u64 (d2 (A + C)), .int .u64 (d3 (A + C)), .bool m]) ∧ Below w.heap.size w w' := by
  have ha := dg_bd A
  have hc := dg_bd C
  obtain ⟨r0, e0⟩ : ∃ r, (d0 A + d0 C) % 4294967296 = r := ⟨_, rfl⟩
  obtain ⟨c1, f0⟩ : ∃ r, (d0 A + d0 C) / 4294967296 = r := ⟨_, rfl⟩
  obtain ⟨r1, e1⟩ : ∃ r, (d1 A + d1 C + c1) % 4294967296 = r := ⟨_, rfl⟩
  obtain ⟨c2, f1⟩ : ∃ r, (d1 A + d1 C + c1) / 4294967296 = r := ⟨_, rfl⟩
  obtain ⟨r2, e2⟩ : ∃ r, (d2 A + d2 C + c2) % 4294967296 = r := ⟨_, rfl⟩
  obtain ⟨c3, f2⟩ : ∃ r, (d2 A + d2 C + c2) / 4294967296 = r := ⟨_, rfl⟩
  obtain ⟨r3, e3⟩ : ∃ r, (d3 A + d3 C + c3) % 4294967296 = r := ⟨_, rfl⟩
  obtain ⟨q0, q1, q2, q3⟩ := sum_parts A C hA hC hs r0 r1 r2 r3 c1 c2 c3 e0 f0 e1 f1 e2 f2 e3
  rw [← q0, ← q1, ← q2, ← q3]
  clear q0 q1 q2 q3 hs hA hC
  generalize d0 A = a0 at *
  generalize d1 A = a1 at *
  generalize d2 A = a2 at *
  generalize d3 A = a3 at *
  generalize d0 C = b0 at *
  generalize d1 C = b1 at *
  generalize d2 C = b2 at *
  generalize d3 C = b3 at *
  have k1 : 0 ≤ c1 ∧ c1 ≤ 1 := by omega
  have k2 : 0 ≤ c2 ∧ c2 ≤ 1 := by omega
  have k3 : 0 ≤ c3 ∧ c3 ≤ 1 := by omega
  obtain ⟨c4, f3⟩ : ∃ r, (a3 + b3 + c3) / 4294967296 = r := ⟨_, rfl⟩
  go_enter Try.func65, Try.ntmps65
  go_wp2_with fail
  go_loopw [5, 6] (fun u i w' => ∃ (k : Nat), k ≤ 4 ∧ i = .int .i64 (k : Int) ∧ u = .int .u64 (pk5 k 0 c1 c2 c3 c4) ∧ Below w.heap.size w w' ∧ w.heap.size + 2 < w'.heap.size ∧
    w'.cell? ⟨w.heap.size, 0, none⟩ = some (.int .u64 (bif decide (0 < k) then r0 else a0)) ∧ w'.cell? ⟨w.heap.size, 1, none⟩ = some (.int .u64 (bif decide (1 < k) then r1 else a1)) ∧ w'.cell? ⟨w.heap.size, 2, none⟩ = some (.int .u64 (bif decide (2 < k) then r2 else a2)) ∧ w'.cell? ⟨w.heap.size, 3, none⟩ = some (.int .u64 (bif decide (3 < k) then r3 else a3)) ∧ w'.cell? ⟨w.heap.size, 4, none⟩ = some (.bool m) ∧ (∀ o, w'.frozen? ⟨w.heap.size, o, none⟩ = false) ∧
    w'.cell? ⟨w.heap.size + 1, 0, none⟩ = some (.int .u64 b0) ∧ w'.cell? ⟨w.heap.size + 1, 1, none⟩ = some (.int .u64 b1) ∧ w'.cell? ⟨w.heap.size + 1, 2, none⟩ = some (.int .u64 b2) ∧ w'.cell? ⟨w.heap.size + 1, 3, none⟩ = some (.int .u64 b3) ∧
    wideAt w' (w.heap.size + 2)) (fun _ i _ => 4 - (intOf i).toNat)
  case atStart => exact ⟨0, by omega, rfl, rfl, by (repeat' (first | (with_reducible exact Below.refl _ _) | (with_reducible assumption) | (with_reducible refine below_drewN ?_ _) | (with_reducible refine Below.drew ?_) | (with_reducible refine below_new ?_ (Nat.le_refl _) _) | (with_reducible refine Below.setCell ?_ ?_ _) | (with_reducible refine below_go ?_ (by assumption) (Nat.le_refl _)) | (simp; done) | (simp; omega) | omega)), by simp, by go_simp, by go_simp, by go_simp, by go_simp, by go_simp, fun o => by go_simp, by go_simp, by go_simp, by go_simp, by go_simp, ⟨by go_simp, by go_simp, by go_simp, by go_simp, by go_simp, fun o => by go_simp⟩⟩
  case round =>
    obtain ⟨k, hk, rfl, rfl, hbr, hsz, x0, x1, x2, x3, x4, xf, y0, y1, y2, y3, hw⟩ := hrel
    have HW := Lib.hid hw
    clear hw
    rcases (by omega : k = 0 ∨ k = 1 ∨ k = 2 ∨ k = 3 ∨ k = 4) with rfl | rfl | rfl | rfl | rfl
    all_goals simp only [pk5, Nat.lt_irrefl, decide_false, cond_false, Nat.reduceLT, decide_true, cond_true, Nat.zero_lt_one] at x0 x1 x2 x3 ⊢
    all_goals obtain ⟨v0, v1, v2, v3, v4, vf⟩ := HW.out
    all_goals clear HW
    all_goals have z1 : w.heap.size < wr.heap.size := by omega
    all_goals have z2 : w.heap.size + 1 < wr.heap.size := by omega
    · go_wp2_with fail
      refine wp_region_ext (by kernel_rfl) (by kernel_rfl) ?_
      repeat (go_big_quiet_step (fail))
      refine wpQuiet_nil ?_
      intro w8 hb8
      replace hb8 := ext_below hb8
      have z3 := hb8.size
      obtain ⟨hb8c, hb8f⟩ := bcell hb8
      have hb8z := hb8.size
      have hb8c0 := fun o => hb8c (w.heap.size) o (by first | (simp; done) | (simp; omega) | (simp at *; omega) | omega)
      have hb8f0 := fun o => hb8f (w.heap.size) o (by first | (simp; done) | (simp; omega) | (simp at *; omega) | omega)
      have hb8l0 := below_lt (b := w.heap.size) hb8 (by first | (simp; done) | (simp; omega) | (simp at *; omega) | omega)
      have hb8c1 := fun o => hb8c (w.heap.size + 1) o (by first | (simp; done) | (simp; omega) | (simp at *; omega) | omega)
      have hb8f1 := fun o => hb8f (w.heap.size + 1) o (by first | (simp; done) | (simp; omega) | (simp at *; omega) | omega)
      have hb8l1 := below_lt (b := w.heap.size + 1) hb8 (by first | (simp; done) | (simp; omega) | (simp at *; omega) | omega)
      have hb8c2 := fun o => hb8c (w.heap.size + 2) o (by first | (simp; done) | (simp; omega) | (simp at *; omega) | omega)
      have hb8f2 := fun o => hb8f (w.heap.size + 2) o (by first | (simp; done) | (simp; omega) | (simp at *; omega) | omega)
      have hb8l2 := below_lt (b := w.heap.size + 2) hb8 (by first | (simp; done) | (simp; omega) | (simp at *; omega) | omega)
      go_wp2
      go_roundw
      case rel => exact ⟨0 + 1, by omega, rfl, congrArg (Value.int .u64) f0, by (repeat' (first | (with_reducible exact Below.refl _ _) | (with_reducible assumption) | (with_reducible refine below_drewN ?_ _) | (with_reducible refine Below.drew ?_) | (with_reducible refine below_new ?_ (Nat.le_refl _) _) | (with_reducible refine Below.setCell ?_ ?_ _) | (with_reducible refine below_go ?_ (by assumption) (Nat.le_refl _)) | (simp; done) | (simp; omega) | omega)), by simp; omega, by go_simp, by go_simp, by go_simp, by go_simp, by go_simp, fun o => by go_simp, by go_simp, by go_simp, by go_simp, by go_simp, ⟨by go_simp, by go_simp, by go_simp, by go_simp, by go_simp, fun o => by go_simp⟩⟩
      case measure => simp [intOf]
    · go_wp2_with fail
      refine wp_region_ext (by kernel_rfl) (by kernel_rfl) ?_
      repeat (go_big_quiet_step (fail))
      refine wpQuiet_nil ?_
      intro w8 hb8
      replace hb8 := ext_below hb8
      have z3 := hb8.size
      obtain ⟨hb8c, hb8f⟩ := bcell hb8
      have hb8z := hb8.size
      have hb8c0 := fun o => hb8c (w.heap.size) o (by first | (simp; done) | (simp; omega) | (simp at *; omega) | omega)
      have hb8f0 := fun o => hb8f (w.heap.size) o (by first | (simp; done) | (simp; omega) | (simp at *; omega) | omega)
      have hb8l0 := below_lt (b := w.heap.size) hb8 (by first | (simp; done) | (simp; omega) | (simp at *; omega) | omega)
      have hb8c1 := fun o => hb8c (w.heap.size + 1) o (by first | (simp; done) | (simp; omega) | (simp at *; omega) | omega)
      have hb8f1 := fun o => hb8f (w.heap.size + 1) o (by first | (simp; done) | (simp; omega) | (simp at *; omega) | omega)
      have hb8l1 := below_lt (b := w.heap.size + 1) hb8 (by first | (simp; done) | (simp; omega) | (simp at *; omega) | omega)
      have hb8c2 := fun o => hb8c (w.heap.size + 2) o (by first | (simp; done) | (simp; omega) | (simp at *; omega) | omega)
      have hb8f2 := fun o => hb8f (w.heap.size + 2) o (by first | (simp; done) | (simp; omega) | (simp at *; omega) | omega)
      have hb8l2 := below_lt (b := w.heap.size + 2) hb8 (by first | (simp; done) | (simp; omega) | (simp at *; omega) | omega)
      go_wp2
      go_roundw
      case rel => exact ⟨1 + 1, by omega, rfl, congrArg (Value.int .u64) f1, by (repeat' (first | (with_reducible exact Below.refl _ _) | (with_reducible assumption) | (with_reducible refine below_drewN ?_ _) | (with_reducible refine Below.drew ?_) | (with_reducible refine below_new ?_ (Nat.le_refl _) _) | (with_reducible refine Below.setCell ?_ ?_ _) | (with_reducible refine below_go ?_ (by assumption) (Nat.le_refl _)) | (simp; done) | (simp; omega) | omega)), by simp; omega, by go_simp, by go_simp, by go_simp, by go_simp, by go_simp, fun o => by go_simp, by go_simp, by go_simp, by go_simp, by go_simp, ⟨by go_simp, by go_simp, by go_simp, by go_simp, by go_simp, fun o => by go_simp⟩⟩
      case measure => simp [intOf]
    · go_wp2_with fail
      refine wp_region_ext (by kernel_rfl) (by kernel_rfl) ?_
      repeat (go_big_quiet_step (fail))
      refine wpQuiet_nil ?_
      intro w8 hb8
      replace hb8 := ext_below hb8
      have z3 := hb8.size
      obtain ⟨hb8c, hb8f⟩ := bcell hb8
      have hb8z := hb8.size
      have hb8c0 := fun o => hb8c (w.heap.size) o (by first | (simp; done) | (simp; omega) | (simp at *; omega) | omega)
      have hb8f0 := fun o => hb8f (w.heap.size) o (by first | (simp; done) | (simp; omega) | (simp at *; omega) | omega)
      have hb8l0 := below_lt (b := w.heap.size) hb8 (by first | (simp; done) | (simp; omega) | (simp at *; omega) | omega)
      have hb8c1 := fun o => hb8c (w.heap.size + 1) o (by first | (simp; done) | (simp; omega) | (simp at *; omega) | omega)
      have hb8f1 := fun o => hb8f (w.heap.size + 1) o (by first | (simp; done) | (simp; omega) | (simp at *; omega) | omega)
      have hb8l1 := below_lt (b := w.heap.size + 1) hb8 (by first | (simp; done) | (simp; omega) | (simp at *; omega) | omega)
      have hb8c2 := fun o => hb8c (w.heap.size + 2) o (by first | (simp; done) | (simp; omega) | (simp at *; omega) | omega)
      have hb8f2 := fun o => hb8f (w.heap.size + 2) o (by first | (simp; done) | (simp; omega) | (simp at *; omega) | omega)
      have hb8l2 := below_lt (b := w.heap.size + 2) hb8 (by first | (simp; done) | (simp; omega) | (simp at *; omega) | omega)
      go_wp2
      go_roundw
      case rel => exact ⟨2 + 1, by omega, rfl, congrArg (Value.int .u64) f2, by (repeat' (first | (with_reducible exact Below.refl _ _) | (with_reducible assumption) | (with_reducible refine below_drewN ?_ _) | (with_reducible refine Below.drew ?_) | (with_reducible refine below_new ?_ (Nat.le_refl _) _) | (with_reducible refine Below.setCell ?_ ?_ _) | (with_reducible refine below_go ?_ (by assumption) (Nat.le_refl _)) | (simp; done) | (simp; omega) | omega)), by simp; omega, by go_simp, by go_simp, by go_simp, by go_simp, by go_simp, fun o => by go_simp, by go_simp, by go_simp, by go_simp, by go_simp, ⟨by go_simp, by go_simp, by go_simp, by go_simp, by go_simp, fun o => by go_simp⟩⟩
      case measure => simp [intOf]
    · go_wp2_with fail
      refine wp_region_ext (by kernel_rfl) (by kernel_rfl) ?_
      repeat (go_big_quiet_step (fail))
      refine wpQuiet_nil ?_
      intro w8 hb8
      replace hb8 := ext_below hb8
      have z3 := hb8.size
      obtain ⟨hb8c, hb8f⟩ := bcell hb8
      have hb8z := hb8.size
      have hb8c0 := fun o => hb8c (w.heap.size) o (by first | (simp; done) | (simp; omega) | (simp at *; omega) | omega)
      have hb8f0 := fun o => hb8f (w.heap.size) o (by first | (simp; done) | (simp; omega) | (simp at *; omega) | omega)
      have hb8l0 := below_lt (b := w.heap.size) hb8 (by first | (simp; done) | (simp; omega) | (simp at *; omega) | omega)
      have hb8c1 := fun o => hb8c (w.heap.size + 1) o (by first | (simp; done) | (simp; omega) | (simp at *; omega) | omega)
      have hb8f1 := fun o => hb8f (w.heap.size + 1) o (by first | (simp; done) | (simp; omega) | (simp at *; omega) | omega)
      have hb8l1 := below_lt (b := w.heap.size + 1) hb8 (by first | (simp; done) | (simp; omega) | (simp at *; omega) | omega)
      have hb8c2 := fun o => hb8c (w.heap.size + 2) o (by first | (simp; done) | (simp; omega) | (simp at *; omega) | omega)
      have hb8f2 := fun o => hb8f (w.heap.size + 2) o (by first | (simp; done) | (simp; omega) | (simp at *; omega) | omega)
      have hb8l2 := below_lt (b := w.heap.size + 2) hb8 (by first | (simp; done) | (simp; omega) | (simp at *; omega) | omega)
      go_wp2
      go_roundw
      case rel => exact ⟨3 + 1, by omega, rfl, congrArg (Value.int .u64) f3, by (repeat' (first | (with_reducible exact Below.refl _ _) | (with_reducible assumption) | (with_reducible refine below_drewN ?_ _) | (with_reducible refine Below.drew ?_) | (with_reducible refine below_new ?_ (Nat.le_refl _) _) | (with_reducible refine Below.setCell ?_ ?_ _) | (with_reducible refine below_go ?_ (by assumption) (Nat.le_refl _)) | (simp; done) | (simp; omega) | omega)), by simp; omega, by go_simp, by go_simp, by go_simp, by go_simp, by go_simp, fun o => by go_simp, by go_simp, by go_simp, by go_simp, by go_simp, ⟨by go_simp, by go_simp, by go_simp, by go_simp, by go_simp, fun o => by go_simp⟩⟩
      case measure => simp [intOf]
    · go_wp2
      exact bodyPost_ret (v := .agg #[.int .u64 r0, .int .u64 r1, .int .u64 r2, .int .u64 r3, .bool m]) (by simp [results, Try.results65, go_sem, v0, v1, v2, v3, v4, vf]) rfl ⟨rfl, by (repeat' (first | (with_reducible exact Below.refl _ _) | (with_reducible assumption) | (with_reducible refine below_drewN ?_ _) | (with_reducible refine Below.drew ?_) | (with_reducible refine below_new ?_ (Nat.le_refl _) _) | (with_reducible refine Below.setCell ?_ ?_ _) | (with_reducible refine below_go ?_ (by assumption) (Nat.le_refl _)) | (simp; done) | (simp; omega) | omega))⟩

end Go.Proofs.Ytcamegfnhbbaeaa
