/- Contracts of the reference of layer 1: which size is greater. -/
import Derived.Test.YtcamegfnhbbaeaaRefB
namespace Go.Proofs.Ytcamegfnhbbaeaa
open Go.RowKit
set_option linter.unusedVariables false
set_option linter.unusedSimpArgs false
attribute [local go_sem] ite_max ite_min vite_max vite_min ext_cell ext_frozen

/-- -1, 0, 1 -/
def cmpV (A C : Int) : Int := if A < C then -1 else if C < A then 1 else 0
theorem cmpV_lt {A C : Int} (h : A < C) : cmpV A C = -1 := by unfold cmpV; rw [if_pos h]
theorem cmpV_gt {A C : Int} (h : C < A) : cmpV A C = 1 := by unfold cmpV; rw [if_neg (by omega), if_pos h]
theorem cmpV_eq {A C : Int} (h : A = C) : cmpV A C = 0 := by unfold cmpV; rw [if_neg (by omega), if_neg (by omega)]

/-- where the loop stands: the parts above are the same -/
def topEq (A C : Int) (k : Nat) : Prop := (k < 4 → d3 A = d3 C) ∧ (k < 3 → d2 A = d2 C) ∧ (k < 2 → d1 A = d1 C) ∧ (k < 1 → d0 A = d0 C)

def dgN (k : Nat) (v : Int) : Int := match k with | 0 => d0 v | 1 => d1 v | 2 => d2 v | _ => d3 v
theorem top_lt (A C : Int) (hA : 0 ≤ A ∧ A < 340282366920938463463374607431768211456) (hC : 0 ≤ C ∧ C < 340282366920938463463374607431768211456) (k : Nat) (hk : k < 4) (h : topEq A C (k + 1)) : (dgN k A < dgN k C → A < C) ∧ (dgN k C < dgN k A → C < A) ∧ (dgN k A = dgN k C → topEq A C k) := by
  have HP := cmp_parts A C hA hC
  obtain ⟨t3, t2, t1, t0⟩ := h
  rcases (by omega : k = 0 ∨ k = 1 ∨ k = 2 ∨ k = 3) with rfl | rfl | rfl | rfl
  · have p := (((HP.2.2 (t3 (by omega))).2.2 (t2 (by omega))).2.2 (t1 (by omega)))
    exact ⟨p.1, p.2.1, fun e => ⟨fun _ => t3 (by omega), fun _ => t2 (by omega), fun _ => t1 (by omega), fun _ => e⟩⟩
  · have p := ((HP.2.2 (t3 (by omega))).2.2 (t2 (by omega)))
    exact ⟨p.1, p.2.1, fun e => ⟨fun _ => t3 (by omega), fun _ => t2 (by omega), fun _ => e, fun h => by omega⟩⟩
  · have p := (HP.2.2 (t3 (by omega)))
    exact ⟨p.1, p.2.1, fun e => ⟨fun _ => t3 (by omega), fun _ => e, fun h => by omega, fun h => by omega⟩⟩
  · exact ⟨HP.1, HP.2.1, fun e => ⟨fun _ => e, fun h => by omega, fun h => by omega, fun h => by omega⟩⟩

set_option maxRecDepth 100000 in
set_option maxHeartbeats 4000000 in
theorem rcmp_at (A C : Int) (m n : Bool) (w : World) (hA : 0 ≤ A ∧ A < 340282366920938463463374607431768211456) (hC : 0 ≤ C ∧ C < 340282366920938463463374607431768211456) :
    Calls Try.prog 66 #[.agg #[.int .u64 (d0 A), .int .u64 (d1 A), .int .u64 (d2 A), .int .u64 (d3 A), .bool m], .agg #[.int .u64 (d0 C), .int .u64 (d1 C), .int .u64 (d2 C), .int .u64 (d3 C), .bool n]] w fun e w' =>
      e = .returned (.int .i64 (cmpV A C)) ∧ Below w.heap.size w w' := by
  have HP := Lib.hid (cmp_parts A C hA hC)
  have HTL := Lib.hid (top_lt A C hA hC)
  have ha := dg_bd A
  have hc := dg_bd C
  obtain ⟨R, hR⟩ : ∃ R, cmpV A C = R := ⟨_, rfl⟩
  rw [hR]
  have HR := Lib.hid hR
  clear hR hA hC
  go_enter Try.func66, Try.ntmps66
  go_wp2_with fail
  go_loopw [5] (fun i w' => ∃ (k : Nat), k ≤ 4 ∧ i = .int .i64 ((k : Int) - 1) ∧ Hid (topEq A C k) ∧ Below w.heap.size w w' ∧ w.heap.size + 1 < w'.heap.size ∧
    w'.cell? ⟨w.heap.size, 0, none⟩ = some (.int .u64 (d0 A)) ∧ w'.cell? ⟨w.heap.size, 1, none⟩ = some (.int .u64 (d1 A)) ∧ w'.cell? ⟨w.heap.size, 2, none⟩ = some (.int .u64 (d2 A)) ∧ w'.cell? ⟨w.heap.size, 3, none⟩ = some (.int .u64 (d3 A)) ∧
    w'.cell? ⟨w.heap.size + 1, 0, none⟩ = some (.int .u64 (d0 C)) ∧ w'.cell? ⟨w.heap.size + 1, 1, none⟩ = some (.int .u64 (d1 C)) ∧ w'.cell? ⟨w.heap.size + 1, 2, none⟩ = some (.int .u64 (d2 C)) ∧ w'.cell? ⟨w.heap.size + 1, 3, none⟩ = some (.int .u64 (d3 C))) (fun i _ => (intOf i + 1).toNat)
  case atStart => exact ⟨4, by omega, rfl, Lib.hid ⟨fun h => by omega, fun h => by omega, fun h => by omega, fun h => by omega⟩, by (repeat' (first | (with_reducible exact Below.refl _ _) | (with_reducible assumption) | (with_reducible refine below_drewN ?_ _) | (with_reducible refine Below.drew ?_) | (with_reducible refine below_new ?_ (Nat.le_refl _) _) | (with_reducible refine Below.setCell ?_ ?_ _) | (with_reducible refine below_go ?_ (by assumption) (Nat.le_refl _)) | (simp; done) | (simp; omega) | omega)), by simp, by go_simp, by go_simp, by go_simp, by go_simp, by go_simp, by go_simp, by go_simp, by go_simp⟩
  case round =>
    obtain ⟨k, hk, rfl, HT, hbr, hsz, x0, x1, x2, x3, y0, y1, y2, y3⟩ := hrel
    have z1 : w.heap.size < wr.heap.size := by omega
    rcases (by omega : k = 0 ∨ k = 1 ∨ k = 2 ∨ k = 3 ∨ k = 4) with rfl | rfl | rfl | rfl | rfl
    · have HF : Hid (0 = R) := Lib.hid (by
        obtain ⟨t3, t2, t1, t0⟩ := HT.out
        rw [← HR.out]
        exact (cmpV_eq ((((HP.out.2.2 (t3 (by omega))).2.2 (t2 (by omega))).2.2 (t1 (by omega))).2.2 (t0 (by omega)))).symm)
      go_wp2
      go_ret
      rw [HF.out]
      exact ⟨rfl, by (repeat' (first | (with_reducible exact Below.refl _ _) | (with_reducible assumption) | (with_reducible refine below_drewN ?_ _) | (with_reducible refine Below.drew ?_) | (with_reducible refine below_new ?_ (Nat.le_refl _) _) | (with_reducible refine Below.setCell ?_ ?_ _) | (with_reducible refine below_go ?_ (by assumption) (Nat.le_refl _)) | (simp; done) | (simp; omega) | omega))⟩
    · obtain ⟨l1, l2, l3⟩ := HTL.out 0 (by omega) HT.out
      obtain ⟨p, hp⟩ : ∃ p, d0 A = p := ⟨_, rfl⟩
      obtain ⟨q, hq⟩ : ∃ q, d0 C = q := ⟨_, rfl⟩
      have L1 : Hid (p < q → A < C) := Lib.hid (by rw [← hp, ← hq]; exact l1)
      have L2 : Hid (q < p → C < A) := Lib.hid (by rw [← hp, ← hq]; exact l2)
      have L3 : Hid (p = q → topEq A C 0) := Lib.hid (by rw [← hp, ← hq]; exact l3)
      rw [hp] at x0 ha
      rw [hq] at y0 hc
      have HPP := Lib.hid hp
      have HQQ := Lib.hid hq
      clear hp hq l1 l2 l3
      by_cases h1 : p < q
      · have HF : Hid (-1 = R) := Lib.hid (by rw [← HR.out]; exact (cmpV_lt (L1.out h1)).symm)
        go_wp2_with fail
        refine wp_region_ext (by kernel_rfl) (by kernel_rfl) ?_
        repeat (go_big_quiet_step (fail))
        refine wpQuiet_nil ?_
        intro w8 hb8
        replace hb8 := ext_below hb8
        go_wp2
        go_ret
        rw [HF.out]
        exact ⟨rfl, by (repeat' (first | (with_reducible exact Below.refl _ _) | (with_reducible assumption) | (with_reducible refine below_drewN ?_ _) | (with_reducible refine Below.drew ?_) | (with_reducible refine below_new ?_ (Nat.le_refl _) _) | (with_reducible refine Below.setCell ?_ ?_ _) | (with_reducible refine below_go ?_ (by assumption) (Nat.le_refl _)) | (simp; done) | (simp; omega) | omega))⟩
      · by_cases h2 : q < p
        · have HF : Hid (1 = R) := Lib.hid (by rw [← HR.out]; exact (cmpV_gt (L2.out h2)).symm)
          go_wp2_with fail
          refine wp_region_ext (by kernel_rfl) (by kernel_rfl) ?_
          repeat (go_big_quiet_step (fail))
          refine wpQuiet_nil ?_
          intro w8 hb8
          replace hb8 := ext_below hb8
          obtain ⟨hb8c, hb8f⟩ := bcell hb8
          have hb8z := hb8.size
          have hb8c0 := fun o => hb8c (w.heap.size) o (by first | (simp; done) | (simp; omega) | (simp at *; omega) | omega)
          have hb8f0 := fun o => hb8f (w.heap.size) o (by first | (simp; done) | (simp; omega) | (simp at *; omega) | omega)
          have hb8l0 := below_lt (b := w.heap.size) hb8 (by first | (simp; done) | (simp; omega) | (simp at *; omega) | omega)
          have hb8c1 := fun o => hb8c (w.heap.size + 1) o (by first | (simp; done) | (simp; omega) | (simp at *; omega) | omega)
          have hb8f1 := fun o => hb8f (w.heap.size + 1) o (by first | (simp; done) | (simp; omega) | (simp at *; omega) | omega)
          have hb8l1 := below_lt (b := w.heap.size + 1) hb8 (by first | (simp; done) | (simp; omega) | (simp at *; omega) | omega)
          have z3 := hb8.size
          have z4 : w.heap.size + 1 < w8.heap.size := by omega
          have z5 : w.heap.size < w8.heap.size := by omega
          go_wp2_with fail
          refine wp_region_ext (by kernel_rfl) (by kernel_rfl) ?_
          repeat (go_big_quiet_step (fail))
          refine wpQuiet_nil ?_
          intro w9 hb9
          replace hb9 := ext_below hb9
          go_wp2
          go_ret
          rw [HF.out]
          exact ⟨rfl, by (repeat' (first | (with_reducible exact Below.refl _ _) | (with_reducible assumption) | (with_reducible refine below_drewN ?_ _) | (with_reducible refine Below.drew ?_) | (with_reducible refine below_new ?_ (Nat.le_refl _) _) | (with_reducible refine Below.setCell ?_ ?_ _) | (with_reducible refine below_go ?_ (by assumption) (Nat.le_refl _)) | (simp; done) | (simp; omega) | omega))⟩
        · have HT' := Lib.hid (L3.out (by omega))
          go_wp2_with fail
          refine wp_region_ext (by kernel_rfl) (by kernel_rfl) ?_
          repeat (go_big_quiet_step (fail))
          refine wpQuiet_nil ?_
          intro w8 hb8
          replace hb8 := ext_below hb8
          obtain ⟨hb8c, hb8f⟩ := bcell hb8
          have hb8z := hb8.size
          have hb8c0 := fun o => hb8c (w.heap.size) o (by first | (simp; done) | (simp; omega) | (simp at *; omega) | omega)
          have hb8f0 := fun o => hb8f (w.heap.size) o (by first | (simp; done) | (simp; omega) | (simp at *; omega) | omega)
          have hb8l0 := below_lt (b := w.heap.size) hb8 (by first | (simp; done) | (simp; omega) | (simp at *; omega) | omega)
          have hb8c1 := fun o => hb8c (w.heap.size + 1) o (by first | (simp; done) | (simp; omega) | (simp at *; omega) | omega)
          have hb8f1 := fun o => hb8f (w.heap.size + 1) o (by first | (simp; done) | (simp; omega) | (simp at *; omega) | omega)
          have hb8l1 := below_lt (b := w.heap.size + 1) hb8 (by first | (simp; done) | (simp; omega) | (simp at *; omega) | omega)
          have z3 := hb8.size
          have z4 : w.heap.size + 1 < w8.heap.size := by omega
          have z5 : w.heap.size < w8.heap.size := by omega
          go_wp2_with fail
          refine wp_region_ext (by kernel_rfl) (by kernel_rfl) ?_
          repeat (go_big_quiet_step (fail))
          refine wpQuiet_nil ?_
          intro w9 hb9
          replace hb9 := ext_below hb9
          obtain ⟨hb9c, hb9f⟩ := bcell hb9
          have hb9z := hb9.size
          have hb9c0 := fun o => hb9c (w.heap.size) o (by first | (simp; done) | (simp; omega) | (simp at *; omega) | omega)
          have hb9f0 := fun o => hb9f (w.heap.size) o (by first | (simp; done) | (simp; omega) | (simp at *; omega) | omega)
          have hb9l0 := below_lt (b := w.heap.size) hb9 (by first | (simp; done) | (simp; omega) | (simp at *; omega) | omega)
          have hb9c1 := fun o => hb9c (w.heap.size + 1) o (by first | (simp; done) | (simp; omega) | (simp at *; omega) | omega)
          have hb9f1 := fun o => hb9f (w.heap.size + 1) o (by first | (simp; done) | (simp; omega) | (simp at *; omega) | omega)
          have hb9l1 := below_lt (b := w.heap.size + 1) hb9 (by first | (simp; done) | (simp; omega) | (simp at *; omega) | omega)
          have z6 := hb9.size
          go_wp2
          go_roundw
          case rel =>
            refine ⟨0, by omega, rfl, HT', by (repeat' (first | (with_reducible exact Below.refl _ _) | (with_reducible assumption) | (with_reducible refine below_drewN ?_ _) | (with_reducible refine Below.drew ?_) | (with_reducible refine below_new ?_ (Nat.le_refl _) _) | (with_reducible refine Below.setCell ?_ ?_ _) | (with_reducible refine below_go ?_ (by assumption) (Nat.le_refl _)) | (simp; done) | (simp; omega) | omega)), by omega, ?_, ?_, ?_, ?_, ?_, ?_, ?_, ?_⟩
            all_goals first | rw [HPP.out] | rw [HQQ.out] | skip
            all_goals go_simp
          case measure => simp [intOf]
    · obtain ⟨l1, l2, l3⟩ := HTL.out 1 (by omega) HT.out
      obtain ⟨p, hp⟩ : ∃ p, d1 A = p := ⟨_, rfl⟩
      obtain ⟨q, hq⟩ : ∃ q, d1 C = q := ⟨_, rfl⟩
      have L1 : Hid (p < q → A < C) := Lib.hid (by rw [← hp, ← hq]; exact l1)
      have L2 : Hid (q < p → C < A) := Lib.hid (by rw [← hp, ← hq]; exact l2)
      have L3 : Hid (p = q → topEq A C 1) := Lib.hid (by rw [← hp, ← hq]; exact l3)
      rw [hp] at x1 ha
      rw [hq] at y1 hc
      have HPP := Lib.hid hp
      have HQQ := Lib.hid hq
      clear hp hq l1 l2 l3
      by_cases h1 : p < q
      · have HF : Hid (-1 = R) := Lib.hid (by rw [← HR.out]; exact (cmpV_lt (L1.out h1)).symm)
        go_wp2_with fail
        refine wp_region_ext (by kernel_rfl) (by kernel_rfl) ?_
        repeat (go_big_quiet_step (fail))
        refine wpQuiet_nil ?_
        intro w8 hb8
        replace hb8 := ext_below hb8
        go_wp2
        go_ret
        rw [HF.out]
        exact ⟨rfl, by (repeat' (first | (with_reducible exact Below.refl _ _) | (with_reducible assumption) | (with_reducible refine below_drewN ?_ _) | (with_reducible refine Below.drew ?_) | (with_reducible refine below_new ?_ (Nat.le_refl _) _) | (with_reducible refine Below.setCell ?_ ?_ _) | (with_reducible refine below_go ?_ (by assumption) (Nat.le_refl _)) | (simp; done) | (simp; omega) | omega))⟩
      · by_cases h2 : q < p
        · have HF : Hid (1 = R) := Lib.hid (by rw [← HR.out]; exact (cmpV_gt (L2.out h2)).symm)
          go_wp2_with fail
          refine wp_region_ext (by kernel_rfl) (by kernel_rfl) ?_
          repeat (go_big_quiet_step (fail))
          refine wpQuiet_nil ?_
          intro w8 hb8
          replace hb8 := ext_below hb8
          obtain ⟨hb8c, hb8f⟩ := bcell hb8
          have hb8z := hb8.size
          have hb8c0 := fun o => hb8c (w.heap.size) o (by first | (simp; done) | (simp; omega) | (simp at *; omega) | omega)
          have hb8f0 := fun o => hb8f (w.heap.size) o (by first | (simp; done) | (simp; omega) | (simp at *; omega) | omega)
          have hb8l0 := below_lt (b := w.heap.size) hb8 (by first | (simp; done) | (simp; omega) | (simp at *; omega) | omega)
          have hb8c1 := fun o => hb8c (w.heap.size + 1) o (by first | (simp; done) | (simp; omega) | (simp at *; omega) | omega)
          have hb8f1 := fun o => hb8f (w.heap.size + 1) o (by first | (simp; done) | (simp; omega) | (simp at *; omega) | omega)
          have hb8l1 := below_lt (b := w.heap.size + 1) hb8 (by first | (simp; done) | (simp; omega) | (simp at *; omega) | omega)
          have z3 := hb8.size
          have z4 : w.heap.size + 1 < w8.heap.size := by omega
          have z5 : w.heap.size < w8.heap.size := by omega
          go_wp2_with fail
          refine wp_region_ext (by kernel_rfl) (by kernel_rfl) ?_
          repeat (go_big_quiet_step (fail))
          refine wpQuiet_nil ?_
          intro w9 hb9
          replace hb9 := ext_below hb9
          go_wp2
          go_ret
          rw [HF.out]
          exact ⟨rfl, by (repeat' (first | (with_reducible exact Below.refl _ _) | (with_reducible assumption) | (with_reducible refine below_drewN ?_ _) | (with_reducible refine Below.drew ?_) | (with_reducible refine below_new ?_ (Nat.le_refl _) _) | (with_reducible refine Below.setCell ?_ ?_ _) | (with_reducible refine below_go ?_ (by assumption) (Nat.le_refl _)) | (simp; done) | (simp; omega) | omega))⟩
        · have HT' := Lib.hid (L3.out (by omega))
          go_wp2_with fail
          refine wp_region_ext (by kernel_rfl) (by kernel_rfl) ?_
          repeat (go_big_quiet_step (fail))
          refine wpQuiet_nil ?_
          intro w8 hb8
          replace hb8 := ext_below hb8
          obtain ⟨hb8c, hb8f⟩ := bcell hb8
          have hb8z := hb8.size
          have hb8c0 := fun o => hb8c (w.heap.size) o (by first | (simp; done) | (simp; omega) | (simp at *; omega) | omega)
          have hb8f0 := fun o => hb8f (w.heap.size) o (by first | (simp; done) | (simp; omega) | (simp at *; omega) | omega)
          have hb8l0 := below_lt (b := w.heap.size) hb8 (by first | (simp; done) | (simp; omega) | (simp at *; omega) | omega)
          have hb8c1 := fun o => hb8c (w.heap.size + 1) o (by first | (simp; done) | (simp; omega) | (simp at *; omega) | omega)
          have hb8f1 := fun o => hb8f (w.heap.size + 1) o (by first | (simp; done) | (simp; omega) | (simp at *; omega) | omega)
          have hb8l1 := below_lt (b := w.heap.size + 1) hb8 (by first | (simp; done) | (simp; omega) | (simp at *; omega) | omega)
          have z3 := hb8.size
          have z4 : w.heap.size + 1 < w8.heap.size := by omega
          have z5 : w.heap.size < w8.heap.size := by omega
          go_wp2_with fail
          refine wp_region_ext (by kernel_rfl) (by kernel_rfl) ?_
          repeat (go_big_quiet_step (fail))
          refine wpQuiet_nil ?_
          intro w9 hb9
          replace hb9 := ext_below hb9
          obtain ⟨hb9c, hb9f⟩ := bcell hb9
          have hb9z := hb9.size
          have hb9c0 := fun o => hb9c (w.heap.size) o (by first | (simp; done) | (simp; omega) | (simp at *; omega) | omega)
          have hb9f0 := fun o => hb9f (w.heap.size) o (by first | (simp; done) | (simp; omega) | (simp at *; omega) | omega)
          have hb9l0 := below_lt (b := w.heap.size) hb9 (by first | (simp; done) | (simp; omega) | (simp at *; omega) | omega)
          have hb9c1 := fun o => hb9c (w.heap.size + 1) o (by first | (simp; done) | (simp; omega) | (simp at *; omega) | omega)
          have hb9f1 := fun o => hb9f (w.heap.size + 1) o (by first | (simp; done) | (simp; omega) | (simp at *; omega) | omega)
          have hb9l1 := below_lt (b := w.heap.size + 1) hb9 (by first | (simp; done) | (simp; omega) | (simp at *; omega) | omega)
          have z6 := hb9.size
          go_wp2
          go_roundw
          case rel =>
            refine ⟨1, by omega, rfl, HT', by (repeat' (first | (with_reducible exact Below.refl _ _) | (with_reducible assumption) | (with_reducible refine below_drewN ?_ _) | (with_reducible refine Below.drew ?_) | (with_reducible refine below_new ?_ (Nat.le_refl _) _) | (with_reducible refine Below.setCell ?_ ?_ _) | (with_reducible refine below_go ?_ (by assumption) (Nat.le_refl _)) | (simp; done) | (simp; omega) | omega)), by omega, ?_, ?_, ?_, ?_, ?_, ?_, ?_, ?_⟩
            all_goals first | rw [HPP.out] | rw [HQQ.out] | skip
            all_goals go_simp
          case measure => simp [intOf]
    · obtain ⟨l1, l2, l3⟩ := HTL.out 2 (by omega) HT.out
      obtain ⟨p, hp⟩ : ∃ p, d2 A = p := ⟨_, rfl⟩
      obtain ⟨q, hq⟩ : ∃ q, d2 C = q := ⟨_, rfl⟩
      have L1 : Hid (p < q → A < C) := Lib.hid (by rw [← hp, ← hq]; exact l1)
      have L2 : Hid (q < p → C < A) := Lib.hid (by rw [← hp, ← hq]; exact l2)
      have L3 : Hid (p = q → topEq A C 2) := Lib.hid (by rw [← hp, ← hq]; exact l3)
      rw [hp] at x2 ha
      rw [hq] at y2 hc
      have HPP := Lib.hid hp
      have HQQ := Lib.hid hq
      clear hp hq l1 l2 l3
      by_cases h1 : p < q
      · have HF : Hid (-1 = R) := Lib.hid (by rw [← HR.out]; exact (cmpV_lt (L1.out h1)).symm)
        go_wp2_with fail
        refine wp_region_ext (by kernel_rfl) (by kernel_rfl) ?_
        repeat (go_big_quiet_step (fail))
        refine wpQuiet_nil ?_
        intro w8 hb8
        replace hb8 := ext_below hb8
        go_wp2
        go_ret
        rw [HF.out]
        exact ⟨rfl, by (repeat' (first | (with_reducible exact Below.refl _ _) | (with_reducible assumption) | (with_reducible refine below_drewN ?_ _) | (with_reducible refine Below.drew ?_) | (with_reducible refine below_new ?_ (Nat.le_refl _) _) | (with_reducible refine Below.setCell ?_ ?_ _) | (with_reducible refine below_go ?_ (by assumption) (Nat.le_refl _)) | (simp; done) | (simp; omega) | omega))⟩
      · by_cases h2 : q < p
        · have HF : Hid (1 = R) := Lib.hid (by rw [← HR.out]; exact (cmpV_gt (L2.out h2)).symm)
          go_wp2_with fail
          refine wp_region_ext (by kernel_rfl) (by kernel_rfl) ?_
          repeat (go_big_quiet_step (fail))
          refine wpQuiet_nil ?_
          intro w8 hb8
          replace hb8 := ext_below hb8
          obtain ⟨hb8c, hb8f⟩ := bcell hb8
          have hb8z := hb8.size
          have hb8c0 := fun o => hb8c (w.heap.size) o (by first | (simp; done) | (simp; omega) | (simp at *; omega) | omega)
          have hb8f0 := fun o => hb8f (w.heap.size) o (by first | (simp; done) | (simp; omega) | (simp at *; omega) | omega)
          have hb8l0 := below_lt (b := w.heap.size) hb8 (by first | (simp; done) | (simp; omega) | (simp at *; omega) | omega)
          have hb8c1 := fun o => hb8c (w.heap.size + 1) o (by first | (simp; done) | (simp; omega) | (simp at *; omega) | omega)
          have hb8f1 := fun o => hb8f (w.heap.size + 1) o (by first | (simp; done) | (simp; omega) | (simp at *; omega) | omega)
          have hb8l1 := below_lt (b := w.heap.size + 1) hb8 (by first | (simp; done) | (simp; omega) | (simp at *; omega) | omega)
          have z3 := hb8.size
          have z4 : w.heap.size + 1 < w8.heap.size := by omega
          have z5 : w.heap.size < w8.heap.size := by omega
          go_wp2_with fail
          refine wp_region_ext (by kernel_rfl) (by kernel_rfl) ?_
          repeat (go_big_quiet_step (fail))
          refine wpQuiet_nil ?_
          intro w9 hb9
          replace hb9 := ext_below hb9
          go_wp2
          go_ret
          rw [HF.out]
          exact ⟨rfl, by (repeat' (first | (with_reducible exact Below.refl _ _) | (with_reducible assumption) | (with_reducible refine below_drewN ?_ _) | (with_reducible refine Below.drew ?_) | (with_reducible refine below_new ?_ (Nat.le_refl _) _) | (with_reducible refine Below.setCell ?_ ?_ _) | (with_reducible refine below_go ?_ (by assumption) (Nat.le_refl _)) | (simp; done) | (simp; omega) | omega))⟩
        · have HT' := Lib.hid (L3.out (by omega))
          go_wp2_with fail
          refine wp_region_ext (by kernel_rfl) (by kernel_rfl) ?_
          repeat (go_big_quiet_step (fail))
          refine wpQuiet_nil ?_
          intro w8 hb8
          replace hb8 := ext_below hb8
          obtain ⟨hb8c, hb8f⟩ := bcell hb8
          have hb8z := hb8.size
          have hb8c0 := fun o => hb8c (w.heap.size) o (by first | (simp; done) | (simp; omega) | (simp at *; omega) | omega)
          have hb8f0 := fun o => hb8f (w.heap.size) o (by first | (simp; done) | (simp; omega) | (simp at *; omega) | omega)
          have hb8l0 := below_lt (b := w.heap.size) hb8 (by first | (simp; done) | (simp; omega) | (simp at *; omega) | omega)
          have hb8c1 := fun o => hb8c (w.heap.size + 1) o (by first | (simp; done) | (simp; omega) | (simp at *; omega) | omega)
          have hb8f1 := fun o => hb8f (w.heap.size + 1) o (by first | (simp; done) | (simp; omega) | (simp at *; omega) | omega)
          have hb8l1 := below_lt (b := w.heap.size + 1) hb8 (by first | (simp; done) | (simp; omega) | (simp at *; omega) | omega)
          have z3 := hb8.size
          have z4 : w.heap.size + 1 < w8.heap.size := by omega
          have z5 : w.heap.size < w8.heap.size := by omega
          go_wp2_with fail
          refine wp_region_ext (by kernel_rfl) (by kernel_rfl) ?_
          repeat (go_big_quiet_step (fail))
          refine wpQuiet_nil ?_
          intro w9 hb9
          replace hb9 := ext_below hb9
          obtain ⟨hb9c, hb9f⟩ := bcell hb9
          have hb9z := hb9.size
          have hb9c0 := fun o => hb9c (w.heap.size) o (by first | (simp; done) | (simp; omega) | (simp at *; omega) | omega)
          have hb9f0 := fun o => hb9f (w.heap.size) o (by first | (simp; done) | (simp; omega) | (simp at *; omega) | omega)
          have hb9l0 := below_lt (b := w.heap.size) hb9 (by first | (simp; done) | (simp; omega) | (simp at *; omega) | omega)
          have hb9c1 := fun o => hb9c (w.heap.size + 1) o (by first | (simp; done) | (simp; omega) | (simp at *; omega) | omega)
          have hb9f1 := fun o => hb9f (w.heap.size + 1) o (by first | (simp; done) | (simp; omega) | (simp at *; omega) | omega)
          have hb9l1 := below_lt (b := w.heap.size + 1) hb9 (by first | (simp; done) | (simp; omega) | (simp at *; omega) | omega)
          have z6 := hb9.size
          go_wp2
          go_roundw
          case rel =>
            refine ⟨2, by omega, rfl, HT', by (repeat' (first | (with_reducible exact Below.refl _ _) | (with_reducible assumption) | (with_reducible refine below_drewN ?_ _) | (with_reducible refine Below.drew ?_) | (with_reducible refine below_new ?_ (Nat.le_refl _) _) | (with_reducible refine Below.setCell ?_ ?_ _) | (with_reducible refine below_go ?_ (by assumption) (Nat.le_refl _)) | (simp; done) | (simp; omega) | omega)), by omega, ?_, ?_, ?_, ?_, ?_, ?_, ?_, ?_⟩
            all_goals first | rw [HPP.out] | rw [HQQ.out] | skip
            all_goals go_simp
          case measure => simp [intOf]
    · obtain ⟨l1, l2, l3⟩ := HTL.out 3 (by omega) HT.out
      obtain ⟨p, hp⟩ : ∃ p, d3 A = p := ⟨_, rfl⟩
      obtain ⟨q, hq⟩ : ∃ q, d3 C = q := ⟨_, rfl⟩
      have L1 : Hid (p < q → A < C) := Lib.hid (by rw [← hp, ← hq]; exact l1)
      have L2 : Hid (q < p → C < A) := Lib.hid (by rw [← hp, ← hq]; exact l2)
      have L3 : Hid (p = q → topEq A C 3) := Lib.hid (by rw [← hp, ← hq]; exact l3)
      rw [hp] at x3 ha
      rw [hq] at y3 hc
      have HPP := Lib.hid hp
      have HQQ := Lib.hid hq
      clear hp hq l1 l2 l3
      by_cases h1 : p < q
      · have HF : Hid (-1 = R) := Lib.hid (by rw [← HR.out]; exact (cmpV_lt (L1.out h1)).symm)
        go_wp2_with fail
        refine wp_region_ext (by kernel_rfl) (by kernel_rfl) ?_
        repeat (go_big_quiet_step (fail))
        refine wpQuiet_nil ?_
        intro w8 hb8
        replace hb8 := ext_below hb8
        go_wp2
        go_ret
        rw [HF.out]
        exact ⟨rfl, by (repeat' (first | (with_reducible exact Below.refl _ _) | (with_reducible assumption) | (with_reducible refine below_drewN ?_ _) | (with_reducible refine Below.drew ?_) | (with_reducible refine below_new ?_ (Nat.le_refl _) _) | (with_reducible refine Below.setCell ?_ ?_ _) | (with_reducible refine below_go ?_ (by assumption) (Nat.le_refl _)) | (simp; done) | (simp; omega) | omega))⟩
      · by_cases h2 : q < p
        · have HF : Hid (1 = R) := Lib.hid (by rw [← HR.out]; exact (cmpV_gt (L2.out h2)).symm)
          go_wp2_with fail
          refine wp_region_ext (by kernel_rfl) (by kernel_rfl) ?_
          repeat (go_big_quiet_step (fail))
          refine wpQuiet_nil ?_
          intro w8 hb8
          replace hb8 := ext_below hb8
          obtain ⟨hb8c, hb8f⟩ := bcell hb8
          have hb8z := hb8.size
          have hb8c0 := fun o => hb8c (w.heap.size) o (by first | (simp; done) | (simp; omega) | (simp at *; omega) | omega)
          have hb8f0 := fun o => hb8f (w.heap.size) o (by first | (simp; done) | (simp; omega) | (simp at *; omega) | omega)
          have hb8l0 := below_lt (b := w.heap.size) hb8 (by first | (simp; done) | (simp; omega) | (simp at *; omega) | omega)
          have hb8c1 := fun o => hb8c (w.heap.size + 1) o (by first | (simp; done) | (simp; omega) | (simp at *; omega) | omega)
          have hb8f1 := fun o => hb8f (w.heap.size + 1) o (by first | (simp; done) | (simp; omega) | (simp at *; omega) | omega)
          have hb8l1 := below_lt (b := w.heap.size + 1) hb8 (by first | (simp; done) | (simp; omega) | (simp at *; omega) | omega)
          have z3 := hb8.size
          have z4 : w.heap.size + 1 < w8.heap.size := by omega
          have z5 : w.heap.size < w8.heap.size := by omega
          go_wp2_with fail
          refine wp_region_ext (by kernel_rfl) (by kernel_rfl) ?_
          repeat (go_big_quiet_step (fail))
          refine wpQuiet_nil ?_
          intro w9 hb9
          replace hb9 := ext_below hb9
          go_wp2
          go_ret
          rw [HF.out]
          exact ⟨rfl, by (repeat' (first | (with_reducible exact Below.refl _ _) | (with_reducible assumption) | (with_reducible refine below_drewN ?_ _) | (with_reducible refine Below.drew ?_) | (with_reducible refine below_new ?_ (Nat.le_refl _) _) | (with_reducible refine Below.setCell ?_ ?_ _) | (with_reducible refine below_go ?_ (by assumption) (Nat.le_refl _)) | (simp; done) | (simp; omega) | omega))⟩
        · have HT' := Lib.hid (L3.out (by omega))
          go_wp2_with fail
          refine wp_region_ext (by kernel_rfl) (by kernel_rfl) ?_
          repeat (go_big_quiet_step (fail))
          refine wpQuiet_nil ?_
          intro w8 hb8
          replace hb8 := ext_below hb8
          obtain ⟨hb8c, hb8f⟩ := bcell hb8
          have hb8z := hb8.size
          have hb8c0 := fun o => hb8c (w.heap.size) o (by first | (simp; done) | (simp; omega) | (simp at *; omega) | omega)
          have hb8f0 := fun o => hb8f (w.heap.size) o (by first | (simp; done) | (simp; omega) | (simp at *; omega) | omega)
          have hb8l0 := below_lt (b := w.heap.size) hb8 (by first | (simp; done) | (simp; omega) | (simp at *; omega) | omega)
          have hb8c1 := fun o => hb8c (w.heap.size + 1) o (by first | (simp; done) | (simp; omega) | (simp at *; omega) | omega)
          have hb8f1 := fun o => hb8f (w.heap.size + 1) o (by first | (simp; done) | (simp; omega) | (simp at *; omega) | omega)
          have hb8l1 := below_lt (b := w.heap.size + 1) hb8 (by first | (simp; done) | (simp; omega) | (simp at *; omega) | omega)
          have z3 := hb8.size
          have z4 : w.heap.size + 1 < w8.heap.size := by omega
          have z5 : w.heap.size < w8.heap.size := by omega
          go_wp2_with fail
          refine wp_region_ext (by kernel_rfl) (by kernel_rfl) ?_
          repeat (go_big_quiet_step (fail))
          refine wpQuiet_nil ?_
          intro w9 hb9
          replace hb9 := ext_below hb9
          obtain ⟨hb9c, hb9f⟩ := bcell hb9
          have hb9z := hb9.size
          have hb9c0 := fun o => hb9c (w.heap.size) o (by first | (simp; done) | (simp; omega) | (simp at *; omega) | omega)
          have hb9f0 := fun o => hb9f (w.heap.size) o (by first | (simp; done) | (simp; omega) | (simp at *; omega) | omega)
          have hb9l0 := below_lt (b := w.heap.size) hb9 (by first | (simp; done) | (simp; omega) | (simp at *; omega) | omega)
          have hb9c1 := fun o => hb9c (w.heap.size + 1) o (by first | (simp; done) | (simp; omega) | (simp at *; omega) | omega)
          have hb9f1 := fun o => hb9f (w.heap.size + 1) o (by first | (simp; done) | (simp; omega) | (simp at *; omega) | omega)
          have hb9l1 := below_lt (b := w.heap.size + 1) hb9 (by first | (simp; done) | (simp; omega) | (simp at *; omega) | omega)
          have z6 := hb9.size
          go_wp2
          go_roundw
          case rel =>
            refine ⟨3, by omega, rfl, HT', by (repeat' (first | (with_reducible exact Below.refl _ _) | (with_reducible assumption) | (with_reducible refine below_drewN ?_ _) | (with_reducible refine Below.drew ?_) | (with_reducible refine below_new ?_ (Nat.le_refl _) _) | (with_reducible refine Below.setCell ?_ ?_ _) | (with_reducible refine below_go ?_ (by assumption) (Nat.le_refl _)) | (simp; done) | (simp; omega) | omega)), by omega, ?_, ?_, ?_, ?_, ?_, ?_, ?_, ?_⟩
            all_goals first | rw [HPP.out] | rw [HQQ.out] | skip
            all_goals go_simp
          case measure => simp [intOf]

end Go.Proofs.Ytcamegfnhbbaeaa
