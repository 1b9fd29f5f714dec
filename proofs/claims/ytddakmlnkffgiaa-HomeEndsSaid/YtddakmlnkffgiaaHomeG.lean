/- Layer 13: any search is right or not, and does in a cycle what the document says: HomeSteps returns true. Conditions: none. -/
import Derived.Test.YtddakmlnkffgiaaHomeF
import Derived.Test.YtddakmlnkffgiaaExt
namespace Go.Proofs.Ytddakmlnkffgiaa
open Go.ChangeShapes Go.WideShapes Go.ChangeAt Go.RowKit
attribute [local go_sem] ext_cell ext_frozen
set_option linter.unusedVariables false
set_option linter.unusedSimpArgs false

theorem over_four {p f c : Int} (h : homeB p f c = true) : overB p f c = decide (4 ≤ p) := by
  have hy := homeB_yes h
  rw [Bool.eq_iff_iff]
  simp only [overB, h, Bool.not_true, Bool.false_or, Bool.or_eq_true, beq_iff_eq, decide_eq_true_eq]
  omega

set_option maxRecDepth 100000 in
set_option maxHeartbeats 1000000 in
theorem steps_yes (a b p f c : Int) (t sw plus minus still : Bool) (w : World) (hN : Hid (homeB 0 a b = true)) (hR : Hid (homeB p f c = true))
    (p' f' c' : Int) (t' : Bool) (v : Int) (hS : Hid (stepH ⟨p, f, c, t⟩ sw plus minus still = (⟨p', f', c', t'⟩, v))) (o : Bool) (hO : Hid (overB p f c = o)) (ho : o = decide (4 ≤ p)) :
    Calls Try.prog 6 #[.int .i64 a, .int .i64 b, .agg #[.int .i64 p, .int .i64 f, .int .i64 c, .bool t], .bool sw, .bool plus, .bool minus, .bool still] w fun e w' => e = .returned (.bool true) ∧ Below w.heap.size w w' := by
  have HO2 := Lib.hid ho
  clear ho
  go_enter Try.func6, Try.ntmps6
  go_wp2_with fail
  refine (awake13 _).mono ?_
  rintro e w1 ⟨rfl, hb1⟩
  obtain ⟨hb1c, hb1f⟩ := bcell hb1
  have hb1z := hb1.size
  have hb1c0 := fun o => hb1c (w.heap.size) o (by first | (simp; done) | (simp; omega) | (simp at *; omega) | omega)
  have hb1f0 := fun o => hb1f (w.heap.size) o (by first | (simp; done) | (simp; omega) | (simp at *; omega) | omega)
  have hb1l0 := below_lt (b := w.heap.size) hb1 (by first | (simp; done) | (simp; omega) | (simp at *; omega) | omega)
  go_wp2_with fail
  refine (hnew_yes _ _ _ hN.out).mono ?_
  rintro e w2 ⟨rfl, hb2⟩
  obtain ⟨hb2c, hb2f⟩ := bcell hb2
  have hb2z := hb2.size
  have hb2c0 := fun o => hb2c (w.heap.size) o (by first | (simp; done) | (simp; omega) | (simp at *; omega) | omega)
  have hb2f0 := fun o => hb2f (w.heap.size) o (by first | (simp; done) | (simp; omega) | (simp at *; omega) | omega)
  have hb2l0 := below_lt (b := w.heap.size) hb2 (by first | (simp; done) | (simp; omega) | (simp at *; omega) | omega)
  go_wp2_with fail
  refine (rright_at _ _ _ _ _ _ hN.out).mono ?_
  rintro e w3 ⟨rfl, hb3⟩
  obtain ⟨hb3c, hb3f⟩ := bcell hb3
  have hb3z := hb3.size
  have hb3c0 := fun o => hb3c (w.heap.size) o (by first | (simp; done) | (simp; omega) | (simp at *; omega) | omega)
  have hb3f0 := fun o => hb3f (w.heap.size) o (by first | (simp; done) | (simp; omega) | (simp at *; omega) | omega)
  have hb3l0 := below_lt (b := w.heap.size) hb3 (by first | (simp; done) | (simp; omega) | (simp at *; omega) | omega)
  have hb3c1 := fun o => hb3c (w2.heap.size) o (by first | (simp; done) | (simp; omega) | (simp at *; omega) | omega)
  have hb3f1 := fun o => hb3f (w2.heap.size) o (by first | (simp; done) | (simp; omega) | (simp at *; omega) | omega)
  have hb3l1 := below_lt (b := w2.heap.size) hb3 (by first | (simp; done) | (simp; omega) | (simp at *; omega) | omega)
  have hb3c2 := fun o => hb3c (w2.heap.size + 1) o (by first | (simp; done) | (simp; omega) | (simp at *; omega) | omega)
  have hb3f2 := fun o => hb3f (w2.heap.size + 1) o (by first | (simp; done) | (simp; omega) | (simp at *; omega) | omega)
  have hb3l2 := below_lt (b := w2.heap.size + 1) hb3 (by first | (simp; done) | (simp; omega) | (simp at *; omega) | omega)
  go_wp2_with fail
  refine (hstep_at _ _ _ _ _ _ _ _ _ _ _ _ _ _ hS.out).mono ?_
  rintro e w4 ⟨rfl, hb4⟩
  obtain ⟨hb4c, hb4f⟩ := bcell hb4
  have hb4z := hb4.size
  have hb4c0 := fun o => hb4c (w.heap.size) o (by first | (simp; done) | (simp; omega) | (simp at *; omega) | omega)
  have hb4f0 := fun o => hb4f (w.heap.size) o (by first | (simp; done) | (simp; omega) | (simp at *; omega) | omega)
  have hb4l0 := below_lt (b := w.heap.size) hb4 (by first | (simp; done) | (simp; omega) | (simp at *; omega) | omega)
  go_wp2_with fail
  refine (rright_at _ _ _ _ _ _ hR.out).mono ?_
  rintro e w5 ⟨rfl, hb5⟩
  obtain ⟨hb5c, hb5f⟩ := bcell hb5
  have hb5z := hb5.size
  have hb5c0 := fun o => hb5c (w.heap.size) o (by first | (simp; done) | (simp; omega) | (simp at *; omega) | omega)
  have hb5f0 := fun o => hb5f (w.heap.size) o (by first | (simp; done) | (simp; omega) | (simp at *; omega) | omega)
  have hb5l0 := below_lt (b := w.heap.size) hb5 (by first | (simp; done) | (simp; omega) | (simp at *; omega) | omega)
  have hb5c1 := fun o => hb5c (w4.heap.size) o (by first | (simp; done) | (simp; omega) | (simp at *; omega) | omega)
  have hb5f1 := fun o => hb5f (w4.heap.size) o (by first | (simp; done) | (simp; omega) | (simp at *; omega) | omega)
  have hb5l1 := below_lt (b := w4.heap.size) hb5 (by first | (simp; done) | (simp; omega) | (simp at *; omega) | omega)
  go_wp2_with fail
  have hr := rstep_any p f c t sw plus minus still w5 hR.out
  rw [hS.out] at hr
  refine hr.mono ?_
  unfold stepV
  rintro e w6 ⟨rfl, hb6⟩
  obtain ⟨hb6c, hb6f⟩ := bcell hb6
  have hb6z := hb6.size
  have hb6c0 := fun o => hb6c (w.heap.size) o (by first | (simp; done) | (simp; omega) | (simp at *; omega) | omega)
  have hb6f0 := fun o => hb6f (w.heap.size) o (by first | (simp; done) | (simp; omega) | (simp at *; omega) | omega)
  have hb6l0 := below_lt (b := w.heap.size) hb6 (by first | (simp; done) | (simp; omega) | (simp at *; omega) | omega)
  have hb6c1 := fun o => hb6c (w4.heap.size) o (by first | (simp; done) | (simp; omega) | (simp at *; omega) | omega)
  have hb6f1 := fun o => hb6f (w4.heap.size) o (by first | (simp; done) | (simp; omega) | (simp at *; omega) | omega)
  have hb6l1 := below_lt (b := w4.heap.size) hb6 (by first | (simp; done) | (simp; omega) | (simp at *; omega) | omega)
  clear hr
  go_wp2_with fail
  refine wp_name fun W hW => ?_
  have hbW : Below w.heap.size w W := by rw [hW.out]; (repeat' (first | (with_reducible exact Below.refl _ _) | (with_reducible assumption) | (with_reducible refine below_drewN ?_ _) | (with_reducible refine Below.drew ?_) | (with_reducible refine below_new ?_ (Nat.le_refl _) _) | (with_reducible refine Below.setCell ?_ ?_ _) | (with_reducible refine below_go ?_ (by assumption) (Nat.le_refl _)) | (simp; done) | (simp; omega) | omega))
  have q0 : ∀ o, W.cell? ⟨w.heap.size, o, none⟩ = (w.alloc (Obj.cells #[Value.int IntKind.i64 p, Value.int IntKind.i64 f, Value.int IntKind.i64 c, Value.bool t] 30)).cell? ⟨w.heap.size, o, none⟩ := by
    intro o
    rw [hW.out]
    go_simp
  have q1 : ∀ o, W.cell? ⟨w4.heap.size, o, none⟩ = (w4.alloc (Obj.cells #[Value.int IntKind.i64 p', Value.int IntKind.i64 f', Value.int IntKind.i64 c', Value.bool t'] 30)).cell? ⟨w4.heap.size, o, none⟩ := by
    intro o
    rw [hW.out]
    go_simp
  have q2 : ∀ o, W.cell? ⟨w6.heap.size, o, none⟩ = (w6.alloc (Obj.cells #[Value.int IntKind.i64 p', Value.int IntKind.i64 f', Value.int IntKind.i64 c', Value.bool t'] 30)).cell? ⟨w6.heap.size, o, none⟩ := by
    intro o
    rw [hW.out]
  have z2 : w6.heap.size < W.heap.size := by rw [hW.out]; simp
  have z0 : w.heap.size < W.heap.size := by omega
  have z1 : w4.heap.size < W.heap.size := by omega
  have hoo := HO2.out
  clear hb1c hb1f hb1z hb1c0 hb1f0 hb2c hb2f hb2z hb2c0 hb2f0 hb3c hb3f hb3z hb3c0 hb3f0 hb3c1 hb3f1 hb3c2 hb3f2 hb4c hb4f hb4z hb4c0 hb4f0 hb5c hb5f hb5z hb5c0 hb5f0 hb5c1 hb5f1 hb6c hb6f hb6z hb6c0 hb6f0 hb6c1 hb6f1
  clear hb1 hb2 hb3 hb4 hb5 hb6
  refine wp_region_ext (by kernel_rfl) (by kernel_rfl) ?_
  repeat (go_big_quiet_step (first | (go_at_call 24; exact ext_call (hright_at _ _ _ _ _ _ hR.out)) | (go_at_call 25; exact ext_call (over_at _ _ _ _ _ _ hO.out))))
  refine wpQuiet_nil ?_
  intro w9 hb9
  replace hb9 := ext_below hb9
  go_wp2
  go_ret
  exact ⟨rfl, by (repeat' (first | (with_reducible exact Below.refl _ _) | (with_reducible assumption) | (with_reducible refine below_drewN ?_ _) | (with_reducible refine Below.drew ?_) | (with_reducible refine below_new ?_ (Nat.le_refl _) _) | (with_reducible refine Below.setCell ?_ ?_ _) | (with_reducible refine below_go ?_ (by assumption) (Nat.le_refl _)) | (simp; done) | (simp; omega) | omega))⟩

set_option maxRecDepth 100000 in
set_option maxHeartbeats 1000000 in
theorem steps_noyes (a b p f c : Int) (t sw plus minus still : Bool) (w : World) (hN : Hid (homeB 0 a b = false)) (hR : Hid (homeB p f c = true))
    (p' f' c' : Int) (t' : Bool) (v : Int) (hS : Hid (stepH ⟨p, f, c, t⟩ sw plus minus still = (⟨p', f', c', t'⟩, v))) (o : Bool) (hO : Hid (overB p f c = o)) (ho : o = decide (4 ≤ p)) :
    Calls Try.prog 6 #[.int .i64 a, .int .i64 b, .agg #[.int .i64 p, .int .i64 f, .int .i64 c, .bool t], .bool sw, .bool plus, .bool minus, .bool still] w fun e w' => e = .returned (.bool true) ∧ Below w.heap.size w w' := by
  have HO2 := Lib.hid ho
  clear ho
  go_enter Try.func6, Try.ntmps6
  go_wp2_with fail
  refine (awake13 _).mono ?_
  rintro e w1 ⟨rfl, hb1⟩
  obtain ⟨hb1c, hb1f⟩ := bcell hb1
  have hb1z := hb1.size
  have hb1c0 := fun o => hb1c (w.heap.size) o (by first | (simp; done) | (simp; omega) | (simp at *; omega) | omega)
  have hb1f0 := fun o => hb1f (w.heap.size) o (by first | (simp; done) | (simp; omega) | (simp at *; omega) | omega)
  have hb1l0 := below_lt (b := w.heap.size) hb1 (by first | (simp; done) | (simp; omega) | (simp at *; omega) | omega)
  go_wp2_with fail
  refine (hnew_no _ _ _ hN.out).mono ?_
  rintro e w2 ⟨rfl, hb2⟩
  obtain ⟨hb2c, hb2f⟩ := bcell hb2
  have hb2z := hb2.size
  have hb2c0 := fun o => hb2c (w.heap.size) o (by first | (simp; done) | (simp; omega) | (simp at *; omega) | omega)
  have hb2f0 := fun o => hb2f (w.heap.size) o (by first | (simp; done) | (simp; omega) | (simp at *; omega) | omega)
  have hb2l0 := below_lt (b := w.heap.size) hb2 (by first | (simp; done) | (simp; omega) | (simp at *; omega) | omega)
  go_wp2_with fail
  refine (rright_at _ _ _ _ _ _ hN.out).mono ?_
  rintro e w3 ⟨rfl, hb3⟩
  obtain ⟨hb3c, hb3f⟩ := bcell hb3
  have hb3z := hb3.size
  have hb3c0 := fun o => hb3c (w.heap.size) o (by first | (simp; done) | (simp; omega) | (simp at *; omega) | omega)
  have hb3f0 := fun o => hb3f (w.heap.size) o (by first | (simp; done) | (simp; omega) | (simp at *; omega) | omega)
  have hb3l0 := below_lt (b := w.heap.size) hb3 (by first | (simp; done) | (simp; omega) | (simp at *; omega) | omega)
  have hb3c1 := fun o => hb3c (w2.heap.size) o (by first | (simp; done) | (simp; omega) | (simp at *; omega) | omega)
  have hb3f1 := fun o => hb3f (w2.heap.size) o (by first | (simp; done) | (simp; omega) | (simp at *; omega) | omega)
  have hb3l1 := below_lt (b := w2.heap.size) hb3 (by first | (simp; done) | (simp; omega) | (simp at *; omega) | omega)
  have hb3c2 := fun o => hb3c (w2.heap.size + 1) o (by first | (simp; done) | (simp; omega) | (simp at *; omega) | omega)
  have hb3f2 := fun o => hb3f (w2.heap.size + 1) o (by first | (simp; done) | (simp; omega) | (simp at *; omega) | omega)
  have hb3l2 := below_lt (b := w2.heap.size + 1) hb3 (by first | (simp; done) | (simp; omega) | (simp at *; omega) | omega)
  go_wp2_with fail
  refine (hstep_at _ _ _ _ _ _ _ _ _ _ _ _ _ _ hS.out).mono ?_
  rintro e w4 ⟨rfl, hb4⟩
  obtain ⟨hb4c, hb4f⟩ := bcell hb4
  have hb4z := hb4.size
  have hb4c0 := fun o => hb4c (w.heap.size) o (by first | (simp; done) | (simp; omega) | (simp at *; omega) | omega)
  have hb4f0 := fun o => hb4f (w.heap.size) o (by first | (simp; done) | (simp; omega) | (simp at *; omega) | omega)
  have hb4l0 := below_lt (b := w.heap.size) hb4 (by first | (simp; done) | (simp; omega) | (simp at *; omega) | omega)
  go_wp2_with fail
  refine (rright_at _ _ _ _ _ _ hR.out).mono ?_
  rintro e w5 ⟨rfl, hb5⟩
  obtain ⟨hb5c, hb5f⟩ := bcell hb5
  have hb5z := hb5.size
  have hb5c0 := fun o => hb5c (w.heap.size) o (by first | (simp; done) | (simp; omega) | (simp at *; omega) | omega)
  have hb5f0 := fun o => hb5f (w.heap.size) o (by first | (simp; done) | (simp; omega) | (simp at *; omega) | omega)
  have hb5l0 := below_lt (b := w.heap.size) hb5 (by first | (simp; done) | (simp; omega) | (simp at *; omega) | omega)
  have hb5c1 := fun o => hb5c (w4.heap.size) o (by first | (simp; done) | (simp; omega) | (simp at *; omega) | omega)
  have hb5f1 := fun o => hb5f (w4.heap.size) o (by first | (simp; done) | (simp; omega) | (simp at *; omega) | omega)
  have hb5l1 := below_lt (b := w4.heap.size) hb5 (by first | (simp; done) | (simp; omega) | (simp at *; omega) | omega)
  go_wp2_with fail
  have hr := rstep_any p f c t sw plus minus still w5 hR.out
  rw [hS.out] at hr
  refine hr.mono ?_
  unfold stepV
  rintro e w6 ⟨rfl, hb6⟩
  obtain ⟨hb6c, hb6f⟩ := bcell hb6
  have hb6z := hb6.size
  have hb6c0 := fun o => hb6c (w.heap.size) o (by first | (simp; done) | (simp; omega) | (simp at *; omega) | omega)
  have hb6f0 := fun o => hb6f (w.heap.size) o (by first | (simp; done) | (simp; omega) | (simp at *; omega) | omega)
  have hb6l0 := below_lt (b := w.heap.size) hb6 (by first | (simp; done) | (simp; omega) | (simp at *; omega) | omega)
  have hb6c1 := fun o => hb6c (w4.heap.size) o (by first | (simp; done) | (simp; omega) | (simp at *; omega) | omega)
  have hb6f1 := fun o => hb6f (w4.heap.size) o (by first | (simp; done) | (simp; omega) | (simp at *; omega) | omega)
  have hb6l1 := below_lt (b := w4.heap.size) hb6 (by first | (simp; done) | (simp; omega) | (simp at *; omega) | omega)
  clear hr
  go_wp2_with fail
  refine wp_name fun W hW => ?_
  have hbW : Below w.heap.size w W := by rw [hW.out]; (repeat' (first | (with_reducible exact Below.refl _ _) | (with_reducible assumption) | (with_reducible refine below_drewN ?_ _) | (with_reducible refine Below.drew ?_) | (with_reducible refine below_new ?_ (Nat.le_refl _) _) | (with_reducible refine Below.setCell ?_ ?_ _) | (with_reducible refine below_go ?_ (by assumption) (Nat.le_refl _)) | (simp; done) | (simp; omega) | omega))
  have q0 : ∀ o, W.cell? ⟨w.heap.size, o, none⟩ = (w.alloc (Obj.cells #[Value.int IntKind.i64 p, Value.int IntKind.i64 f, Value.int IntKind.i64 c, Value.bool t] 30)).cell? ⟨w.heap.size, o, none⟩ := by
    intro o
    rw [hW.out]
    go_simp
  have q1 : ∀ o, W.cell? ⟨w4.heap.size, o, none⟩ = (w4.alloc (Obj.cells #[Value.int IntKind.i64 p', Value.int IntKind.i64 f', Value.int IntKind.i64 c', Value.bool t'] 30)).cell? ⟨w4.heap.size, o, none⟩ := by
    intro o
    rw [hW.out]
    go_simp
  have q2 : ∀ o, W.cell? ⟨w6.heap.size, o, none⟩ = (w6.alloc (Obj.cells #[Value.int IntKind.i64 p', Value.int IntKind.i64 f', Value.int IntKind.i64 c', Value.bool t'] 30)).cell? ⟨w6.heap.size, o, none⟩ := by
    intro o
    rw [hW.out]
  have z2 : w6.heap.size < W.heap.size := by rw [hW.out]; simp
  have z0 : w.heap.size < W.heap.size := by omega
  have z1 : w4.heap.size < W.heap.size := by omega
  have hoo := HO2.out
  clear hb1c hb1f hb1z hb1c0 hb1f0 hb2c hb2f hb2z hb2c0 hb2f0 hb3c hb3f hb3z hb3c0 hb3f0 hb3c1 hb3f1 hb3c2 hb3f2 hb4c hb4f hb4z hb4c0 hb4f0 hb5c hb5f hb5z hb5c0 hb5f0 hb5c1 hb5f1 hb6c hb6f hb6z hb6c0 hb6f0 hb6c1 hb6f1
  clear hb1 hb2 hb3 hb4 hb5 hb6
  refine wp_region_ext (by kernel_rfl) (by kernel_rfl) ?_
  repeat (go_big_quiet_step (first | (go_at_call 24; exact ext_call (hright_at _ _ _ _ _ _ hR.out)) | (go_at_call 25; exact ext_call (over_at _ _ _ _ _ _ hO.out))))
  refine wpQuiet_nil ?_
  intro w9 hb9
  replace hb9 := ext_below hb9
  go_wp2
  go_ret
  exact ⟨rfl, by (repeat' (first | (with_reducible exact Below.refl _ _) | (with_reducible assumption) | (with_reducible refine below_drewN ?_ _) | (with_reducible refine Below.drew ?_) | (with_reducible refine below_new ?_ (Nat.le_refl _) _) | (with_reducible refine Below.setCell ?_ ?_ _) | (with_reducible refine below_go ?_ (by assumption) (Nat.le_refl _)) | (simp; done) | (simp; omega) | omega))⟩

set_option maxRecDepth 100000 in
set_option maxHeartbeats 1000000 in
theorem steps_yesno (a b p f c : Int) (t sw plus minus still : Bool) (w : World) (hN : Hid (homeB 0 a b = true)) (hR : Hid (homeB p f c = false)) (hO : Hid (overB p f c = true)) (hS : Hid (stepH ⟨p, f, c, t⟩ sw plus minus still = (⟨p, f, c, t⟩, 0))) :
    Calls Try.prog 6 #[.int .i64 a, .int .i64 b, .agg #[.int .i64 p, .int .i64 f, .int .i64 c, .bool t], .bool sw, .bool plus, .bool minus, .bool still] w fun e w' => e = .returned (.bool true) ∧ Below w.heap.size w w' := by
  go_enter Try.func6, Try.ntmps6
  go_wp2_with fail
  refine (awake13 _).mono ?_
  rintro e w1 ⟨rfl, hb1⟩
  obtain ⟨hb1c, hb1f⟩ := bcell hb1
  have hb1z := hb1.size
  have hb1c0 := fun o => hb1c (w.heap.size) o (by first | (simp; done) | (simp; omega) | (simp at *; omega) | omega)
  have hb1f0 := fun o => hb1f (w.heap.size) o (by first | (simp; done) | (simp; omega) | (simp at *; omega) | omega)
  have hb1l0 := below_lt (b := w.heap.size) hb1 (by first | (simp; done) | (simp; omega) | (simp at *; omega) | omega)
  go_wp2_with fail
  refine (hnew_yes _ _ _ hN.out).mono ?_
  rintro e w2 ⟨rfl, hb2⟩
  obtain ⟨hb2c, hb2f⟩ := bcell hb2
  have hb2z := hb2.size
  have hb2c0 := fun o => hb2c (w.heap.size) o (by first | (simp; done) | (simp; omega) | (simp at *; omega) | omega)
  have hb2f0 := fun o => hb2f (w.heap.size) o (by first | (simp; done) | (simp; omega) | (simp at *; omega) | omega)
  have hb2l0 := below_lt (b := w.heap.size) hb2 (by first | (simp; done) | (simp; omega) | (simp at *; omega) | omega)
  go_wp2_with fail
  refine (rright_at _ _ _ _ _ _ hN.out).mono ?_
  rintro e w3 ⟨rfl, hb3⟩
  obtain ⟨hb3c, hb3f⟩ := bcell hb3
  have hb3z := hb3.size
  have hb3c0 := fun o => hb3c (w.heap.size) o (by first | (simp; done) | (simp; omega) | (simp at *; omega) | omega)
  have hb3f0 := fun o => hb3f (w.heap.size) o (by first | (simp; done) | (simp; omega) | (simp at *; omega) | omega)
  have hb3l0 := below_lt (b := w.heap.size) hb3 (by first | (simp; done) | (simp; omega) | (simp at *; omega) | omega)
  have hb3c1 := fun o => hb3c (w2.heap.size) o (by first | (simp; done) | (simp; omega) | (simp at *; omega) | omega)
  have hb3f1 := fun o => hb3f (w2.heap.size) o (by first | (simp; done) | (simp; omega) | (simp at *; omega) | omega)
  have hb3l1 := below_lt (b := w2.heap.size) hb3 (by first | (simp; done) | (simp; omega) | (simp at *; omega) | omega)
  have hb3c2 := fun o => hb3c (w2.heap.size + 1) o (by first | (simp; done) | (simp; omega) | (simp at *; omega) | omega)
  have hb3f2 := fun o => hb3f (w2.heap.size + 1) o (by first | (simp; done) | (simp; omega) | (simp at *; omega) | omega)
  have hb3l2 := below_lt (b := w2.heap.size + 1) hb3 (by first | (simp; done) | (simp; omega) | (simp at *; omega) | omega)
  go_wp2_with fail
  refine (hstep_at _ _ _ _ _ _ _ _ _ _ _ _ _ _ hS.out).mono ?_
  rintro e w4 ⟨rfl, hb4⟩
  obtain ⟨hb4c, hb4f⟩ := bcell hb4
  have hb4z := hb4.size
  have hb4c0 := fun o => hb4c (w.heap.size) o (by first | (simp; done) | (simp; omega) | (simp at *; omega) | omega)
  have hb4f0 := fun o => hb4f (w.heap.size) o (by first | (simp; done) | (simp; omega) | (simp at *; omega) | omega)
  have hb4l0 := below_lt (b := w.heap.size) hb4 (by first | (simp; done) | (simp; omega) | (simp at *; omega) | omega)
  go_wp2_with fail
  refine (rright_at _ _ _ _ _ _ hR.out).mono ?_
  rintro e w5 ⟨rfl, hb5⟩
  obtain ⟨hb5c, hb5f⟩ := bcell hb5
  have hb5z := hb5.size
  have hb5c0 := fun o => hb5c (w.heap.size) o (by first | (simp; done) | (simp; omega) | (simp at *; omega) | omega)
  have hb5f0 := fun o => hb5f (w.heap.size) o (by first | (simp; done) | (simp; omega) | (simp at *; omega) | omega)
  have hb5l0 := below_lt (b := w.heap.size) hb5 (by first | (simp; done) | (simp; omega) | (simp at *; omega) | omega)
  have hb5c1 := fun o => hb5c (w4.heap.size) o (by first | (simp; done) | (simp; omega) | (simp at *; omega) | omega)
  have hb5f1 := fun o => hb5f (w4.heap.size) o (by first | (simp; done) | (simp; omega) | (simp at *; omega) | omega)
  have hb5l1 := below_lt (b := w4.heap.size) hb5 (by first | (simp; done) | (simp; omega) | (simp at *; omega) | omega)
  go_wp2_with fail
  refine (hright_at _ _ _ _ _ _ hR.out).mono ?_
  rintro e w6 ⟨rfl, hb6⟩
  obtain ⟨hb6c, hb6f⟩ := bcell hb6
  have hb6z := hb6.size
  have hb6c0 := fun o => hb6c (w.heap.size) o (by first | (simp; done) | (simp; omega) | (simp at *; omega) | omega)
  have hb6f0 := fun o => hb6f (w.heap.size) o (by first | (simp; done) | (simp; omega) | (simp at *; omega) | omega)
  have hb6l0 := below_lt (b := w.heap.size) hb6 (by first | (simp; done) | (simp; omega) | (simp at *; omega) | omega)
  have hb6c1 := fun o => hb6c (w4.heap.size) o (by first | (simp; done) | (simp; omega) | (simp at *; omega) | omega)
  have hb6f1 := fun o => hb6f (w4.heap.size) o (by first | (simp; done) | (simp; omega) | (simp at *; omega) | omega)
  have hb6l1 := below_lt (b := w4.heap.size) hb6 (by first | (simp; done) | (simp; omega) | (simp at *; omega) | omega)
  go_wp2_with fail
  refine (over_at _ _ _ _ _ _ hO.out).mono ?_
  rintro e w7 ⟨rfl, hb7⟩
  obtain ⟨hb7c, hb7f⟩ := bcell hb7
  have hb7z := hb7.size
  have hb7c0 := fun o => hb7c (w.heap.size) o (by first | (simp; done) | (simp; omega) | (simp at *; omega) | omega)
  have hb7f0 := fun o => hb7f (w.heap.size) o (by first | (simp; done) | (simp; omega) | (simp at *; omega) | omega)
  have hb7l0 := below_lt (b := w.heap.size) hb7 (by first | (simp; done) | (simp; omega) | (simp at *; omega) | omega)
  have hb7c1 := fun o => hb7c (w4.heap.size) o (by first | (simp; done) | (simp; omega) | (simp at *; omega) | omega)
  have hb7f1 := fun o => hb7f (w4.heap.size) o (by first | (simp; done) | (simp; omega) | (simp at *; omega) | omega)
  have hb7l1 := below_lt (b := w4.heap.size) hb7 (by first | (simp; done) | (simp; omega) | (simp at *; omega) | omega)
  go_wp2
  go_ret
  exact ⟨rfl, by (repeat' (first | (with_reducible exact Below.refl _ _) | (with_reducible assumption) | (with_reducible refine below_drewN ?_ _) | (with_reducible refine Below.drew ?_) | (with_reducible refine below_new ?_ (Nat.le_refl _) _) | (with_reducible refine Below.setCell ?_ ?_ _) | (with_reducible refine below_go ?_ (by assumption) (Nat.le_refl _)) | (simp; done) | (simp; omega) | omega))⟩

set_option maxRecDepth 100000 in
set_option maxHeartbeats 1000000 in
theorem steps_nono (a b p f c : Int) (t sw plus minus still : Bool) (w : World) (hN : Hid (homeB 0 a b = false)) (hR : Hid (homeB p f c = false)) (hO : Hid (overB p f c = true)) (hS : Hid (stepH ⟨p, f, c, t⟩ sw plus minus still = (⟨p, f, c, t⟩, 0))) :
    Calls Try.prog 6 #[.int .i64 a, .int .i64 b, .agg #[.int .i64 p, .int .i64 f, .int .i64 c, .bool t], .bool sw, .bool plus, .bool minus, .bool still] w fun e w' => e = .returned (.bool true) ∧ Below w.heap.size w w' := by
  go_enter Try.func6, Try.ntmps6
  go_wp2_with fail
  refine (awake13 _).mono ?_
  rintro e w1 ⟨rfl, hb1⟩
  obtain ⟨hb1c, hb1f⟩ := bcell hb1
  have hb1z := hb1.size
  have hb1c0 := fun o => hb1c (w.heap.size) o (by first | (simp; done) | (simp; omega) | (simp at *; omega) | omega)
  have hb1f0 := fun o => hb1f (w.heap.size) o (by first | (simp; done) | (simp; omega) | (simp at *; omega) | omega)
  have hb1l0 := below_lt (b := w.heap.size) hb1 (by first | (simp; done) | (simp; omega) | (simp at *; omega) | omega)
  go_wp2_with fail
  refine (hnew_no _ _ _ hN.out).mono ?_
  rintro e w2 ⟨rfl, hb2⟩
  obtain ⟨hb2c, hb2f⟩ := bcell hb2
  have hb2z := hb2.size
  have hb2c0 := fun o => hb2c (w.heap.size) o (by first | (simp; done) | (simp; omega) | (simp at *; omega) | omega)
  have hb2f0 := fun o => hb2f (w.heap.size) o (by first | (simp; done) | (simp; omega) | (simp at *; omega) | omega)
  have hb2l0 := below_lt (b := w.heap.size) hb2 (by first | (simp; done) | (simp; omega) | (simp at *; omega) | omega)
  go_wp2_with fail
  refine (rright_at _ _ _ _ _ _ hN.out).mono ?_
  rintro e w3 ⟨rfl, hb3⟩
  obtain ⟨hb3c, hb3f⟩ := bcell hb3
  have hb3z := hb3.size
  have hb3c0 := fun o => hb3c (w.heap.size) o (by first | (simp; done) | (simp; omega) | (simp at *; omega) | omega)
  have hb3f0 := fun o => hb3f (w.heap.size) o (by first | (simp; done) | (simp; omega) | (simp at *; omega) | omega)
  have hb3l0 := below_lt (b := w.heap.size) hb3 (by first | (simp; done) | (simp; omega) | (simp at *; omega) | omega)
  have hb3c1 := fun o => hb3c (w2.heap.size) o (by first | (simp; done) | (simp; omega) | (simp at *; omega) | omega)
  have hb3f1 := fun o => hb3f (w2.heap.size) o (by first | (simp; done) | (simp; omega) | (simp at *; omega) | omega)
  have hb3l1 := below_lt (b := w2.heap.size) hb3 (by first | (simp; done) | (simp; omega) | (simp at *; omega) | omega)
  have hb3c2 := fun o => hb3c (w2.heap.size + 1) o (by first | (simp; done) | (simp; omega) | (simp at *; omega) | omega)
  have hb3f2 := fun o => hb3f (w2.heap.size + 1) o (by first | (simp; done) | (simp; omega) | (simp at *; omega) | omega)
  have hb3l2 := below_lt (b := w2.heap.size + 1) hb3 (by first | (simp; done) | (simp; omega) | (simp at *; omega) | omega)
  go_wp2_with fail
  refine (hstep_at _ _ _ _ _ _ _ _ _ _ _ _ _ _ hS.out).mono ?_
  rintro e w4 ⟨rfl, hb4⟩
  obtain ⟨hb4c, hb4f⟩ := bcell hb4
  have hb4z := hb4.size
  have hb4c0 := fun o => hb4c (w.heap.size) o (by first | (simp; done) | (simp; omega) | (simp at *; omega) | omega)
  have hb4f0 := fun o => hb4f (w.heap.size) o (by first | (simp; done) | (simp; omega) | (simp at *; omega) | omega)
  have hb4l0 := below_lt (b := w.heap.size) hb4 (by first | (simp; done) | (simp; omega) | (simp at *; omega) | omega)
  go_wp2_with fail
  refine (rright_at _ _ _ _ _ _ hR.out).mono ?_
  rintro e w5 ⟨rfl, hb5⟩
  obtain ⟨hb5c, hb5f⟩ := bcell hb5
  have hb5z := hb5.size
  have hb5c0 := fun o => hb5c (w.heap.size) o (by first | (simp; done) | (simp; omega) | (simp at *; omega) | omega)
  have hb5f0 := fun o => hb5f (w.heap.size) o (by first | (simp; done) | (simp; omega) | (simp at *; omega) | omega)
  have hb5l0 := below_lt (b := w.heap.size) hb5 (by first | (simp; done) | (simp; omega) | (simp at *; omega) | omega)
  have hb5c1 := fun o => hb5c (w4.heap.size) o (by first | (simp; done) | (simp; omega) | (simp at *; omega) | omega)
  have hb5f1 := fun o => hb5f (w4.heap.size) o (by first | (simp; done) | (simp; omega) | (simp at *; omega) | omega)
  have hb5l1 := below_lt (b := w4.heap.size) hb5 (by first | (simp; done) | (simp; omega) | (simp at *; omega) | omega)
  go_wp2_with fail
  refine (hright_at _ _ _ _ _ _ hR.out).mono ?_
  rintro e w6 ⟨rfl, hb6⟩
  obtain ⟨hb6c, hb6f⟩ := bcell hb6
  have hb6z := hb6.size
  have hb6c0 := fun o => hb6c (w.heap.size) o (by first | (simp; done) | (simp; omega) | (simp at *; omega) | omega)
  have hb6f0 := fun o => hb6f (w.heap.size) o (by first | (simp; done) | (simp; omega) | (simp at *; omega) | omega)
  have hb6l0 := below_lt (b := w.heap.size) hb6 (by first | (simp; done) | (simp; omega) | (simp at *; omega) | omega)
  have hb6c1 := fun o => hb6c (w4.heap.size) o (by first | (simp; done) | (simp; omega) | (simp at *; omega) | omega)
  have hb6f1 := fun o => hb6f (w4.heap.size) o (by first | (simp; done) | (simp; omega) | (simp at *; omega) | omega)
  have hb6l1 := below_lt (b := w4.heap.size) hb6 (by first | (simp; done) | (simp; omega) | (simp at *; omega) | omega)
  go_wp2_with fail
  refine (over_at _ _ _ _ _ _ hO.out).mono ?_
  rintro e w7 ⟨rfl, hb7⟩
  obtain ⟨hb7c, hb7f⟩ := bcell hb7
  have hb7z := hb7.size
  have hb7c0 := fun o => hb7c (w.heap.size) o (by first | (simp; done) | (simp; omega) | (simp at *; omega) | omega)
  have hb7f0 := fun o => hb7f (w.heap.size) o (by first | (simp; done) | (simp; omega) | (simp at *; omega) | omega)
  have hb7l0 := below_lt (b := w.heap.size) hb7 (by first | (simp; done) | (simp; omega) | (simp at *; omega) | omega)
  have hb7c1 := fun o => hb7c (w4.heap.size) o (by first | (simp; done) | (simp; omega) | (simp at *; omega) | omega)
  have hb7f1 := fun o => hb7f (w4.heap.size) o (by first | (simp; done) | (simp; omega) | (simp at *; omega) | omega)
  have hb7l1 := below_lt (b := w4.heap.size) hb7 (by first | (simp; done) | (simp; omega) | (simp at *; omega) | omega)
  go_wp2
  go_ret
  exact ⟨rfl, by (repeat' (first | (with_reducible exact Below.refl _ _) | (with_reducible assumption) | (with_reducible refine below_drewN ?_ _) | (with_reducible refine Below.drew ?_) | (with_reducible refine below_new ?_ (Nat.le_refl _) _) | (with_reducible refine Below.setCell ?_ ?_ _) | (with_reducible refine below_go ?_ (by assumption) (Nat.le_refl _)) | (simp; done) | (simp; omega) | omega))⟩


theorem walk_HomeSteps (a b p f c : Int) (t sw plus minus still : Bool) (w : World) :
    Calls Try.prog 6 #[.int .i64 a, .int .i64 b, .agg #[.int .i64 p, .int .i64 f, .int .i64 c, .bool t], .bool sw, .bool plus, .bool minus, .bool still] w fun e w' => e = .returned (.bool true) ∧ Below w.heap.size w w' := by
  cases hN : homeB 0 a b <;> cases hR : homeB p f c
  · have hO : overB p f c = true := by simp [overB, hR]
    exact steps_nono a b p f c t sw plus minus still w hN hR hO (stepH_over (h := ⟨p, f, c, t⟩) hO _ _ _ _)
  · exact steps_noyes a b p f c t sw plus minus still w hN hR _ _ _ _ _ rfl _ rfl (over_four hR)
  · have hO : overB p f c = true := by simp [overB, hR]
    exact steps_yesno a b p f c t sw plus minus still w hN hR hO (stepH_over (h := ⟨p, f, c, t⟩) hO _ _ _ _)
  · exact steps_yes a b p f c t sw plus minus still w hN hR _ _ _ _ _ rfl _ rfl (over_four hR)

end Go.Proofs.Ytddakmlnkffgiaa
