/- Layer 14: where any axis should be, and what is wanted of it, is the document's: GearRight returns true. Conditions: none. -/
import Derived.Test.YtgbcefdlmockoaaGearD
import Derived.Test.YtgbcefdlmockoaaReadS
namespace Go.Proofs.Ytgbcefdlmockoaa
open Go.ChangeShapes Go.WideShapes Go.ChangeAt Go.RowKit
set_option linter.unusedVariables false
set_option linter.unusedSimpArgs false
attribute [local go_sem] ite_max ite_min vite_max vite_min ite_max0 vite_max0 ext_cell ext_frozen

theorem cells_limits : Try.prog.cellsOf 41 = 5 := by kernel_rfl
theorem rd_limits {H : Type} {enc : TypeId × Value → H} {w : World} {cs : List Value} (h : Rd enc Try.prog w 41 cs) : ∃ (x0 : Int) (x1 : Int) (x2 : Int) (x3 : Int) (x4 : Int), cs = [.int .i64 x0, .int .i64 x1, .int .i64 x2, .int .i64 x3, .int .i64 x4] ∧ (Lit.int .i64 x0).wf = true ∧ (Lit.int .i64 x1).wf = true ∧ (Lit.int .i64 x2).wf = true ∧ (Lit.int .i64 x3).wf = true ∧ (Lit.int .i64 x4).wf = true := by
  obtain ⟨hl, hf⟩ := rd_struct Try.underlying41 h
  rw [cells_limits] at hl
  obtain ⟨c0, c1, c2, c3, c4, rfl⟩ := list_5 cs hl
  have h0 : Rd enc Try.prog w 2 [c0] := by simpa [show Try.prog.cellsOf 2 = 1 by kernel_rfl] using hf 0 _ rfl
  obtain ⟨x0, e0, w0⟩ := rd_int Try.underlying2 h0
  simp only [List.cons.injEq, and_true] at e0
  have h1 : Rd enc Try.prog w 2 [c1] := by simpa [show Try.prog.cellsOf 2 = 1 by kernel_rfl] using hf 1 _ rfl
  obtain ⟨x1, e1, w1⟩ := rd_int Try.underlying2 h1
  simp only [List.cons.injEq, and_true] at e1
  have h2 : Rd enc Try.prog w 2 [c2] := by simpa [show Try.prog.cellsOf 2 = 1 by kernel_rfl] using hf 2 _ rfl
  obtain ⟨x2, e2, w2⟩ := rd_int Try.underlying2 h2
  simp only [List.cons.injEq, and_true] at e2
  have h3 : Rd enc Try.prog w 2 [c3] := by simpa [show Try.prog.cellsOf 2 = 1 by kernel_rfl] using hf 3 _ rfl
  obtain ⟨x3, e3, w3⟩ := rd_int Try.underlying2 h3
  simp only [List.cons.injEq, and_true] at e3
  have h4 : Rd enc Try.prog w 2 [c4] := by simpa [show Try.prog.cellsOf 2 = 1 by kernel_rfl] using hf 4 _ rfl
  obtain ⟨x4, e4, w4⟩ := rd_int Try.underlying2 h4
  simp only [List.cons.injEq, and_true] at e4
  subst e0 e1 e2 e3 e4
  exact ⟨x0, x1, x2, x3, x4, rfl, w0, w1, w2, w3, w4⟩
theorem cells_gen : Try.prog.cellsOf 43 = 2 := by kernel_rfl
theorem rd_gen {H : Type} {enc : TypeId × Value → H} {w : World} {cs : List Value} (h : Rd enc Try.prog w 43 cs) : ∃ (x0 : Int) (x1 : Int), cs = [.int .i64 x0, .int .i64 x1] ∧ (Lit.int .i64 x0).wf = true ∧ (Lit.int .i64 x1).wf = true := by
  obtain ⟨hl, hf⟩ := rd_struct Try.underlying43 h
  rw [cells_gen] at hl
  obtain ⟨c0, c1, rfl⟩ := list_2 cs hl
  have h0 : Rd enc Try.prog w 2 [c0] := by simpa [show Try.prog.cellsOf 2 = 1 by kernel_rfl] using hf 0 _ rfl
  obtain ⟨x0, e0, w0⟩ := rd_int Try.underlying2 h0
  simp only [List.cons.injEq, and_true] at e0
  have h1 : Rd enc Try.prog w 2 [c1] := by simpa [show Try.prog.cellsOf 2 = 1 by kernel_rfl] using hf 1 _ rfl
  obtain ⟨x1, e1, w1⟩ := rd_int Try.underlying2 h1
  simp only [List.cons.injEq, and_true] at e1
  subst e0 e1
  exact ⟨x0, x1, rfl, w0, w1⟩

set_option maxRecDepth 100000 in
set_option maxHeartbeats 4000000 in
theorem gearright_of (V A D L H p v s f m n k P x : Int) (O o : Bool) (w : World)
    (HP1 : Hid (∀ w, Calls Try.prog 30 #[.int .i64 s, .int .i64 f, .int .i64 m, .int .i64 n, .int .i64 k] w fun e w' => e = .returned (.tuple #[.int .i64 P, .bool O]) ∧ Below w.heap.size w w'))
    (HP2 : Hid (∀ w, Calls Try.prog 31 #[.int .i64 s, .int .i64 f, .int .i64 m, .int .i64 n, .int .i64 k] w fun e w' => e = .returned (.tuple #[.int .i64 P, .bool O]) ∧ Below w.heap.size w w'))
    (HW1 : Hid (∀ w, Calls Try.prog 32 #[.agg #[.int .i64 V, .int .i64 A, .int .i64 D, .int .i64 L, .int .i64 H], .agg #[.int .i64 p, .int .i64 v], .int .i64 s, .int .i64 f, .int .i64 m, .int .i64 n, .int .i64 k] w fun e w' => e = .returned (.tuple #[.int .i64 x, .bool o]) ∧ Below w.heap.size w w'))
    (HW2 : Hid (∀ w, Calls Try.prog 33 #[.agg #[.int .i64 V, .int .i64 A, .int .i64 D, .int .i64 L, .int .i64 H], .agg #[.int .i64 p, .int .i64 v], .int .i64 s, .int .i64 f, .int .i64 m, .int .i64 n, .int .i64 k] w fun e w' => e = .returned (.tuple #[.int .i64 x, .bool o]) ∧ Below w.heap.size w w')) :
    Calls Try.prog 10 #[.agg #[.int .i64 V, .int .i64 A, .int .i64 D, .int .i64 L, .int .i64 H], .agg #[.int .i64 p, .int .i64 v], .int .i64 s, .int .i64 f, .int .i64 m, .int .i64 n, .int .i64 k] w fun e w' => e = .returned (.bool true) ∧ Below w.heap.size w w' := by
  go_enter Try.func10, Try.ntmps10
  go_wp2_with fail
  refine (awake14 _).mono ?_
  rintro e w1 ⟨rfl, hb1⟩
  obtain ⟨hb1c, hb1f⟩ := bcell hb1
  have hb1z := hb1.size
  have hb1c0 := fun o => hb1c (w.heap.size) o (by first | (simp; done) | (simp; omega) | (simp at *; omega) | omega)
  have hb1f0 := fun o => hb1f (w.heap.size) o (by first | (simp; done) | (simp; omega) | (simp at *; omega) | omega)
  have hb1l0 := below_lt (b := w.heap.size) hb1 (by first | (simp; done) | (simp; omega) | (simp at *; omega) | omega)
  have hb1c1 := fun o => hb1c (w.heap.size + 1) o (by first | (simp; done) | (simp; omega) | (simp at *; omega) | omega)
  have hb1f1 := fun o => hb1f (w.heap.size + 1) o (by first | (simp; done) | (simp; omega) | (simp at *; omega) | omega)
  have hb1l1 := below_lt (b := w.heap.size + 1) hb1 (by first | (simp; done) | (simp; omega) | (simp at *; omega) | omega)
  go_wp2_with fail
  refine (HP1.out _).mono ?_
  rintro e w2 ⟨rfl, hb2⟩
  obtain ⟨hb2c, hb2f⟩ := bcell hb2
  have hb2z := hb2.size
  have hb2c0 := fun o => hb2c (w.heap.size) o (by first | (simp; done) | (simp; omega) | (simp at *; omega) | omega)
  have hb2f0 := fun o => hb2f (w.heap.size) o (by first | (simp; done) | (simp; omega) | (simp at *; omega) | omega)
  have hb2l0 := below_lt (b := w.heap.size) hb2 (by first | (simp; done) | (simp; omega) | (simp at *; omega) | omega)
  have hb2c1 := fun o => hb2c (w.heap.size + 1) o (by first | (simp; done) | (simp; omega) | (simp at *; omega) | omega)
  have hb2f1 := fun o => hb2f (w.heap.size + 1) o (by first | (simp; done) | (simp; omega) | (simp at *; omega) | omega)
  have hb2l1 := below_lt (b := w.heap.size + 1) hb2 (by first | (simp; done) | (simp; omega) | (simp at *; omega) | omega)
  go_wp2_with fail
  refine (HP2.out _).mono ?_
  rintro e w3 ⟨rfl, hb3⟩
  obtain ⟨hb3c, hb3f⟩ := bcell hb3
  have hb3z := hb3.size
  have hb3c0 := fun o => hb3c (w.heap.size) o (by first | (simp; done) | (simp; omega) | (simp at *; omega) | omega)
  have hb3f0 := fun o => hb3f (w.heap.size) o (by first | (simp; done) | (simp; omega) | (simp at *; omega) | omega)
  have hb3l0 := below_lt (b := w.heap.size) hb3 (by first | (simp; done) | (simp; omega) | (simp at *; omega) | omega)
  have hb3c1 := fun o => hb3c (w.heap.size + 1) o (by first | (simp; done) | (simp; omega) | (simp at *; omega) | omega)
  have hb3f1 := fun o => hb3f (w.heap.size + 1) o (by first | (simp; done) | (simp; omega) | (simp at *; omega) | omega)
  have hb3l1 := below_lt (b := w.heap.size + 1) hb3 (by first | (simp; done) | (simp; omega) | (simp at *; omega) | omega)
  go_wp2_with fail
  refine (HW1.out _).mono ?_
  rintro e w4 ⟨rfl, hb4⟩
  obtain ⟨hb4c, hb4f⟩ := bcell hb4
  have hb4z := hb4.size
  have hb4c0 := fun o => hb4c (w.heap.size) o (by first | (simp; done) | (simp; omega) | (simp at *; omega) | omega)
  have hb4f0 := fun o => hb4f (w.heap.size) o (by first | (simp; done) | (simp; omega) | (simp at *; omega) | omega)
  have hb4l0 := below_lt (b := w.heap.size) hb4 (by first | (simp; done) | (simp; omega) | (simp at *; omega) | omega)
  have hb4c1 := fun o => hb4c (w.heap.size + 1) o (by first | (simp; done) | (simp; omega) | (simp at *; omega) | omega)
  have hb4f1 := fun o => hb4f (w.heap.size + 1) o (by first | (simp; done) | (simp; omega) | (simp at *; omega) | omega)
  have hb4l1 := below_lt (b := w.heap.size + 1) hb4 (by first | (simp; done) | (simp; omega) | (simp at *; omega) | omega)
  go_wp2_with fail
  refine (HW2.out _).mono ?_
  rintro e w5 ⟨rfl, hb5⟩
  go_wp2
  go_ret
  exact ⟨rfl, by (repeat' (first | (with_reducible exact Below.refl _ _) | (with_reducible assumption) | (with_reducible refine below_drewN ?_ _) | (with_reducible refine Below.drew ?_) | (with_reducible refine below_new ?_ (Nat.le_refl _) _) | (with_reducible refine Below.setCell ?_ ?_ _) | (with_reducible refine below_go ?_ (by assumption) (Nat.le_refl _)) | (simp; done) | (simp; omega) | omega))⟩

theorem walk_GearRight (V A D L H p v s f m n k : Int) (w : World) (hl : (Lit.int .i64 V).wf = true ∧ (Lit.int .i64 A).wf = true ∧ (Lit.int .i64 D).wf = true ∧ (Lit.int .i64 L).wf = true ∧ (Lit.int .i64 H).wf = true)
    (hg : (Lit.int .i64 p).wf = true ∧ (Lit.int .i64 v).wf = true) (h1 : (Lit.int .i64 s).wf = true) (h2 : (Lit.int .i64 f).wf = true) (h3 : (Lit.int .i64 m).wf = true) (h4 : (Lit.int .i64 n).wf = true) (h5 : (Lit.int .i64 k).wf = true) :
    Calls Try.prog 10 #[.agg #[.int .i64 V, .int .i64 A, .int .i64 D, .int .i64 L, .int .i64 H], .agg #[.int .i64 p, .int .i64 v], .int .i64 s, .int .i64 f, .int .i64 m, .int .i64 n, .int .i64 k] w fun e w' => e = .returned (.bool true) ∧ Below w.heap.size w w' := by
  have hp := bounds_i64 hg.1
  have HP1 := Lib.hid (fun w => gplace_any s f m n k w (bounds_i64 h1) (bounds_i64 h2) (bounds_i64 h3) (bounds_i64 h4) (bounds_i64 h5))
  have HP2 := Lib.hid (fun w => rplace14_any s f m n k w (bounds_i64 h1) (bounds_i64 h2) (bounds_i64 h3) (bounds_i64 h4) (bounds_i64 h5))
  have hPb := gplace_bd s f m n k
  cases hk : okB ⟨V, A, D, L, H⟩ ⟨p, v⟩
  · have HM := Lib.hid (fun w => gmay_no V A D L H p v w hk hp)
    cases hr : rightB ⟨V, A, D, L, H⟩
    · exact gearright_of V A D L H p v s f m n k _ _ _ _ w HP1 HP2 (Lib.hid fun w => gwant_any V A D L H p v s f m n k _ 0 0 _ w hp hPb HP1 HM) (Lib.hid fun w => rwant14_0 V A D L H p v s f m n k _ 0 0 _ w hp hPb HP2 (Lib.hid hr) (fun h => absurd rfl h) (Lib.hid (by simp)))
    · have hsf : safeB ⟨V, A, D, L, H⟩ ⟨p, v⟩ = false := by simpa [okB, hr] using hk
      exact gearright_of V A D L H p v s f m n k _ _ _ _ w HP1 HP2 (Lib.hid fun w => gwant_any V A D L H p v s f m n k _ 0 0 _ w hp hPb HP1 HM) (Lib.hid fun w => rwant14_1 V A D L H p v s f m n k _ 0 0 _ w hp hPb HP2 (Lib.hid hr) (fun _ => Lib.hid hsf) (Lib.hid (by simp)))
  · have HM := Lib.hid (fun w => gmay_yes V A D L H p v w hk)
    exact gearright_of V A D L H p v s f m n k _ _ _ _ w HP1 HP2 (Lib.hid fun w => gwant_any V A D L H p v s f m n k _ _ _ _ w hp hPb HP1 HM) (Lib.hid fun w => rwant14_2 V A D L H p v s f m n k _ _ _ _ w hp hPb HP2 (Lib.hid (okB_yes hk).1) (fun _ => Lib.hid (okB_yes hk).2) (Lib.hid (by simpa using hk)))

set_option maxRecDepth 100000 in
theorem lifted_GearRight (os : Os) (started : os.Started) (H : Type) (enc : TypeId × Value → H) :
    ReturnsInHanded {} Try.checked os 10 .any (Rows.gearRightSpec.pre6 enc Try.prog Try.f10 Rows.gearRightRow.domain false) (Rows.gearRightSpec.post enc Try.prog Try.f10 false true false false) := by
  refine returnsInHanded_of_change (C := Try.checked) own started (by kernel_rfl) Try.func10
    (ChangeSpec.witness6 (enc := enc) (C := Try.checked) false ⟨#[], #[.agg #[.int .i64 0, .int .i64 0, .int .i64 0, .int .i64 0, .int .i64 0], .agg #[.int .i64 0, .int .i64 0], .int .i64 0, .int .i64 0, .int .i64 0, .int .i64 0, .int .i64 0], []⟩ 8 (by kernel_rfl) (by kernel_rfl) (by kernel_rfl) (by kernel_rfl)) ?_
  intro W base args ds gs before hval0 hW hcnd _
  have hval : ∀ (j : Nat) t v, Try.f10.params[j]? = some t → args[j]? = some v → Value.okWide Try.prog W .any base t v := hval0
  have hW' := hW
  obtain ⟨p, q, hA0, hV, rfl, hfz, hnd⟩ := hW'
  have hA : DataW.TrodAll enc Try.prog W 0 (fun _ => true) true Try.f10.params.toList args.toList ds p := hA0
  rw [Try.params10] at hA hval
  obtain ⟨v0, vs0, d0, ds0, p0, q0, hargs, rfl, rfl, h0, r0⟩ := trodAll_cons hA
  obtain ⟨v1, vs1, d1, ds1, p1, q1, rfl, rfl, rfl, h1, r1⟩ := trodAll_cons r0
  obtain ⟨v2, vs2, d2, ds2, p2, q2, rfl, rfl, rfl, h2, r2⟩ := trodAll_cons r1
  obtain ⟨v3, vs3, d3, ds3, p3, q3, rfl, rfl, rfl, h3, r3⟩ := trodAll_cons r2
  obtain ⟨v4, vs4, d4, ds4, p4, q4, rfl, rfl, rfl, h4, r4⟩ := trodAll_cons r3
  obtain ⟨v5, vs5, d5, ds5, p5, q5, rfl, rfl, rfl, h5, r5⟩ := trodAll_cons r4
  obtain ⟨v6, vs6, d6, ds6, p6, q6, rfl, rfl, rfl, h6, r6⟩ := trodAll_cons r5
  obtain ⟨rfl, rfl, rfl⟩ := trodAll_nil r6
  obtain rfl : args = #[v0, v1, v2, v3, v4, v5, v6] := by cases args; simp_all
  obtain ⟨rfl, rfl⟩ := trodVars_none hV
  obtain ⟨cs0, e0, r0⟩ := rd_agg Try.underlying41 (hval 0 41 v0 rfl rfl) h0
  obtain ⟨a0_0, a0_1, a0_2, a0_3, a0_4, f0, w0⟩ := rd_limits r0
  subst f0
  subst e0
  obtain ⟨cs1, e1, r1⟩ := rd_agg Try.underlying43 (hval 1 43 v1 rfl rfl) h1
  obtain ⟨a1_0, a1_1, f1, w1⟩ := rd_gen r1
  subst f1
  subst e1
  obtain ⟨a2, rfl, rfl, rfl, w2⟩ := open_int Try.underlying2 (hval 2 2 v2 rfl rfl) h2
  obtain ⟨a3, rfl, rfl, rfl, w3⟩ := open_int Try.underlying2 (hval 3 2 v3 rfl rfl) h3
  obtain ⟨a4, rfl, rfl, rfl, w4⟩ := open_int Try.underlying2 (hval 4 2 v4 rfl rfl) h4
  obtain ⟨a5, rfl, rfl, rfl, w5⟩ := open_int Try.underlying2 (hval 5 2 v5 rfl rfl) h5
  obtain ⟨a6, rfl, rfl, rfl, w6⟩ := open_int Try.underlying2 (hval 6 2 v6 rfl rfl) h6
  refine (walk_GearRight a0_0 a0_1 a0_2 a0_3 a0_4 a1_0 a1_1 a2 a3 a4 a5 a6 W w0 w1 w2 w3 w4 w5 w6).mono fun e W' ⟨he, hb⟩ => ⟨_, he, ?_⟩
  exact law_post_any laid_out Try.underlying4 hW rfl ⟨rfl, rfl, rfl⟩ rfl (by kernel_rfl) hb

theorem over_GearRight : Rows.gearRightRow.holds Try.pinned (OpenSpec.ofChange Rows.gearRightSpec) :=
  OpenClaim.holds_of_wide 10 Try.f10 rfl rfl rfl rfl rfl rfl rfl ⟨rfl, rfl, rfl, rfl, rfl⟩ rfl rfl rfl rfl rfl (by kernel_rfl) Try.func10 (by kernel_rfl)
    (of_decide_eq_true (by kernel_rfl)) (by unfold Func.isWrapper; first | (rw [if_pos (by decide +kernel)]; kernel_rfl) | (rw [if_neg (by decide +kernel)]; exact ⟨rfl, rfl⟩))
    (fun os started H enc _ => lifted_GearRight os started H enc)

/-- the statement -/
theorem GearRight_holds : Rows.GearRightSaid := over_GearRight
#print axioms GearRight_holds

end Go.Proofs.Ytgbcefdlmockoaa
