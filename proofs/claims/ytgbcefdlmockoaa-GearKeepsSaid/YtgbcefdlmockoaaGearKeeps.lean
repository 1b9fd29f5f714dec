/- Layer 14: whatever the master does, cycle by cycle, the axis stays safe within its bounds; and behind each step that it may have it is just where it should be: GearKeeps returns true. Conditions: none. -/
import Derived.Test.YtgbcefdlmockoaaGearC
namespace Go.Proofs.Ytgbcefdlmockoaa
open Go.ChangeShapes Go.WideShapes Go.ChangeAt Go.RowKit
set_option linter.unusedVariables false
set_option linter.unusedSimpArgs false
attribute [local go_sem] ite_max ite_min vite_max vite_min ite_max0 vite_max0 ext_cell ext_frozen

theorem cells_limits : Try.prog.cellsOf 41 = 5 := by kernel_rfl
theorem rd_limits {H : Type} {enc : TypeId × Value → H} {w : World} {cs : List Value} (h : Rd enc Try.prog w 41 cs) : ∃ (x0 : Int) (x1 : Int) (x2 : Int) (x3 : Int) (x4 : Int), cs = [.int .i64 x0, .int .i64 x1, .int .i64 x2, .int .i64 x3, .int .i64 x4] ∧ (Lit.int .i64 x0).wf = true ∧ (Lit.int .i64 x1).wf = true ∧ (Lit.int .i64 x2).wf = true ∧ (Lit.int .i64 x3).wf = true ∧ (Lit.int .i64 x4).wf = true := by
  obtain ⟨hl, hf⟩ := rd_struct Try.underlying41 h
  rw [cells_limits] at hl
  obtain ⟨c0, c1, c2, c3, c4, rfl⟩ := list_5 cs hl
  have h0 : Rd enc Try.prog w 2 [c0] := by simpa [show Try.prog.cellsOf 2 = 1 by kernel_rfl] using hf 0 _ rfl
  obtain ⟨x0, e0, w0⟩ := rd_int Try.underlying2 h0
  simp only [List.cons.injEq, and_true] at e0
  have h1 : Rd enc Try.prog w 2 [c1] := by simpa [show Try.prog.cellsOf 2 = 1 by kernel_rfl] using hf 1 _ rfl
  obtain ⟨x1, e1, w1⟩ := rd_int Try.underlying2 h1
  simp only [List.cons.injEq, and_true] at e1
  have h2 : Rd enc Try.prog w 2 [c2] := by simpa [show Try.prog.cellsOf 2 = 1 by kernel_rfl] using hf 2 _ rfl
  obtain ⟨x2, e2, w2⟩ := rd_int Try.underlying2 h2
  simp only [List.cons.injEq, and_true] at e2
  have h3 : Rd enc Try.prog w 2 [c3] := by simpa [show Try.prog.cellsOf 2 = 1 by kernel_rfl] using hf 3 _ rfl
  obtain ⟨x3, e3, w3⟩ := rd_int Try.underlying2 h3
  simp only [List.cons.injEq, and_true] at e3
  have h4 : Rd enc Try.prog w 2 [c4] := by simpa [show Try.prog.cellsOf 2 = 1 by kernel_rfl] using hf 4 _ rfl
  obtain ⟨x4, e4, w4⟩ := rd_int Try.underlying2 h4
  simp only [List.cons.injEq, and_true] at e4
  subst e0 e1 e2 e3 e4
  exact ⟨x0, x1, x2, x3, x4, rfl, w0, w1, w2, w3, w4⟩
theorem cells_gen : Try.prog.cellsOf 43 = 2 := by kernel_rfl
theorem rd_gen {H : Type} {enc : TypeId × Value → H} {w : World} {cs : List Value} (h : Rd enc Try.prog w 43 cs) : ∃ (x0 : Int) (x1 : Int), cs = [.int .i64 x0, .int .i64 x1] ∧ (Lit.int .i64 x0).wf = true ∧ (Lit.int .i64 x1).wf = true := by
  obtain ⟨hl, hf⟩ := rd_struct Try.underlying43 h
  rw [cells_gen] at hl
  obtain ⟨c0, c1, rfl⟩ := list_2 cs hl
  have h0 : Rd enc Try.prog w 2 [c0] := by simpa [show Try.prog.cellsOf 2 = 1 by kernel_rfl] using hf 0 _ rfl
  obtain ⟨x0, e0, w0⟩ := rd_int Try.underlying2 h0
  simp only [List.cons.injEq, and_true] at e0
  have h1 : Rd enc Try.prog w 2 [c1] := by simpa [show Try.prog.cellsOf 2 = 1 by kernel_rfl] using hf 1 _ rfl
  obtain ⟨x1, e1, w1⟩ := rd_int Try.underlying2 h1
  simp only [List.cons.injEq, and_true] at e1
  subst e0 e1
  exact ⟨x0, x1, rfl, w0, w1⟩

set_option maxRecDepth 100000 in
set_option maxHeartbeats 2000000 in
theorem keeps_noright (V A D L H p v nm dn : Int) (s : Value) (w : World) (hr : Hid (rightB ⟨V, A, D, L, H⟩ = false)) :
    Calls Try.prog 11 #[.agg #[.int .i64 V, .int .i64 A, .int .i64 D, .int .i64 L, .int .i64 H], .agg #[.int .i64 p, .int .i64 v], s, .int .i64 nm, .int .i64 dn] w fun e w' => e = .returned (.bool true) ∧ Below w.heap.size w w' := by
  go_enter Try.func11, Try.ntmps11
  go_wp2_with fail
  refine (awake14 _).mono ?_
  rintro e w1 ⟨rfl, hb1⟩
  obtain ⟨hb1c, hb1f⟩ := bcell hb1
  have hb1z := hb1.size
  have hb1c0 := fun o => hb1c (w.heap.size) o (by first | (simp; done) | (simp; omega) | (simp at *; omega) | omega)
  have hb1f0 := fun o => hb1f (w.heap.size) o (by first | (simp; done) | (simp; omega) | (simp at *; omega) | omega)
  have hb1l0 := below_lt (b := w.heap.size) hb1 (by first | (simp; done) | (simp; omega) | (simp at *; omega) | omega)
  have hb1c1 := fun o => hb1c (w.heap.size + 1) o (by first | (simp; done) | (simp; omega) | (simp at *; omega) | omega)
  have hb1f1 := fun o => hb1f (w.heap.size + 1) o (by first | (simp; done) | (simp; omega) | (simp at *; omega) | omega)
  have hb1l1 := below_lt (b := w.heap.size + 1) hb1 (by first | (simp; done) | (simp; omega) | (simp at *; omega) | omega)
  go_wp2_with fail
  refine (gright_at _ _ _ _ _ _ _ hr.out).mono ?_
  rintro e w2 ⟨rfl, hb2⟩
  go_wp2
  go_ret
  exact ⟨rfl, by (repeat' (first | (with_reducible exact Below.refl _ _) | (with_reducible assumption) | (with_reducible refine below_drewN ?_ _) | (with_reducible refine Below.drew ?_) | (with_reducible refine below_new ?_ (Nat.le_refl _) _) | (with_reducible refine Below.setCell ?_ ?_ _) | (with_reducible refine below_go ?_ (by assumption) (Nat.le_refl _)) | (simp; done) | (simp; omega) | omega))⟩

set_option maxRecDepth 100000 in
set_option maxHeartbeats 2000000 in
theorem keeps_nosafe (V A D L H p v nm dn : Int) (s : Value) (w : World) (hr : Hid (rightB ⟨V, A, D, L, H⟩ = true)) (hs : Hid (safeB ⟨V, A, D, L, H⟩ ⟨p, v⟩ = false)) (hp : -9223372036854775808 ≤ p ∧ p ≤ 9223372036854775807) :
    Calls Try.prog 11 #[.agg #[.int .i64 V, .int .i64 A, .int .i64 D, .int .i64 L, .int .i64 H], .agg #[.int .i64 p, .int .i64 v], s, .int .i64 nm, .int .i64 dn] w fun e w' => e = .returned (.bool true) ∧ Below w.heap.size w w' := by
  go_enter Try.func11, Try.ntmps11
  go_wp2_with fail
  refine (awake14 _).mono ?_
  rintro e w1 ⟨rfl, hb1⟩
  obtain ⟨hb1c, hb1f⟩ := bcell hb1
  have hb1z := hb1.size
  have hb1c0 := fun o => hb1c (w.heap.size) o (by first | (simp; done) | (simp; omega) | (simp at *; omega) | omega)
  have hb1f0 := fun o => hb1f (w.heap.size) o (by first | (simp; done) | (simp; omega) | (simp at *; omega) | omega)
  have hb1l0 := below_lt (b := w.heap.size) hb1 (by first | (simp; done) | (simp; omega) | (simp at *; omega) | omega)
  have hb1c1 := fun o => hb1c (w.heap.size + 1) o (by first | (simp; done) | (simp; omega) | (simp at *; omega) | omega)
  have hb1f1 := fun o => hb1f (w.heap.size + 1) o (by first | (simp; done) | (simp; omega) | (simp at *; omega) | omega)
  have hb1l1 := below_lt (b := w.heap.size + 1) hb1 (by first | (simp; done) | (simp; omega) | (simp at *; omega) | omega)
  go_wp2_with fail
  refine (gright_at _ _ _ _ _ _ _ hr.out).mono ?_
  rintro e w2 ⟨rfl, hb2⟩
  obtain ⟨hb2c, hb2f⟩ := bcell hb2
  have hb2z := hb2.size
  have hb2c0 := fun o => hb2c (w.heap.size) o (by first | (simp; done) | (simp; omega) | (simp at *; omega) | omega)
  have hb2f0 := fun o => hb2f (w.heap.size) o (by first | (simp; done) | (simp; omega) | (simp at *; omega) | omega)
  have hb2l0 := below_lt (b := w.heap.size) hb2 (by first | (simp; done) | (simp; omega) | (simp at *; omega) | omega)
  have hb2c1 := fun o => hb2c (w.heap.size + 1) o (by first | (simp; done) | (simp; omega) | (simp at *; omega) | omega)
  have hb2f1 := fun o => hb2f (w.heap.size + 1) o (by first | (simp; done) | (simp; omega) | (simp at *; omega) | omega)
  have hb2l1 := below_lt (b := w.heap.size + 1) hb2 (by first | (simp; done) | (simp; omega) | (simp at *; omega) | omega)
  go_wp2_with fail
  refine (gsafe_at _ _ _ _ _ _ _ _ hr.out hp _ hs.out).mono ?_
  rintro e w3 ⟨rfl, hb3⟩
  go_wp2
  go_ret
  exact ⟨rfl, by (repeat' (first | (with_reducible exact Below.refl _ _) | (with_reducible assumption) | (with_reducible refine below_drewN ?_ _) | (with_reducible refine Below.drew ?_) | (with_reducible refine below_new ?_ (Nat.le_refl _) _) | (with_reducible refine Below.setCell ?_ ?_ _) | (with_reducible refine below_go ?_ (by assumption) (Nat.le_refl _)) | (simp; done) | (simp; omega) | omega))⟩

set_option maxRecDepth 100000 in
set_option maxHeartbeats 2000000 in
theorem keeps_none (V A D L H p v nm dn : Int) (a : Option Addr) (cap : Nat) (w : World) (hr : Hid (rightB ⟨V, A, D, L, H⟩ = true)) (hs : Hid (safeB ⟨V, A, D, L, H⟩ ⟨p, v⟩ = true)) (hp : -9223372036854775808 ≤ p ∧ p ≤ 9223372036854775807) :
    Calls Try.prog 11 #[.agg #[.int .i64 V, .int .i64 A, .int .i64 D, .int .i64 L, .int .i64 H], .agg #[.int .i64 p, .int .i64 v], .slice a 0 cap, .int .i64 nm, .int .i64 dn] w fun e w' => e = .returned (.bool true) ∧ Below w.heap.size w w' := by
  go_enter Try.func11, Try.ntmps11
  go_wp2_with fail
  refine (awake14 _).mono ?_
  rintro e w1 ⟨rfl, hb1⟩
  obtain ⟨hb1c, hb1f⟩ := bcell hb1
  have hb1z := hb1.size
  have hb1c0 := fun o => hb1c (w.heap.size) o (by first | (simp; done) | (simp; omega) | (simp at *; omega) | omega)
  have hb1f0 := fun o => hb1f (w.heap.size) o (by first | (simp; done) | (simp; omega) | (simp at *; omega) | omega)
  have hb1l0 := below_lt (b := w.heap.size) hb1 (by first | (simp; done) | (simp; omega) | (simp at *; omega) | omega)
  have hb1c1 := fun o => hb1c (w.heap.size + 1) o (by first | (simp; done) | (simp; omega) | (simp at *; omega) | omega)
  have hb1f1 := fun o => hb1f (w.heap.size + 1) o (by first | (simp; done) | (simp; omega) | (simp at *; omega) | omega)
  have hb1l1 := below_lt (b := w.heap.size + 1) hb1 (by first | (simp; done) | (simp; omega) | (simp at *; omega) | omega)
  go_wp2_with fail
  refine (gright_at _ _ _ _ _ _ _ hr.out).mono ?_
  rintro e w2 ⟨rfl, hb2⟩
  obtain ⟨hb2c, hb2f⟩ := bcell hb2
  have hb2z := hb2.size
  have hb2c0 := fun o => hb2c (w.heap.size) o (by first | (simp; done) | (simp; omega) | (simp at *; omega) | omega)
  have hb2f0 := fun o => hb2f (w.heap.size) o (by first | (simp; done) | (simp; omega) | (simp at *; omega) | omega)
  have hb2l0 := below_lt (b := w.heap.size) hb2 (by first | (simp; done) | (simp; omega) | (simp at *; omega) | omega)
  have hb2c1 := fun o => hb2c (w.heap.size + 1) o (by first | (simp; done) | (simp; omega) | (simp at *; omega) | omega)
  have hb2f1 := fun o => hb2f (w.heap.size + 1) o (by first | (simp; done) | (simp; omega) | (simp at *; omega) | omega)
  have hb2l1 := below_lt (b := w.heap.size + 1) hb2 (by first | (simp; done) | (simp; omega) | (simp at *; omega) | omega)
  go_wp2_with fail
  refine (gsafe_at _ _ _ _ _ _ _ _ hr.out hp _ hs.out).mono ?_
  rintro e w3 ⟨rfl, hb3⟩
  go_wp2
  go_ret
  exact ⟨rfl, by (repeat' (first | (with_reducible exact Below.refl _ _) | (with_reducible assumption) | (with_reducible refine below_drewN ?_ _) | (with_reducible refine Below.drew ?_) | (with_reducible refine below_new ?_ (Nat.le_refl _) _) | (with_reducible refine Below.setCell ?_ ?_ _) | (with_reducible refine below_go ?_ (by assumption) (Nat.le_refl _)) | (simp; done) | (simp; omega) | omega))⟩

theorem walk_GearKeeps (V A D L H p v : Int) (s : Value) (zs : List Int) (nm dn : Int) (w : World) (hl : (Lit.int .i64 V).wf = true ∧ (Lit.int .i64 A).wf = true ∧ (Lit.int .i64 D).wf = true ∧ (Lit.int .i64 L).wf = true ∧ (Lit.int .i64 H).wf = true)
    (hg : (Lit.int .i64 p).wf = true ∧ (Lit.int .i64 v).wf = true) (hz : IntsAt .i64 w s zs) (h1 : (Lit.int .i64 nm).wf = true) (h2 : (Lit.int .i64 dn).wf = true) :
    Calls Try.prog 11 #[.agg #[.int .i64 V, .int .i64 A, .int .i64 D, .int .i64 L, .int .i64 H], .agg #[.int .i64 p, .int .i64 v], s, .int .i64 nm, .int .i64 dn] w fun e w' => e = .returned (.bool true) ∧ Below w.heap.size w w' := by
  have hp := bounds_i64 hg.1
  have hnm := bounds_i64 h1
  have hdn := bounds_i64 h2
  cases hr : rightB ⟨V, A, D, L, H⟩
  · exact keeps_noright V A D L H p v nm dn s w hr
  · cases hs : safeB ⟨V, A, D, L, H⟩ ⟨p, v⟩
    · exact keeps_nosafe V A D L H p v nm dn s w hr hs hp
    · obtain ⟨a, cap, rfl, hn, hc, hwz, hm⟩ := hz
      by_cases he : zs = []
      · subst he
        exact keeps_none V A D L H p v nm dn a cap w hr hs hp
      · obtain ⟨b, off, rfl, hcell⟩ := hm he
        have hpos : 0 < zs.length := List.length_pos_iff.2 he
        have hzb : ∀ i : Nat, -9223372036854775808 ≤ zs[i]?.getD 0 ∧ zs[i]?.getD 0 ≤ 9223372036854775807 := by
          intro i
          by_cases hi : i < zs.length
          · rw [List.getElem?_eq_getElem hi]
            exact bounds_i64 (hwz _ (List.getElem_mem hi))
          · rw [List.getElem?_eq_none (by omega)]
            simp
        exact keeps_some V A D L H p v nm dn b off cap zs w hr hs hnm hdn hn hc (World.block_lt_of_cell? _ _ (hcell 0 hpos)) hpos hzb hcell

set_option maxRecDepth 100000 in
theorem lifted_GearKeeps (os : Os) (started : os.Started) (H : Type) (enc : TypeId × Value → H) :
    ReturnsInHanded {} Try.checked os 11 .any (Rows.gearKeepsSpec.pre6 enc Try.prog Try.f11 Rows.gearKeepsRow.domain false) (Rows.gearKeepsSpec.post enc Try.prog Try.f11 false true false false) := by
  refine returnsInHanded_of_change (C := Try.checked) own started (by kernel_rfl) Try.func11
    (ChangeSpec.witness6 (enc := enc) (C := Try.checked) false ⟨#[], #[.agg #[.int .i64 0, .int .i64 0, .int .i64 0, .int .i64 0, .int .i64 0], .agg #[.int .i64 0, .int .i64 0], .slice none 0 0, .int .i64 0, .int .i64 0], []⟩ 8 (by kernel_rfl) (by kernel_rfl) (by kernel_rfl) (by kernel_rfl)) ?_
  intro W base args ds gs before hval0 hW hcnd _
  have hval : ∀ (j : Nat) t v, Try.f11.params[j]? = some t → args[j]? = some v → Value.okWide Try.prog W .any base t v := hval0
  have hW' := hW
  obtain ⟨p, q, hA0, hV, rfl, hfz, hnd⟩ := hW'
  have hA : DataW.TrodAll enc Try.prog W 0 (fun _ => true) true Try.f11.params.toList args.toList ds p := hA0
  rw [Try.params11] at hA hval
  obtain ⟨v0, vs0, d0, ds0, p0, q0, hargs, rfl, rfl, h0, r0⟩ := trodAll_cons hA
  obtain ⟨v1, vs1, d1, ds1, p1, q1, rfl, rfl, rfl, h1, r1⟩ := trodAll_cons r0
  obtain ⟨v2, vs2, d2, ds2, p2, q2, rfl, rfl, rfl, h2, r2⟩ := trodAll_cons r1
  obtain ⟨v3, vs3, d3, ds3, p3, q3, rfl, rfl, rfl, h3, r3⟩ := trodAll_cons r2
  obtain ⟨v4, vs4, d4, ds4, p4, q4, rfl, rfl, rfl, h4, r4⟩ := trodAll_cons r3
  obtain ⟨rfl, rfl, rfl⟩ := trodAll_nil r4
  obtain rfl : args = #[v0, v1, v2, v3, v4] := by cases args; simp_all
  obtain ⟨rfl, rfl⟩ := trodVars_none hV
  obtain ⟨cs0, e0, r0⟩ := rd_agg Try.underlying41 (hval 0 41 v0 rfl rfl) h0
  obtain ⟨a0_0, a0_1, a0_2, a0_3, a0_4, f0, w0⟩ := rd_limits r0
  subst f0
  subst e0
  obtain ⟨cs1, e1, r1⟩ := rd_agg Try.underlying43 (hval 1 43 v1 rfl rfl) h1
  obtain ⟨a1_0, a1_1, f1, w1⟩ := rd_gen r1
  subst f1
  subst e1
  obtain ⟨a2, w2⟩ := open_ints_at Try.underlying46 Try.underlying2 (by kernel_rfl) (hval 2 46 v2 rfl rfl) h2
  obtain ⟨a3, rfl, rfl, rfl, w3⟩ := open_int Try.underlying2 (hval 3 2 v3 rfl rfl) h3
  obtain ⟨a4, rfl, rfl, rfl, w4⟩ := open_int Try.underlying2 (hval 4 2 v4 rfl rfl) h4
  refine (walk_GearKeeps a0_0 a0_1 a0_2 a0_3 a0_4 a1_0 a1_1 v2 a2 a3 a4 W w0 w1 w2 w3 w4).mono fun e W' ⟨he, hb⟩ => ⟨_, he, ?_⟩
  exact law_post_any laid_out Try.underlying4 hW rfl ⟨rfl, rfl, rfl⟩ rfl (by kernel_rfl) hb

theorem over_GearKeeps : Rows.gearKeepsRow.holds Try.pinned (OpenSpec.ofChange Rows.gearKeepsSpec) :=
  OpenClaim.holds_of_wide 11 Try.f11 rfl rfl rfl rfl rfl rfl rfl ⟨rfl, rfl, rfl, rfl, rfl⟩ rfl rfl rfl rfl rfl (by kernel_rfl) Try.func11 (by kernel_rfl)
    (of_decide_eq_true (by kernel_rfl)) (by unfold Func.isWrapper; first | (rw [if_pos (by decide +kernel)]; kernel_rfl) | (rw [if_neg (by decide +kernel)]; exact ⟨rfl, rfl⟩))
    (fun os started H enc _ => lifted_GearKeeps os started H enc)

/-- the statement -/
theorem GearKeeps_holds : Rows.GearKeepsSaid := over_GearKeeps
#print axioms GearKeeps_holds

end Go.Proofs.Ytgbcefdlmockoaa
