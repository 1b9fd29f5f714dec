/- Layer 12: whatever is done to a line, step by step, it stays right, and each command that was taken leaves just once, in the order in which they came: LineOne returns true. Conditions: none. -/
import Derived.Test.YtddakmlnkffgiaaReadS
import Derived.Test.YtddakmlnkffgiaaLineJ
namespace Go.Proofs.Ytddakmlnkffgiaa
open Go.ChangeShapes Go.WideShapes Go.ChangeAt Go.RowKit
set_option linter.unusedVariables false
set_option linter.unusedSimpArgs false

theorem cells_op : Try.prog.cellsOf 47 = 2 := by kernel_rfl
theorem rd_op {H : Type} {enc : TypeId × Value → H} {w : World} {cs : List Value} (h : Rd enc Try.prog w 47 cs) : ∃ (x0 : Int) (x1 : Int), cs = [.int .i64 x0, .int .i64 x1] ∧ (Lit.int .i64 x0).wf = true ∧ (Lit.int .i64 x1).wf = true := by
  obtain ⟨hl, hf⟩ := rd_struct Try.underlying47 h
  rw [cells_op] at hl
  obtain ⟨c0, c1, rfl⟩ := list_2 cs hl
  have h0 : Rd enc Try.prog w 3 [c0] := by simpa [show Try.prog.cellsOf 3 = 1 by kernel_rfl] using hf 0 _ rfl
  obtain ⟨x0, e0, w0⟩ := rd_int Try.underlying3 h0
  simp only [List.cons.injEq, and_true] at e0
  have h1 : Rd enc Try.prog w 3 [c1] := by simpa [show Try.prog.cellsOf 3 = 1 by kernel_rfl] using hf 1 _ rfl
  obtain ⟨x1, e1, w1⟩ := rd_int Try.underlying3 h1
  simp only [List.cons.injEq, and_true] at e1
  subst e0 e1
  exact ⟨x0, x1, rfl, w0, w1⟩

set_option maxRecDepth 100000 in
set_option maxHeartbeats 1000000 in
theorem one_nil (a : Option Addr) (cap : Nat) (w : World) :
    Calls Try.prog 8 #[.slice a 0 cap] w fun e w' => e = .returned (.bool true) ∧ Below w.heap.size w w' := by
  go_enter Try.func8, Try.ntmps8
  go_wp2_with fail
  refine (awake12 _).mono ?_
  rintro e w1 ⟨rfl, hb1⟩
  have hz1 : w.heap.size ≤ w1.heap.size := hb1.size
  have HB : Below w.heap.size w (w1.alloc (Obj.cells #[.slice none 0 0, .slice none 0 0] 45)) := by (repeat' (first | (with_reducible exact Below.refl _ _) | (with_reducible assumption) | (with_reducible refine below_drewN ?_ _) | (with_reducible refine Below.drew ?_) | (with_reducible refine below_new ?_ (Nat.le_refl _) _) | (with_reducible refine Below.setCell ?_ ?_ _) | (with_reducible refine below_go ?_ (by assumption) (Nat.le_refl _)) | (simp; done) | (simp; omega) | omega))
  go_wp2_with fail
  go_loopw [6] (fun i w' => i = .int .i64 0 ∧ Below w.heap.size w w') (fun _ _ => 0)
  case atStart => exact ⟨rfl, HB⟩
  case round =>
    obtain ⟨rfl, hbr⟩ := hrel
    go_wp2
    go_ret
    exact ⟨rfl, hbr⟩

theorem walk_LineOne (v : Value) (zs : List OpS) (w : World) (h : SliceAt 2 OpS.cells (fun _ => True) w v zs) :
    Calls Try.prog 8 #[v] w fun e w' => e = .returned (.bool true) ∧ Below w.heap.size w w' := by
  obtain ⟨a, cap, rfl, hl, hc, _, hm⟩ := h
  by_cases hz : zs = []
  · subst hz
    exact one_nil a cap w
  · obtain ⟨b, off, rfl, hb, hcell⟩ := hm hz
    exact walk_one zs b off cap zs.length w hb hl hc (Lib.hid rfl) hcell

theorem op_of {H : Type} {enc : TypeId × Value → H} {w : World} {cs : List Value} (h : Rd enc Try.prog w 47 cs) : ∃ x : OpS, cs = x.cells ∧ True := by
  obtain ⟨a, b, rfl, _⟩ := rd_op h
  exact ⟨⟨a, b⟩, rfl, trivial⟩

set_option maxRecDepth 100000 in
theorem lifted_LineOne (os : Os) (started : os.Started) (H : Type) (enc : TypeId × Value → H) :
    ReturnsInHanded {} Try.checked os 8 .any (Rows.lineOneSpec.pre6 enc Try.prog Try.f8 Rows.lineOneRow.domain false) (Rows.lineOneSpec.post enc Try.prog Try.f8 false true false false) := by
  refine returnsInHanded_of_change (C := Try.checked) own started (by kernel_rfl) Try.func8
    (ChangeSpec.witness6 (enc := enc) (C := Try.checked) false ⟨#[], #[.slice none 0 0], []⟩ 8 (by kernel_rfl) (by kernel_rfl) (by kernel_rfl) (by kernel_rfl)) ?_
  intro W base args ds gs before hval0 hW hcnd _
  have hval : ∀ (j : Nat) t v, Try.f8.params[j]? = some t → args[j]? = some v → Value.okWide Try.prog W .any base t v := hval0
  have hW' := hW
  obtain ⟨p, q, hA0, hV, rfl, hfz, hnd⟩ := hW'
  have hA : DataW.TrodAll enc Try.prog W 0 (fun _ => true) true Try.f8.params.toList args.toList ds p := hA0
  rw [Try.params8] at hA hval
  obtain ⟨v0, vs0, d0, ds0, p0, q0, hargs, rfl, rfl, h0, r0⟩ := trodAll_cons hA
  obtain ⟨rfl, rfl, rfl⟩ := trodAll_nil r0
  obtain rfl : args = #[v0] := by cases args; simp_all
  obtain ⟨rfl, rfl⟩ := trodVars_none hV
  obtain ⟨s0, l0, c0, rfl⟩ := okWide_slice Try.underlying42 (hval 0 42 v0 rfl rfl)
  have r0 : Rd enc Try.prog W 42 [.slice s0 l0 c0] := by simpa [Value.cells] using rd_of h0
  obtain ⟨a0, w0⟩ := rd_slice_at OpS.cells (fun _ => True) Try.underlying42 cells_op (by decide) (fun cs h => op_of h) r0
  refine (walk_LineOne _ a0 W w0).mono fun e W' ⟨he, hb⟩ => ⟨_, he, ?_⟩
  exact law_post_any laid_out Try.underlying4 hW rfl ⟨rfl, rfl, rfl⟩ rfl (by kernel_rfl) hb

theorem over_LineOne : Rows.lineOneRow.holds Try.pinned (OpenSpec.ofChange Rows.lineOneSpec) :=
  OpenClaim.holds_of_wide 8 Try.f8 rfl rfl rfl rfl rfl rfl rfl ⟨rfl, rfl, rfl, rfl, rfl⟩ rfl rfl rfl rfl rfl (by kernel_rfl) Try.func8 (by kernel_rfl)
    (of_decide_eq_true (by kernel_rfl)) (by unfold Func.isWrapper; first | (rw [if_pos (by decide +kernel)]; kernel_rfl) | (rw [if_neg (by decide +kernel)]; exact ⟨rfl, rfl⟩))
    (fun os started H enc _ => lifted_LineOne os started H enc)

/-- the statement -/
theorem LineOne_holds : Rows.LineOneSaid := over_LineOne
#print axioms LineOne_holds

end Go.Proofs.Ytddakmlnkffgiaa
