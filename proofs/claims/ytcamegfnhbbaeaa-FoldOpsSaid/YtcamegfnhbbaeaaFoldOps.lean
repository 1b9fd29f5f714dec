/- Layer 21: any operation of any numbers or truths has the document's result, or its fault: FoldOps returns true. Conditions: none. -/
import Derived.Test.YtcamegfnhbbaeaaReadS
import Derived.Test.YtcamegfnhbbaeaaFoldH
namespace Go.Proofs.Ytcamegfnhbbaeaa
open Go.ChangeShapes Go.WideShapes Go.ChangeAt Go.RowKit
set_option linter.unusedVariables false
set_option linter.unusedSimpArgs false

theorem walk_FoldOps (op : Int) (v : Value) (zs : List Int) (tr : Bool) (w : World) {p : Prop} (_ : p) (h : IntsAt .i64 w v zs) :
    Calls Try.prog 3 #[.int .i64 op, v, .bool tr] w fun e w' => e = .returned (.bool true) ∧ Below w.heap.size w w' := by
  obtain ⟨a, cap, rfl, hl, hc, hg, hm⟩ := h
  refine fops_walk awake21 op zs tr a zs.length cap w ⟨by rw [intsF, List.length_map, Nat.mul_one], fun hn => ?_⟩ hl hc (fun z hz => bounds_i64 (hg z hz))
  obtain ⟨b, off, ha, hx⟩ := hm (List.ne_nil_of_length_pos hn)
  refine ⟨b, off, ha, World.block_lt_of_cell? w _ (hx 0 hn), fun j u hu => ?_⟩
  have hj : j < zs.length := by
    have := (List.getElem?_eq_some_iff.1 hu).1
    rwa [intsF, List.length_map] at this
  have h1 := hx j hj
  rw [intsF, List.getElem?_map] at hu
  rw [List.getElem?_eq_getElem hj] at hu h1
  simp at hu h1
  rw [← hu]
  exact h1

set_option maxRecDepth 100000 in
theorem lifted_FoldOps (os : Os) (started : os.Started) (H : Type) (enc : TypeId × Value → H) :
    ReturnsInHanded {} Try.checked os 3 .any (Rows.foldOpsSpec.pre6 enc Try.prog Try.f3 Rows.foldOpsRow.domain false) (Rows.foldOpsSpec.post enc Try.prog Try.f3 false true false false) := by
  refine returnsInHanded_of_change (C := Try.checked) own started (by kernel_rfl) Try.func3
    (ChangeSpec.witness6 (enc := enc) (C := Try.checked) false ⟨#[], #[.int .i64 0, .slice none 0 0, .bool false], []⟩ 8 (by kernel_rfl) (by kernel_rfl) (by kernel_rfl) (by kernel_rfl)) ?_
  intro W base args ds gs before hval0 hW hcnd _
  have hval : ∀ (j : Nat) t v, Try.f3.params[j]? = some t → args[j]? = some v → Value.okWide Try.prog W .any base t v := hval0
  have hW' := hW
  obtain ⟨p, q, hA0, hV, rfl, hfz, hnd⟩ := hW'
  have hA : DataW.TrodAll enc Try.prog W 0 (fun _ => true) true Try.f3.params.toList args.toList ds p := hA0
  rw [Try.params3] at hA hval
  obtain ⟨v0, vs0, d0, ds0, p0, q0, hargs, rfl, rfl, h0, r0⟩ := trodAll_cons hA
  obtain ⟨v1, vs1, d1, ds1, p1, q1, rfl, rfl, rfl, h1, r1⟩ := trodAll_cons r0
  obtain ⟨v2, vs2, d2, ds2, p2, q2, rfl, rfl, rfl, h2, r2⟩ := trodAll_cons r1
  obtain ⟨rfl, rfl, rfl⟩ := trodAll_nil r2
  obtain rfl : args = #[v0, v1, v2] := by cases args; simp_all
  obtain ⟨rfl, rfl⟩ := trodVars_none hV
  obtain ⟨a0, rfl, rfl, rfl, w0⟩ := open_int Try.underlying3 (hval 0 3 v0 rfl rfl) h0
  obtain ⟨a1, w1⟩ := open_ints_at Try.underlying22 Try.underlying2 (by kernel_rfl) (hval 1 22 v1 rfl rfl) h1
  obtain ⟨a2, rfl, rfl, rfl⟩ := open_bool Try.underlying4 (hval 2 4 v2 rfl rfl) h2
  refine (walk_FoldOps a0 v1 a1 a2 W w0 w1).mono fun e W' ⟨he, hb⟩ => ⟨_, he, ?_⟩
  exact law_post_any laid_out Try.underlying4 hW rfl ⟨rfl, rfl, rfl⟩ rfl (by kernel_rfl) hb

theorem over_FoldOps : Rows.foldOpsRow.holds Try.pinned (OpenSpec.ofChange Rows.foldOpsSpec) :=
  OpenClaim.holds_of_wide 3 Try.f3 rfl rfl rfl rfl rfl rfl rfl ⟨rfl, rfl, rfl, rfl, rfl⟩ rfl rfl rfl rfl rfl (by kernel_rfl) Try.func3 (by kernel_rfl)
    (of_decide_eq_true (by kernel_rfl)) (by unfold Func.isWrapper; first | (rw [if_pos (by decide +kernel)]; kernel_rfl) | (rw [if_neg (by decide +kernel)]; exact ⟨rfl, rfl⟩))
    (fun os started H enc _ => lifted_FoldOps os started H enc)

/-- the statement -/
theorem FoldOps_holds : Rows.FoldOpsSaid := over_FoldOps
#print axioms FoldOps_holds

end Go.Proofs.Ytcamegfnhbbaeaa
