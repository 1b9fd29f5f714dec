/- Layer 12: any line is right or not, and takes, ends and clears commands, as the document says, and stays as it is: LineSteps returns true. Conditions: none. -/
import Derived.Test.YtddakmlnkffgiaaRdRow
import Derived.Test.YtddakmlnkffgiaaLineRH
namespace Go.Proofs.Ytddakmlnkffgiaa
open Go.ChangeShapes Go.WideShapes Go.ChangeAt Go.RowKit
set_option linter.unusedVariables false
set_option linter.unusedSimpArgs false

theorem cells_command : Try.prog.cellsOf 51 = 7 := by kernel_rfl
theorem rd_command {H : Type} {enc : TypeId × Value → H} {w : World} {cs : List Value} (h : Rd enc Try.prog w 51 cs) : ∃ (x0 : Int) (x1 : Int) (x2 : Int) (x3 : Int) (x4 : Int) (x5 : Int) (x6 : Int), cs = [.int .i64 x0, .int .i64 x1, .int .i64 x2, .int .i64 x3, .int .i64 x4, .int .i64 x5, .int .i64 x6] ∧ (Lit.int .i64 x0).wf = true ∧ (Lit.int .i64 x1).wf = true ∧ (Lit.int .i64 x2).wf = true ∧ (Lit.int .i64 x3).wf = true ∧ (Lit.int .i64 x4).wf = true ∧ (Lit.int .i64 x5).wf = true ∧ (Lit.int .i64 x6).wf = true := by
  obtain ⟨hl, hf⟩ := rd_struct Try.underlying51 h
  rw [cells_command] at hl
  obtain ⟨c0, c1, c2, c3, c4, c5, c6, rfl⟩ := list_7 cs hl
  have h0 : Rd enc Try.prog w 3 [c0] := by simpa [show Try.prog.cellsOf 3 = 1 by kernel_rfl] using hf 0 _ rfl
  obtain ⟨x0, e0, w0⟩ := rd_int Try.underlying3 h0
  simp only [List.cons.injEq, and_true] at e0
  have h1 : Rd enc Try.prog w 3 [c1] := by simpa [show Try.prog.cellsOf 3 = 1 by kernel_rfl] using hf 1 _ rfl
  obtain ⟨x1, e1, w1⟩ := rd_int Try.underlying3 h1
  simp only [List.cons.injEq, and_true] at e1
  have h2 : Rd enc Try.prog w 2 [c2] := by simpa [show Try.prog.cellsOf 2 = 1 by kernel_rfl] using hf 2 _ rfl
  obtain ⟨x2, e2, w2⟩ := rd_int Try.underlying2 h2
  simp only [List.cons.injEq, and_true] at e2
  have h3 : Rd enc Try.prog w 2 [c3] := by simpa [show Try.prog.cellsOf 2 = 1 by kernel_rfl] using hf 3 _ rfl
  obtain ⟨x3, e3, w3⟩ := rd_int Try.underlying2 h3
  simp only [List.cons.injEq, and_true] at e3
  have h4 : Rd enc Try.prog w 3 [c4] := by simpa [show Try.prog.cellsOf 3 = 1 by kernel_rfl] using hf 4 _ rfl
  obtain ⟨x4, e4, w4⟩ := rd_int Try.underlying3 h4
  simp only [List.cons.injEq, and_true] at e4
  have h5 : Rd enc Try.prog w 2 [c5] := by simpa [show Try.prog.cellsOf 2 = 1 by kernel_rfl] using hf 5 _ rfl
  obtain ⟨x5, e5, w5⟩ := rd_int Try.underlying2 h5
  simp only [List.cons.injEq, and_true] at e5
  have h6 : Rd enc Try.prog w 2 [c6] := by simpa [show Try.prog.cellsOf 2 = 1 by kernel_rfl] using hf 6 _ rfl
  obtain ⟨x6, e6, w6⟩ := rd_int Try.underlying2 h6
  simp only [List.cons.injEq, and_true] at e6
  subst e0 e1 e2 e3 e4 e5 e6
  exact ⟨x0, x1, x2, x3, x4, x5, x6, rfl, w0, w1, w2, w3, w4, w5, w6⟩

theorem command_of {H : Type} {enc : TypeId × Value → H} {w : World} {cs : List Value} (h : Rd enc Try.prog w 51 cs) : ∃ x : CmdS, cs = x.cells ∧ True := by
  obtain ⟨x0, x1, x2, x3, x4, x5, x6, rfl, -⟩ := rd_command h
  exact ⟨⟨x0, x1, x2, x3, x4, x5, x6⟩, rfl, trivial⟩

theorem rd_line {H : Type} {enc : TypeId × Value → H} {w : World} {cs : List Value} (h : Rd enc Try.prog w 45 cs) :
    ∃ s r ns ws, cs = [s, r] ∧ (SliceAt 7 CmdS.cells (fun _ => True) w s ns ∧ SliceAt 7 CmdS.cells (fun _ => True) w r ws) := by
  obtain ⟨hl, hf⟩ := rd_struct Try.underlying45 h
  rw [show Try.prog.cellsOf 45 = 2 by kernel_rfl] at hl
  obtain ⟨s, r, rfl⟩ := list_2 cs hl
  have h0 : Rd enc Try.prog w 43 [s] := by simpa [show Try.prog.cellsOf 43 = 1 by kernel_rfl] using hf 0 _ rfl
  have h1 : Rd enc Try.prog w 43 [r] := by simpa [show Try.prog.cellsOf 43 = 1 by kernel_rfl] using hf 1 _ rfl
  obtain ⟨ns, hs⟩ := rd_slice_at CmdS.cells (fun _ => True) Try.underlying43 cells_command (by decide) (fun cs h => command_of h) h0
  obtain ⟨ws, hr⟩ := rd_slice_at CmdS.cells (fun _ => True) Try.underlying43 cells_command (by decide) (fun cs h => command_of h) h1
  exact ⟨s, r, ns, ws, rfl, hs, hr⟩

theorem lies_of {w : World} {v : Value} {xs : List CmdS} (h : SliceAt 7 CmdS.cells (fun _ => True) w v xs) : ReadC w xs.length (cmdsC xs) 0 v := by
  obtain ⟨a, cap, rfl, hl, hc, _, hm⟩ := h
  refine ⟨a, cap, rfl, hl, hc, ⟨cmdsC_len xs, fun hn => ?_⟩, fun _ _ _ _ => Nat.zero_le _⟩
  obtain ⟨b, off, e, hb, hx⟩ := hm (List.ne_nil_of_length_pos hn)
  refine ⟨b, off, e, hb, fun j u hu => ?_⟩
  have hj : j < xs.length * 7 := by
    have := (List.getElem?_eq_some_iff.1 hu).1
    rwa [cmdsC_len] at this
  have hk : j / 7 < xs.length := by omega
  have hd : j = j / 7 * 7 + j % 7 := by omega
  have h1 := hx (j / 7) _ (List.getElem?_eq_getElem hk) (j % 7) (Nat.mod_lt _ (by decide))
  have h2 := cmdsC_get xs (j / 7) (j % 7) _ (List.getElem?_eq_getElem hk) (Nat.mod_lt _ (by decide))
  rw [← hd] at h2
  rw [hu] at h2
  rw [Nat.add_assoc, ← hd] at h1
  rw [h1, ← h2]

theorem walk_LineSteps (s r : Value) (ns ws : List CmdS) (x0 x1 x2 x3 x4 x5 x6 : Int) (w : World) (h : SliceAt 7 CmdS.cells (fun _ => True) w s ns ∧ SliceAt 7 CmdS.cells (fun _ => True) w r ws) {p : Prop} (_ : p) :
    Calls Try.prog 9 #[.agg #[s, r], .agg #[.int .i64 x0, .int .i64 x1, .int .i64 x2, .int .i64 x3, .int .i64 x4, .int .i64 x5, .int .i64 x6]] w fun e w' => e = .returned (.bool true) ∧ Below w.heap.size w w' := by
  have h0 := lies_of h.1
  have h1 := lies_of h.2
  obtain ⟨A, c, rfl, q⟩ := h0
  obtain ⟨D, d, rfl, p2⟩ := h1
  exact walk_steps ns ws ⟨x0, x1, x2, x3, x4, x5, x6⟩ A D ns.length ws.length c d w ⟨_, _, rfl, ⟨A, c, rfl, q⟩, ⟨D, d, rfl, p2⟩⟩

set_option maxRecDepth 100000 in
theorem lifted_LineSteps (os : Os) (started : os.Started) (H : Type) (enc : TypeId × Value → H) :
    ReturnsInHanded {} Try.checked os 9 .any (Rows.lineStepsSpec.pre6 enc Try.prog Try.f9 Rows.lineStepsRow.domain false) (Rows.lineStepsSpec.post enc Try.prog Try.f9 false true false false) := by
  refine returnsInHanded_of_change (C := Try.checked) own started (by kernel_rfl) Try.func9
    (ChangeSpec.witness6 (enc := enc) (C := Try.checked) false ⟨#[], #[.agg #[.slice none 0 0, .slice none 0 0], .agg #[.int .i64 0, .int .i64 0, .int .i64 0, .int .i64 0, .int .i64 0, .int .i64 0, .int .i64 0]], []⟩ 8 (by kernel_rfl) (by kernel_rfl) (by kernel_rfl) (by kernel_rfl)) ?_
  intro W base args ds gs before hval0 hW hcnd _
  have hval : ∀ (j : Nat) t v, Try.f9.params[j]? = some t → args[j]? = some v → Value.okWide Try.prog W .any base t v := hval0
  have hW' := hW
  obtain ⟨p, q, hA0, hV, rfl, hfz, hnd⟩ := hW'
  have hA : DataW.TrodAll enc Try.prog W 0 (fun _ => true) true Try.f9.params.toList args.toList ds p := hA0
  rw [Try.params9] at hA hval
  obtain ⟨v0, vs0, d0, ds0, p0, q0, hargs, rfl, rfl, h0, r0⟩ := trodAll_cons hA
  obtain ⟨v1, vs1, d1, ds1, p1, q1, rfl, rfl, rfl, h1, r1⟩ := trodAll_cons r0
  obtain ⟨rfl, rfl, rfl⟩ := trodAll_nil r1
  obtain rfl : args = #[v0, v1] := by cases args; simp_all
  obtain ⟨rfl, rfl⟩ := trodVars_none hV
  obtain ⟨cs0, e0, r0⟩ := rd_agg Try.underlying45 (hval 0 45 v0 rfl rfl) h0
  obtain ⟨sa0, sb0, ns0, ms0, f0, w0⟩ := rd_line r0
  subst f0
  subst e0
  obtain ⟨cs1, e1, r1⟩ := rd_agg Try.underlying51 (hval 1 51 v1 rfl rfl) h1
  obtain ⟨a1_0, a1_1, a1_2, a1_3, a1_4, a1_5, a1_6, f1, w1⟩ := rd_command r1
  subst f1
  subst e1
  refine (walk_LineSteps sa0 sb0 ns0 ms0 a1_0 a1_1 a1_2 a1_3 a1_4 a1_5 a1_6 W w0 w1).mono fun e W' ⟨he, hb⟩ => ⟨_, he, ?_⟩
  exact law_post_any laid_out Try.underlying4 hW rfl ⟨rfl, rfl, rfl⟩ rfl (by kernel_rfl) hb

theorem over_LineSteps : Rows.lineStepsRow.holds Try.pinned (OpenSpec.ofChange Rows.lineStepsSpec) :=
  OpenClaim.holds_of_wide 9 Try.f9 rfl rfl rfl rfl rfl rfl rfl ⟨rfl, rfl, rfl, rfl, rfl⟩ rfl rfl rfl rfl rfl (by kernel_rfl) Try.func9 (by kernel_rfl)
    (of_decide_eq_true (by kernel_rfl)) (by unfold Func.isWrapper; first | (rw [if_pos (by decide +kernel)]; kernel_rfl) | (rw [if_neg (by decide +kernel)]; exact ⟨rfl, rfl⟩))
    (fun os started H enc _ => lifted_LineSteps os started H enc)

/-- the statement -/
theorem LineSteps_holds : Rows.LineStepsSaid := over_LineSteps
#print axioms LineSteps_holds

end Go.Proofs.Ytddakmlnkffgiaa
