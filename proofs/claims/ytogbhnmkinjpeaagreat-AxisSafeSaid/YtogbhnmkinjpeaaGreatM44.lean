/- Merged: Layer 15: an axis, and what comes to it, as they are read out of the arguments. Layer 15: AxisSafe, by the walk. PRINTED by wip/tool/mkaxw.py -/
import Derived.Test.YtogbhnmkinjpeaaGreatM18
import Derived.Test.YtogbhnmkinjpeaaGreatM43
set_option linter.unusedVariables false
set_option linter.unusedSimpArgs false
namespace Go.Proofs.YtogbhnmkinjpeaaGreat
open Go.ChangeShapes Go.WideShapes Go.ChangeAt Go.RowKit

theorem cells_limits : Tryz.prog.cellsOf 23 = 5 := by kernel_rfl
theorem rd_limits {H : Type} {enc : TypeId × Value → H} {w : World} {cs : List Value} (h : Rd enc Tryz.prog w 23 cs) : ∃ (x0 : Int) (x1 : Int) (x2 : Int) (x3 : Int) (x4 : Int), cs = [.int .i64 x0, .int .i64 x1, .int .i64 x2, .int .i64 x3, .int .i64 x4] ∧ (Lit.int .i64 x0).wf = true ∧ (Lit.int .i64 x1).wf = true ∧ (Lit.int .i64 x2).wf = true ∧ (Lit.int .i64 x3).wf = true ∧ (Lit.int .i64 x4).wf = true := by
 obtain ⟨hl, hf⟩ := rd_struct Tryz.underlying23 h
 rw [cells_limits] at hl
 obtain ⟨c0, c1, c2, c3, c4, rfl⟩ := list_5 cs hl
 have h0 : Rd enc Tryz.prog w 2 [c0] := by simpa [show Tryz.prog.cellsOf 2 = 1 by kernel_rfl] using hf 0 _ rfl
 obtain ⟨x0, e0, w0⟩ := rd_int Tryz.underlying2 h0
 simp only [List.cons.injEq, and_true] at e0
 have h1 : Rd enc Tryz.prog w 2 [c1] := by simpa [show Tryz.prog.cellsOf 2 = 1 by kernel_rfl] using hf 1 _ rfl
 obtain ⟨x1, e1, w1⟩ := rd_int Tryz.underlying2 h1
 simp only [List.cons.injEq, and_true] at e1
 have h2 : Rd enc Tryz.prog w 2 [c2] := by simpa [show Tryz.prog.cellsOf 2 = 1 by kernel_rfl] using hf 2 _ rfl
 obtain ⟨x2, e2, w2⟩ := rd_int Tryz.underlying2 h2
 simp only [List.cons.injEq, and_true] at e2
 have h3 : Rd enc Tryz.prog w 2 [c3] := by simpa [show Tryz.prog.cellsOf 2 = 1 by kernel_rfl] using hf 3 _ rfl
 obtain ⟨x3, e3, w3⟩ := rd_int Tryz.underlying2 h3
 simp only [List.cons.injEq, and_true] at e3
 have h4 : Rd enc Tryz.prog w 2 [c4] := by simpa [show Tryz.prog.cellsOf 2 = 1 by kernel_rfl] using hf 4 _ rfl
 obtain ⟨x4, e4, w4⟩ := rd_int Tryz.underlying2 h4
 simp only [List.cons.injEq, and_true] at e4
 subst e0 e1 e2 e3 e4
 exact ⟨x0, x1, x2, x3, x4, rfl, w0, w1, w2, w3, w4⟩
theorem cells_gen : Tryz.prog.cellsOf 25 = 2 := by kernel_rfl
theorem rd_gen {H : Type} {enc : TypeId × Value → H} {w : World} {cs : List Value} (h : Rd enc Tryz.prog w 25 cs) : ∃ (x0 : Int) (x1 : Int), cs = [.int .i64 x0, .int .i64 x1] ∧ (Lit.int .i64 x0).wf = true ∧ (Lit.int .i64 x1).wf = true := by
 obtain ⟨hl, hf⟩ := rd_struct Tryz.underlying25 h
 rw [cells_gen] at hl
 obtain ⟨c0, c1, rfl⟩ := list_2 cs hl
 have h0 : Rd enc Tryz.prog w 2 [c0] := by simpa [show Tryz.prog.cellsOf 2 = 1 by kernel_rfl] using hf 0 _ rfl
 obtain ⟨x0, e0, w0⟩ := rd_int Tryz.underlying2 h0
 simp only [List.cons.injEq, and_true] at e0
 have h1 : Rd enc Tryz.prog w 2 [c1] := by simpa [show Tryz.prog.cellsOf 2 = 1 by kernel_rfl] using hf 1 _ rfl
 obtain ⟨x1, e1, w1⟩ := rd_int Tryz.underlying2 h1
 simp only [List.cons.injEq, and_true] at e1
 subst e0 e1
 exact ⟨x0, x1, rfl, w0, w1⟩
theorem cells_home : Tryz.prog.cellsOf 33 = 4 := by kernel_rfl
theorem rd_home {H : Type} {enc : TypeId × Value → H} {w : World} {cs : List Value} (h : Rd enc Tryz.prog w 33 cs) : ∃ (x0 : Int) (x1 : Int) (x2 : Int) (x3 : Bool), cs = [.int .i64 x0, .int .i64 x1, .int .i64 x2, .bool x3] ∧ (Lit.int .i64 x0).wf = true ∧ (Lit.int .i64 x1).wf = true ∧ (Lit.int .i64 x2).wf = true := by
 obtain ⟨hl, hf⟩ := rd_struct Tryz.underlying33 h
 rw [cells_home] at hl
 obtain ⟨c0, c1, c2, c3, rfl⟩ := list_4 cs hl
 have h0 : Rd enc Tryz.prog w 3 [c0] := by simpa [show Tryz.prog.cellsOf 3 = 1 by kernel_rfl] using hf 0 _ rfl
 obtain ⟨x0, e0, w0⟩ := rd_int Tryz.underlying3 h0
 simp only [List.cons.injEq, and_true] at e0
 have h1 : Rd enc Tryz.prog w 2 [c1] := by simpa [show Tryz.prog.cellsOf 2 = 1 by kernel_rfl] using hf 1 _ rfl
 obtain ⟨x1, e1, w1⟩ := rd_int Tryz.underlying2 h1
 simp only [List.cons.injEq, and_true] at e1
 have h2 : Rd enc Tryz.prog w 2 [c2] := by simpa [show Tryz.prog.cellsOf 2 = 1 by kernel_rfl] using hf 2 _ rfl
 obtain ⟨x2, e2, w2⟩ := rd_int Tryz.underlying2 h2
 simp only [List.cons.injEq, and_true] at e2
 have h3 : Rd enc Tryz.prog w 4 [c3] := by simpa [show Tryz.prog.cellsOf 4 = 1 by kernel_rfl] using hf 3 _ rfl
 obtain ⟨x3, e3⟩ := rd_bool Tryz.underlying4 h3
 simp only [List.cons.injEq, and_true] at e3
 subst e0 e1 e2 e3
 exact ⟨x0, x1, x2, x3, rfl, w0, w1, w2⟩
theorem cells_command : Tryz.prog.cellsOf 56 = 7 := by kernel_rfl
theorem rd_command {H : Type} {enc : TypeId × Value → H} {w : World} {cs : List Value} (h : Rd enc Tryz.prog w 56 cs) : ∃ (x0 : Int) (x1 : Int) (x2 : Int) (x3 : Int) (x4 : Int) (x5 : Int) (x6 : Int), cs = [.int .i64 x0, .int .i64 x1, .int .i64 x2, .int .i64 x3, .int .i64 x4, .int .i64 x5, .int .i64 x6] ∧ (Lit.int .i64 x0).wf = true ∧ (Lit.int .i64 x1).wf = true ∧ (Lit.int .i64 x2).wf = true ∧ (Lit.int .i64 x3).wf = true ∧ (Lit.int .i64 x4).wf = true ∧ (Lit.int .i64 x5).wf = true ∧ (Lit.int .i64 x6).wf = true := by
 obtain ⟨hl, hf⟩ := rd_struct Tryz.underlying56 h
 rw [cells_command] at hl
 obtain ⟨c0, c1, c2, c3, c4, c5, c6, rfl⟩ := list_7 cs hl
 have h0 : Rd enc Tryz.prog w 3 [c0] := by simpa [show Tryz.prog.cellsOf 3 = 1 by kernel_rfl] using hf 0 _ rfl
 obtain ⟨x0, e0, w0⟩ := rd_int Tryz.underlying3 h0
 simp only [List.cons.injEq, and_true] at e0
 have h1 : Rd enc Tryz.prog w 3 [c1] := by simpa [show Tryz.prog.cellsOf 3 = 1 by kernel_rfl] using hf 1 _ rfl
 obtain ⟨x1, e1, w1⟩ := rd_int Tryz.underlying3 h1
 simp only [List.cons.injEq, and_true] at e1
 have h2 : Rd enc Tryz.prog w 2 [c2] := by simpa [show Tryz.prog.cellsOf 2 = 1 by kernel_rfl] using hf 2 _ rfl
 obtain ⟨x2, e2, w2⟩ := rd_int Tryz.underlying2 h2
 simp only [List.cons.injEq, and_true] at e2
 have h3 : Rd enc Tryz.prog w 2 [c3] := by simpa [show Tryz.prog.cellsOf 2 = 1 by kernel_rfl] using hf 3 _ rfl
 obtain ⟨x3, e3, w3⟩ := rd_int Tryz.underlying2 h3
 simp only [List.cons.injEq, and_true] at e3
 have h4 : Rd enc Tryz.prog w 3 [c4] := by simpa [show Tryz.prog.cellsOf 3 = 1 by kernel_rfl] using hf 4 _ rfl
 obtain ⟨x4, e4, w4⟩ := rd_int Tryz.underlying3 h4
 simp only [List.cons.injEq, and_true] at e4
 have h5 : Rd enc Tryz.prog w 2 [c5] := by simpa [show Tryz.prog.cellsOf 2 = 1 by kernel_rfl] using hf 5 _ rfl
 obtain ⟨x5, e5, w5⟩ := rd_int Tryz.underlying2 h5
 simp only [List.cons.injEq, and_true] at e5
 have h6 : Rd enc Tryz.prog w 2 [c6] := by simpa [show Tryz.prog.cellsOf 2 = 1 by kernel_rfl] using hf 6 _ rfl
 obtain ⟨x6, e6, w6⟩ := rd_int Tryz.underlying2 h6
 simp only [List.cons.injEq, and_true] at e6
 subst e0 e1 e2 e3 e4 e5 e6
 exact ⟨x0, x1, x2, x3, x4, x5, x6, rfl, w0, w1, w2, w3, w4, w5, w6⟩

theorem i64_wf {x : Int} (h : (Lit.int .i64 x).wf = true) : I64 x := by
 have := bounds_i64 h
 unfold I64
 omega
theorem command_w {H : Type} {enc : TypeId × Value → H} {w : World} {cs : List Value} (h : Rd enc Tryz.prog w 56 cs) : ∃ x : CmdS, cs = x.cells ∧ CmdW x := by
 obtain ⟨x0, x1, x2, x3, x4, x5, x6, rfl, h0, h1, h2, h3, h4, h5, h6⟩ := rd_command h
 exact ⟨⟨x0, x1, x2, x3, x4, x5, x6⟩, rfl, ⟨i64_wf h0, i64_wf h1, i64_wf h2, i64_wf h3, i64_wf h4, i64_wf h5, i64_wf h6⟩⟩
theorem cmds_of {w : World} {v : Value} {xs : List CmdS} (h : SliceAt 7 CmdS.cells CmdW w v xs) : ReadC w xs.length (cmdsC xs) 0 v ∧ ∀ x ∈ xs, CmdW x := by
 obtain ⟨a, cap, rfl, hl, hc, hg, hm⟩ := h
 refine ⟨⟨a, cap, rfl, hl, hc, ⟨cmdsC_len xs, fun hn => ?_⟩, fun _ _ _ _ => Nat.zero_le _⟩, hg⟩
 obtain ⟨b, off, e, hb, hx⟩ := hm (List.ne_nil_of_length_pos hn)
 refine ⟨b, off, e, hb, fun j u hu => ?_⟩
 have hj : j < xs.length * 7 := by
  have := (List.getElem?_eq_some_iff.1 hu).1
  rwa [cmdsC_len] at this
 have hk : j / 7 < xs.length := by omega
 have hd : j = j / 7 * 7 + j % 7 := by omega
 have h1 := hx (j / 7) _ (List.getElem?_eq_getElem hk) (j % 7) (Nat.mod_lt _ (by decide))
 have h2 := cmdsC_get xs (j / 7) (j % 7) _ (List.getElem?_eq_getElem hk) (Nat.mod_lt _ (by decide))
 rw [← hd] at h2
 rw [hu] at h2
 rw [Nat.add_assoc, ← hd] at h1
 rw [h1, ← h2]
theorem rd_cmds {H : Type} {enc : TypeId × Value → H} {w : World} {v : Value} (h : Rd enc Tryz.prog w 29 [v]) : ∃ xs, ReadC w xs.length (cmdsC xs) 0 v ∧ ∀ x ∈ xs, CmdW x := by
 obtain ⟨xs, hx⟩ := rd_slice_at CmdS.cells CmdW Tryz.underlying29 cells_command (by decide) (fun cs h => command_w h) h
 exact ⟨xs, cmds_of hx⟩
theorem rd_nums {H : Type} {enc : TypeId × Value → H} {w : World} {v : Value} (h : Rd enc Tryz.prog w 26 [v]) : ∃ zs, SmV w zs v := by
 obtain ⟨zs, a, cap, hv, h1, h2, -, hm⟩ := rd_slice_at (fun z : Int => [.int .i64 z]) (fun _ => True) Tryz.underlying26 (show Tryz.prog.cellsOf 2 = 1 by kernel_rfl) (by decide) (fun cs hcs => by
  obtain ⟨z, hz, -⟩ := rd_int Tryz.underlying2 hcs
  exact ⟨z, hz, trivial⟩) h
 refine ⟨zs, a, cap, hv, h1, h2, by simp [intsC], fun hn => ?_⟩
 obtain ⟨b, off, ha, hb, hx⟩ := hm (List.ne_nil_of_length_pos hn)
 refine ⟨b, off, ha, hb, fun j u hu => ?_⟩
 simp only [intsC, List.getElem?_map, Option.map_eq_some_iff] at hu
 obtain ⟨z, hz, rfl⟩ := hu
 have := hx j z hz 0 (by decide)
 simpa using this
theorem list_26 {α : Type} (l : List α) (h : l.length = 26) : ∃ a0 a1 a2 a3 a4 a5 a6 a7 a8 a9 a10 a11 a12 a13 a14 a15 a16 a17 a18 a19 a20 a21 a22 a23 a24 a25, l = [a0, a1, a2, a3, a4, a5, a6, a7, a8, a9, a10, a11, a12, a13, a14, a15, a16, a17, a18, a19, a20, a21, a22, a23, a24, a25] := by
 match l, h with | [a0, a1, a2, a3, a4, a5, a6, a7, a8, a9, a10, a11, a12, a13, a14, a15, a16, a17, a18, a19, a20, a21, a22, a23, a24, a25], _ => exact ⟨a0, a1, a2, a3, a4, a5, a6, a7, a8, a9, a10, a11, a12, a13, a14, a15, a16, a17, a18, a19, a20, a21, a22, a23, a24, a25, rfl⟩
theorem list_12 {α : Type} (l : List α) (h : l.length = 12) : ∃ a0 a1 a2 a3 a4 a5 a6 a7 a8 a9 a10 a11, l = [a0, a1, a2, a3, a4, a5, a6, a7, a8, a9, a10, a11] := by
 match l, h with | [a0, a1, a2, a3, a4, a5, a6, a7, a8, a9, a10, a11], _ => exact ⟨a0, a1, a2, a3, a4, a5, a6, a7, a8, a9, a10, a11, rfl⟩
theorem one_i {H : Type} {enc : TypeId × Value → H} {w : World} {t : TypeId} {v : Value} (hc : Tryz.prog.underlying t = some (.int .i64)) (h : Rd enc Tryz.prog w t [v]) : ∃ x, v = .int .i64 x ∧ I64 x := by
 obtain ⟨x, hx, hw⟩ := rd_int hc h
 simp only [List.cons.injEq, and_true] at hx
 exact ⟨x, hx, i64_wf hw⟩
theorem one_b {H : Type} {enc : TypeId × Value → H} {w : World} {v : Value} (h : Rd enc Tryz.prog w 4 [v]) : ∃ x, v = .bool x := by
 obtain ⟨x, hx⟩ := rd_bool Tryz.underlying4 h
 simp only [List.cons.injEq, and_true] at hx
 exact ⟨x, hx⟩
theorem cells_axis : Tryz.prog.cellsOf 35 = 26 := by kernel_rfl
theorem cells_in : Tryz.prog.cellsOf 44 = 12 := by kernel_rfl
theorem c1_int : Tryz.prog.cellsOf 3 = 1 := by kernel_rfl
theorem c1_i64 : Tryz.prog.cellsOf 2 = 1 := by kernel_rfl
theorem c1_bool : Tryz.prog.cellsOf 4 = 1 := by kernel_rfl
theorem c1_cmds : Tryz.prog.cellsOf 29 = 1 := by kernel_rfl
theorem c1_nums : Tryz.prog.cellsOf 26 = 1 := by kernel_rfl
theorem c2_line : Tryz.prog.cellsOf 31 = 2 := by kernel_rfl

theorem rd_line2 {H : Type} {enc : TypeId × Value → H} {w : World} {s r : Value} (h : Rd enc Tryz.prog w 31 [s, r]) :
  ∃ ns ws, (ReadC w ns.length (cmdsC ns) 0 s ∧ ∀ x ∈ ns, CmdW x) ∧ (ReadC w ws.length (cmdsC ws) 0 r ∧ ∀ x ∈ ws, CmdW x) := by
 obtain ⟨-, hf⟩ := rd_struct Tryz.underlying31 h
 have h0 : Rd enc Tryz.prog w 29 [s] := by simpa [c1_cmds] using hf 0 _ rfl
 have h1 : Rd enc Tryz.prog w 29 [r] := by simpa [c1_cmds] using hf 1 _ rfl
 obtain ⟨ns, hn⟩ := rd_cmds h0
 obtain ⟨ws, hw⟩ := rd_cmds h1
 exact ⟨ns, ws, hn, hw⟩
theorem rd_sm1 {H : Type} {enc : TypeId × Value → H} {w : World} {s : Value} (h : Rd enc Tryz.prog w 28 [s]) : ∃ zs, SmV w zs s := by
 obtain ⟨-, hf⟩ := rd_struct Tryz.underlying28 h
 have h0 : Rd enc Tryz.prog w 26 [s] := by simpa [c1_nums] using hf 0 _ rfl
 exact rd_nums h0

theorem rd_axis {H : Type} {enc : TypeId × Value → H} {w : World} {cs : List Value} (h : Rd enc Tryz.prog w 35 cs) : ∃ a sv nv wv, cs = axC a sv nv wv ∧ AxV w a sv nv wv := by
 obtain ⟨hl, hf⟩ := rd_struct Tryz.underlying35 h
 rw [cells_axis] at hl
 obtain ⟨c0, c1, c2, c3, c4, c5, c6, c7, c8, c9, c10, c11, c12, c13, c14, c15, c16, c17, c18, c19, c20, c21, c22, c23, c24, c25, rfl⟩ := list_26 cs hl
 have f0 : Rd enc Tryz.prog w 3 [c0] := by simpa [c1_int] using hf 0 _ rfl
 have f1 : Rd enc Tryz.prog w 23 [c1, c2, c3, c4, c5] := by simpa [cells_limits] using hf 1 _ rfl
 have f2 : Rd enc Tryz.prog w 3 [c6] := by simpa [c1_int] using hf 2 _ rfl
 have f3 : Rd enc Tryz.prog w 2 [c7] := by simpa [c1_i64] using hf 3 _ rfl
 have f4 : Rd enc Tryz.prog w 2 [c8] := by simpa [c1_i64] using hf 4 _ rfl
 have f5 : Rd enc Tryz.prog w 2 [c9] := by simpa [c1_i64] using hf 5 _ rfl
 have f6 : Rd enc Tryz.prog w 25 [c10, c11] := by simpa [cells_gen] using hf 6 _ rfl
 have f7 : Rd enc Tryz.prog w 28 [c12] := by simpa [cells_smooth] using hf 7 _ rfl
 have f8 : Rd enc Tryz.prog w 2 [c13] := by simpa [c1_i64] using hf 8 _ rfl
 have f9 : Rd enc Tryz.prog w 31 [c14, c15] := by simpa [c2_line] using hf 9 _ rfl
 have f10 : Rd enc Tryz.prog w 4 [c16] := by simpa [c1_bool] using hf 10 _ rfl
 have f11 : Rd enc Tryz.prog w 33 [c17, c18, c19, c20] := by simpa [cells_home] using hf 11 _ rfl
 have f12 : Rd enc Tryz.prog w 3 [c21] := by simpa [c1_int] using hf 12 _ rfl
 have f13 : Rd enc Tryz.prog w 2 [c22] := by simpa [c1_i64] using hf 13 _ rfl
 have f14 : Rd enc Tryz.prog w 2 [c23] := by simpa [c1_i64] using hf 14 _ rfl
 have f15 : Rd enc Tryz.prog w 3 [c24] := by simpa [c1_int] using hf 15 _ rfl
 have f16 : Rd enc Tryz.prog w 4 [c25] := by simpa [c1_bool] using hf 16 _ rfl
 obtain ⟨st, rfl, -⟩ := one_i Tryz.underlying3 f0
 obtain ⟨l0, l1, l2, l3, l4, el, -⟩ := rd_limits f1
 obtain ⟨win, rfl, -⟩ := one_i Tryz.underlying3 f2
 obtain ⟨hat, rfl, -⟩ := one_i Tryz.underlying2 f3
 obtain ⟨fast, rfl, -⟩ := one_i Tryz.underlying2 f4
 obtain ⟨creep, rfl, -⟩ := one_i Tryz.underlying2 f5
 obtain ⟨g0, g1, eg, wg, -⟩ := rd_gen f6
 obtain ⟨zs, hz⟩ := rd_sm1 f7
 obtain ⟨off, rfl, -⟩ := one_i Tryz.underlying2 f8
 obtain ⟨ns, ws, ⟨n1, n2⟩, ⟨w1, w2⟩⟩ := rd_line2 f9
 obtain ⟨hd, rfl⟩ := one_b f10
 obtain ⟨h0, h1, h2, h3, eh, -⟩ := rd_home f11
 obtain ⟨ov, rfl, -⟩ := one_i Tryz.underlying3 f12
 obtain ⟨sta, rfl, hsta⟩ := one_i Tryz.underlying2 f13
 obtain ⟨mas, rfl, hmas⟩ := one_i Tryz.underlying2 f14
 obtain ⟨cau, rfl, -⟩ := one_i Tryz.underlying3 f15
 obtain ⟨ins, rfl⟩ := one_b f16
 simp only [List.cons.injEq, and_true] at el eg eh
 obtain ⟨rfl, rfl, rfl, rfl, rfl⟩ := el
 obtain ⟨rfl, rfl⟩ := eg
 obtain ⟨rfl, rfl, rfl, rfl⟩ := eh
 exact ⟨⟨st, ⟨l0, l1, l2, l3, l4⟩, win, hat, fast, creep, ⟨g0, g1⟩, zs, off, ns, ws, hd, ⟨h0, h1, h2, h3⟩, ov, sta, mas, cau, ins⟩, c12, c14, c15, rfl, ⟨hz, ⟨_, _, rfl, n1, w1⟩, fun c hc => (List.mem_append.1 hc).elim (n2 c) (w2 c), hsta, hmas, i64_wf wg⟩⟩

theorem in_of {H : Type} {enc : TypeId × Value → H} {w : World} {cs : List Value} (h : Rd enc Tryz.prog w 44 cs) : ∃ x : InX, cs = x.cells ∧ InG w x := by
 obtain ⟨hl, hf⟩ := rd_struct Tryz.underlying44 h
 rw [cells_in] at hl
 obtain ⟨c0, c1, c2, c3, c4, c5, c6, c7, c8, c9, c10, c11, rfl⟩ := list_12 cs hl
 have f0 : Rd enc Tryz.prog w 4 [c0] := by simpa [c1_bool] using hf 0 _ rfl
 have f1 : Rd enc Tryz.prog w 4 [c1] := by simpa [c1_bool] using hf 1 _ rfl
 have f2 : Rd enc Tryz.prog w 2 [c2] := by simpa [c1_i64] using hf 2 _ rfl
 have f3 : Rd enc Tryz.prog w 3 [c3] := by simpa [c1_int] using hf 3 _ rfl
 have f4 : Rd enc Tryz.prog w 4 [c4] := by simpa [c1_bool] using hf 4 _ rfl
 have f5 : Rd enc Tryz.prog w 4 [c5] := by simpa [c1_bool] using hf 5 _ rfl
 have f6 : Rd enc Tryz.prog w 4 [c6] := by simpa [c1_bool] using hf 6 _ rfl
 have f7 : Rd enc Tryz.prog w 4 [c7] := by simpa [c1_bool] using hf 7 _ rfl
 have f8 : Rd enc Tryz.prog w 4 [c8] := by simpa [c1_bool] using hf 8 _ rfl
 have f9 : Rd enc Tryz.prog w 3 [c9] := by simpa [c1_int] using hf 9 _ rfl
 have f10 : Rd enc Tryz.prog w 2 [c10] := by simpa [c1_i64] using hf 10 _ rfl
 have f11 : Rd enc Tryz.prog w 29 [c11] := by simpa [c1_cmds] using hf 11 _ rfl
 obtain ⟨pw, rfl⟩ := one_b f0
 obtain ⟨op, rfl⟩ := one_b f1
 obtain ⟨act, rfl, hact⟩ := one_i Tryz.underlying2 f2
 obtain ⟨cau, rfl, -⟩ := one_i Tryz.underlying3 f3
 obtain ⟨plus, rfl⟩ := one_b f4
 obtain ⟨minus, rfl⟩ := one_b f5
 obtain ⟨hm, rfl⟩ := one_b f6
 obtain ⟨reset, rfl⟩ := one_b f7
 obtain ⟨rel, rfl⟩ := one_b f8
 obtain ⟨ov, rfl, -⟩ := one_i Tryz.underlying3 f9
 obtain ⟨mas, rfl, hmas⟩ := one_i Tryz.underlying2 f10
 obtain ⟨xs, hx1, hx2⟩ := rd_cmds f11
 exact ⟨⟨⟨pw, op, act, cau, plus, minus, hm, reset, rel, ov, mas, 0⟩, xs, c11⟩, rfl, ⟨⟨hact, hmas⟩, hx1, hx2⟩⟩

end Go.Proofs.YtogbhnmkinjpeaaGreat

namespace Go.Proofs.YtogbhnmkinjpeaaGreat
open Go.RowKit
attribute [local go_sem] ite_max ite_min vite_max vite_min ext_cell ext_frozen

theorem aout_L (a : AX) (sv nv wv : Value) (L : List Value) (x : Int) (w : World) (h : AxR w a sv nv wv) (hL : AxL a sv nv wv L) (hx : outX a = x) :
  Calls Tryz.prog 15 #[.agg L.toArray] w fun e w' => e = .returned (.int .i64 x) ∧ Below w.heap.size w w' := by
 rw [hL.eq]
 have hi := h.inv
 have hw := hi.win
 exact aout_at a sv nv wv x w h.v.sm hi.smr (by omega) hi.off hx

set_option maxRecDepth 100000 in
set_option maxHeartbeats 8000000 in
theorem safe_main (a : AX) (sv nv wv : Value) (L : List Value) (hL : AxL a sv nv wv L) (A : Option Addr) (n cap : Nat) (ins : List InX) (hn : ins.length = n) (w : World) (h : AxV w a sv nv wv) (hl : SliceAt 12 InX.cells (InG w) w (.slice A n cap) ins) :
  Calls Tryz.prog 6 #[.agg L.toArray, .slice A n cap] w fun e w' => e = .returned (.bool true) ∧ Below w.heap.size w w' := by
 have h1 : n ≤ cap := by
  obtain ⟨A', c', e, h1, -⟩ := hl
  injection e with e1 e2 e3
  omega
 have h2 : cap ≤ 9223372036854775807 := by
  obtain ⟨A', c', e, h1, h2, -⟩ := hl
  injection e with e1 e2 e3
  omega
 have HA := Lib.hid h
 have HL := Lib.hid hL
 have HI := Lib.hid hl
 have HN := Lib.hid hn
 have HX : Hid (∀ k, k < n → ∃ b off x, A = some ⟨b, off, none⟩ ∧ b < w.heap.size ∧ ins[k]? = some x ∧ InG w x ∧ ∀ W, Below w.heap.size w W → W.rangeAt b (off + k * 12) x.cells) := Lib.hid (fun k hk => ins_at hl k (by omega))
 obtain ⟨r1, hr1⟩ : ∃ r, shortL a ins = r := ⟨_, rfl⟩
 have HSH : Hid (∀ W, Below w.heap.size w W → SliceAt 12 InX.cells (InG W) W (.slice A n cap) ins → Calls Tryz.prog 9 #[.agg L.toArray, .slice A n cap] W fun e w' => e = .returned (.bool r1) ∧ Below W.heap.size W w') := Lib.hid (fun W hb hl' => shorts_at a sv nv wv W (h.below hb) L hL ins _ hl' r1 hr1)
 obtain ⟨r2, hr2⟩ : ∃ r, rightX a = r := ⟨_, rfl⟩
 have HRI : Hid (∀ W, Below w.heap.size w W → Calls Tryz.prog 10 #[.agg L.toArray] W fun e w' => e = .returned (.bool r2) ∧ Below W.heap.size W w') := Lib.hid (fun W hb => aright_L a sv nv wv L r2 W (h.below hb) hL hr2)
 have HR1 := Lib.hid hr1
 have HR2 := Lib.hid hr2
 have HIB : Hid (∀ W, Below w.heap.size w W → SliceAt 12 InX.cells (InG W) W (.slice A n cap) ins) := Lib.hid (fun W hb => ins_below hl hb)
 clear h hL hl hn hr1 hr2
 go_enter Tryz.func6, Tryz.ntmps6
 go_upto_region 1 with (fail)
 refine wp_name fun W hW => ?_
 obtain ⟨B, hB⟩ : ∃ B, B = w.heap.size := ⟨_, rfl⟩
 have HB : Hid (Below w.heap.size w W) := by rw [hW.out]; exact Lib.hid (by exact belowBy)
 have HK : Hid (W.heap[B]? = some (.cells L.toArray 35)) := by
  rw [hW.out, hB]
  exact Lib.hid (heap_alloc_new _ _)
 have HBw := Lib.hid hB
 (try rw [← hB])
 clear hW hB
 go_wp2_with fail
 refine (awake15 _).mono ?_
 rintro e w1 ⟨rfl, hb1⟩
 have hlt : B < W.heap.size := (Array.getElem?_eq_some_iff.1 HK.out).1
 have HB1 := Lib.hid (HB.out.trans (hb1.mono HB.out.size))
 have HK1 := Lib.hid ((hb1.block B hlt).trans HK.out)
 clear hb1 HK HB hlt
 go_upto_region 3 with (fail)
 go_cut [20] from 12 to 20 (fun r wx => ∃ v : Bool, r = .bool v ∧ Hid (Below w.heap.size w wx) ∧ Hid (wx.heap[B]? = some (.cells L.toArray 35)) ∧ Hid (v = false → r1 = true ∧ r2 = true ∧ True))
 case first =>
  go_wp2_with (refine wpList_load_row rfl 35 _ rfl B rfl 35 L.toArray (0, 0) _ HK1.out Tryz.underlying35 rfl HL.out.size ?_)
  refine (HSH.out _ HB1.out (HIB.out _ HB1.out)).mono ?_
  rintro e w2 ⟨rfl, hb2⟩
  have hlt : B < w1.heap.size := (Array.getElem?_eq_some_iff.1 HK1.out).1
  have HB2 := Lib.hid (HB1.out.trans (hb2.mono HB1.out.size))
  have HK2 := Lib.hid ((hb2.block B hlt).trans HK1.out)
  clear hb2 HK1 HB1 hlt
  cases r1
  ·go_wp2
   go_meet
   case rel => exact ⟨true, rfl, HB2, HK2, Lib.hid (fun h => by cases h)⟩
  have hrg := range_of HK2.out
  go_wp2_with (refine wpList_load_midG 35 _ rfl B 0 rfl L _ hrg Tryz.underlying35 rfl HL.out.size (by first | rfl | kernel_rfl) ?_)
  clear hrg
  refine (HRI.out _ HB2.out).mono ?_
  rintro e w3 ⟨rfl, hb3⟩
  have hlt : B < w2.heap.size := (Array.getElem?_eq_some_iff.1 HK2.out).1
  have HB3 := Lib.hid (HB2.out.trans (hb3.mono HB2.out.size))
  have HK3 := Lib.hid ((hb3.block B hlt).trans HK2.out)
  clear hb3 HK2 HB2 hlt
  cases r2
  ·go_wp2
   go_meet
   case rel => exact ⟨true, rfl, HB3, HK3, Lib.hid (fun h => by cases h)⟩
  go_wp2
  go_meet
  case rel => exact ⟨false, rfl, HB3, HK3, Lib.hid (by simp)⟩
 case rest =>
  obtain ⟨v, rfl, HB3, HK3, HV⟩ := hcut
  cases v
  case true =>
   go_wp2
   go_ret
   exact ⟨rfl, HB3.out⟩
  case false =>
   obtain ⟨g1, g2, g3⟩ := HV.out rfl
   have HG3 := Lib.hid g3
   have HR : Hid (AxR wc a sv nv wv) := Lib.hid ⟨HA.out.below HB3.out, HR2.out.trans g2⟩
   have HLIM : Hid (∀ (k : Nat) (x : InX), ins[k]? = some x → x.cs.length ≤ 20) := Lib.hid (fun k x hx => by
    have h1 := HR1.out.trans g1
    unfold shortL at h1
    simp only [Bool.and_eq_true, List.all_eq_true] at h1
    have h2 := of_decide_eq_true (h1.2 x (List.mem_of_getElem? hx))
    exact h2.2.2.2)
   have HSTEP : Hid (∀ (x : InX) (W : World) (n : AX) (sv nv wv : Value) (L : List Value), AxR W n sv nv wv → AxL n sv nv wv L → InG W x → x.cs.length ≤ 20 → Calls Tryz.prog 11 #[.agg L.toArray, .agg x.cells.toArray] W fun e w' => ∃ L' rv', e = .returned (.tuple #[.agg L'.toArray, rv']) ∧ StepV W (cycX n (atD x.i W) x.cs).a (cycX n (atD x.i W) x.cs).rs L' rv' w') := Lib.hid (fun x W n sv nv wv L hr hL hg hx => astep_right hr hL hg hx (inL_of x))
   clear HSH HRI HR1 HR2 HA HV g1 g2 g3 HK1 HB1
   go_wp2_with fail
   go_loopw [5] (fun u wr => ∃ (k : Nat) (m : AX) (sv nv wv : Value) (Lm : List Value), k ≤ n ∧ u = .int .i64 k ∧ Hid (AxR wr m sv nv wv) ∧ Hid (AxL m sv nv wv Lm) ∧ Hid (wr.heap[B]? = some (.cells Lm.toArray 35)) ∧ Hid (Below w.heap.size w wr)) (fun u _ => n - (intOf u).toNat)
   case atStart => exact ⟨0, a, sv, nv, wv, L, by omega, rfl, HR, HL, HK3, HB3⟩
   case round =>
    obtain ⟨k, m, sv, nv, wv, Lm, hk, rfl, HRm, HLm, HKm, HBm⟩ := hrel
    by_cases hlk : k < n
    ·obtain ⟨b, off, x, rfl, hb, hxk, hg, hrg⟩ := HX.out k hlk
     have hk0 : (0 : Int) ≤ (k : Int) := by omega
     have hkn : (k : Int) < (n : Int) := by omega
     have hBr : B < wr.heap.size := (Array.getElem?_eq_some_iff.1 HKm.out).1
     have HRG : Hid (∀ W', Below wr.heap.size wr W' → W'.rangeAt b (off + k * 12) x.cells ∧ W'.rangeAt B 0 Lm) := Lib.hid (fun W' hb' =>
      ⟨hrg W' (HBm.out.trans (hb'.mono HBm.out.size)), range_of ((hb'.block B hBr).trans HKm.out)⟩)
     have HSX : Hid (∀ W', Below wr.heap.size wr W' → Calls Tryz.prog 11 #[.agg Lm.toArray, .agg x.cells.toArray] W' fun e w' => ∃ L' rv', e = .returned (.tuple #[.agg L'.toArray, rv']) ∧ StepV W' (cycX m (atD x.i W') x.cs).a (cycX m (atD x.i W') x.cs).rs L' rv' w') := Lib.hid (fun W' hb' =>
      HSTEP.out x W' m sv nv wv Lm (HRm.out.below hb') HLm.out (hg.below (HBm.out.trans (hb'.mono HBm.out.size))) (HLIM.out k x hxk))
     have HIX := Lib.hid (inL_of x)
     have HXG := Lib.hid hg
     have HXR := Lib.hid hrg
     clear hb hxk hg hrg
     obtain ⟨M, hM⟩ : ∃ M, x.cells = M := ⟨_, rfl⟩
     rw [hM] at HRG HSX HIX HXR
     clear hM
     go_upto_region 8 with (fail)
     go_cut [6, 7] from 27 to 35 (fun r6 r7 wx => ∃ (Q : Nat) (N : AX) (rs : List RepS) (L' : List Value) (rv' : Value), r6 = .pointer (some ⟨Q, 0, none⟩) ∧ r7 = rv' ∧ Hid (NVar wr.heap.size N rs L' rv' Q wx) ∧ Hid (Below wr.heap.size wr wx) ∧ Hid (∃ W' : World, N = (cycX m (atD x.i W') x.cs).a ∧ rs = (cycX m (atD x.i W') x.cs).rs))
     case first =>
      refine wp_region_held_drew (S := fun w' => Below wr.heap.size wr w') (by kernel_rfl) ?_ (fun hHeld => ?_)
      ·exact (Below.refl _ _).drew
      (refine takeH (i := 0) (v := .agg Lm.toArray) rfl (by kernel_rfl) (by kernel_rfl) (by kernel_rfl) (fun _ _ _ h => h) (yieldsIf_load_mid (by kernel_rfl) 35 _ rfl B 0 rfl Lm _ (fun _ hb => (HRG.out _ hb).2) Tryz.underlying35 rfl HLm.out.size) (by assumption) ?_)
      (refine takeT (i := 1) (v := ?_) rfl ?_ ?_; rotate_left; (focus (intro w' hSw; (try dsimp only at hSw); go_simp; try (with_reducible rfl))))
      (refine takeT (i := 2) (v := ?_) rfl ?_ ?_; rotate_left; (focus (intro w' hSw; (try dsimp only at hSw); go_simp; try (with_reducible rfl))); (try simp only [Act.put, List.setIfInBounds_toArray, List.set_cons_zero, List.set_cons_succ]))
      (refine takeT (i := 3) (v := ?_) rfl ?_ ?_; rotate_left; (focus (intro w' hSw; (try dsimp only at hSw); go_simp; try (with_reducible rfl))))
      (refine takeH (i := 4) (v := .agg M.toArray) rfl (by kernel_rfl) (by kernel_rfl) (by kernel_rfl) (fun _ _ _ h => h) (yieldsIf_load_mid (by kernel_rfl) 44 _ rfl b (off + k * 12) rfl M _ (fun _ hb => (HRG.out _ hb).1) Tryz.underlying44 rfl HIX.out.size) (by assumption) ?_; (try simp only [Act.put, List.setIfInBounds_toArray, List.set_cons_zero, List.set_cons_succ]))
      refine twoX (i := 5) (j := 9) (by kernel_rfl) rfl rfl (fun Kc hK => ?_) (fun Kc hK => ?_)
      ·go_simp
       go_at_call 11
       refine (HSX.out _ hHeld).mono ?_
       rintro e w7 ⟨L', rv', rfl, hst⟩
       have HST := Lib.hid hst
       have hb7 : Below wr.heap.size wr w7 := hHeld.trans (hst.below.mono hHeld.size)
       have hsz : wr.heap.size ≤ wr.drew.heap.size := hHeld.size
       have HN' : Hid (L'.toArray.all (·.oneCell') = true ∧ (Tryz.prog.info? 35).map (·.size) = some L'.length ∧ L'.toArray.size = 26) := by
        obtain ⟨⟨sv1, nv1, wv1, q1, q2, -⟩, -, -⟩ := hst
        exact Lib.hid ⟨AxR.one q1.v q2, q2.size, by rw [q2.eq]; rfl⟩
       clear hst hHeld
       go_wp2_with fail
       refine hK.out _ _ hb7 (fun hHeld => ?_)
       clear hK Kc
       (try simp only [Act.put, List.setIfInBounds_toArray, List.set_cons_zero, List.set_cons_succ])
       (refine takeT (i := 6) (v := ?_) rfl ?_ ?_; rotate_left; (focus (intro w' hSw; (try dsimp only at hSw); go_simp; try (with_reducible rfl))))
       (refine takeT (i := 7) (v := ?_) rfl ?_ ?_; rotate_left; (focus (intro w' hSw; (try dsimp only at hSw); go_simp; try (with_reducible rfl))))
       (refine takeT (i := 8) (v := ?_) rfl ?_ ?_; rotate_left; (focus (intro w' hSw; (try dsimp only at hSw); go_simp; try (with_reducible rfl))); (try simp only [Act.put, List.setIfInBounds_toArray, List.set_cons_zero, List.set_cons_succ]))
       refine oneH (i := 9) (by kernel_rfl) rfl (fun Kc hK => ?_)
       go_simp
       refine hK.out _ _ (below_new hHeld (Nat.le_refl _) _) (fun hHeld => ?_)
       clear hK Kc
       (try simp only [Act.put, List.setIfInBounds_toArray, List.set_cons_zero, List.set_cons_succ])
       refine oneRow (i := 10) (by kernel_rfl) rfl (by kernel_rfl) 35 _ _ rfl w7.heap.size L'.toArray rfl rfl _ _ (heap_alloc_new _ _) (by rw [List.size_toArray]; exact HN'.out.2.1) (by rw [HN'.out.2.2]; rfl) HN'.out.1 (below_setRow hHeld hb7.size _) ?_
       (try simp only [Act.put, List.setIfInBounds_toArray, List.set_cons_zero, List.set_cons_succ])
       have HF := Lib.hid (below_setRow hHeld hb7.size L'.toArray)
       replace hHeld := HF.out
       (refine takeT (i := 11) (v := ?_) rfl ?_ ?_; rotate_left; (focus (intro w' hSw; (try dsimp only at hSw); go_simp; try (with_reducible rfl))); (try simp only [Act.put, List.setIfInBounds_toArray, List.set_cons_zero, List.set_cons_succ]))
       refine wpAnyH_done (by kernel_rfl) ?_ _
       (try simp only [Act.put, List.setIfInBounds_toArray, List.set_cons_zero, List.set_cons_succ])
       clear hHeld hb7 HN'
       go_wp2
       go_meet
       case rel => exact ⟨w7.heap.size, _, _, L', rv', rfl, rfl, Lib.hid (nvar_pa HST.out hsz), HF, Lib.hid ⟨_, rfl, rfl⟩⟩
      ·go_simp
       refine hK.out _ _ (below_new hHeld (Nat.le_refl _) _) (fun hHeld => ?_)
       clear hK Kc
       (try simp only [Act.put, List.setIfInBounds_toArray, List.set_cons_zero, List.set_cons_succ])
       refine oneH (i := 5) (by kernel_rfl) rfl (fun Kc hK => ?_)
       go_simp
       go_at_call 11
       refine (HSX.out _ hHeld).mono ?_
       rintro e w7 ⟨L', rv', rfl, hst⟩
       have HST := Lib.hid hst
       have HQ7 := Lib.hid (hst.below.block wr.heap.size (by simp))
       have hb7 : Below wr.heap.size wr w7 := hHeld.trans (hst.below.mono hHeld.size)
       have HN' : Hid (L'.toArray.all (·.oneCell') = true ∧ (Tryz.prog.info? 35).map (·.size) = some L'.length ∧ L'.toArray.size = 26) := by
        obtain ⟨⟨sv1, nv1, wv1, q1, q2, -⟩, -, -⟩ := hst
        exact Lib.hid ⟨AxR.one q1.v q2, q2.size, by rw [q2.eq]; rfl⟩
       clear hst hHeld
       go_wp2_with fail
       refine hK.out _ _ hb7 (fun hHeld => ?_)
       clear hK Kc
       (try simp only [Act.put, List.setIfInBounds_toArray, List.set_cons_zero, List.set_cons_succ])
       (refine takeT (i := 6) (v := ?_) rfl ?_ ?_; rotate_left; (focus (intro w' hSw; (try dsimp only at hSw); go_simp; try (with_reducible rfl))))
       (refine takeT (i := 7) (v := ?_) rfl ?_ ?_; rotate_left; (focus (intro w' hSw; (try dsimp only at hSw); go_simp; try (with_reducible rfl))))
       (refine takeT (i := 8) (v := ?_) rfl ?_ ?_; rotate_left; (focus (intro w' hSw; (try dsimp only at hSw); go_simp; try (with_reducible rfl))); (try simp only [Act.put, List.setIfInBounds_toArray, List.set_cons_zero, List.set_cons_succ]))
       refine oneRow (i := 10) (by kernel_rfl) rfl (by kernel_rfl) 35 _ _ rfl wr.heap.size L'.toArray rfl rfl _ _ (HQ7.out.trans (heap_alloc_new _ _)) (by rw [List.size_toArray]; exact HN'.out.2.1) (by rw [HN'.out.2.2]; rfl) HN'.out.1 (below_setRow hHeld (Nat.le_refl _) _) ?_
       (try simp only [Act.put, List.setIfInBounds_toArray, List.set_cons_zero, List.set_cons_succ])
       have HF := Lib.hid (below_setRow hHeld (Nat.le_refl _) L'.toArray)
       replace hHeld := HF.out
       (refine takeT (i := 11) (v := ?_) rfl ?_ ?_; rotate_left; (focus (intro w' hSw; (try dsimp only at hSw); go_simp; try (with_reducible rfl))); (try simp only [Act.put, List.setIfInBounds_toArray, List.set_cons_zero, List.set_cons_succ]))
       refine wpAnyH_done (by kernel_rfl) ?_ _
       (try simp only [Act.put, List.setIfInBounds_toArray, List.set_cons_zero, List.set_cons_succ])
       clear hHeld hb7 HN'
       go_wp2
       go_meet
       case rel => exact ⟨wr.heap.size, _, _, L', rv', rfl, rfl, Lib.hid (nvar_pb HST.out (Nat.le_refl _) (heap_alloc_new _ _)), HF, Lib.hid ⟨_, rfl, rfl⟩⟩
     case rest =>
      obtain ⟨Q, N, rs, L', rv', rfl, rfl, HNV, HBQ, HE⟩ := hcut
      have HKc := Lib.hid ((HBQ.out.block B hBr).trans HKm.out)
      have HBw' : Hid (w.heap.size ≤ wr.heap.size) := Lib.hid HBm.out.size
      have hlQ := HNV.out.lt
      have hlB : B < wc.heap.size := (Array.getElem?_eq_some_iff.1 HKc.out).1
      obtain ⟨svN, nvN, wvN, hrN, hlN, -⟩ := HNV.out.ax
      have HRN := Lib.hid hrN
      have HLN := Lib.hid hlN
      clear hrN hlN
      obtain ⟨X, hX⟩ : ∃ X, outX N = X := ⟨_, rfl⟩
      obtain ⟨Y, hY⟩ : ∃ Y, outX m = Y := ⟨_, rfl⟩
      obtain ⟨wv', hwv⟩ : ∃ x, m.win = x := ⟨_, rfl⟩
      obtain ⟨s, hs⟩ : ∃ x, m.st = x := ⟨_, rfl⟩
      obtain ⟨t, ht⟩ : ∃ x, N.st = x := ⟨_, rfl⟩
      have HOUT : Hid ((t = 0 ↔ s = 0) → (-(wv' * 1048576) ≤ X - Y ∧ X - Y ≤ wv' * 1048576) ∧ (t = 0 → N.g = m.g)) := by
       obtain ⟨W', e1, -⟩ := HE.out
       rw [← hX, ← hY, ← hwv, ← hs, ← ht, e1]
       exact Lib.hid (cyc_out (atD x.i W') x.cs (HRm.out.inv0 _) (good_of HRm.out.r) ⟨HXG.out.iw.act, HXG.out.iw.mas⟩ HXG.out.cw)
      have hwin : 1 ≤ wv' ∧ wv' ≤ 16 := by rw [← hwv]; exact HRm.out.inv.win
      have HON : Hid (∀ W', Below wc.heap.size wc W' → W'.rangeAt Q 0 L' ∧ W'.rangeAt B 0 Lm ∧ (Calls Tryz.prog 15 #[.agg L'.toArray] W' fun e w' => e = .returned (.int .i64 X) ∧ Below W'.heap.size W' w') ∧ (Calls Tryz.prog 15 #[.agg Lm.toArray] W' fun e w' => e = .returned (.int .i64 Y) ∧ Below W'.heap.size W' w') ∧ (Calls Tryz.prog 10 #[.agg L'.toArray] W' fun e w' => e = .returned (.bool true) ∧ Below W'.heap.size W' w')) := Lib.hid (fun W' hb => by
       have h1 := HRN.out.below hb
       have h2 := HRm.out.below (HBQ.out.trans (hb.mono HBQ.out.size))
       exact ⟨range_of ((hb.block Q hlQ).trans HNV.out.blk), range_of ((hb.block B hlB).trans HKc.out), aout_L N _ _ _ L' X W' h1 HLN.out hX, aout_L m _ _ _ Lm Y W' h2 HLm.out hY, aright_L N _ _ _ L' true W' h1.v HLN.out h1.r⟩)
      obtain ⟨gp, hgp⟩ : ∃ x, m.g.p = x := ⟨_, rfl⟩
      obtain ⟨gv, hgv⟩ : ∃ x, m.g.v = x := ⟨_, rfl⟩
      have HCE : Hid (∀ W', Below wc.heap.size wc W' → W'.cell? ⟨Q, 0, none⟩ = some (.int .i64 t) ∧ W'.cell? ⟨B, 0, none⟩ = some (.int .i64 s) ∧ W'.cell? ⟨B, 6, none⟩ = some (.int .i64 wv') ∧ W'.cell? ⟨B, 10, none⟩ = some (.int .i64 gp) ∧ W'.cell? ⟨B, 11, none⟩ = some (.int .i64 gv) ∧ W'.cell? ⟨Q, 10, none⟩ = some (.int .i64 N.g.p) ∧ W'.cell? ⟨Q, 11, none⟩ = some (.int .i64 N.g.v)) := Lib.hid (fun W' hb => by
       have k1 := (hb.block Q hlQ).trans HNV.out.blk
       have k2 := (hb.block B hlB).trans HKc.out
       exact ⟨heap_cell 0 _ k1 (by rw [HLN.out.eq, ← ht]; rfl), heap_cell 0 _ k2 (by rw [HLm.out.eq, ← hs]; rfl), heap_cell 6 _ k2 (by rw [HLm.out.eq, ← hwv]; rfl), heap_cell 10 _ k2 (by rw [HLm.out.eq, ← hgp]; rfl), heap_cell 11 _ k2 (by rw [HLm.out.eq, ← hgv]; rfl), heap_cell 10 _ k1 (by rw [HLN.out.eq]; rfl), heap_cell 11 _ k1 (by rw [HLN.out.eq]; rfl)⟩)
      have HGG : Hid (N.g = m.g → N.g.p = gp ∧ N.g.v = gv) := Lib.hid (fun h => by rw [h]; exact ⟨hgp, hgv⟩)
      obtain ⟨np, hnp⟩ : ∃ x, N.g.p = x := ⟨_, rfl⟩
      obtain ⟨nv', hnv⟩ : ∃ x, N.g.v = x := ⟨_, rfl⟩
      rw [hnp, hnv] at HCE HGG
      clear hX hY hwv hs ht hgp hgv hnp hnv HE HSX HRG HXR HIX HXG
      obtain ⟨D, hD⟩ : ∃ x, IntKind.i64.wrap (X - Y) = x := ⟨_, rfl⟩
      obtain ⟨E, hE⟩ : ∃ x, IntKind.i64.wrap (-D) = x := ⟨_, rfl⟩
      obtain ⟨Z, hZ⟩ : ∃ x, IntKind.i64.wrap (wv' * 1048576) = x := ⟨_, rfl⟩
      have HFAR : Hid ((t = 0 ↔ s = 0) → ¬ Z < D ∧ ¬ Z < E) := Lib.hid (fun h => by
       have := (HOUT.out h).1
       rw [← hE, ← hD, ← hZ]
       simp only [RowKit.wrap64, IntKind.wrap_i64]
       omega)
      go_upto_region 9 with (fail)
      go_cut [8] from 36 to 40 (fun r wx => r = .int .i64 D ∧ Hid (Below wc.heap.size wc wx))
      case first =>
       refine wp_region_held_drew (S := fun w' => Below wc.heap.size wc w') (by kernel_rfl) ?_ (fun hHeld => ?_)
       ·exact (Below.refl _ _).drew
       (refine takeH (i := 0) (v := .agg L'.toArray) rfl (by kernel_rfl) (by kernel_rfl) (by kernel_rfl) (fun _ _ _ h => h) (yieldsIf_load_mid (by kernel_rfl) 35 _ rfl Q 0 rfl L' _ (fun _ hb => (HON.out _ hb).1) Tryz.underlying35 rfl HLN.out.size) (by assumption) ?_)
       (refine takeH (i := 2) (v := .agg Lm.toArray) rfl (by kernel_rfl) (by kernel_rfl) (by kernel_rfl) (fun _ _ _ h => h) (yieldsIf_load_mid (by kernel_rfl) 35 _ rfl B 0 rfl Lm _ (fun _ hb => (HON.out _ hb).2.1) Tryz.underlying35 rfl HLm.out.size) (by assumption) ?_; (try simp only [Act.put, List.setIfInBounds_toArray, List.set_cons_zero, List.set_cons_succ]))
       refine oneH (i := 1) (by kernel_rfl) rfl (fun Kc hK => ?_)
       go_simp
       go_at_call 15; refine (HON.out _ hHeld).2.2.1.mono ?_; rintro e w7 ⟨rfl, hb7⟩; (have HB7 := Lib.hid (hHeld.trans (hb7.mono hHeld.size))); clear hb7 hHeld
       go_wp2_with fail
       refine hK.out _ _ (HB7.out) (fun hHeld => ?_)
       clear hK Kc
       (try simp only [Act.put, List.setIfInBounds_toArray, List.set_cons_zero, List.set_cons_succ])
       refine oneH (i := 3) (by kernel_rfl) rfl (fun Kc hK => ?_)
       go_simp
       go_at_call 15; refine (HON.out _ hHeld).2.2.2.1.mono ?_; rintro e w8 ⟨rfl, hb8⟩; (have HB8 := Lib.hid (hHeld.trans (hb8.mono hHeld.size))); clear hb8 hHeld
       go_wp2_with fail
       refine hK.out _ _ (HB8.out) (fun hHeld => ?_)
       clear hK Kc
       (try simp only [Act.put, List.setIfInBounds_toArray, List.set_cons_zero, List.set_cons_succ])
       (refine takeT (i := 4) (v := ?_) rfl ?_ ?_; rotate_left; (focus (intro w' hSw; (try dsimp only at hSw); go_simp; try (with_reducible rfl))))
       (refine takeT (i := 5) (v := ?_) rfl ?_ ?_; rotate_left; (focus (intro w' hSw; (try dsimp only at hSw); go_simp; try (with_reducible rfl))); (try simp only [Act.put, List.setIfInBounds_toArray, List.set_cons_zero, List.set_cons_succ]))
       refine wpAnyH_done (by kernel_rfl) ?_ _
       (try simp only [Act.put, List.setIfInBounds_toArray, List.set_cons_zero, List.set_cons_succ])
       clear hHeld
       go_wp2
       go_meet
       case rel => exact ⟨rfl, HB8⟩
      case rest =>
       obtain ⟨rfl, HB9⟩ := hcut
       obtain ⟨c1, c2, c3, c4, c5, c6, c7⟩ := HCE.out _ HB9.out
       go_upto_region 11 with (fail)
       clear c1 c2 c3 c4 c5 c6 c7
       go_cut [83] from 44 to 83 (fun r wx => r = .bool false ∧ Hid (Below wc.heap.size wc wx))
       case first =>
        have hrg := (HON.out _ HB9.out).1
        go_wp2_with (refine wpList_load_mid rfl 35 _ rfl Q 0 rfl L' _ hrg Tryz.underlying35 rfl HLN.out.size ?_)
        refine (HON.out _ HB9.out).2.2.2.2.mono ?_
        rintro e wy ⟨rfl, hby⟩
        have HBY := Lib.hid hby
        obtain ⟨c1, c2, c3, c4, c5, c6, c7⟩ := HCE.out wy (HB9.out.trans (hby.mono HB9.out.size))
        clear hby hrg
        by_cases e1 : t = 0
        ·by_cases e2 : s = 0
         ·obtain ⟨q1, q2⟩ := HFAR.out ⟨fun _ => e2, fun _ => e1⟩
          obtain ⟨q3, q4⟩ := HGG.out ((HOUT.out ⟨fun _ => e2, fun _ => e1⟩).2 e1)
          subst q3 q4 e1 e2
          have f0 : ((0 : Int) == 0) = true := rfl
          go_wp2
          go_meet
          case rel => exact ⟨by first | (simp; done) | (simp; omega), HBY⟩
         ·have f1 : (s == 0) = false := by simp [e2]
          subst e1
          have f0 : ((0 : Int) == 0) = true := rfl
          clear e2
          go_wp2
          go_meet
          case rel => exact ⟨by first | (simp; done) | (simp; omega), HBY⟩
        ·have f1 : (t == 0) = false := by simp [e1]
         by_cases e2 : s = 0
         ·subst e2
          have f0 : ((0 : Int) == 0) = true := rfl
          clear e1
          go_wp2
          go_meet
          case rel => exact ⟨by first | (simp; done) | (simp; omega), HBY⟩
         ·obtain ⟨q1, q2⟩ := HFAR.out ⟨fun h => absurd h e1, fun h => absurd h e2⟩
          have f2 : (s == 0) = false := by simp [e2]
          clear e1 e2
          go_wp2
          go_meet
          case rel => exact ⟨by first | (simp; done) | (simp; omega), HBY⟩
       case rest =>
        obtain ⟨rfl, HB10⟩ := hcut
        have HB11 := Lib.hid (HB9.out.trans (HB10.out.mono HB9.out.size))
        have HNV := Lib.hid (HNV.out.below HB11.out)
        have HKc := Lib.hid ((HB11.out.block B hlB).trans HKc.out)
        have HBQ := Lib.hid (HBQ.out.trans (HB11.out.mono HBQ.out.size))
        obtain ⟨r1, sv1, nv1, wv1, r2, r3⟩ := HNV.out.move (P := B) hBr HKc.out
        have HR1 := Lib.hid r1
        have HR2 := Lib.hid r2
        have HR3 := Lib.hid r3
        have HO := Lib.hid (AxR.one r2.v r3)
        have HZ : Hid (Lm.toArray.size = L'.toArray.size) := Lib.hid (by rw [r3.eq, HLm.out.eq]; rfl)
        have HBB := Lib.hid (below_setRow (HBm.out.trans (HBQ.out.mono HBw'.out)) (show w.heap.size ≤ B by have := HBw.out; omega) L'.toArray)
        have HBK := Lib.hid HNV.out.blk
        clear r1 r2 r3
        go_wp2_with (first
         | refine wpList_load_row rfl 35 _ rfl Q rfl 35 L'.toArray (0, 0) _ HBK.out Tryz.underlying35 rfl HR3.out.size ?_
         | refine wpList_store_row rfl 35 _ _ rfl B L'.toArray rfl rfl 35 _ HKc.out (by rw [List.size_toArray]; exact HR3.out.size) HZ.out HO.out ?_)
        go_roundw
        case rel => exact ⟨k + 1, N, sv1, nv1, wv1, L', by omega, by go_num, HR2, HR3, HR1, HBB⟩
        case measure => simp [intOf]; omega
    ·obtain rfl : n = k := by omega
     go_wp2
     go_ret
     exact ⟨rfl, HBm.out⟩

end Go.Proofs.YtogbhnmkinjpeaaGreat
