/- Merged: Layer 15: an axis, and what comes to it, as they are read out of the arguments. Layer 15: the reports of a cycle, one by one; a cycle with its data given by hand. Layer 15: equal axes are the same (the reference's Same). Contracts of the reference of layer 9: ways and speeds, bit by bit. Contracts of the reference of layer 9: what is right and safe; the least of some numbers; turned round. -/
import Derived.Test.YthhfnageadckkaaGreatM19
import Derived.Test.YthhfnageadckkaaGreatM43
import Derived.Test.YthhfnageadckkaaGreatM13
import Derived.Test.YthhfnageadckkaaGreatM35
import Derived.Test.YthhfnageadckkaaGreatM03
import Derived.Test.YthhfnageadckkaaGreatM05
set_option linter.unusedVariables false
set_option linter.unusedSimpArgs false
set_option maxHeartbeats 8000000
namespace Go.Proofs.YthhfnageadckkaaGreat
open Go.ChangeShapes Go.WideShapes Go.ChangeAt Go.RowKit

theorem cells_limits : Tryz.prog.cellsOf 23 = 5 := by kernel_rfl
theorem rd_limits {H : Type} {enc : TypeId × Value → H} {w : World} {cs : List Value} (h : Rd enc Tryz.prog w 23 cs) : ∃ (x0 : Int) (x1 : Int) (x2 : Int) (x3 : Int) (x4 : Int), cs = [.int .i64 x0, .int .i64 x1, .int .i64 x2, .int .i64 x3, .int .i64 x4] ∧ (Lit.int .i64 x0).wf = true ∧ (Lit.int .i64 x1).wf = true ∧ (Lit.int .i64 x2).wf = true ∧ (Lit.int .i64 x3).wf = true ∧ (Lit.int .i64 x4).wf = true := by
 obtain ⟨hl, hf⟩ := rd_struct Tryz.underlying23 h
 rw [cells_limits] at hl
 obtain ⟨c0, c1, c2, c3, c4, rfl⟩ := list_5 cs hl
 have h0 : Rd enc Tryz.prog w 2 [c0] := by simpa [show Tryz.prog.cellsOf 2 = 1 by kernel_rfl] using hf 0 _ rfl
 obtain ⟨x0, e0, w0⟩ := rd_int Tryz.underlying2 h0
 simp only [List.cons.injEq, and_true] at e0
 have h1 : Rd enc Tryz.prog w 2 [c1] := by simpa [show Tryz.prog.cellsOf 2 = 1 by kernel_rfl] using hf 1 _ rfl
 obtain ⟨x1, e1, w1⟩ := rd_int Tryz.underlying2 h1
 simp only [List.cons.injEq, and_true] at e1
 have h2 : Rd enc Tryz.prog w 2 [c2] := by simpa [show Tryz.prog.cellsOf 2 = 1 by kernel_rfl] using hf 2 _ rfl
 obtain ⟨x2, e2, w2⟩ := rd_int Tryz.underlying2 h2
 simp only [List.cons.injEq, and_true] at e2
 have h3 : Rd enc Tryz.prog w 2 [c3] := by simpa [show Tryz.prog.cellsOf 2 = 1 by kernel_rfl] using hf 3 _ rfl
 obtain ⟨x3, e3, w3⟩ := rd_int Tryz.underlying2 h3
 simp only [List.cons.injEq, and_true] at e3
 have h4 : Rd enc Tryz.prog w 2 [c4] := by simpa [show Tryz.prog.cellsOf 2 = 1 by kernel_rfl] using hf 4 _ rfl
 obtain ⟨x4, e4, w4⟩ := rd_int Tryz.underlying2 h4
 simp only [List.cons.injEq, and_true] at e4
 subst e0 e1 e2 e3 e4
 exact ⟨x0, x1, x2, x3, x4, rfl, w0, w1, w2, w3, w4⟩
theorem cells_gen : Tryz.prog.cellsOf 25 = 2 := by kernel_rfl
theorem rd_gen {H : Type} {enc : TypeId × Value → H} {w : World} {cs : List Value} (h : Rd enc Tryz.prog w 25 cs) : ∃ (x0 : Int) (x1 : Int), cs = [.int .i64 x0, .int .i64 x1] ∧ (Lit.int .i64 x0).wf = true ∧ (Lit.int .i64 x1).wf = true := by
 obtain ⟨hl, hf⟩ := rd_struct Tryz.underlying25 h
 rw [cells_gen] at hl
 obtain ⟨c0, c1, rfl⟩ := list_2 cs hl
 have h0 : Rd enc Tryz.prog w 2 [c0] := by simpa [show Tryz.prog.cellsOf 2 = 1 by kernel_rfl] using hf 0 _ rfl
 obtain ⟨x0, e0, w0⟩ := rd_int Tryz.underlying2 h0
 simp only [List.cons.injEq, and_true] at e0
 have h1 : Rd enc Tryz.prog w 2 [c1] := by simpa [show Tryz.prog.cellsOf 2 = 1 by kernel_rfl] using hf 1 _ rfl
 obtain ⟨x1, e1, w1⟩ := rd_int Tryz.underlying2 h1
 simp only [List.cons.injEq, and_true] at e1
 subst e0 e1
 exact ⟨x0, x1, rfl, w0, w1⟩
theorem cells_home : Tryz.prog.cellsOf 33 = 4 := by kernel_rfl
theorem rd_home {H : Type} {enc : TypeId × Value → H} {w : World} {cs : List Value} (h : Rd enc Tryz.prog w 33 cs) : ∃ (x0 : Int) (x1 : Int) (x2 : Int) (x3 : Bool), cs = [.int .i64 x0, .int .i64 x1, .int .i64 x2, .bool x3] ∧ (Lit.int .i64 x0).wf = true ∧ (Lit.int .i64 x1).wf = true ∧ (Lit.int .i64 x2).wf = true := by
 obtain ⟨hl, hf⟩ := rd_struct Tryz.underlying33 h
 rw [cells_home] at hl
 obtain ⟨c0, c1, c2, c3, rfl⟩ := list_4 cs hl
 have h0 : Rd enc Tryz.prog w 3 [c0] := by simpa [show Tryz.prog.cellsOf 3 = 1 by kernel_rfl] using hf 0 _ rfl
 obtain ⟨x0, e0, w0⟩ := rd_int Tryz.underlying3 h0
 simp only [List.cons.injEq, and_true] at e0
 have h1 : Rd enc Tryz.prog w 2 [c1] := by simpa [show Tryz.prog.cellsOf 2 = 1 by kernel_rfl] using hf 1 _ rfl
 obtain ⟨x1, e1, w1⟩ := rd_int Tryz.underlying2 h1
 simp only [List.cons.injEq, and_true] at e1
 have h2 : Rd enc Tryz.prog w 2 [c2] := by simpa [show Tryz.prog.cellsOf 2 = 1 by kernel_rfl] using hf 2 _ rfl
 obtain ⟨x2, e2, w2⟩ := rd_int Tryz.underlying2 h2
 simp only [List.cons.injEq, and_true] at e2
 have h3 : Rd enc Tryz.prog w 4 [c3] := by simpa [show Tryz.prog.cellsOf 4 = 1 by kernel_rfl] using hf 3 _ rfl
 obtain ⟨x3, e3⟩ := rd_bool Tryz.underlying4 h3
 simp only [List.cons.injEq, and_true] at e3
 subst e0 e1 e2 e3
 exact ⟨x0, x1, x2, x3, rfl, w0, w1, w2⟩
theorem cells_command : Tryz.prog.cellsOf 63 = 7 := by kernel_rfl
theorem rd_command {H : Type} {enc : TypeId × Value → H} {w : World} {cs : List Value} (h : Rd enc Tryz.prog w 63 cs) : ∃ (x0 : Int) (x1 : Int) (x2 : Int) (x3 : Int) (x4 : Int) (x5 : Int) (x6 : Int), cs = [.int .i64 x0, .int .i64 x1, .int .i64 x2, .int .i64 x3, .int .i64 x4, .int .i64 x5, .int .i64 x6] ∧ (Lit.int .i64 x0).wf = true ∧ (Lit.int .i64 x1).wf = true ∧ (Lit.int .i64 x2).wf = true ∧ (Lit.int .i64 x3).wf = true ∧ (Lit.int .i64 x4).wf = true ∧ (Lit.int .i64 x5).wf = true ∧ (Lit.int .i64 x6).wf = true := by
 obtain ⟨hl, hf⟩ := rd_struct Tryz.underlying63 h
 rw [cells_command] at hl
 obtain ⟨c0, c1, c2, c3, c4, c5, c6, rfl⟩ := list_7 cs hl
 have h0 : Rd enc Tryz.prog w 3 [c0] := by simpa [show Tryz.prog.cellsOf 3 = 1 by kernel_rfl] using hf 0 _ rfl
 obtain ⟨x0, e0, w0⟩ := rd_int Tryz.underlying3 h0
 simp only [List.cons.injEq, and_true] at e0
 have h1 : Rd enc Tryz.prog w 3 [c1] := by simpa [show Tryz.prog.cellsOf 3 = 1 by kernel_rfl] using hf 1 _ rfl
 obtain ⟨x1, e1, w1⟩ := rd_int Tryz.underlying3 h1
 simp only [List.cons.injEq, and_true] at e1
 have h2 : Rd enc Tryz.prog w 2 [c2] := by simpa [show Tryz.prog.cellsOf 2 = 1 by kernel_rfl] using hf 2 _ rfl
 obtain ⟨x2, e2, w2⟩ := rd_int Tryz.underlying2 h2
 simp only [List.cons.injEq, and_true] at e2
 have h3 : Rd enc Tryz.prog w 2 [c3] := by simpa [show Tryz.prog.cellsOf 2 = 1 by kernel_rfl] using hf 3 _ rfl
 obtain ⟨x3, e3, w3⟩ := rd_int Tryz.underlying2 h3
 simp only [List.cons.injEq, and_true] at e3
 have h4 : Rd enc Tryz.prog w 3 [c4] := by simpa [show Tryz.prog.cellsOf 3 = 1 by kernel_rfl] using hf 4 _ rfl
 obtain ⟨x4, e4, w4⟩ := rd_int Tryz.underlying3 h4
 simp only [List.cons.injEq, and_true] at e4
 have h5 : Rd enc Tryz.prog w 2 [c5] := by simpa [show Tryz.prog.cellsOf 2 = 1 by kernel_rfl] using hf 5 _ rfl
 obtain ⟨x5, e5, w5⟩ := rd_int Tryz.underlying2 h5
 simp only [List.cons.injEq, and_true] at e5
 have h6 : Rd enc Tryz.prog w 2 [c6] := by simpa [show Tryz.prog.cellsOf 2 = 1 by kernel_rfl] using hf 6 _ rfl
 obtain ⟨x6, e6, w6⟩ := rd_int Tryz.underlying2 h6
 simp only [List.cons.injEq, and_true] at e6
 subst e0 e1 e2 e3 e4 e5 e6
 exact ⟨x0, x1, x2, x3, x4, x5, x6, rfl, w0, w1, w2, w3, w4, w5, w6⟩

theorem i64_wf {x : Int} (h : (Lit.int .i64 x).wf = true) : I64 x := by
 have := bounds_i64 h
 unfold I64
 omega
theorem command_w {H : Type} {enc : TypeId × Value → H} {w : World} {cs : List Value} (h : Rd enc Tryz.prog w 63 cs) : ∃ x : CmdS, cs = x.cells ∧ CmdW x := by
 obtain ⟨x0, x1, x2, x3, x4, x5, x6, rfl, h0, h1, h2, h3, h4, h5, h6⟩ := rd_command h
 exact ⟨⟨x0, x1, x2, x3, x4, x5, x6⟩, rfl, ⟨i64_wf h0, i64_wf h1, i64_wf h2, i64_wf h3, i64_wf h4, i64_wf h5, i64_wf h6⟩⟩
theorem cmds_of {w : World} {v : Value} {xs : List CmdS} (h : SliceAt 7 CmdS.cells CmdW w v xs) : ReadC w xs.length (cmdsC xs) 0 v ∧ ∀ x ∈ xs, CmdW x := by
 obtain ⟨a, cap, rfl, hl, hc, hg, hm⟩ := h
 refine ⟨⟨a, cap, rfl, hl, hc, ⟨cmdsC_len xs, fun hn => ?_⟩, fun _ _ _ _ => Nat.zero_le _⟩, hg⟩
 obtain ⟨b, off, e, hb, hx⟩ := hm (List.ne_nil_of_length_pos hn)
 refine ⟨b, off, e, hb, fun j u hu => ?_⟩
 have hj : j < xs.length * 7 := by
  have := (List.getElem?_eq_some_iff.1 hu).1
  rwa [cmdsC_len] at this
 have hk : j / 7 < xs.length := by omega
 have hd : j = j / 7 * 7 + j % 7 := by omega
 have h1 := hx (j / 7) _ (List.getElem?_eq_getElem hk) (j % 7) (Nat.mod_lt _ (by decide))
 have h2 := cmdsC_get xs (j / 7) (j % 7) _ (List.getElem?_eq_getElem hk) (Nat.mod_lt _ (by decide))
 rw [← hd] at h2
 rw [hu] at h2
 rw [Nat.add_assoc, ← hd] at h1
 rw [h1, ← h2]
theorem rd_cmds {H : Type} {enc : TypeId × Value → H} {w : World} {v : Value} (h : Rd enc Tryz.prog w 29 [v]) : ∃ xs, ReadC w xs.length (cmdsC xs) 0 v ∧ ∀ x ∈ xs, CmdW x := by
 obtain ⟨xs, hx⟩ := rd_slice_at CmdS.cells CmdW Tryz.underlying29 cells_command (by decide) (fun cs h => command_w h) h
 exact ⟨xs, cmds_of hx⟩
theorem rd_nums {H : Type} {enc : TypeId × Value → H} {w : World} {v : Value} (h : Rd enc Tryz.prog w 26 [v]) : ∃ zs, SmV w zs v := by
 obtain ⟨zs, a, cap, hv, h1, h2, -, hm⟩ := rd_slice_at (fun z : Int => [.int .i64 z]) (fun _ => True) Tryz.underlying26 (show Tryz.prog.cellsOf 2 = 1 by kernel_rfl) (by decide) (fun cs hcs => by
  obtain ⟨z, hz, -⟩ := rd_int Tryz.underlying2 hcs
  exact ⟨z, hz, trivial⟩) h
 refine ⟨zs, a, cap, hv, h1, h2, by simp [intsC], fun hn => ?_⟩
 obtain ⟨b, off, ha, hb, hx⟩ := hm (List.ne_nil_of_length_pos hn)
 refine ⟨b, off, ha, hb, fun j u hu => ?_⟩
 simp only [intsC, List.getElem?_map, Option.map_eq_some_iff] at hu
 obtain ⟨z, hz, rfl⟩ := hu
 have := hx j z hz 0 (by decide)
 simpa using this
theorem list_26 {α : Type} (l : List α) (h : l.length = 26) : ∃ a0 a1 a2 a3 a4 a5 a6 a7 a8 a9 a10 a11 a12 a13 a14 a15 a16 a17 a18 a19 a20 a21 a22 a23 a24 a25, l = [a0, a1, a2, a3, a4, a5, a6, a7, a8, a9, a10, a11, a12, a13, a14, a15, a16, a17, a18, a19, a20, a21, a22, a23, a24, a25] := by
 match l, h with | [a0, a1, a2, a3, a4, a5, a6, a7, a8, a9, a10, a11, a12, a13, a14, a15, a16, a17, a18, a19, a20, a21, a22, a23, a24, a25], _ => exact ⟨a0, a1, a2, a3, a4, a5, a6, a7, a8, a9, a10, a11, a12, a13, a14, a15, a16, a17, a18, a19, a20, a21, a22, a23, a24, a25, rfl⟩
theorem one_i {H : Type} {enc : TypeId × Value → H} {w : World} {t : TypeId} {v : Value} (hc : Tryz.prog.underlying t = some (.int .i64)) (h : Rd enc Tryz.prog w t [v]) : ∃ x, v = .int .i64 x ∧ I64 x := by
 obtain ⟨x, hx, hw⟩ := rd_int hc h
 simp only [List.cons.injEq, and_true] at hx
 exact ⟨x, hx, i64_wf hw⟩
theorem one_b {H : Type} {enc : TypeId × Value → H} {w : World} {v : Value} (h : Rd enc Tryz.prog w 4 [v]) : ∃ x, v = .bool x := by
 obtain ⟨x, hx⟩ := rd_bool Tryz.underlying4 h
 simp only [List.cons.injEq, and_true] at hx
 exact ⟨x, hx⟩
theorem cells_axis : Tryz.prog.cellsOf 35 = 26 := by kernel_rfl
theorem c1_int : Tryz.prog.cellsOf 3 = 1 := by kernel_rfl
theorem c1_i64 : Tryz.prog.cellsOf 2 = 1 := by kernel_rfl
theorem c1_bool : Tryz.prog.cellsOf 4 = 1 := by kernel_rfl
theorem c1_cmds : Tryz.prog.cellsOf 29 = 1 := by kernel_rfl
theorem c1_nums : Tryz.prog.cellsOf 26 = 1 := by kernel_rfl
theorem c2_line : Tryz.prog.cellsOf 31 = 2 := by kernel_rfl

theorem rd_line2 {H : Type} {enc : TypeId × Value → H} {w : World} {s r : Value} (h : Rd enc Tryz.prog w 31 [s, r]) :
  ∃ ns ws, (ReadC w ns.length (cmdsC ns) 0 s ∧ ∀ x ∈ ns, CmdW x) ∧ (ReadC w ws.length (cmdsC ws) 0 r ∧ ∀ x ∈ ws, CmdW x) := by
 obtain ⟨-, hf⟩ := rd_struct Tryz.underlying31 h
 have h0 : Rd enc Tryz.prog w 29 [s] := by simpa [c1_cmds] using hf 0 _ rfl
 have h1 : Rd enc Tryz.prog w 29 [r] := by simpa [c1_cmds] using hf 1 _ rfl
 obtain ⟨ns, hn⟩ := rd_cmds h0
 obtain ⟨ws, hw⟩ := rd_cmds h1
 exact ⟨ns, ws, hn, hw⟩
theorem rd_sm1 {H : Type} {enc : TypeId × Value → H} {w : World} {s : Value} (h : Rd enc Tryz.prog w 28 [s]) : ∃ zs, SmV w zs s := by
 obtain ⟨-, hf⟩ := rd_struct Tryz.underlying28 h
 have h0 : Rd enc Tryz.prog w 26 [s] := by simpa [c1_nums] using hf 0 _ rfl
 exact rd_nums h0

theorem rd_axis {H : Type} {enc : TypeId × Value → H} {w : World} {cs : List Value} (h : Rd enc Tryz.prog w 35 cs) : ∃ a sv nv wv, cs = axC a sv nv wv ∧ AxV w a sv nv wv := by
 obtain ⟨hl, hf⟩ := rd_struct Tryz.underlying35 h
 rw [cells_axis] at hl
 obtain ⟨c0, c1, c2, c3, c4, c5, c6, c7, c8, c9, c10, c11, c12, c13, c14, c15, c16, c17, c18, c19, c20, c21, c22, c23, c24, c25, rfl⟩ := list_26 cs hl
 have f0 : Rd enc Tryz.prog w 3 [c0] := by simpa [c1_int] using hf 0 _ rfl
 have f1 : Rd enc Tryz.prog w 23 [c1, c2, c3, c4, c5] := by simpa [cells_limits] using hf 1 _ rfl
 have f2 : Rd enc Tryz.prog w 3 [c6] := by simpa [c1_int] using hf 2 _ rfl
 have f3 : Rd enc Tryz.prog w 2 [c7] := by simpa [c1_i64] using hf 3 _ rfl
 have f4 : Rd enc Tryz.prog w 2 [c8] := by simpa [c1_i64] using hf 4 _ rfl
 have f5 : Rd enc Tryz.prog w 2 [c9] := by simpa [c1_i64] using hf 5 _ rfl
 have f6 : Rd enc Tryz.prog w 25 [c10, c11] := by simpa [cells_gen] using hf 6 _ rfl
 have f7 : Rd enc Tryz.prog w 28 [c12] := by simpa [cells_smooth] using hf 7 _ rfl
 have f8 : Rd enc Tryz.prog w 2 [c13] := by simpa [c1_i64] using hf 8 _ rfl
 have f9 : Rd enc Tryz.prog w 31 [c14, c15] := by simpa [c2_line] using hf 9 _ rfl
 have f10 : Rd enc Tryz.prog w 4 [c16] := by simpa [c1_bool] using hf 10 _ rfl
 have f11 : Rd enc Tryz.prog w 33 [c17, c18, c19, c20] := by simpa [cells_home] using hf 11 _ rfl
 have f12 : Rd enc Tryz.prog w 3 [c21] := by simpa [c1_int] using hf 12 _ rfl
 have f13 : Rd enc Tryz.prog w 2 [c22] := by simpa [c1_i64] using hf 13 _ rfl
 have f14 : Rd enc Tryz.prog w 2 [c23] := by simpa [c1_i64] using hf 14 _ rfl
 have f15 : Rd enc Tryz.prog w 3 [c24] := by simpa [c1_int] using hf 15 _ rfl
 have f16 : Rd enc Tryz.prog w 4 [c25] := by simpa [c1_bool] using hf 16 _ rfl
 obtain ⟨st, rfl, -⟩ := one_i Tryz.underlying3 f0
 obtain ⟨l0, l1, l2, l3, l4, el, -⟩ := rd_limits f1
 obtain ⟨win, rfl, -⟩ := one_i Tryz.underlying3 f2
 obtain ⟨hat, rfl, -⟩ := one_i Tryz.underlying2 f3
 obtain ⟨fast, rfl, -⟩ := one_i Tryz.underlying2 f4
 obtain ⟨creep, rfl, -⟩ := one_i Tryz.underlying2 f5
 obtain ⟨g0, g1, eg, wg, -⟩ := rd_gen f6
 obtain ⟨zs, hz⟩ := rd_sm1 f7
 obtain ⟨off, rfl, -⟩ := one_i Tryz.underlying2 f8
 obtain ⟨ns, ws, ⟨n1, n2⟩, ⟨w1, w2⟩⟩ := rd_line2 f9
 obtain ⟨hd, rfl⟩ := one_b f10
 obtain ⟨h0, h1, h2, h3, eh, -⟩ := rd_home f11
 obtain ⟨ov, rfl, -⟩ := one_i Tryz.underlying3 f12
 obtain ⟨sta, rfl, hsta⟩ := one_i Tryz.underlying2 f13
 obtain ⟨mas, rfl, hmas⟩ := one_i Tryz.underlying2 f14
 obtain ⟨cau, rfl, -⟩ := one_i Tryz.underlying3 f15
 obtain ⟨ins, rfl⟩ := one_b f16
 simp only [List.cons.injEq, and_true] at el eg eh
 obtain ⟨rfl, rfl, rfl, rfl, rfl⟩ := el
 obtain ⟨rfl, rfl⟩ := eg
 obtain ⟨rfl, rfl, rfl, rfl⟩ := eh
 exact ⟨⟨st, ⟨l0, l1, l2, l3, l4⟩, win, hat, fast, creep, ⟨g0, g1⟩, zs, off, ns, ws, hd, ⟨h0, h1, h2, h3⟩, ov, sta, mas, cau, ins⟩, c12, c14, c15, rfl, ⟨hz, ⟨_, _, rfl, n1, w1⟩, fun c hc => (List.mem_append.1 hc).elim (n2 c) (w2 c), hsta, hmas, i64_wf wg⟩⟩

end Go.Proofs.YthhfnageadckkaaGreat

namespace Go.Proofs.YthhfnageadckkaaGreat
open Go.RowKit

def inZ : INS := ⟨false, false, 0, 0, false, false, false, false, false, 0, 0, 0⟩
end Go.Proofs.YthhfnageadckkaaGreat

namespace Go.Proofs.YthhfnageadckkaaGreat
open Go.RowKit
attribute [local go_sem] ite_max ite_min vite_max vite_min ext_cell ext_frozen

set_option maxRecDepth 100000 in
theorem same15_at (a : AX) (sv nv wv sv' nv' wv' : Value) (w : World) (h : AxV w a sv nv wv) (h' : AxV w a sv' nv' wv') :
  Calls Tryz.prog 15 #[.agg (axC a sv nv wv).toArray, .agg (axC a sv' nv' wv').toArray] w fun e w' => e = .returned (.bool true) ∧ Below w.heap.size w w' := by
 obtain ⟨E, f, rfl, s1, s2, s3⟩ := id h.sm
 obtain ⟨F, g, rfl, t1, t2, t3⟩ := id h'.sm
 obtain ⟨n, hn⟩ : ∃ n, a.sm.length = n := ⟨_, rfl⟩
 have HX : Hid (∀ k, k < n → ∃ b off b' off' z, E = some ⟨b, off, none⟩ ∧ F = some ⟨b', off', none⟩ ∧ b < w.heap.size ∧ b' < w.heap.size ∧ w.cell? ⟨b, off + k, none⟩ = some (.int .i64 z) ∧ w.cell? ⟨b', off' + k, none⟩ = some (.int .i64 z)) := Lib.hid (fun k hk => by
  obtain ⟨b, off, e1, hb, hc⟩ := s3.2 (by omega)
  obtain ⟨b', off', e2, hb', hc'⟩ := t3.2 (by omega)
  have hz : a.sm[k]? = some (a.sm[k]'(by omega)) := List.getElem?_eq_getElem _
  exact ⟨b, off, b', off', a.sm[k]'(by omega), e1, e2, hb, hb', hc k _ (by simp [intsC, hz]), hc' k _ (by simp [intsC, hz])⟩)
 rw [hn] at s1 t1 ⊢
 have HSM : Hid (∀ W, Below w.heap.size w W → Calls Tryz.prog 37 #[.agg #[nv, wv], .agg #[nv', wv']] W fun e w' => e = .returned (.bool true) ∧ Below W.heap.size W w') := Lib.hid (fun W hb => same_at a.ns a.ws _ _ 0 0 W (h.ln.below hb) (h'.ln.below hb))
 clear s3 t3 h h' hn
 show Calls Tryz.prog 15 #[.agg #[.int .i64 a.st, .int .i64 a.l.v, .int .i64 a.l.a, .int .i64 a.l.d, .int .i64 a.l.lo, .int .i64 a.l.hi, .int .i64 a.win, .int .i64 a.hat, .int .i64 a.fast, .int .i64 a.creep, .int .i64 a.g.p, .int .i64 a.g.v, .slice E n f, .int .i64 a.off, nv, wv, .bool a.hd, .int .i64 a.h.p, .int .i64 a.h.f, .int .i64 a.h.c, .bool a.h.t, .int .i64 a.ov, .int .i64 a.sta, .int .i64 a.mas, .int .i64 a.cau, .bool a.ins], .agg #[.int .i64 a.st, .int .i64 a.l.v, .int .i64 a.l.a, .int .i64 a.l.d, .int .i64 a.l.lo, .int .i64 a.l.hi, .int .i64 a.win, .int .i64 a.hat, .int .i64 a.fast, .int .i64 a.creep, .int .i64 a.g.p, .int .i64 a.g.v, .slice F n g, .int .i64 a.off, nv', wv', .bool a.hd, .int .i64 a.h.p, .int .i64 a.h.f, .int .i64 a.h.c, .bool a.h.t, .int .i64 a.ov, .int .i64 a.sta, .int .i64 a.mas, .int .i64 a.cau, .bool a.ins]] w _
 go_enter Tryz.func15, Tryz.ntmps15
 go_wp2_with fail
 obtain ⟨W, hW⟩ : ∃ W, W = (w.alloc (.cells #[.int .i64 a.st, .int .i64 a.l.v, .int .i64 a.l.a, .int .i64 a.l.d, .int .i64 a.l.lo, .int .i64 a.l.hi, .int .i64 a.win, .int .i64 a.hat, .int .i64 a.fast, .int .i64 a.creep, .int .i64 a.g.p, .int .i64 a.g.v, .slice E n f, .int .i64 a.off, nv, wv, .bool a.hd, .int .i64 a.h.p, .int .i64 a.h.f, .int .i64 a.h.c, .bool a.h.t, .int .i64 a.ov, .int .i64 a.sta, .int .i64 a.mas, .int .i64 a.cau, .bool a.ins] 35)).alloc (.cells #[.int .i64 a.st, .int .i64 a.l.v, .int .i64 a.l.a, .int .i64 a.l.d, .int .i64 a.l.lo, .int .i64 a.l.hi, .int .i64 a.win, .int .i64 a.hat, .int .i64 a.fast, .int .i64 a.creep, .int .i64 a.g.p, .int .i64 a.g.v, .slice F n g, .int .i64 a.off, nv', wv', .bool a.hd, .int .i64 a.h.p, .int .i64 a.h.f, .int .i64 a.h.c, .bool a.h.t, .int .i64 a.ov, .int .i64 a.sta, .int .i64 a.mas, .int .i64 a.cau, .bool a.ins] 35) := ⟨_, rfl⟩
 have hb0 : Below w.heap.size w W := by rw [hW]; exact belowBy
 have hB1 := heap_alloc2_old w (.cells #[.int .i64 a.st, .int .i64 a.l.v, .int .i64 a.l.a, .int .i64 a.l.d, .int .i64 a.l.lo, .int .i64 a.l.hi, .int .i64 a.win, .int .i64 a.hat, .int .i64 a.fast, .int .i64 a.creep, .int .i64 a.g.p, .int .i64 a.g.v, .slice E n f, .int .i64 a.off, nv, wv, .bool a.hd, .int .i64 a.h.p, .int .i64 a.h.f, .int .i64 a.h.c, .bool a.h.t, .int .i64 a.ov, .int .i64 a.sta, .int .i64 a.mas, .int .i64 a.cau, .bool a.ins] 35) (.cells #[.int .i64 a.st, .int .i64 a.l.v, .int .i64 a.l.a, .int .i64 a.l.d, .int .i64 a.l.lo, .int .i64 a.l.hi, .int .i64 a.win, .int .i64 a.hat, .int .i64 a.fast, .int .i64 a.creep, .int .i64 a.g.p, .int .i64 a.g.v, .slice F n g, .int .i64 a.off, nv', wv', .bool a.hd, .int .i64 a.h.p, .int .i64 a.h.f, .int .i64 a.h.c, .bool a.h.t, .int .i64 a.ov, .int .i64 a.sta, .int .i64 a.mas, .int .i64 a.cau, .bool a.ins] 35)
 have hB2 : ((w.alloc (.cells #[.int .i64 a.st, .int .i64 a.l.v, .int .i64 a.l.a, .int .i64 a.l.d, .int .i64 a.l.lo, .int .i64 a.l.hi, .int .i64 a.win, .int .i64 a.hat, .int .i64 a.fast, .int .i64 a.creep, .int .i64 a.g.p, .int .i64 a.g.v, .slice E n f, .int .i64 a.off, nv, wv, .bool a.hd, .int .i64 a.h.p, .int .i64 a.h.f, .int .i64 a.h.c, .bool a.h.t, .int .i64 a.ov, .int .i64 a.sta, .int .i64 a.mas, .int .i64 a.cau, .bool a.ins] 35)).alloc (.cells #[.int .i64 a.st, .int .i64 a.l.v, .int .i64 a.l.a, .int .i64 a.l.d, .int .i64 a.l.lo, .int .i64 a.l.hi, .int .i64 a.win, .int .i64 a.hat, .int .i64 a.fast, .int .i64 a.creep, .int .i64 a.g.p, .int .i64 a.g.v, .slice F n g, .int .i64 a.off, nv', wv', .bool a.hd, .int .i64 a.h.p, .int .i64 a.h.f, .int .i64 a.h.c, .bool a.h.t, .int .i64 a.ov, .int .i64 a.sta, .int .i64 a.mas, .int .i64 a.cau, .bool a.ins] 35)).heap[w.heap.size + 1]? = some (.cells #[.int .i64 a.st, .int .i64 a.l.v, .int .i64 a.l.a, .int .i64 a.l.d, .int .i64 a.l.lo, .int .i64 a.l.hi, .int .i64 a.win, .int .i64 a.hat, .int .i64 a.fast, .int .i64 a.creep, .int .i64 a.g.p, .int .i64 a.g.v, .slice F n g, .int .i64 a.off, nv', wv', .bool a.hd, .int .i64 a.h.p, .int .i64 a.h.f, .int .i64 a.h.c, .bool a.h.t, .int .i64 a.ov, .int .i64 a.sta, .int .i64 a.mas, .int .i64 a.cau, .bool a.ins] 35) := heap_alloc_atX (by simp)
 rw [← hW] at hB1 hB2 ⊢
 have HB0 := Lib.hid hb0
 have HB1 := Lib.hid hB1
 have HB2 := Lib.hid hB2
 obtain ⟨P, hP⟩ : ∃ P, P = w.heap.size := ⟨_, rfl⟩
 rw [← hP] at HB1 HB2 ⊢
 have hl2 : P + 1 < W.heap.size := (Array.getElem?_eq_some_iff.1 HB2.out).1
 have HPw := Lib.hid hP
 clear hW hb0 hB1 hB2 hP
 refine (HSM.out _ HB0.out).mono ?_
 rintro e w1 ⟨rfl, hb1⟩
 have HB3 := Lib.hid (HB0.out.trans (hb1.mono HB0.out.size))
 have HC1 := Lib.hid ((hb1.block P (by omega)).trans HB1.out)
 have HC2 := Lib.hid ((hb1.block (P + 1) hl2).trans HB2.out)
 have hl3 : P + 1 < w1.heap.size := (Array.getElem?_eq_some_iff.1 HC2.out).1
 clear hb1 HB1 HB2 hl2 HB0 HSM
 have p16 : w1.cell? ⟨P, 16, none⟩ = some (.bool a.hd) := heap_cell 16 _ HC1.out rfl
 have q16 : w1.cell? ⟨P + 1, 16, none⟩ = some (.bool a.hd) := heap_cell 16 _ HC2.out rfl
 have p17 : w1.cell? ⟨P, 17, none⟩ = some (.int .i64 a.h.p) := heap_cell 17 _ HC1.out rfl
 have q17 : w1.cell? ⟨P + 1, 17, none⟩ = some (.int .i64 a.h.p) := heap_cell 17 _ HC2.out rfl
 have p18 : w1.cell? ⟨P, 18, none⟩ = some (.int .i64 a.h.f) := heap_cell 18 _ HC1.out rfl
 have q18 : w1.cell? ⟨P + 1, 18, none⟩ = some (.int .i64 a.h.f) := heap_cell 18 _ HC2.out rfl
 have p19 : w1.cell? ⟨P, 19, none⟩ = some (.int .i64 a.h.c) := heap_cell 19 _ HC1.out rfl
 have q19 : w1.cell? ⟨P + 1, 19, none⟩ = some (.int .i64 a.h.c) := heap_cell 19 _ HC2.out rfl
 have p20 : w1.cell? ⟨P, 20, none⟩ = some (.bool a.h.t) := heap_cell 20 _ HC1.out rfl
 have q20 : w1.cell? ⟨P + 1, 20, none⟩ = some (.bool a.h.t) := heap_cell 20 _ HC2.out rfl
 have p21 : w1.cell? ⟨P, 21, none⟩ = some (.int .i64 a.ov) := heap_cell 21 _ HC1.out rfl
 have q21 : w1.cell? ⟨P + 1, 21, none⟩ = some (.int .i64 a.ov) := heap_cell 21 _ HC2.out rfl
 have p22 : w1.cell? ⟨P, 22, none⟩ = some (.int .i64 a.sta) := heap_cell 22 _ HC1.out rfl
 have q22 : w1.cell? ⟨P + 1, 22, none⟩ = some (.int .i64 a.sta) := heap_cell 22 _ HC2.out rfl
 have p23 : w1.cell? ⟨P, 23, none⟩ = some (.int .i64 a.mas) := heap_cell 23 _ HC1.out rfl
 have q23 : w1.cell? ⟨P + 1, 23, none⟩ = some (.int .i64 a.mas) := heap_cell 23 _ HC2.out rfl
 have p24 : w1.cell? ⟨P, 24, none⟩ = some (.int .i64 a.cau) := heap_cell 24 _ HC1.out rfl
 have q24 : w1.cell? ⟨P + 1, 24, none⟩ = some (.int .i64 a.cau) := heap_cell 24 _ HC2.out rfl
 have p25 : w1.cell? ⟨P, 25, none⟩ = some (.bool a.ins) := heap_cell 25 _ HC1.out rfl
 have q25 : w1.cell? ⟨P + 1, 25, none⟩ = some (.bool a.ins) := heap_cell 25 _ HC2.out rfl
 have p12 : w1.cell? ⟨P, 12, none⟩ = some (.slice E n f) := heap_cell 12 _ HC1.out rfl
 have q12 : w1.cell? ⟨P + 1, 12, none⟩ = some (.slice F n g) := heap_cell 12 _ HC2.out rfl
 go_wp2_with fail
 clear p12 p16 p17 p18 p19 p20 p21 p22 p23 p24 p25 q12 q16 q17 q18 q19 q20 q21 q22 q23 q24 q25
 have HCE : Hid (∀ W', Below w1.heap.size w1 W' → W'.cell? ⟨P, 12, none⟩ = some (.slice E n f) ∧ W'.cell? ⟨P + 1, 12, none⟩ = some (.slice F n g)) := Lib.hid (fun W' hb =>
  ⟨heap_cell 12 _ ((hb.block P (by omega)).trans HC1.out) rfl, heap_cell 12 _ ((hb.block (P + 1) hl3).trans HC2.out) rfl⟩)
 have HXX : Hid (∀ k, k < n → ∃ b off b' off' z, E = some ⟨b, off, none⟩ ∧ F = some ⟨b', off', none⟩ ∧ ∀ W', Below w1.heap.size w1 W' → W'.cell? ⟨b, off + k, none⟩ = some (.int .i64 z) ∧ W'.cell? ⟨b', off' + k, none⟩ = some (.int .i64 z)) := Lib.hid (fun k hk => by
  obtain ⟨b, off, b', off', z, e1, e2, hb, hb', hc, hc'⟩ := HX.out k hk
  refine ⟨b, off, b', off', z, e1, e2, fun W' hW => ?_⟩
  have h3 : Below w.heap.size w W' := HB3.out.trans (hW.mono HB3.out.size)
  exact ⟨(h3.cell (p := ⟨b, off + k, none⟩) hb).trans hc, (h3.cell (p := ⟨b', off' + k, none⟩) hb').trans hc'⟩)
 clear HX HC1 HC2 HPw hl3
 go_loopw [5] (fun u wr => ∃ k : Nat, k ≤ n ∧ u = .int .i64 k ∧ Hid (Below w1.heap.size w1 wr)) (fun u _ => n - (intOf u).toNat)
 case atStart => exact ⟨0, by omega, rfl, Lib.hid (Below.refl _ _)⟩
 case round =>
  obtain ⟨k, hk, rfl, HR⟩ := hrel
  obtain ⟨cE, cF⟩ := HCE.out _ HR.out
  by_cases hlt : k < n
  ·obtain ⟨b, off, b', off', z, rfl, rfl, hz⟩ := HXX.out k hlt
   have HZ := Lib.hid hz
   have hk0 : (0 : Int) ≤ (k : Int) := by omega
   have hkn : (k : Int) < (n : Int) := by omega
   clear hz
   go_upto_region 6 with (fail)
   clear cE cF
   refine wp_region_held_drew (S := fun w' => Below w1.heap.size w1 w') (by kernel_rfl) ?_ (fun hHeld => ?_)
   ·exact Below.drew HR.out
   refine tT 0 ?_ rfl ?_ ?_; rotate_left; (focus intros; go_simp; try rfl)
   refine tT 1 ?_ rfl ?_ ?_; rotate_left; (focus intros; go_simp; try rfl)
   (refine tT 2 ?_ rfl ?_ ?_; rotate_left; (focus (intro w' hSw; (try dsimp only at hSw); have g1 := (HCE.out _ hSw).1; go_simp; try (with_reducible rfl))); (try simp only [ly]))
   refine tT 3 ?_ rfl ?_ ?_; rotate_left; (focus intros; go_simp; try rfl)
   refine tT 4 ?_ rfl ?_ ?_; rotate_left; (focus intros; go_simp; try rfl)
   (refine tT 5 ?_ rfl ?_ ?_; rotate_left; (focus (intro w' hSw; (try dsimp only at hSw); have g1 := (HZ.out _ hSw).1; go_simp; try (with_reducible rfl))); (try simp only [ly]))
   refine tT 6 ?_ rfl ?_ ?_; rotate_left; (focus intros; go_simp; try rfl)
   refine tT 7 ?_ rfl ?_ ?_; rotate_left; (focus intros; go_simp; try rfl)
   (refine tT 8 ?_ rfl ?_ ?_; rotate_left; (focus (intro w' hSw; (try dsimp only at hSw); have g1 := (HCE.out _ hSw).2; go_simp; try (with_reducible rfl))); (try simp only [ly]))
   refine tT 9 ?_ rfl ?_ ?_; rotate_left; (focus intros; go_simp; try rfl)
   refine tT 10 ?_ rfl ?_ ?_; rotate_left; (focus intros; go_simp; try rfl)
   (refine tT 11 ?_ rfl ?_ ?_; rotate_left; (focus (intro w' hSw; (try dsimp only at hSw); have g1 := (HZ.out _ hSw).2; go_simp; try (with_reducible rfl))); (try simp only [ly]))
   refine tT 12 ?_ rfl ?_ ?_; rotate_left; (focus intros; go_simp; try rfl); (try simp only [ly])
   refine wpAnyH_done (by kernel_rfl) ?_ _
   (try simp only [ly])
   have HH := Lib.hid hHeld
   clear hHeld HR
   have hzz : (z != z) = false := by simp
   go_wp2
   go_roundw
   case rel => exact ⟨k + 1, by omega, by go_num, HH⟩
   case measure => simp [intOf]; omega
  ·obtain rfl : n = k := by omega
   go_wp2
   go_ret
   exact ⟨rfl, HB3.out.trans (HR.out.mono HB3.out.size)⟩

end Go.Proofs.YthhfnageadckkaaGreat

namespace Go.Proofs.YthhfnageadckkaaGreat
open Go.RowKit
attribute [local go_sem] ite_max ite_min vite_max vite_min ite_max0 vite_max0 ext_cell ext_frozen

theorem half_row (d n : Int) : d * n * (n + 1) / 2 = d * (n * (n + 1) / 2) := by
 obtain ⟨t, ht⟩ : ∃ t, n * (n + 1) = 2 * t := by
  refine ⟨n * (n + 1) / 2, ?_⟩
  have h : n * (n + 1) % 2 = 0 := by
   rcases Int.emod_two_eq n with h | h
   ·rw [Int.mul_emod, h]
    simp
   ·rw [Int.mul_emod, show (n + 1) % 2 = 0 by omega]
    simp
  omega
 rw [Int.mul_assoc, ht, Int.mul_left_comm, Int.mul_ediv_cancel_left _ (by omega), Int.mul_ediv_cancel_left _ (by omega)]

theorem row_parts (v u d : Int) (hv : 0 ≤ v ∧ v ≤ 1048576) (hu : 0 ≤ u) (hd : 1 ≤ d ∧ d ≤ 1048576) (huv : u < v) :
  ∃ n p q r : Int, (v - u - 1) / d = n ∧ n * v = p ∧ d * n = q ∧ q * (n + 1) = r ∧ slw v u d = p - r / 2 ∧ 0 ≤ n ∧ n ≤ 1048576 ∧ 0 ≤ p ∧ p ≤ 1099511627776 ∧ 0 ≤ q ∧ q ≤ 1048576 ∧ 0 ≤ r ∧ r ≤ 1099512676352 := by
 have hq := quo_mul (v - u - 1) d hd.1 (by omega)
 have hb := row_bd v d ((v - u - 1) / d) hv hd hq.1 (by omega)
 have hm : 0 ≤ d * ((v - u - 1) / d) := Int.mul_nonneg (by omega) hq.1
 have hr := mul_le_of (d * ((v - u - 1) / d)) ((v - u - 1) / d + 1) 1048576 1048577 hm (by omega) (by omega) (by omega)
 refine ⟨_, _, _, _, rfl, rfl, rfl, rfl, ?_, by omega, by omega, by omega, by omega, hm, by omega, hr.1, by omega⟩
 rw [half_row]
 unfold slw rowf
 rw [if_neg (by omega)]

theorem rway9_any (v d : Int) (w : World) (hv : 0 ≤ v ∧ v ≤ 1048576) (hd : 1 ≤ d ∧ d ≤ 1048576) :
  Calls Tryz.prog 78 #[.int .i64 v, .int .i64 d] w fun e w' => e = .returned (.int .i64 (slw v 0 d)) ∧ w = w' := by
 by_cases h : 0 < v
 ·obtain ⟨n, p, q, r, e1, e2, e3, e4, e5, b1, b2, b3, b4, b5, b6, b7, b8⟩ := row_parts v 0 d hv (by omega) hd h
  rw [Int.sub_zero] at e1
  rw [e5]
  clear e5
  go_enter Tryz.func78, Tryz.ntmps78
  go_wp2
  go_ret
  exact ⟨rfl, rfl⟩
 ·obtain rfl : v = 0 := by omega
  rw [slw_le 0 0 d (by omega)]
  go_enter Tryz.func78, Tryz.ntmps78
  go_wp2
  go_ret
  exact ⟨rfl, rfl⟩


set_option maxRecDepth 100000 in
theorem rright9_any (V A D L H : Int) (w : World) : Calls Tryz.prog 41 #[.agg #[.int .i64 V, .int .i64 A, .int .i64 D, .int .i64 L, .int .i64 H]] w fun e w' => e = .returned (.bool (rightB ⟨V, A, D, L, H⟩)) ∧ Below w.heap.size w w' := by
 go_enter Tryz.func41, Tryz.ntmps41
 go_wp2
 all_goals go_ret
 all_goals
  refine ⟨congrArg (fun b => Ending.returned (.bool b)) ?_, by exact belowBy⟩
  rw [Bool.eq_iff_iff]
  simp only [rightB, decide_eq_true_eq, Bool.and_eq_true, Bool.false_eq_true, true_iff, false_iff]
  omega
theorem rright9_at (V A D L H : Int) (w : World) (b : Bool) (h : rightB ⟨V, A, D, L, H⟩ = b) : Calls Tryz.prog 41 #[.agg #[.int .i64 V, .int .i64 A, .int .i64 D, .int .i64 L, .int .i64 H]] w fun e w' => e = .returned (.bool b) ∧ Below w.heap.size w w' := by
 subst h
 exact rright9_any V A D L H w

set_option maxRecDepth 100000 in
theorem rsafe9_any (V A D L H p v : Int) (w : World) (hr : rightB ⟨V, A, D, L, H⟩ = true) (hp : -9223372036854775808 ≤ p ∧ p ≤ 9223372036854775807) :
  Calls Tryz.prog 44 #[.agg #[.int .i64 V, .int .i64 A, .int .i64 D, .int .i64 L, .int .i64 H], .agg #[.int .i64 p, .int .i64 v]] w fun e w' => e = .returned (.bool (safeB ⟨V, A, D, L, H⟩ ⟨p, v⟩)) ∧ Below w.heap.size w w' := by
 have hy := rightB_yes hr
 simp only at hy
 by_cases c1 : L ≤ p ∧ p ≤ H ∧ v ≤ 1048576 ∧ -1048576 ≤ v
 ·by_cases c3 : 0 ≤ v
  ·have hb := slw_bound v 0 D (by omega) (by omega) (by omega)
   have hw : safeB ⟨V, A, D, L, H⟩ ⟨p, v⟩ = decide (slw v 0 D ≤ H - p) := by
    rw [Bool.eq_iff_iff]
    simp only [safeB, decide_eq_true_eq]
    omega
   have HW := Lib.hid hw
   clear hw
   go_enter Tryz.func44, Tryz.ntmps44
   go_wp2_with fail
   refine wp_region_ext (by kernel_rfl) (by kernel_rfl) ?_
   repeat (go_big_quiet_step (first | (go_at_call 78; exact ext_same (rway9_any _ _ _ (by omega) (by omega)))))
   refine wpQuiet_nil ?_
   intro w1 hb1
   replace hb1 := ext_below hb1
   go_wp2
   go_ret
   rw [HW.out]
   exact ⟨rfl, by exact belowBy⟩
  ·have hb := slw_bound (-v) 0 D (by omega) (by omega) (by omega)
   have hw : safeB ⟨V, A, D, L, H⟩ ⟨p, v⟩ = decide (slw (-v) 0 D ≤ p - L) := by
    rw [Bool.eq_iff_iff]
    simp only [safeB, decide_eq_true_eq]
    omega
   have HW := Lib.hid hw
   clear hw
   go_enter Tryz.func44, Tryz.ntmps44
   go_wp2_with fail
   refine wp_region_ext (by kernel_rfl) (by kernel_rfl) ?_
   repeat (go_big_quiet_step (first | (go_at_call 78; exact ext_same (rway9_any _ _ _ (by omega) (by omega)))))
   refine wpQuiet_nil ?_
   intro w1 hb1
   replace hb1 := ext_below hb1
   go_wp2
   go_ret
   rw [HW.out]
   exact ⟨rfl, by exact belowBy⟩
 ·have hw : safeB ⟨V, A, D, L, H⟩ ⟨p, v⟩ = false := decide_eq_false (by simp only; omega)
  have HW := Lib.hid hw
  have hn : p < L ∨ (L ≤ p ∧ H < p) ∨ (L ≤ p ∧ p ≤ H ∧ 1048576 < v) ∨ (L ≤ p ∧ p ≤ H ∧ v ≤ 1048576 ∧ v < -1048576) := by omega
  clear hw c1
  rcases hn with hn | hn | hn | hn
  all_goals
   go_enter Tryz.func44, Tryz.ntmps44
   go_wp2
   go_ret
   rw [HW.out]
   exact ⟨rfl, by exact belowBy⟩
theorem rsafe9_at (V A D L H p v : Int) (w : World) (hr : rightB ⟨V, A, D, L, H⟩ = true) (hp : -9223372036854775808 ≤ p ∧ p ≤ 9223372036854775807) (b : Bool) (h : safeB ⟨V, A, D, L, H⟩ ⟨p, v⟩ = b) :
  Calls Tryz.prog 44 #[.agg #[.int .i64 V, .int .i64 A, .int .i64 D, .int .i64 L, .int .i64 H], .agg #[.int .i64 p, .int .i64 v]] w fun e w' => e = .returned (.bool b) ∧ Below w.heap.size w w' := by
 subst h
 exact rsafe9_any V A D L H p v w hr hp



end Go.Proofs.YthhfnageadckkaaGreat
