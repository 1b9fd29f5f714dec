/- Merged: Layer 15: 'n, reports := axis.Step(a, in)': the new axis in a variable of its own. Layer 15: an axis, and what comes to it, as they are read out of the arguments. Layer 15: the reports of a cycle, one by one; a cycle with its data given by hand. The plain axis: a move lands: cycle by cycle. No program in sight. -/
import Derived.Test.YtogbhnmkinjpeaaGreatM42
import Derived.Test.YtogbhnmkinjpeaaGreatM18
set_option linter.unusedVariables false
set_option linter.unusedSimpArgs false
namespace Go.Proofs.YtogbhnmkinjpeaaGreat
open Go.RowKit

structure NVar (D : Nat) (n : AX) (rs : List RepS) (L : List Value) (rv : Value) (Q : Nat) (W : World) : Prop where
 blk : W.heap[Q]? = some (.cells L.toArray 35)
 ax : ∃ sv nv wv, AxR W n sv nv wv ∧ AxL n sv nv wv L ∧ NewV D sv ∧ NewV D nv ∧ NewV D wv
 own : W.ownsRow D 48 2 rv rs.length (repC rs)
 q : D ≤ Q
theorem NVar.below {D Q : Nat} {n : AX} {rs : List RepS} {L : List Value} {rv : Value} {W W' : World} (h : NVar D n rs L rv Q W) (hb : Below W.heap.size W W') : NVar D n rs L rv Q W' := by
 obtain ⟨sv, nv, wv, h1, h2, h3⟩ := h.ax
 exact ⟨(hb.block Q (Array.getElem?_eq_some_iff.1 h.blk).1).trans h.blk, ⟨sv, nv, wv, h1.below hb, h2, h3⟩, owns_below h.own hb, h.q⟩
theorem NVar.lt {D Q : Nat} {n : AX} {rs : List RepS} {L : List Value} {rv : Value} {W : World} (h : NVar D n rs L rv Q W) : Q < W.heap.size := (Array.getElem?_eq_some_iff.1 h.blk).1
theorem AxR.row2 {W : World} {a : AX} {sv nv wv : Value} {g : Nat} (h : AxR W a sv nv wv) (hn : ∀ v, v = sv ∨ v = nv ∨ v = wv → ∀ b o n c, 0 < n → v = .slice (some ⟨b, o, none⟩) n c → ¬ b = g) (cs : Array Value) : AxR (W.setRow g cs) a sv nv wv := by
 have hb : Buts (fun b => b = g) W (W.setRow g cs) := (Buts.refl _ _).setRow cs
 obtain ⟨r1, r2⟩ := LineV.parts h.v.ln
 exact ⟨⟨h.v.sm.buts hb (hn _ (.inl rfl)), ⟨_, _, rfl, r1.buts hb (hn _ (.inr (.inl rfl))), r2.buts hb (hn _ (.inr (.inr rfl)))⟩, h.v.cw, h.v.sta, h.v.mas, h.v.pos⟩, h.r⟩
theorem nvar_mk {D Q : Nat} {n : AX} {rs : List RepS} {L : List Value} {rv sv nv wv : Value} {W : World} {zs : Array Value} (hz : W.heap[Q]? = some (.cells zs 35)) (h : AxR W n sv nv wv) (hL : AxL n sv nv wv L) (hv : NewV D sv ∧ NewV D nv ∧ NewV D wv)
  (hn : ∀ v, v = sv ∨ v = nv ∨ v = wv → ∀ b o n c, 0 < n → v = .slice (some ⟨b, o, none⟩) n c → ¬ b = Q) (ho : W.ownsRow D 48 2 rv rs.length (repC rs)) (hr : ∀ b, rv.ownBlock = some b → ¬ b = Q) (hD : D ≤ Q) : NVar D n rs L rv Q (W.setRow Q L.toArray) :=
 ⟨setRow_heap _ _ _ _ _ _ hz, ⟨sv, nv, wv, h.row2 hn _, hL, hv⟩, owns_buts ho ((Buts.refl _ _).setRow _) hr, hD⟩
theorem NewV.mono {D E : Nat} {v : Value} (h : NewV E v) (hD : D ≤ E) : NewV D v := fun b o n c hn e => Nat.le_trans hD (h b o n c hn e)
theorem own_mono {w : World} {D E size n : Nat} {e : TypeId} {v : Value} {xs : List Value} (h : w.ownsRow E e size v n xs) (hD : D ≤ E) : w.ownsRow D e size v n xs := by
 obtain ⟨h1, h2⟩ := h
 refine ⟨h1, ?_⟩
 rcases h2 with h2 | ⟨g, cap, cur, hv, hg, r⟩
 ·exact .inl h2
 ·exact .inr ⟨g, cap, cur, hv, Nat.le_trans hD hg, r⟩
theorem nvar_pa {D : Nat} {n : AX} {rs : List RepS} {L : List Value} {rv : Value} {w6 w7 : World} {zs : Array Value} (h : StepV w6 n rs L rv w7) (hD : D ≤ w6.heap.size) : NVar D n rs L rv w7.heap.size ((w7.alloc (.cells zs 35)).setRow w7.heap.size L.toArray) := by
 obtain ⟨⟨sv, nv, wv, h1, h2, h3, h4, h5⟩, ho, hb⟩ := h
 have hbn := below_new (Below.refl w7.heap.size w7) (Nat.le_refl _) (.cells zs 35)
 obtain ⟨r1, r2⟩ := LineV.parts h1.v.ln
 refine nvar_mk (heap_alloc_new _ _) (h1.below hbn) h2 ⟨h3.mono hD, h4.mono hD, h5.mono hD⟩ (fun v hv b o n c hn e => ?_) (own_mono (owns_below ho hbn) hD) (fun b hb' => ?_) (Nat.le_trans hD hb.size)
 ·rcases hv with rfl | rfl | rfl
  ·have := h1.v.sm.blk b o n c hn e; omega
  ·have := ReadC.blk r1 b o n c hn e; omega
  ·have := ReadC.blk r2 b o n c hn e; omega
 ·have := (ho.lt b hb').2
  omega
theorem nvar_pb {D Q : Nat} {n : AX} {rs : List RepS} {L : List Value} {rv : Value} {w6 w7 : World} {zs : Array Value} (h : StepV w6 n rs L rv w7) (hD : D ≤ Q) (hz : w6.heap[Q]? = some (.cells zs 35)) : NVar D n rs L rv Q (w7.setRow Q L.toArray) := by
 obtain ⟨⟨sv, nv, wv, h1, h2, h3, h4, h5⟩, ho, hb⟩ := h
 have hq := (Array.getElem?_eq_some_iff.1 hz).1
 refine nvar_mk ((hb.block Q hq).trans hz) h1 h2 ⟨h3.mono (by omega), h4.mono (by omega), h5.mono (by omega)⟩ (fun v hv b o n c hn e => ?_) (own_mono ho (by omega)) (fun b hb' => ?_) hD
 ·rcases hv with rfl | rfl | rfl
  ·have := h3 b o n c hn e; omega
  ·have := h4 b o n c hn e; omega
  ·have := h5 b o n c hn e; omega
 ·have := (ho.lt b hb').1
  omega
theorem NVar.move {D Q P : Nat} {n : AX} {rs : List RepS} {L : List Value} {rv : Value} {W : World} {zs : Array Value} (h : NVar D n rs L rv Q W) (hP : P < D) (hz : W.heap[P]? = some (.cells zs 35)) :
  (W.setRow P L.toArray).heap[P]? = some (.cells L.toArray 35) ∧ ∃ sv nv wv, AxR (W.setRow P L.toArray) n sv nv wv ∧ AxL n sv nv wv L := by
 obtain ⟨sv, nv, wv, h1, h2, h3⟩ := h.ax
 exact ⟨setRow_heap _ _ _ _ _ _ hz, sv, nv, wv, h1.row h3 hP _, h2⟩
theorem aright_L (a : AX) (sv nv wv : Value) (L : List Value) (r : Bool) (w : World) (h : AxV w a sv nv wv) (hL : AxL a sv nv wv L) (hr : rightX a = r) :
  Calls Tryz.prog 10 #[.agg L.toArray] w fun e w' => e = .returned (.bool r) ∧ Below w.heap.size w w' := by
 rw [hL.eq]
 exact aright_at a sv nv wv r w h.sm h.ln h.pos hr
theorem range_of {W : World} {B : Nat} {L : List Value} {T : TypeId} (h : W.heap[B]? = some (.cells L.toArray T)) : W.rangeAt B 0 L := fun j u hu => by
 rw [Nat.zero_add]
 exact heap_cell j u h (by rw [List.getElem?_toArray]; exact hu)
end Go.Proofs.YtogbhnmkinjpeaaGreat

namespace Go.Proofs.YtogbhnmkinjpeaaGreat
open Go.ChangeShapes Go.WideShapes Go.ChangeAt Go.RowKit

theorem cells_limits : Tryz.prog.cellsOf 23 = 5 := by kernel_rfl
theorem rd_limits {H : Type} {enc : TypeId × Value → H} {w : World} {cs : List Value} (h : Rd enc Tryz.prog w 23 cs) : ∃ (x0 : Int) (x1 : Int) (x2 : Int) (x3 : Int) (x4 : Int), cs = [.int .i64 x0, .int .i64 x1, .int .i64 x2, .int .i64 x3, .int .i64 x4] ∧ (Lit.int .i64 x0).wf = true ∧ (Lit.int .i64 x1).wf = true ∧ (Lit.int .i64 x2).wf = true ∧ (Lit.int .i64 x3).wf = true ∧ (Lit.int .i64 x4).wf = true := by
 obtain ⟨hl, hf⟩ := rd_struct Tryz.underlying23 h
 rw [cells_limits] at hl
 obtain ⟨c0, c1, c2, c3, c4, rfl⟩ := list_5 cs hl
 have h0 : Rd enc Tryz.prog w 2 [c0] := by simpa [show Tryz.prog.cellsOf 2 = 1 by kernel_rfl] using hf 0 _ rfl
 obtain ⟨x0, e0, w0⟩ := rd_int Tryz.underlying2 h0
 simp only [List.cons.injEq, and_true] at e0
 have h1 : Rd enc Tryz.prog w 2 [c1] := by simpa [show Tryz.prog.cellsOf 2 = 1 by kernel_rfl] using hf 1 _ rfl
 obtain ⟨x1, e1, w1⟩ := rd_int Tryz.underlying2 h1
 simp only [List.cons.injEq, and_true] at e1
 have h2 : Rd enc Tryz.prog w 2 [c2] := by simpa [show Tryz.prog.cellsOf 2 = 1 by kernel_rfl] using hf 2 _ rfl
 obtain ⟨x2, e2, w2⟩ := rd_int Tryz.underlying2 h2
 simp only [List.cons.injEq, and_true] at e2
 have h3 : Rd enc Tryz.prog w 2 [c3] := by simpa [show Tryz.prog.cellsOf 2 = 1 by kernel_rfl] using hf 3 _ rfl
 obtain ⟨x3, e3, w3⟩ := rd_int Tryz.underlying2 h3
 simp only [List.cons.injEq, and_true] at e3
 have h4 : Rd enc Tryz.prog w 2 [c4] := by simpa [show Tryz.prog.cellsOf 2 = 1 by kernel_rfl] using hf 4 _ rfl
 obtain ⟨x4, e4, w4⟩ := rd_int Tryz.underlying2 h4
 simp only [List.cons.injEq, and_true] at e4
 subst e0 e1 e2 e3 e4
 exact ⟨x0, x1, x2, x3, x4, rfl, w0, w1, w2, w3, w4⟩
theorem cells_gen : Tryz.prog.cellsOf 25 = 2 := by kernel_rfl
theorem rd_gen {H : Type} {enc : TypeId × Value → H} {w : World} {cs : List Value} (h : Rd enc Tryz.prog w 25 cs) : ∃ (x0 : Int) (x1 : Int), cs = [.int .i64 x0, .int .i64 x1] ∧ (Lit.int .i64 x0).wf = true ∧ (Lit.int .i64 x1).wf = true := by
 obtain ⟨hl, hf⟩ := rd_struct Tryz.underlying25 h
 rw [cells_gen] at hl
 obtain ⟨c0, c1, rfl⟩ := list_2 cs hl
 have h0 : Rd enc Tryz.prog w 2 [c0] := by simpa [show Tryz.prog.cellsOf 2 = 1 by kernel_rfl] using hf 0 _ rfl
 obtain ⟨x0, e0, w0⟩ := rd_int Tryz.underlying2 h0
 simp only [List.cons.injEq, and_true] at e0
 have h1 : Rd enc Tryz.prog w 2 [c1] := by simpa [show Tryz.prog.cellsOf 2 = 1 by kernel_rfl] using hf 1 _ rfl
 obtain ⟨x1, e1, w1⟩ := rd_int Tryz.underlying2 h1
 simp only [List.cons.injEq, and_true] at e1
 subst e0 e1
 exact ⟨x0, x1, rfl, w0, w1⟩
theorem cells_home : Tryz.prog.cellsOf 33 = 4 := by kernel_rfl
theorem rd_home {H : Type} {enc : TypeId × Value → H} {w : World} {cs : List Value} (h : Rd enc Tryz.prog w 33 cs) : ∃ (x0 : Int) (x1 : Int) (x2 : Int) (x3 : Bool), cs = [.int .i64 x0, .int .i64 x1, .int .i64 x2, .bool x3] ∧ (Lit.int .i64 x0).wf = true ∧ (Lit.int .i64 x1).wf = true ∧ (Lit.int .i64 x2).wf = true := by
 obtain ⟨hl, hf⟩ := rd_struct Tryz.underlying33 h
 rw [cells_home] at hl
 obtain ⟨c0, c1, c2, c3, rfl⟩ := list_4 cs hl
 have h0 : Rd enc Tryz.prog w 3 [c0] := by simpa [show Tryz.prog.cellsOf 3 = 1 by kernel_rfl] using hf 0 _ rfl
 obtain ⟨x0, e0, w0⟩ := rd_int Tryz.underlying3 h0
 simp only [List.cons.injEq, and_true] at e0
 have h1 : Rd enc Tryz.prog w 2 [c1] := by simpa [show Tryz.prog.cellsOf 2 = 1 by kernel_rfl] using hf 1 _ rfl
 obtain ⟨x1, e1, w1⟩ := rd_int Tryz.underlying2 h1
 simp only [List.cons.injEq, and_true] at e1
 have h2 : Rd enc Tryz.prog w 2 [c2] := by simpa [show Tryz.prog.cellsOf 2 = 1 by kernel_rfl] using hf 2 _ rfl
 obtain ⟨x2, e2, w2⟩ := rd_int Tryz.underlying2 h2
 simp only [List.cons.injEq, and_true] at e2
 have h3 : Rd enc Tryz.prog w 4 [c3] := by simpa [show Tryz.prog.cellsOf 4 = 1 by kernel_rfl] using hf 3 _ rfl
 obtain ⟨x3, e3⟩ := rd_bool Tryz.underlying4 h3
 simp only [List.cons.injEq, and_true] at e3
 subst e0 e1 e2 e3
 exact ⟨x0, x1, x2, x3, rfl, w0, w1, w2⟩
theorem cells_command : Tryz.prog.cellsOf 56 = 7 := by kernel_rfl
theorem rd_command {H : Type} {enc : TypeId × Value → H} {w : World} {cs : List Value} (h : Rd enc Tryz.prog w 56 cs) : ∃ (x0 : Int) (x1 : Int) (x2 : Int) (x3 : Int) (x4 : Int) (x5 : Int) (x6 : Int), cs = [.int .i64 x0, .int .i64 x1, .int .i64 x2, .int .i64 x3, .int .i64 x4, .int .i64 x5, .int .i64 x6] ∧ (Lit.int .i64 x0).wf = true ∧ (Lit.int .i64 x1).wf = true ∧ (Lit.int .i64 x2).wf = true ∧ (Lit.int .i64 x3).wf = true ∧ (Lit.int .i64 x4).wf = true ∧ (Lit.int .i64 x5).wf = true ∧ (Lit.int .i64 x6).wf = true := by
 obtain ⟨hl, hf⟩ := rd_struct Tryz.underlying56 h
 rw [cells_command] at hl
 obtain ⟨c0, c1, c2, c3, c4, c5, c6, rfl⟩ := list_7 cs hl
 have h0 : Rd enc Tryz.prog w 3 [c0] := by simpa [show Tryz.prog.cellsOf 3 = 1 by kernel_rfl] using hf 0 _ rfl
 obtain ⟨x0, e0, w0⟩ := rd_int Tryz.underlying3 h0
 simp only [List.cons.injEq, and_true] at e0
 have h1 : Rd enc Tryz.prog w 3 [c1] := by simpa [show Tryz.prog.cellsOf 3 = 1 by kernel_rfl] using hf 1 _ rfl
 obtain ⟨x1, e1, w1⟩ := rd_int Tryz.underlying3 h1
 simp only [List.cons.injEq, and_true] at e1
 have h2 : Rd enc Tryz.prog w 2 [c2] := by simpa [show Tryz.prog.cellsOf 2 = 1 by kernel_rfl] using hf 2 _ rfl
 obtain ⟨x2, e2, w2⟩ := rd_int Tryz.underlying2 h2
 simp only [List.cons.injEq, and_true] at e2
 have h3 : Rd enc Tryz.prog w 2 [c3] := by simpa [show Tryz.prog.cellsOf 2 = 1 by kernel_rfl] using hf 3 _ rfl
 obtain ⟨x3, e3, w3⟩ := rd_int Tryz.underlying2 h3
 simp only [List.cons.injEq, and_true] at e3
 have h4 : Rd enc Tryz.prog w 3 [c4] := by simpa [show Tryz.prog.cellsOf 3 = 1 by kernel_rfl] using hf 4 _ rfl
 obtain ⟨x4, e4, w4⟩ := rd_int Tryz.underlying3 h4
 simp only [List.cons.injEq, and_true] at e4
 have h5 : Rd enc Tryz.prog w 2 [c5] := by simpa [show Tryz.prog.cellsOf 2 = 1 by kernel_rfl] using hf 5 _ rfl
 obtain ⟨x5, e5, w5⟩ := rd_int Tryz.underlying2 h5
 simp only [List.cons.injEq, and_true] at e5
 have h6 : Rd enc Tryz.prog w 2 [c6] := by simpa [show Tryz.prog.cellsOf 2 = 1 by kernel_rfl] using hf 6 _ rfl
 obtain ⟨x6, e6, w6⟩ := rd_int Tryz.underlying2 h6
 simp only [List.cons.injEq, and_true] at e6
 subst e0 e1 e2 e3 e4 e5 e6
 exact ⟨x0, x1, x2, x3, x4, x5, x6, rfl, w0, w1, w2, w3, w4, w5, w6⟩

theorem i64_wf {x : Int} (h : (Lit.int .i64 x).wf = true) : I64 x := by
 have := bounds_i64 h
 unfold I64
 omega
theorem command_w {H : Type} {enc : TypeId × Value → H} {w : World} {cs : List Value} (h : Rd enc Tryz.prog w 56 cs) : ∃ x : CmdS, cs = x.cells ∧ CmdW x := by
 obtain ⟨x0, x1, x2, x3, x4, x5, x6, rfl, h0, h1, h2, h3, h4, h5, h6⟩ := rd_command h
 exact ⟨⟨x0, x1, x2, x3, x4, x5, x6⟩, rfl, ⟨i64_wf h0, i64_wf h1, i64_wf h2, i64_wf h3, i64_wf h4, i64_wf h5, i64_wf h6⟩⟩
theorem cmds_of {w : World} {v : Value} {xs : List CmdS} (h : SliceAt 7 CmdS.cells CmdW w v xs) : ReadC w xs.length (cmdsC xs) 0 v ∧ ∀ x ∈ xs, CmdW x := by
 obtain ⟨a, cap, rfl, hl, hc, hg, hm⟩ := h
 refine ⟨⟨a, cap, rfl, hl, hc, ⟨cmdsC_len xs, fun hn => ?_⟩, fun _ _ _ _ => Nat.zero_le _⟩, hg⟩
 obtain ⟨b, off, e, hb, hx⟩ := hm (List.ne_nil_of_length_pos hn)
 refine ⟨b, off, e, hb, fun j u hu => ?_⟩
 have hj : j < xs.length * 7 := by
  have := (List.getElem?_eq_some_iff.1 hu).1
  rwa [cmdsC_len] at this
 have hk : j / 7 < xs.length := by omega
 have hd : j = j / 7 * 7 + j % 7 := by omega
 have h1 := hx (j / 7) _ (List.getElem?_eq_getElem hk) (j % 7) (Nat.mod_lt _ (by decide))
 have h2 := cmdsC_get xs (j / 7) (j % 7) _ (List.getElem?_eq_getElem hk) (Nat.mod_lt _ (by decide))
 rw [← hd] at h2
 rw [hu] at h2
 rw [Nat.add_assoc, ← hd] at h1
 rw [h1, ← h2]
theorem rd_cmds {H : Type} {enc : TypeId × Value → H} {w : World} {v : Value} (h : Rd enc Tryz.prog w 29 [v]) : ∃ xs, ReadC w xs.length (cmdsC xs) 0 v ∧ ∀ x ∈ xs, CmdW x := by
 obtain ⟨xs, hx⟩ := rd_slice_at CmdS.cells CmdW Tryz.underlying29 cells_command (by decide) (fun cs h => command_w h) h
 exact ⟨xs, cmds_of hx⟩
theorem rd_nums {H : Type} {enc : TypeId × Value → H} {w : World} {v : Value} (h : Rd enc Tryz.prog w 26 [v]) : ∃ zs, SmV w zs v := by
 obtain ⟨zs, a, cap, hv, h1, h2, -, hm⟩ := rd_slice_at (fun z : Int => [.int .i64 z]) (fun _ => True) Tryz.underlying26 (show Tryz.prog.cellsOf 2 = 1 by kernel_rfl) (by decide) (fun cs hcs => by
  obtain ⟨z, hz, -⟩ := rd_int Tryz.underlying2 hcs
  exact ⟨z, hz, trivial⟩) h
 refine ⟨zs, a, cap, hv, h1, h2, by simp [intsC], fun hn => ?_⟩
 obtain ⟨b, off, ha, hb, hx⟩ := hm (List.ne_nil_of_length_pos hn)
 refine ⟨b, off, ha, hb, fun j u hu => ?_⟩
 simp only [intsC, List.getElem?_map, Option.map_eq_some_iff] at hu
 obtain ⟨z, hz, rfl⟩ := hu
 have := hx j z hz 0 (by decide)
 simpa using this
theorem list_26 {α : Type} (l : List α) (h : l.length = 26) : ∃ a0 a1 a2 a3 a4 a5 a6 a7 a8 a9 a10 a11 a12 a13 a14 a15 a16 a17 a18 a19 a20 a21 a22 a23 a24 a25, l = [a0, a1, a2, a3, a4, a5, a6, a7, a8, a9, a10, a11, a12, a13, a14, a15, a16, a17, a18, a19, a20, a21, a22, a23, a24, a25] := by
 match l, h with | [a0, a1, a2, a3, a4, a5, a6, a7, a8, a9, a10, a11, a12, a13, a14, a15, a16, a17, a18, a19, a20, a21, a22, a23, a24, a25], _ => exact ⟨a0, a1, a2, a3, a4, a5, a6, a7, a8, a9, a10, a11, a12, a13, a14, a15, a16, a17, a18, a19, a20, a21, a22, a23, a24, a25, rfl⟩
theorem one_i {H : Type} {enc : TypeId × Value → H} {w : World} {t : TypeId} {v : Value} (hc : Tryz.prog.underlying t = some (.int .i64)) (h : Rd enc Tryz.prog w t [v]) : ∃ x, v = .int .i64 x ∧ I64 x := by
 obtain ⟨x, hx, hw⟩ := rd_int hc h
 simp only [List.cons.injEq, and_true] at hx
 exact ⟨x, hx, i64_wf hw⟩
theorem one_b {H : Type} {enc : TypeId × Value → H} {w : World} {v : Value} (h : Rd enc Tryz.prog w 4 [v]) : ∃ x, v = .bool x := by
 obtain ⟨x, hx⟩ := rd_bool Tryz.underlying4 h
 simp only [List.cons.injEq, and_true] at hx
 exact ⟨x, hx⟩
theorem cells_axis : Tryz.prog.cellsOf 35 = 26 := by kernel_rfl
theorem c1_int : Tryz.prog.cellsOf 3 = 1 := by kernel_rfl
theorem c1_i64 : Tryz.prog.cellsOf 2 = 1 := by kernel_rfl
theorem c1_bool : Tryz.prog.cellsOf 4 = 1 := by kernel_rfl
theorem c1_cmds : Tryz.prog.cellsOf 29 = 1 := by kernel_rfl
theorem c1_nums : Tryz.prog.cellsOf 26 = 1 := by kernel_rfl
theorem c2_line : Tryz.prog.cellsOf 31 = 2 := by kernel_rfl

theorem rd_line2 {H : Type} {enc : TypeId × Value → H} {w : World} {s r : Value} (h : Rd enc Tryz.prog w 31 [s, r]) :
  ∃ ns ws, (ReadC w ns.length (cmdsC ns) 0 s ∧ ∀ x ∈ ns, CmdW x) ∧ (ReadC w ws.length (cmdsC ws) 0 r ∧ ∀ x ∈ ws, CmdW x) := by
 obtain ⟨-, hf⟩ := rd_struct Tryz.underlying31 h
 have h0 : Rd enc Tryz.prog w 29 [s] := by simpa [c1_cmds] using hf 0 _ rfl
 have h1 : Rd enc Tryz.prog w 29 [r] := by simpa [c1_cmds] using hf 1 _ rfl
 obtain ⟨ns, hn⟩ := rd_cmds h0
 obtain ⟨ws, hw⟩ := rd_cmds h1
 exact ⟨ns, ws, hn, hw⟩
theorem rd_sm1 {H : Type} {enc : TypeId × Value → H} {w : World} {s : Value} (h : Rd enc Tryz.prog w 28 [s]) : ∃ zs, SmV w zs s := by
 obtain ⟨-, hf⟩ := rd_struct Tryz.underlying28 h
 have h0 : Rd enc Tryz.prog w 26 [s] := by simpa [c1_nums] using hf 0 _ rfl
 exact rd_nums h0

theorem rd_axis {H : Type} {enc : TypeId × Value → H} {w : World} {cs : List Value} (h : Rd enc Tryz.prog w 35 cs) : ∃ a sv nv wv, cs = axC a sv nv wv ∧ AxV w a sv nv wv := by
 obtain ⟨hl, hf⟩ := rd_struct Tryz.underlying35 h
 rw [cells_axis] at hl
 obtain ⟨c0, c1, c2, c3, c4, c5, c6, c7, c8, c9, c10, c11, c12, c13, c14, c15, c16, c17, c18, c19, c20, c21, c22, c23, c24, c25, rfl⟩ := list_26 cs hl
 have f0 : Rd enc Tryz.prog w 3 [c0] := by simpa [c1_int] using hf 0 _ rfl
 have f1 : Rd enc Tryz.prog w 23 [c1, c2, c3, c4, c5] := by simpa [cells_limits] using hf 1 _ rfl
 have f2 : Rd enc Tryz.prog w 3 [c6] := by simpa [c1_int] using hf 2 _ rfl
 have f3 : Rd enc Tryz.prog w 2 [c7] := by simpa [c1_i64] using hf 3 _ rfl
 have f4 : Rd enc Tryz.prog w 2 [c8] := by simpa [c1_i64] using hf 4 _ rfl
 have f5 : Rd enc Tryz.prog w 2 [c9] := by simpa [c1_i64] using hf 5 _ rfl
 have f6 : Rd enc Tryz.prog w 25 [c10, c11] := by simpa [cells_gen] using hf 6 _ rfl
 have f7 : Rd enc Tryz.prog w 28 [c12] := by simpa [cells_smooth] using hf 7 _ rfl
 have f8 : Rd enc Tryz.prog w 2 [c13] := by simpa [c1_i64] using hf 8 _ rfl
 have f9 : Rd enc Tryz.prog w 31 [c14, c15] := by simpa [c2_line] using hf 9 _ rfl
 have f10 : Rd enc Tryz.prog w 4 [c16] := by simpa [c1_bool] using hf 10 _ rfl
 have f11 : Rd enc Tryz.prog w 33 [c17, c18, c19, c20] := by simpa [cells_home] using hf 11 _ rfl
 have f12 : Rd enc Tryz.prog w 3 [c21] := by simpa [c1_int] using hf 12 _ rfl
 have f13 : Rd enc Tryz.prog w 2 [c22] := by simpa [c1_i64] using hf 13 _ rfl
 have f14 : Rd enc Tryz.prog w 2 [c23] := by simpa [c1_i64] using hf 14 _ rfl
 have f15 : Rd enc Tryz.prog w 3 [c24] := by simpa [c1_int] using hf 15 _ rfl
 have f16 : Rd enc Tryz.prog w 4 [c25] := by simpa [c1_bool] using hf 16 _ rfl
 obtain ⟨st, rfl, -⟩ := one_i Tryz.underlying3 f0
 obtain ⟨l0, l1, l2, l3, l4, el, -⟩ := rd_limits f1
 obtain ⟨win, rfl, -⟩ := one_i Tryz.underlying3 f2
 obtain ⟨hat, rfl, -⟩ := one_i Tryz.underlying2 f3
 obtain ⟨fast, rfl, -⟩ := one_i Tryz.underlying2 f4
 obtain ⟨creep, rfl, -⟩ := one_i Tryz.underlying2 f5
 obtain ⟨g0, g1, eg, wg, -⟩ := rd_gen f6
 obtain ⟨zs, hz⟩ := rd_sm1 f7
 obtain ⟨off, rfl, -⟩ := one_i Tryz.underlying2 f8
 obtain ⟨ns, ws, ⟨n1, n2⟩, ⟨w1, w2⟩⟩ := rd_line2 f9
 obtain ⟨hd, rfl⟩ := one_b f10
 obtain ⟨h0, h1, h2, h3, eh, -⟩ := rd_home f11
 obtain ⟨ov, rfl, -⟩ := one_i Tryz.underlying3 f12
 obtain ⟨sta, rfl, hsta⟩ := one_i Tryz.underlying2 f13
 obtain ⟨mas, rfl, hmas⟩ := one_i Tryz.underlying2 f14
 obtain ⟨cau, rfl, -⟩ := one_i Tryz.underlying3 f15
 obtain ⟨ins, rfl⟩ := one_b f16
 simp only [List.cons.injEq, and_true] at el eg eh
 obtain ⟨rfl, rfl, rfl, rfl, rfl⟩ := el
 obtain ⟨rfl, rfl⟩ := eg
 obtain ⟨rfl, rfl, rfl, rfl⟩ := eh
 exact ⟨⟨st, ⟨l0, l1, l2, l3, l4⟩, win, hat, fast, creep, ⟨g0, g1⟩, zs, off, ns, ws, hd, ⟨h0, h1, h2, h3⟩, ov, sta, mas, cau, ins⟩, c12, c14, c15, rfl, ⟨hz, ⟨_, _, rfl, n1, w1⟩, fun c hc => (List.mem_append.1 hc).elim (n2 c) (w2 c), hsta, hmas, i64_wf wg⟩⟩

end Go.Proofs.YtogbhnmkinjpeaaGreat

namespace Go.Proofs.YtogbhnmkinjpeaaGreat
open Go.RowKit

theorem repC_get : ∀ (rs : List RepS) (k : Nat) (r : RepS), rs[k]? = some r → (repC rs)[k * 2]? = some (.int .i64 r.id) ∧ (repC rs)[k * 2 + 1]? = some (.int .i64 r.what)
 | [], k, r, h => by simp at h
 | x :: l, 0, r, h => by
  simp only [List.getElem?_cons_zero, Option.some.injEq] at h
  subst h
  exact ⟨rfl, rfl⟩
 | x :: l, k + 1, r, h => by
  rw [List.getElem?_cons_succ] at h
  have := repC_get l k r h
  have e : repC (x :: l) = .int .i64 x.id :: .int .i64 x.what :: repC l := rfl
  rw [e, show (k + 1) * 2 = k * 2 + 1 + 1 by omega, show k * 2 + 1 + 1 + 1 = (k * 2 + 1) + 1 + 1 by omega]
  simp only [List.getElem?_cons_succ]
  exact this
theorem reps_at {w : World} {D : Nat} {rv : Value} {rs : List RepS} (h : w.ownsRow D 48 2 rv rs.length (repC rs)) :
  ∃ R c, rv = .slice R rs.length c ∧ rs.length ≤ c ∧ c ≤ 9223372036854775807 ∧ ∀ k r, rs[k]? = some r → ∃ g, R = some ⟨g, 0, none⟩ ∧ g < w.heap.size ∧ w.cell? ⟨g, k * 2, none⟩ = some (.int .i64 r.id) ∧ w.cell? ⟨g, k * 2 + 1, none⟩ = some (.int .i64 r.what) := by
 have hh := h
 obtain ⟨h1, h2⟩ := hh
 rcases h2 with ⟨rfl, h0⟩ | ⟨g, cap, cur, rfl, hg, hh, hc1, hc2, r⟩
 ·refine ⟨none, 0, by rw [h0], by omega, by omega, fun k r hk => ?_⟩
  have := (List.getElem?_eq_some_iff.1 hk).1
  omega
 ·refine ⟨_, cap, rfl, hc1, by unfold maxLen at hc2; omega, fun k r' hk => ⟨g, rfl, (Array.getElem?_eq_some_iff.1 hh).1, ?_⟩⟩
  have hl := Lies.own h
  obtain ⟨b, off, e, hb, hcell⟩ := hl.2 (by have := (List.getElem?_eq_some_iff.1 hk).1; omega)
  injection e with e
  injection e with e1 e2
  subst e1 e2
  obtain ⟨q1, q2⟩ := repC_get rs k r' hk
  have a1 := hcell _ _ q1
  have a2 := hcell _ _ q2
  rw [Nat.zero_add] at a1 a2
  exact ⟨a1, a2⟩
def inZ : INS := ⟨false, false, 0, 0, false, false, false, false, false, 0, 0, 0⟩
end Go.Proofs.YtogbhnmkinjpeaaGreat

namespace Go.Proofs.YtogbhnmkinjpeaaGreat

structure LandI (a : AX) (id t : Int) (k : CmdS) (i : Nat) (n : AX) (rs : List RepS) : Prop where
 done : ∀ r ∈ rs, r.id = id → r.what = 2 → Stands a t n
 more : (∀ r ∈ rs, ¬ (r.id = id ∧ r.what = 2)) → Goes a k n ∧ Left a t n (1020 - (i : Int))
theorem land_first {a n : AX} {id t : Int} {k : CmdS} {rs : List RepS} (h : (rs = [⟨id, 1⟩] ∧ Goes a k n ∧ Left a t n 1020) ∨ (rs = [⟨id, 1⟩, ⟨id, 2⟩] ∧ Stands a t n)) : LandI a id t k 0 n rs ∧ rs[0]? = some ⟨id, 1⟩ := by
 rcases h with ⟨rfl, h1, h2⟩ | ⟨rfl, h1⟩
 ·refine ⟨⟨fun r hr h3 h4 => ?_, fun _ => ⟨h1, h2⟩⟩, rfl⟩
  obtain rfl := List.mem_singleton.1 hr
  have h5 : (1 : Int) = 2 := h4
  omega
 ·exact ⟨⟨fun _ _ _ _ => h1, fun hx => absurd ⟨rfl, rfl⟩ (hx ⟨id, 2⟩ (by simp))⟩, rfl⟩
theorem land_next {a n : AX} {id t : Int} {k : CmdS} {i : Nat} {rs : List RepS} (h : LandI a id t k i n rs) (hno : ∀ r ∈ rs, ¬ (r.id = id ∧ r.what = 2)) (j : INS) (hid : k.id = id) (htg : k.target = t) (hi : InW j) (hk : k.kind = 1) (hs : 1 ≤ k.speed ∧ k.speed ≤ 1048576) (ht : (bndX a).lo ≤ t ∧ t ≤ (bndX a).hi)
  (hp : j.pw = true) (ho : j.op = true) (hc : j.cau = 0) (hpl : j.plus = false) (hmi : j.minus = false) (hov : j.ov = 100) :
  i ≤ 1020 ∧ LandI a id t k (i + 1) (cycX n j []).a (cycX n j []).rs := by
 obtain ⟨h1, h2⟩ := h.more hno
 subst htg
 obtain ⟨m0, hh⟩ := goes_cyc j (1020 - (i : Int)) h1 hi hk hs ht h2 hp ho hc hpl hmi hov
 refine ⟨by omega, ?_⟩
 rcases hh with ⟨q1, q2, q3⟩ | ⟨q1, q2⟩
 ·rw [q1]
  exact ⟨fun r hr => by simp at hr, fun _ => ⟨q2, by rw [show (1020 : Int) - ((i + 1 : Nat) : Int) = 1020 - (i : Int) - 1 by omega]; exact q3⟩⟩
 ·rw [q1]
  exact ⟨fun _ _ _ _ => q2, fun hx => absurd ⟨hid, rfl⟩ (hx ⟨k.id, 2⟩ (by simp))⟩

end Go.Proofs.YtogbhnmkinjpeaaGreat
