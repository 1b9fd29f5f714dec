/- Merged: The size of a row of statements is told, whatever they are. PRINTED by wip/tool/mksize.py A variable's cells. Layer 20: a fault is told by a panic and caught at the face. Is a program short? -/
import Derived.Test.YtahjijdadifkaaaDoorM04
import Derived.Deep.WholeRow
import Derived.Deep.MidRow
import Derived.Test.YtahjijdadifkaaaDoorM02
import Derived.Recover
set_option linter.unusedVariables false
set_option linter.unusedSimpArgs false
set_option maxHeartbeats 4000000
namespace Go.Proofs.YtahjijdadifkaaaDoor
open Go.RowKit
attribute [local go_sem] ite_max ite_min vite_max vite_min ext_cell ext_frozen

theorem stmC_one (s : Stm) (m : SM) : (StmC s m).toArray.all (·.oneCell') = true := by
 simp [StmC, Value.oneCell']
theorem wpList_store_new {P : Program} {ops : Array Oper} {rest : List Oper} {op : Oper} {a : Act} {w : World} {Q : Exit → Act → World → Prop} (hgd : op.guard = none) (ty : TypeId) (x y : Operand) (ho : op.op = .store ty x y)
  (w0 : World) (c c' : Array Value) (hw : w = w0.alloc (.cells c ty)) (hx : a.eval x = .pointer (some ⟨w0.heap.size, 0, none⟩)) (hy : a.eval y = .agg c')
  (hi : (P.info? ty).map (·.size) = some c'.size) (hs : c.size = c'.size) (h1 : c'.all (·.oneCell') = true)
  (h : wpList P ops Q rest (a.put op.dst undef) (w0.alloc (.cells c' ty))) : wpList P ops Q (op :: rest) a w :=
 wpList_plain hgd fun _ hK => by
  subst hw
  unfold Oper.wp execOp
  simp only [ho, hx, hy, Instr.storeAt, Instr.sureAddr, Sem.run_bind, Sem.run_pure, Result.andThen_ok, run_storeVar_new w0 ty c c' hi hs h1]
  exact hK _ _ h
theorem stmt_size : (Tryd.prog.info? 63).map (·.size) = some 19 := by kernel_rfl
theorem rowE_two {w : World} {H : Nat} {T : TypeId} {x y : Ex} {Ax Ay : Option Addr} {kx ky : Nat} (hh : w.heap[H]? = some (.cells (ExC x Ax kx ++ ExC y Ay ky).toArray T)) (hx : ExAt w x (ExC x Ax kx)) (hy : ExAt w y (ExC y Ay ky)) : RowE w (some ⟨H, 0, none⟩) [x, y] 2 := by
 refine ⟨Nat.le_refl _, by omega, by show 2 * 80 ≤ 140737488355328; omega, fun i => match i with | 0 => ExC x Ax kx | _ => ExC y Ay ky, fun _ => ⟨H, 0, rfl, (Array.getElem?_eq_some_iff.1 hh).1, fun i hi j hj => ?_⟩, fun i z hz => ?_⟩
 ·have hl1 : (ExC x Ax kx).length = 6 := rfl
  have hl2 : (ExC y Ay ky).length = 6 := rfl
  rw [Nat.zero_add]
  rcases i with _ | _ | i
  ·rw [Nat.zero_mul, Nat.zero_add]
   exact (heap_cell j ((ExC x Ax kx)[j]'(by omega)) hh (by rw [List.getElem?_toArray, List.getElem?_append_left (by omega), List.getElem?_eq_getElem (by omega)])).trans (List.getElem?_eq_getElem (by omega)).symm
  ·rw [show (0 + 1) * 6 + j = 6 + j by omega]
   exact (heap_cell (6 + j) ((ExC y Ay ky)[j]'(by omega)) hh (by rw [List.getElem?_toArray, List.getElem?_append_right (by omega), show 6 + j - (ExC x Ax kx).length = j by omega, List.getElem?_eq_getElem (by omega)])).trans (List.getElem?_eq_getElem (by omega)).symm
  ·exact absurd (show i + 1 + 1 < 2 from hi) (by omega)
 ·rcases i with _ | _ | i
  ·simp at hz
   subst hz
   exact hx
  ·simp at hz
   subst hz
   exact hy
  ·simp at hz

set_option maxRecDepth 100000 in
theorem sizeStmts_any : ∀ (k : Nat) (xs : List Stm), SizeOf.sizeOf xs < k → ∀ (w : World) (A : Option Addr) (cap : Nat) (mm : Int), RowT w A xs cap → Calls Tryd.prog 29 #[.slice A xs.length cap, .int .i64 mm] w fun e w' => TwoI e ∧ Below w.heap.size w w' := by
 intro k
 induction k with
 | zero => intro xs h; omega
 | succ k ih =>
  intro xs hsz w A cap mm hrow
  have HIH := Lib.hid ih
  have HR := Lib.hid hrow
  have hl := hrow.1
  have hc := hrow.2.1
  obtain ⟨n, hn⟩ : ∃ n, xs.length = n := ⟨_, rfl⟩
  rw [hn] at hl ⊢
  have HN := Lib.hid hn
  clear ih hrow hn
  go_enter Tryd.func29, Tryd.ntmps29
  go_wp2_with fail
  go_loopw [6, 7, 8] (fun va vb vi wr => ∃ (i : Nat) (a b : Int), i ≤ n ∧ va = .int .i64 a ∧ vb = .int .i64 b ∧ vi = .int .i64 i ∧ Below w.heap.size w wr) (fun _ _ vi _ => n - (intOf vi).toNat)
  case atStart => exact ⟨0, 0, 0, by omega, rfl, rfl, rfl, Below.refl _ _⟩
  case round =>
   obtain ⟨i, a, b, hi, rfl, rfl, rfl, hbr⟩ := hrel
   by_cases hlt : i < n
   ·by_cases hle : a ≤ mm
    ·obtain ⟨bb, off, s, m, rfl, hbl, hx, hsv⟩ := RowT.at (HR.out.below hbr) (i := i) (by rw [HN.out]; exact hlt)
     have HS := Lib.hid hsv
     have HX := Lib.hid hx
     have hi0 : (0 : Int) ≤ (i : Int) ∧ (i : Int) < (n : Int) := by omega
     clear hsv hx
     go_upto_region 7 with (first
      | refine wpList_load_mid rfl 63 _ rfl bb (off + i * 19) rfl (StmC s m) _ HS.out.cell Tryd.underlying63 rfl stmt_size ?_
      | refine wpList_store_new rfl 63 _ _ rfl wr _ (StmC s m).toArray rfl rfl rfl stmt_size rfl (stmC_one s m) ?_)
     refine wp_name fun W hW => ?_
     obtain ⟨H, hH⟩ : ∃ H, H = wr.heap.size := ⟨_, rfl⟩
     rw [← hH]
     have hB : Below wr.heap.size wr W := by rw [hW.out]; exact belowBy
     have hh : W.heap[H]? = some (.cells (StmC s m).toArray 63) := by rw [hW.out, hH]; exact heap_alloc_new _ _
     have HV := Lib.hid (HS.out.copy hB hh)
     have HB := Lib.hid (hbr.trans (hB.mono hbr.size))
     have hHl : H < W.heap.size := HV.out.lt
     have hWs := HB.out.size
     clear hW hB hh hH hbr HS
     have d2 : W.cell? ⟨H, 2, none⟩ = some (.int .i64 s.dst.op) := HV.out.at0 2 _ rfl
     have d3 : W.cell? ⟨H, 3, none⟩ = some (.int .i64 s.dst.n) := HV.out.at0 3 _ rfl
     have d4 : W.cell? ⟨H, 4, none⟩ = some (.string s.dst.name) := HV.out.at0 4 _ rfl
     have d5 : W.cell? ⟨H, 5, none⟩ = some (.string s.dst.field) := HV.out.at0 5 _ rfl
     have d6 : W.cell? ⟨H, 6, none⟩ = some (.slice m.ta s.dst.sub.length m.tk) := HV.out.at0 6 _ rfl
     have d7 : W.cell? ⟨H, 7, none⟩ = some (.int .i64 s.dst.line) := HV.out.at0 7 _ rfl
     have d8 : W.cell? ⟨H, 8, none⟩ = some (.int .i64 s.src.op) := HV.out.at0 8 _ rfl
     have d9 : W.cell? ⟨H, 9, none⟩ = some (.int .i64 s.src.n) := HV.out.at0 9 _ rfl
     have d10 : W.cell? ⟨H, 10, none⟩ = some (.string s.src.name) := HV.out.at0 10 _ rfl
     have d11 : W.cell? ⟨H, 11, none⟩ = some (.string s.src.field) := HV.out.at0 11 _ rfl
     have d12 : W.cell? ⟨H, 12, none⟩ = some (.slice m.va s.src.sub.length m.vk) := HV.out.at0 12 _ rfl
     have d13 : W.cell? ⟨H, 13, none⟩ = some (.int .i64 s.src.line) := HV.out.at0 13 _ rfl
     have d14 : W.cell? ⟨H, 14, none⟩ = some (.slice m.ca s.conds.length m.ck) := HV.out.at0 14 _ rfl
     go_upto_region 8 with (fail)
     refine wp_name fun W8 hW8 => ?_
     have hB8 : Below W.heap.size W W8 := by rw [hW8.out]; exact belowBy
     have hh1 : W8.heap[W.heap.size]? = some (.cells (ExC s.dst m.ta m.tk ++ ExC s.src m.va m.vk).toArray 28) := by
      rw [hW8.out]
      have := ((Below.refl _ _).alloc (w := W.alloc (.cells (ExC s.dst m.ta m.tk ++ ExC s.src m.va m.vk).toArray 28)) (Nat.le_refl _) (.cells #[.slice (some ⟨W.heap.size, 0, none⟩) 2 2, .slice m.ca s.conds.length m.ck] 26)).block W.heap.size (by simp)
      exact this.trans (heap_alloc_new _ _)
     have hq0 : W8.cell? ⟨W.heap.size + 1, 0, none⟩ = some (.slice (some ⟨W.heap.size, 0, none⟩) 2 2) := by rw [hW8.out]; go_simp
     have hq1 : W8.cell? ⟨W.heap.size + 1, 1, none⟩ = some (.slice m.ca s.conds.length m.ck) := by rw [hW8.out]; go_simp
     have HV8 := Lib.hid (HV.out.below hB8)
     have HB8 := Lib.hid (HB.out.trans (hB8.mono HB.out.size))
     have hz8 : W.heap.size + 1 < W8.heap.size := by rw [hW8.out]; simp
     have HRE : Hid (RowE W8 (some ⟨W.heap.size, 0, none⟩) [s.dst, s.src] 2) := Lib.hid (rowE_two hh1 HV8.out.dst HV8.out.src)
     have HQ0 := Lib.hid hq0
     have HQ1 := Lib.hid hq1
     clear hW8 hB8 hh1 hq0 hq1 HV HB
     clear d2 d3 d4 d5 d6 d7 d8 d9 d10 d11 d12 d13 d14
     go_loopw [6, 7, 44] (fun va vb vi wr => ∃ (j : Nat) (a b : Int), j ≤ 2 ∧ va = .int .i64 a ∧ vb = .int .i64 b ∧ vi = .int .i64 j ∧ Below W8.heap.size W8 wr) (fun _ _ vi _ => 2 - (intOf vi).toNat)
     case atStart => exact ⟨0, _, _, by omega, rfl, rfl, rfl, Below.refl _ _⟩
     case round =>
      obtain ⟨j, a, b, hj, rfl, rfl, rfl, hbr⟩ := hrel
      rcases (show j = 0 ∨ j = 1 ∨ j = 2 by omega) with rfl | rfl | rfl
      ·have q0 := (hbr.cell (p := ⟨W.heap.size + 1, 0, none⟩) hz8).trans HQ0.out
       as_aux_lemma =>
        go_wp2_with fail
        refine (sizeExprs_any _ [s.dst, s.src] (Nat.lt_succ_self _) _ _ _ _ (HRE.out.below hbr)).mono ?_
        rintro e w2 ⟨⟨a2, b2, rfl⟩, hb2⟩
        go_wp2
        go_roundw
        case rel => exact ⟨1, _, _, by omega, rfl, rfl, by go_num, hbr.trans (hb2.mono hbr.size)⟩
        case measure => simp [intOf]
      ·have q1 := (hbr.cell (p := ⟨W.heap.size + 1, 1, none⟩) hz8).trans HQ1.out
       as_aux_lemma =>
        go_wp2_with fail
        refine (sizeExprs_any _ s.conds (Nat.lt_succ_self _) _ _ _ _ (HV8.out.conds.below hbr)).mono ?_
        rintro e w2 ⟨⟨a2, b2, rfl⟩, hb2⟩
        go_wp2
        go_roundw
        case rel => exact ⟨2, _, _, by omega, rfl, rfl, by go_num, hbr.trans (hb2.mono hbr.size)⟩
        case measure => simp [intOf]
      ·have HV9 := Lib.hid (HV8.out.below hbr)
       have HB9 := Lib.hid (HB8.out.trans (hbr.mono HB8.out.size))
       have hH9 : H < wr.heap.size := HV9.out.lt
       have d15 : wr.cell? ⟨H, 15, none⟩ = some (.slice m.la s.labels.length m.lk) := HV9.out.at0 15 _ rfl
       have d16 : wr.cell? ⟨H, 16, none⟩ = some (.slice m.fa s.fields.length m.fk) := HV9.out.at0 16 _ rfl
       clear HV8 HB8 HQ0 HQ1 HRE hbr
       go_upto_region 16 with (fail)
       obtain ⟨wo, rfl⟩ : ∃ wo : World, wo = wr := ⟨_, rfl⟩
       clear d15 d16
       go_loopw [6, 14] (fun va vi wr => ∃ (j : Nat) (a : Int), j ≤ s.labels.length ∧ va = .int .i64 a ∧ vi = .int .i64 j ∧ Below wo.heap.size wo wr) (fun _ vi _ => s.labels.length - (intOf vi).toNat)
       case atStart => exact ⟨0, _, by omega, rfl, rfl, Below.refl _ _⟩
       case round =>
        obtain ⟨j, a, hj, rfl, rfl, hbr⟩ := hrel
        have HVj := Lib.hid (HV9.out.below hbr)
        have hHj : H < wr.heap.size := HVj.out.lt
        have d15 : wr.cell? ⟨H, 15, none⟩ = some (.slice m.la s.labels.length m.lk) := HVj.out.at0 15 _ rfl
        have hll := HVj.out.labels.1
        have hlc := HVj.out.labels.2.1
        by_cases hlt2 : j < s.labels.length
        ·by_cases hle2 : a ≤ mm
         ·obtain ⟨b5, o5, zs, cs5, hA5, hb5, hz5, ⟨A6, k6, rfl, hr6⟩, hc5⟩ := RowOf.at HVj.out.labels hlt2
          have hlb : (j : Int) < (s.labels.length : Int) := by omega
          have hl0 : (0 : Int) ≤ (j : Int) := by omega
          rw [hA5] at d15
          clear hA5
          have c5 : wr.cell? ⟨b5, o5 + j, none⟩ = some (.slice A6 zs.length k6) := by
           have := hc5 0 (by omega)
           rwa [Nat.mul_one, Nat.add_zero] at this
          clear hc5 hr6 hz5
          as_aux_lemma =>
           go_wp2
           go_roundw
           case rel => exact ⟨j + 1, _, by omega, rfl, by go_num, hbr⟩
           case measure => simp [intOf]; omega
         ·have hlb : (j : Int) < (s.labels.length : Int) := by omega
          as_aux_lemma =>
           have HVb := Lib.hid (HV9.out.below hbr)
           have HBb := Lib.hid (HB9.out.trans (hbr.mono HB9.out.size))
           clear HV9 HB9 hbr
           go_upto_region 20 with (fail)
           obtain ⟨wp, rfl⟩ : ∃ wp : World, wp = wr := ⟨_, rfl⟩
           clear d15
           go_loopw [6, 7, 15] (fun va vb vi wr => ∃ (j : Nat) (a b : Int), j ≤ s.blocks.length ∧ va = .int .i64 a ∧ vb = .int .i64 b ∧ vi = .int .i64 j ∧ Below wp.heap.size wp wr) (fun _ _ vi _ => s.blocks.length - (intOf vi).toNat)
           case atStart => exact ⟨0, _, _, by omega, rfl, rfl, rfl, Below.refl _ _⟩
           case round =>
            obtain ⟨j, a, b, hj, rfl, rfl, rfl, hbr⟩ := hrel
            have HVj := Lib.hid (HVb.out.below hbr)
            have hHj : H < wr.heap.size := HVj.out.lt
            have hll := HVj.out.blocks.1
            have hlc := HVj.out.blocks.2.1
            have d17 : wr.cell? ⟨H, 17, none⟩ = some (.slice m.ba s.blocks.length m.bk) := HVj.out.at0 17 _ rfl
            by_cases hlt2 : j < s.blocks.length
            ·by_cases hle2 : a ≤ mm
             ·obtain ⟨b5, o5, bl, cs5, hA5, hb5, hz5, ⟨A6, k6, rfl, hr6⟩, hc5⟩ := RowOf.at HVj.out.blocks hlt2
              have hlb : (j : Int) < (s.blocks.length : Int) := by omega
              have hl0 : (0 : Int) ≤ (j : Int) := by omega
              rw [hA5] at d17
              clear hA5
              have c5 : wr.cell? ⟨b5, o5 + j, none⟩ = some (.slice A6 bl.length k6) := by
               have := hc5 0 (by omega)
               rwa [Nat.mul_one, Nat.add_zero] at this
              have HR6 := Lib.hid hr6
              have HZ := Lib.hid hz5
              clear hc5 hr6 hz5
              go_wp2_with fail
              refine (HIH.out bl (by have := block_lt HX.out HZ.out; omega) _ _ _ _ HR6.out).mono ?_
              rintro e w2 ⟨⟨a2, b2, rfl⟩, hb2⟩
              skip
              go_wp2
              go_roundw
              case rel => exact ⟨j + 1, _, _, by omega, rfl, rfl, by go_num, hbr.trans (hb2.mono hbr.size)⟩
              case measure => simp [intOf]; omega
             ·have hlb : (j : Int) < (s.blocks.length : Int) := by omega
              go_wp2
              go_roundw
              case rel => exact ⟨i + 1, _, _, by omega, rfl, rfl, by go_num, HBb.out.trans (hbr.mono HBb.out.size)⟩
              case measure => simp [intOf]; omega
            ·have hge : ¬ (j : Int) < (s.blocks.length : Int) := by omega
             go_wp2
             go_roundw
             case rel => exact ⟨i + 1, _, _, by omega, rfl, rfl, by go_num, HBb.out.trans (hbr.mono HBb.out.size)⟩
             case measure => simp [intOf]; omega
        ·have hge : ¬ (j : Int) < (s.labels.length : Int) := by omega
         as_aux_lemma =>
          have HVb := Lib.hid (HV9.out.below hbr)
          have HBb := Lib.hid (HB9.out.trans (hbr.mono HB9.out.size))
          clear HV9 HB9 hbr
          go_upto_region 20 with (fail)
          obtain ⟨wp, rfl⟩ : ∃ wp : World, wp = wr := ⟨_, rfl⟩
          clear d15
          go_loopw [6, 7, 15] (fun va vb vi wr => ∃ (j : Nat) (a b : Int), j ≤ s.blocks.length ∧ va = .int .i64 a ∧ vb = .int .i64 b ∧ vi = .int .i64 j ∧ Below wp.heap.size wp wr) (fun _ _ vi _ => s.blocks.length - (intOf vi).toNat)
          case atStart => exact ⟨0, _, _, by omega, rfl, rfl, rfl, Below.refl _ _⟩
          case round =>
           obtain ⟨j, a, b, hj, rfl, rfl, rfl, hbr⟩ := hrel
           have HVj := Lib.hid (HVb.out.below hbr)
           have hHj : H < wr.heap.size := HVj.out.lt
           have hll := HVj.out.blocks.1
           have hlc := HVj.out.blocks.2.1
           have d17 : wr.cell? ⟨H, 17, none⟩ = some (.slice m.ba s.blocks.length m.bk) := HVj.out.at0 17 _ rfl
           by_cases hlt2 : j < s.blocks.length
           ·by_cases hle2 : a ≤ mm
            ·obtain ⟨b5, o5, bl, cs5, hA5, hb5, hz5, ⟨A6, k6, rfl, hr6⟩, hc5⟩ := RowOf.at HVj.out.blocks hlt2
             have hlb : (j : Int) < (s.blocks.length : Int) := by omega
             have hl0 : (0 : Int) ≤ (j : Int) := by omega
             rw [hA5] at d17
             clear hA5
             have c5 : wr.cell? ⟨b5, o5 + j, none⟩ = some (.slice A6 bl.length k6) := by
              have := hc5 0 (by omega)
              rwa [Nat.mul_one, Nat.add_zero] at this
             have HR6 := Lib.hid hr6
             have HZ := Lib.hid hz5
             clear hc5 hr6 hz5
             go_wp2_with fail
             refine (HIH.out bl (by have := block_lt HX.out HZ.out; omega) _ _ _ _ HR6.out).mono ?_
             rintro e w2 ⟨⟨a2, b2, rfl⟩, hb2⟩
             skip
             go_wp2
             go_roundw
             case rel => exact ⟨j + 1, _, _, by omega, rfl, rfl, by go_num, hbr.trans (hb2.mono hbr.size)⟩
             case measure => simp [intOf]; omega
            ·have hlb : (j : Int) < (s.blocks.length : Int) := by omega
             go_wp2
             go_roundw
             case rel => exact ⟨i + 1, _, _, by omega, rfl, rfl, by go_num, HBb.out.trans (hbr.mono HBb.out.size)⟩
             case measure => simp [intOf]; omega
           ·have hge : ¬ (j : Int) < (s.blocks.length : Int) := by omega
            go_wp2
            go_roundw
            case rel => exact ⟨i + 1, _, _, by omega, rfl, rfl, by go_num, HBb.out.trans (hbr.mono HBb.out.size)⟩
            case measure => simp [intOf]; omega
    ·have hlb : (i : Int) < (n : Int) := by omega
     go_wp2
     go_ret2
     exact ⟨⟨_, _, rfl⟩, hbr⟩
   ·obtain rfl : i = n := by omega
    go_wp2
    go_ret2
    exact ⟨⟨_, _, rfl⟩, hbr⟩

end Go.Proofs.YtahjijdadifkaaaDoor

namespace Go.Proofs.YtahjijdadifkaaaDoor
open Go.RowKit

theorem var_size8 : (Tryd.prog.info? 47).map (·.size) = some 8 := by kernel_rfl
theorem var_one8 (v : VarS) : v.cells.toArray.all (·.oneCell') = true := by simp [VarS.cells, Value.oneCell']
def VarC (w : World) (H : Nat) (v : VarS) : Prop := H < w.heap.size ∧ ∀ j u, v.cells[j]? = some u → w.cell? ⟨H, j, none⟩ = some u
theorem varC_below {w w' : World} {H : Nat} {v : VarS} (h : VarC w H v) (hb : Below w.heap.size w w') : VarC w' H v := ⟨Nat.lt_of_lt_of_le h.1 hb.size, fun j u hu => (hb.cell (p := ⟨H, j, none⟩) h.1).trans (h.2 j u hu)⟩
theorem RowV.at8 {w : World} {A : Option Addr} {xs : List VarS} {cap : Nat} (h : RowV w A xs cap) {i : Nat} (hi : i < xs.length) : ∃ b off v, A = some ⟨b, off, none⟩ ∧ b < w.heap.size ∧ xs[i]? = some v ∧ w.rangeAt b (off + i * 8) v.cells := by
 obtain ⟨b, off, v, cs, hA, hb, hv, ⟨rfl, _⟩, hcell⟩ := RowOf.at h hi
 refine ⟨b, off, v, hA, hb, hv, fun j u hu => ?_⟩
 have hj : j < 8 := (List.getElem?_eq_some_iff.1 hu).1
 rw [hcell j hj]
 exact hu


end Go.Proofs.YtahjijdadifkaaaDoor

namespace Go.Proofs.YtahjijdadifkaaaDoor
open Go.RowKit
attribute [local go_sem] ite_max ite_min vite_max vite_min ext_cell ext_frozen extS_cell extS_frozen

def fltC (n ln : Int) : List PanicEntry := [{ v := .iface 81 (.agg #[.int .i64 n, .int .i64 ln]), recovered := false }]
def Flt (e : Ending) : Prop := ∃ n ln : Int, e = .panicked (fltC n ln) ∧ n ≠ 0
def Res (o : Option Value) (e : Ending) : Prop := match o with
 | some v => e = .returned v
 | none => Flt e
def Oks (b : Bool) (e : Ending) : Prop := match b with
 | true => e = .returned (.tuple #[])
 | false => Flt e

theorem post_panic {P : Program} {fn : Func} {R : Ending → World → Prop} {chain : List PanicEntry} {a : Act} {w : World} (hd : a.defers = []) (h : R (.panicked chain) w) : bodyPost P fn R (.panic chain) a w := ⟨hd, h⟩

theorem fail_any (n ln : Int) (w : World) : Calls Tryd.prog 52 #[.int .i64 n, .int .i64 ln] w fun e w' => e = .panicked (fltC n ln) ∧ w' = w := by
 go_enter Tryd.func52, Tryd.ntmps52
 go_wp2
 exact post_panic rfl ⟨rfl, rfl⟩

theorem need_any (b : Bool) (n ln : Int) (w : World) (hn : n ≠ 0) : Calls Tryd.prog 35 #[.bool b, .int .i64 n, .int .i64 ln] w fun e w' => Oks b e ∧ w' = w := by
 cases b
 ·go_enter Tryd.func35, Tryd.ntmps35
  go_wp2_with fail
  refine (fail_any n ln _).mono ?_
  rintro e w' ⟨rfl, rfl⟩
  exact post_panic rfl ⟨⟨n, ln, rfl, hn⟩, rfl⟩
 ·go_enter Tryd.func35, Tryd.ntmps35
  go_wp2
  refine bodyPost_end (v := .tuple #[]) ?_ rfl ⟨rfl, rfl⟩
  simp [results, Tryd.results35]

set_option maxRecDepth 100000 in
theorem kblock_any (v : VarS) (w : World) : Calls Tryd.prog 62 #[.agg v.cells.toArray] w fun e w' => e = .returned (.bool (decide (2 < v.type))) ∧ Below w.heap.size w w' := by
 show Calls Tryd.prog 62 #[.agg #[.string v.name, .int .i64 v.type, .int .i64 v.sect, .bool v.arr, .int .i64 v.lo, .int .i64 v.hi, .int .i64 v.init, .int .i64 v.line]] w _
 go_enter Tryd.func62, Tryd.ntmps62
 go_wp2
 go_ret
 exact ⟨by first | rfl | simp, by exact belowBy⟩

end Go.Proofs.YtahjijdadifkaaaDoor

namespace Go.Proofs.YtahjijdadifkaaaDoor
open Go.RowKit
attribute [local go_sem] ite_max ite_min vite_max vite_min ext_cell ext_frozen

def SomeB (e : Ending) : Prop := ∃ b : Bool, e = .returned (.bool b)

set_option maxRecDepth 100000 in
theorem size_any (p : Prg) (m : Int) (cs : List Value) (w : World) (h : PrgAt w p cs) : Calls Tryd.prog 13 #[.agg cs.toArray, .int .i64 m] w fun e w' => TwoI e ∧ Below w.heap.size w w' := by
 obtain ⟨Av, kv, Ab, kb, rfl, hv, hb⟩ := h
 have HB := Lib.hid hb
 clear hb
 go_enter Tryd.func13, Tryd.ntmps13
 go_wp2_with fail
 refine (sizeStmts_any _ p.body (Nat.lt_succ_self _) _ _ _ _ (HB.out.below (by exact belowBy))).mono ?_
 rintro e w1 ⟨⟨a, b, rfl⟩, hb1⟩
 obtain ⟨hb1c, hb1f⟩ := bcell hb1
 have hb1z := hb1.size
 have hb1c0 := fun o => hb1c (w.heap.size) o sideBy
 have hb1f0 := fun o => hb1f (w.heap.size) o sideBy
 have hb1l0 := below_lt (b := w.heap.size) hb1 sideBy
 go_wp2
 go_ret2
 exact ⟨⟨_, _, rfl⟩, by exact belowBy⟩

set_option maxRecDepth 100000 in
theorem short_any (p : Prg) (cs : List Value) (w : World) (h : PrgAt w p cs) : Calls Tryd.prog 5 #[.agg cs.toArray] w fun e w' => SomeB e ∧ Below w.heap.size w w' := by
 have h' := h
 obtain ⟨Av, kv, Ab, kb, rfl, hv, hb⟩ := h'
 have H := Lib.hid h
 clear h hv hb
 go_enter Tryd.func5, Tryd.ntmps5
 go_wp2_with fail
 refine (size_any p 2000 _ _ (H.out.keep (by exact belowBy))).mono ?_
 rintro e w1 ⟨⟨a, b, rfl⟩, hb1⟩
 obtain ⟨hb1c, hb1f⟩ := bcell hb1
 have hb1z := hb1.size
 have hb1c0 := fun o => hb1c (w.heap.size) o sideBy
 have hb1f0 := fun o => hb1f (w.heap.size) o sideBy
 have hb1l0 := below_lt (b := w.heap.size) hb1 sideBy
 by_cases ha : a ≤ 2000
 ·go_wp2
  go_ret
  exact ⟨⟨_, rfl⟩, by exact belowBy⟩
 ·go_wp2
  go_ret
  exact ⟨⟨_, rfl⟩, by exact belowBy⟩

end Go.Proofs.YtahjijdadifkaaaDoor
