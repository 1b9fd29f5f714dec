/- Layer 15, the reference: is a line such as its state has it? -/
import Derived.Test.YthhfnageadckkaaGreatM45
import Derived.Test.YthhfnageadckkaaGreatM14
namespace Go.Proofs.YthhfnageadckkaaGreat
open Go.RowKit
set_option linter.unusedVariables false
set_option linter.unusedSimpArgs false
attribute [local go_sem] ite_max ite_min vite_max vite_min ext_cell ext_frozen

set_option maxRecDepth 100000 in
set_option maxHeartbeats 16000000 in
theorem rlined_at (a : AX) (sv nv wv : Value) (L : List Value) (hL : AxL a sv nv wv L) (r : Bool) (w : World) (h : AxV w a sv nv wv) (hl : lineB a.ns a.ws = true) (hst : 0 ≤ a.st) (hv : 1 ≤ a.l.v ∧ a.l.v ≤ 1048576) (hr : fitsX a = r) :
  Calls Tryz.prog 46 #[.agg L.toArray] w fun e w' => e = .returned (.bool r) ∧ Below w.heap.size w w' := by
 obtain ⟨⟨A, c, e1, n1, n2, n3, -⟩, ⟨D, d, e2, m1, m2, m3, -⟩⟩ := LineV.parts h.ln
 obtain ⟨q, hq⟩ : ∃ q, a.ws.length = q := ⟨_, rfl⟩
 obtain ⟨p, hp⟩ : ∃ p, a.ns.length = p := ⟨_, rfl⟩
 have HLV : Hid (LineV w 0 a.ns a.ws (.agg #[.slice A a.ns.length c, .slice D a.ws.length d])) := Lib.hid (by rw [← e1, ← e2]; exact h.ln)
 have HL := Lib.hid hL
 obtain ⟨st, hst'⟩ : ∃ x, a.st = x := ⟨_, rfl⟩
 obtain ⟨V, hV⟩ : ∃ x, a.l.v = x := ⟨_, rfl⟩
 rw [hst'] at hst
 rw [hV] at hv
 rw [hp] at e1 n1 n3
 rw [hp, hq] at HLV
 rw [hq] at e2 m1 m3
 obtain ⟨bd, hbd⟩ : ∃ x, bndX a = x := ⟨_, rfl⟩
 have HBN : Hid (∀ W, Calls Tryz.prog 21 #[.agg L.toArray] W fun e w' => e = .returned (.agg #[.int .i64 bd.v, .int .i64 bd.a, .int .i64 bd.d, .int .i64 bd.lo, .int .i64 bd.hi]) ∧ Below W.heap.size W w') := Lib.hid (fun W => by rw [hL.eq]; exact rbounds_at a sv nv wv bd W hbd)
 have HK0 : ∀ (W : World) (B : Nat), W.heap[B]? = some (.cells L.toArray 35) → W.cell? ⟨B, 14, none⟩ = some (.slice A p c) ∧ W.cell? ⟨B, 15, none⟩ = some (.slice D q d) ∧ W.cell? ⟨B, 0, none⟩ = some (.int .i64 st) ∧ W.cell? ⟨B, 1, none⟩ = some (.int .i64 V) := fun W B hk =>
  ⟨heap_cell 14 _ hk (by rw [hL.eq, ← e1]; rfl), heap_cell 15 _ hk (by rw [hL.eq, ← e2]; rfl), heap_cell 0 _ hk (by rw [hL.eq, ← hst']; rfl), heap_cell 1 _ hk (by rw [hL.eq, ← hV]; rfl)⟩
 have HKC := Lib.hid HK0
 have HVN : Hid (IntKind.i64.wrap (-V) = -V) := Lib.hid (IntWalk.i64_in _ (by omega))
 have HCASE : Hid ((p = 0 ∧ q = 0 ∧ r = decide (st = 0 ∨ st = 1 ∨ st = 3 ∨ st = 7)) ∨ ∃ (y : CmdS) (b off : Nat), p = 1 ∧ A = some ⟨b, off, none⟩ ∧ b < w.heap.size ∧ (∀ j, j < 7 → w.cell? ⟨b, off + j, none⟩ = y.cells[j]?) ∧
   r = (if st = 2 then decide (q = 0) && decide (y.kind = 7) else if st = 3 then decide (q = 0) && decide (y.kind = 6) else if st = 5 then decide (q = 0) && decide (y.kind = 4 ∧ y.speed ≠ 0 ∧ y.speed ≤ V ∧ -V ≤ y.speed) else if st = 6 then decide (q = 0) && decide (y.kind = 8 ∧ 0 < y.den) else if st = 4 then (decide (q = 0) && decide (y.kind = 5)) || movesX a else false) ∧ (a.ns = [y])) := by
  rcases line_cases hl with ⟨hn, hw⟩ | ⟨y, hn⟩
  ·refine Lib.hid (.inl ⟨by rw [← hp, hn]; rfl, by rw [← hq, hw]; rfl, ?_⟩)
   rw [← hr]
   unfold fitsX
   rw [hn, hw, hst']
   rfl
  ·have hp1 : p = 1 := by rw [← hp, hn]; rfl
   rw [hn] at n3
   rw [hp1] at n3
   obtain ⟨b, off, hA, hb, hc⟩ := n3.2 (by decide)
   refine Lib.hid (.inr ⟨y, b, off, hp1, hA, hb, fun j hj => ?_, ?_, hn⟩)
   ·have hj' : j < y.cells.length := hj
    rw [List.getElem?_eq_getElem hj']
    refine hc j _ ?_
    have : cmdsC [y] = y.cells := by simp [cmdsC]
    rw [this, List.getElem?_eq_getElem hj']
   ·rw [← hr]
    unfold fitsX
    rw [hn, hst', hV]
    have hwe : a.ws.isEmpty = decide (q = 0) := by
     rw [← hq]
     cases a.ws <;> simp
    rw [hwe]
 have HMV : Hid (movesX a = movesK V bd.lo bd.hi (a.ns ++ a.ws) (a.ns ++ a.ws).length) := Lib.hid (by unfold movesX; rw [hV, hbd])
 have HLEN : Hid (a.ns.length = p ∧ a.ws.length = q) := Lib.hid ⟨hp, hq⟩
 have HLB := Lib.hid (lineB_yes hl)
 clear n3 m3 h hl hr e1 e2 hq hp hst' hV hbd HK0 hL
 go_enter Tryz.func46, Tryz.ntmps46
 go_upto_region 1 with (fail)
 refine wp_name fun W hW => ?_
 obtain ⟨B, hB⟩ : ∃ B, B = w.heap.size := ⟨_, rfl⟩
 have HB : Hid (Below w.heap.size w W) := by rw [hW.out]; exact Lib.hid (by exact belowBy)
 have HK : Hid (W.heap[B]? = some (.cells L.toArray 35)) := by
  rw [hW.out, hB]
  exact Lib.hid (heap_alloc_new _ _)
 (try rw [← hB])
 have HBw := Lib.hid hB
 clear hW hB
 obtain ⟨k14, k15, k0, k1⟩ := HKC.out W B HK.out
 go_upto_region 1 with (fail)
 go_quiet (fail)
 rcases HCASE.out with ⟨rfl, rfl, hr⟩ | ⟨y, b, off, rfl, rfl, hb, hc, hr, hn⟩
 ·have HEND : Hid (Below w.heap.size w (W.drewN nq)) := Lib.hid (below_drewN HB.out nq)
  by_cases e2 : st < 2
  ·obtain rfl : r = true := by rw [hr]; exact decide_eq_true (by omega)
   clear hr
   go_wp2
   go_ret
   exact ⟨rfl, HEND.out.trans (Below.mono (by exact belowBy) HEND.out.size)⟩
  by_cases e3 : st = 3
  ·subst e3
   obtain rfl : r = true := by rw [hr]; exact decide_eq_true (by omega)
   clear hr
   go_wp2
   go_ret
   exact ⟨rfl, HEND.out.trans (Below.mono (by exact belowBy) HEND.out.size)⟩
  by_cases e7 : st = 7
  ·subst e7
   obtain rfl : r = true := by rw [hr]; exact decide_eq_true (by omega)
   clear hr
   go_wp2
   go_ret
   exact ⟨rfl, HEND.out.trans (Below.mono (by exact belowBy) HEND.out.size)⟩
  have f3 : (st == 3) = false := by simp [e3]
  have f7 : (st == 7) = false := by simp [e7]
  obtain rfl : r = false := by rw [hr]; exact decide_eq_false (by omega)
  clear e3 e7
  clear hr
  go_wp2
  go_ret
  exact ⟨rfl, HEND.out.trans (Below.mono (by exact belowBy) HEND.out.size)⟩
 ·obtain ⟨y0, y1, y2, y3, y4, y5, y6⟩ := y
  simp only at hr
  have hbq : Below W.heap.size W (W.drewN nq) := below_drewN (Below.refl _ _) nq
  obtain ⟨W2, hW2⟩ : ∃ X, X = W.drewN nq := ⟨_, rfl⟩
  rw [← hW2] at hbq ⊢
  have HEND : Hid (Below w.heap.size w W2) := Lib.hid (HB.out.trans (hbq.mono HB.out.size))
  have HK2 := Lib.hid ((hbq.block B (Array.getElem?_eq_some_iff.1 HK.out).1).trans HK.out)
  clear k14 k15 k0 k1 hW2 hbq
  obtain ⟨k14, k15, k0', k1⟩ := HKC.out W2 B HK2.out
  have g0 : W2.cell? ⟨b, off + 0, none⟩ = some (.int .i64 y0) := (HEND.out.cell (p := ⟨b, off + 0, none⟩) hb).trans (hc 0 (by omega))
  have g1 : W2.cell? ⟨b, off + 1, none⟩ = some (.int .i64 y1) := (HEND.out.cell (p := ⟨b, off + 1, none⟩) hb).trans (hc 1 (by omega))
  have g2 : W2.cell? ⟨b, off + 2, none⟩ = some (.int .i64 y2) := (HEND.out.cell (p := ⟨b, off + 2, none⟩) hb).trans (hc 2 (by omega))
  have g3 : W2.cell? ⟨b, off + 3, none⟩ = some (.int .i64 y3) := (HEND.out.cell (p := ⟨b, off + 3, none⟩) hb).trans (hc 3 (by omega))
  have g4 : W2.cell? ⟨b, off + 4, none⟩ = some (.int .i64 y4) := (HEND.out.cell (p := ⟨b, off + 4, none⟩) hb).trans (hc 4 (by omega))
  have g5 : W2.cell? ⟨b, off + 5, none⟩ = some (.int .i64 y5) := (HEND.out.cell (p := ⟨b, off + 5, none⟩) hb).trans (hc 5 (by omega))
  have g6 : W2.cell? ⟨b, off + 6, none⟩ = some (.int .i64 y6) := (HEND.out.cell (p := ⟨b, off + 6, none⟩) hb).trans (hc 6 (by omega))
  rw [Nat.add_zero] at g0
  have hn' : a.ns = [⟨y0, y1, y2, y3, y4, y5, y6⟩] := hn
  have HN := Lib.hid hn'
  clear hc hn hn'
  go_upto_region 5 with (fail)
  refine wp_name fun W3 hW3 => ?_
  obtain ⟨C, hC⟩ : ∃ C, C = W2.heap.size := ⟨_, rfl⟩
  have hb3 : Below W2.heap.size W2 W3 := by rw [hW3.out]; exact belowBy
  have HC : Hid (W3.heap[C]? = some (.cells #[.int .i64 y0, .int .i64 y1, .int .i64 y2, .int .i64 y3, .int .i64 y4, .int .i64 y5, .int .i64 y6] 63)) := by rw [hW3.out, hC]; exact Lib.hid (heap_alloc_new _ _)
  (try rw [← hC])
  have HK3 := Lib.hid ((hb3.block B (Array.getElem?_eq_some_iff.1 HK2.out).1).trans HK2.out)
  replace HEND := Lib.hid (HEND.out.trans (hb3.mono HEND.out.size))
  clear k14 k15 k0' k1 g0 g1 g2 g3 g4 g5 g6 hW3 hb3 hC HK2
  obtain ⟨k14, k15, k0', k1⟩ := HKC.out W3 B HK3.out
  have g1 := heap_cell 1 _ HC.out rfl
  have g3 := heap_cell 3 _ HC.out rfl
  have g6 := heap_cell 6 _ HC.out rfl
  by_cases e2 : st = 2
  case pos =>
   subst e2
   have t2 : ((2 : Int) == 2) = true := rfl
   have t3 : ((2 : Int) == 3) = false := rfl
   have t5 : ((2 : Int) == 5) = false := rfl
   have t6 : ((2 : Int) == 6) = false := rfl
   have t4 : ((2 : Int) == 4) = false := rfl
   rw [if_pos rfl] at hr
   by_cases q0 : q = 0
   case neg =>
    obtain rfl : r = false := by rw [hr, decide_eq_false q0]; rfl
    have f0 : ((q : Int) == 0) = false := by simp [q0]
    clear hr
    go_wp2
    go_ret
    exact ⟨rfl, HEND.out.trans (Below.mono (by exact belowBy) HEND.out.size)⟩
   subst q0
   have f0 : ((0 : Int) == 0) = true := rfl
   by_cases k0 : y1 = 7
   case neg =>
    obtain rfl : r = false := by rw [hr, decide_eq_false (show ¬ (y1 = 7) by omega), Bool.and_false]
    have fk : (y1 == 7) = false := by simp [k0]
    clear hr
    go_wp2
    go_ret
    exact ⟨rfl, HEND.out.trans (Below.mono (by exact belowBy) HEND.out.size)⟩
   have fk : (y1 == 7) = true := by simp [k0]
   obtain rfl : r = true := by rw [hr, decide_eq_true (show y1 = 7 by omega)]; rfl
   clear hr
   go_wp2
   go_ret
   exact ⟨rfl, HEND.out.trans (Below.mono (by exact belowBy) HEND.out.size)⟩
  by_cases e3 : st = 3
  case pos =>
   subst e3
   have t2 : ((3 : Int) == 2) = false := rfl
   have t3 : ((3 : Int) == 3) = true := rfl
   have t5 : ((3 : Int) == 5) = false := rfl
   have t6 : ((3 : Int) == 6) = false := rfl
   have t4 : ((3 : Int) == 4) = false := rfl
   rw [if_neg (by decide), if_pos rfl] at hr
   by_cases q0 : q = 0
   case neg =>
    obtain rfl : r = false := by rw [hr, decide_eq_false q0]; rfl
    have f0 : ((q : Int) == 0) = false := by simp [q0]
    clear hr
    go_wp2
    go_ret
    exact ⟨rfl, HEND.out.trans (Below.mono (by exact belowBy) HEND.out.size)⟩
   subst q0
   have f0 : ((0 : Int) == 0) = true := rfl
   by_cases k0 : y1 = 6
   case neg =>
    obtain rfl : r = false := by rw [hr, decide_eq_false (show ¬ (y1 = 6) by omega), Bool.and_false]
    have fk : (y1 == 6) = false := by simp [k0]
    clear hr
    go_wp2
    go_ret
    exact ⟨rfl, HEND.out.trans (Below.mono (by exact belowBy) HEND.out.size)⟩
   have fk : (y1 == 6) = true := by simp [k0]
   obtain rfl : r = true := by rw [hr, decide_eq_true (show y1 = 6 by omega)]; rfl
   clear hr
   go_wp2
   go_ret
   exact ⟨rfl, HEND.out.trans (Below.mono (by exact belowBy) HEND.out.size)⟩
  by_cases e5 : st = 5
  case pos =>
   subst e5
   have t2 : ((5 : Int) == 2) = false := rfl
   have t3 : ((5 : Int) == 3) = false := rfl
   have t5 : ((5 : Int) == 5) = true := rfl
   have t6 : ((5 : Int) == 6) = false := rfl
   have t4 : ((5 : Int) == 4) = false := rfl
   have hvn := HVN.out
   rw [if_neg (by decide), if_neg (by decide), if_pos rfl] at hr
   by_cases q0 : q = 0
   case neg =>
    obtain rfl : r = false := by rw [hr, decide_eq_false q0]; rfl
    have f0 : ((q : Int) == 0) = false := by simp [q0]
    clear hr
    go_wp2
    go_ret
    exact ⟨rfl, HEND.out.trans (Below.mono (by exact belowBy) HEND.out.size)⟩
   subst q0
   have f0 : ((0 : Int) == 0) = true := rfl
   by_cases k0 : y1 = 4
   case neg =>
    obtain rfl : r = false := by rw [hr, decide_eq_false (show ¬ (y1 = 4 ∧ y3 ≠ 0 ∧ y3 ≤ V ∧ -V ≤ y3) by omega), Bool.and_false]
    have fk : (y1 == 4) = false := by simp [k0]
    clear hr
    go_wp2
    go_ret
    exact ⟨rfl, HEND.out.trans (Below.mono (by exact belowBy) HEND.out.size)⟩
   have fk : (y1 == 4) = true := by simp [k0]
   by_cases s0 : y3 ≠ 0
   case neg =>
    obtain rfl : r = false := by rw [hr, decide_eq_false (show ¬ (y1 = 4 ∧ y3 ≠ 0 ∧ y3 ≤ V ∧ -V ≤ y3) by omega), Bool.and_false]
    have fs : (y3 != 0) = false := by simp; omega
    clear hr
    go_wp2
    go_ret
    exact ⟨rfl, HEND.out.trans (Below.mono (by exact belowBy) HEND.out.size)⟩
   have fs : (y3 != 0) = true := by simp [s0]
   by_cases s1 : y3 ≤ V
   case neg =>
    obtain rfl : r = false := by rw [hr, decide_eq_false (show ¬ (y1 = 4 ∧ y3 ≠ 0 ∧ y3 ≤ V ∧ -V ≤ y3) by omega), Bool.and_false]
    clear hr
    go_wp2
    go_ret
    exact ⟨rfl, HEND.out.trans (Below.mono (by exact belowBy) HEND.out.size)⟩
   by_cases s2 : -V ≤ y3
   case neg =>
    obtain rfl : r = false := by rw [hr, decide_eq_false (show ¬ (y1 = 4 ∧ y3 ≠ 0 ∧ y3 ≤ V ∧ -V ≤ y3) by omega), Bool.and_false]
    clear hr
    go_wp2
    go_ret
    exact ⟨rfl, HEND.out.trans (Below.mono (by exact belowBy) HEND.out.size)⟩
   obtain rfl : r = true := by rw [hr, decide_eq_true (show y1 = 4 ∧ y3 ≠ 0 ∧ y3 ≤ V ∧ -V ≤ y3 by omega)]; rfl
   clear hr
   go_wp2
   go_ret
   exact ⟨rfl, HEND.out.trans (Below.mono (by exact belowBy) HEND.out.size)⟩
  by_cases e6 : st = 6
  case pos =>
   subst e6
   have t2 : ((6 : Int) == 2) = false := rfl
   have t3 : ((6 : Int) == 3) = false := rfl
   have t5 : ((6 : Int) == 5) = false := rfl
   have t6 : ((6 : Int) == 6) = true := rfl
   have t4 : ((6 : Int) == 4) = false := rfl
   rw [if_neg (by decide), if_neg (by decide), if_neg (by decide), if_pos rfl] at hr
   by_cases q0 : q = 0
   case neg =>
    obtain rfl : r = false := by rw [hr, decide_eq_false q0]; rfl
    have f0 : ((q : Int) == 0) = false := by simp [q0]
    clear hr
    go_wp2
    go_ret
    exact ⟨rfl, HEND.out.trans (Below.mono (by exact belowBy) HEND.out.size)⟩
   subst q0
   have f0 : ((0 : Int) == 0) = true := rfl
   by_cases k0 : y1 = 8
   case neg =>
    obtain rfl : r = false := by rw [hr, decide_eq_false (show ¬ (y1 = 8 ∧ 0 < y6) by omega), Bool.and_false]
    have fk : (y1 == 8) = false := by simp [k0]
    clear hr
    go_wp2
    go_ret
    exact ⟨rfl, HEND.out.trans (Below.mono (by exact belowBy) HEND.out.size)⟩
   have fk : (y1 == 8) = true := by simp [k0]
   by_cases d0 : 0 < y6
   case neg =>
    obtain rfl : r = false := by rw [hr, decide_eq_false (show ¬ (y1 = 8 ∧ 0 < y6) by omega), Bool.and_false]
    clear hr
    go_wp2
    go_ret
    exact ⟨rfl, HEND.out.trans (Below.mono (by exact belowBy) HEND.out.size)⟩
   obtain rfl : r = true := by rw [hr, decide_eq_true (show y1 = 8 ∧ 0 < y6 by omega)]; rfl
   clear hr
   go_wp2
   go_ret
   exact ⟨rfl, HEND.out.trans (Below.mono (by exact belowBy) HEND.out.size)⟩
  by_cases e4 : st = 4
  case neg =>
   have t2 : (st == 2) = false := by simp [e2]
   have t3 : (st == 3) = false := by simp [e3]
   have t5 : (st == 5) = false := by simp [e5]
   have t6 : (st == 6) = false := by simp [e6]
   have t4 : (st == 4) = false := by simp [e4]
   obtain rfl : r = false := by rw [hr, if_neg e2, if_neg e3, if_neg e5, if_neg e6, if_neg e4]
   clear hr
   go_wp2
   go_ret
   exact ⟨rfl, HEND.out.trans (Below.mono (by exact belowBy) HEND.out.size)⟩
  subst e4
  have t2 : ((4 : Int) == 2) = false := rfl
  have t3 : ((4 : Int) == 3) = false := rfl
  have t5 : ((4 : Int) == 5) = false := rfl
  have t6 : ((4 : Int) == 6) = false := rfl
  have t4 : ((4 : Int) == 4) = true := rfl
  clear e2 e3 e5 e6
  rw [if_neg (by decide), if_neg (by decide), if_neg (by decide), if_neg (by decide), if_pos rfl] at hr
  by_cases e5 : y1 = 5
  case pos =>
   have fk : (y1 == 5) = true := by simp [e5]
   by_cases q0 : q = 0
   case pos =>
    subst q0
    have f0 : ((0 : Int) == 0) = true := rfl
    obtain rfl : r = true := by rw [hr, decide_eq_true e5]; rfl
    clear hr
    go_wp2
    go_ret
    exact ⟨rfl, HEND.out.trans (Below.mono (by exact belowBy) HEND.out.size)⟩
   have hm0 : movesX a = false := by
    rw [HMV.out]
    refine movesK_no (k := 0) (by rw [List.length_append, HLEN.out.1]; omega) ?_
    rw [HN.out]
    exact decide_eq_false (fun h => by have := h.1; simp only [List.cons_append, List.getElem?_cons_zero, Option.getD_some] at this; omega)
   have f0 : ((q : Int) == 0) = false := by simp [q0]
   obtain rfl : r = false := by rw [hr, hm0, decide_eq_false q0]; rfl
   clear hr
   go_wp2
   go_ret
   exact ⟨rfl, HEND.out.trans (Below.mono (by exact belowBy) HEND.out.size)⟩
  have fk : (y1 == 5) = false := by simp [e5]
  rw [decide_eq_false e5, Bool.and_false, Bool.false_or, HMV.out] at hr
  have hLV := HLV.out
  have hN1 : a.ns.length ≤ 400 := by rw [HLEN.out.1]; omega
  have hN2 : a.ws.length ≤ 400 := by have := HLB.out.2.1; omega
  have hNM : (a.ns ++ a.ws).length = 1 + q := by rw [List.length_append, HLEN.out.1, HLEN.out.2]
  have hMD := HLB.out.2.2.2
  have HLI : Hid (∀ W, Below w.heap.size w W → Calls Tryz.prog 79 #[.agg #[.slice (some ⟨b, off, none⟩) 1 c, .slice D q d]] W fun e w' => RowC W w' (a.ns ++ a.ws).length (cmdsC (a.ns ++ a.ws)) e ∧ Below W.heap.size W w') := Lib.hid (fun W hb => rlist_at a.ns a.ws _ 0 W (hLV.below hb) hN1 hN2)
  obtain ⟨xs, hxs⟩ : ∃ xs, a.ns ++ a.ws = xs := ⟨_, rfl⟩
  rw [hxs] at hr HLI hNM hMD
  have HBAD : Hid (∀ (k : Nat) (x : CmdS), xs[k]? = some x → moveF V bd.lo bd.hi k x = false → r = false) := Lib.hid (fun k x hx hb => by
   rw [hr]
   exact movesK_no (List.getElem?_eq_some_iff.1 hx).1 (by rw [hx]; exact hb))
  have HALL : Hid (movesK V bd.lo bd.hi xs xs.length = true → r = true) := Lib.hid (fun hb => by rw [hr]; exact hb)
  obtain ⟨n, hxn⟩ : ∃ n, xs.length = n := ⟨_, rfl⟩
  rw [hxn] at HLI hNM
  have HXN := Lib.hid hxn
  have hq4 : n ≤ 400 := by have := HLB.out.2.1; have := HLEN.out.2; omega
  have HMD : Hid (∀ (k : Nat) (x : CmdS), xs[k]? = some x → 0 ≤ x.mode) := Lib.hid (fun k x hx => by
   have := hMD x (List.mem_of_getElem? hx)
   unfold modeB at this
   simp at this
   omega)
  clear hr hLV hN1 hN2 hNM hMD hxs hxn HN HLB HLEN HMV HLV HCASE HVN
  go_wp2_with (first
   | refine wpList_load_row rfl 35 _ rfl B rfl 35 L.toArray (0, 0) _ HK3.out Tryz.underlying35 rfl HL.out.size ?_)
  refine (HBN.out _).mono ?_
  rintro e w4 ⟨rfl, hb4⟩
  replace HEND := Lib.hid (HEND.out.trans (hb4.mono HEND.out.size))
  have HK4 := Lib.hid ((hb4.block B (Array.getElem?_eq_some_iff.1 HK3.out).1).trans HK3.out)
  clear k14 k15 k0' k1 g1 g3 g6 hb4 HK3 HC
  go_upto_region 18 with (fail)
  refine wp_name fun W5 hW5 => ?_
  obtain ⟨E, hE⟩ : ∃ E, E = w4.heap.size := ⟨_, rfl⟩
  have hb5 : Below w4.heap.size w4 W5 := by rw [hW5.out]; exact belowBy
  have HE : Hid (W5.heap[E]? = some (.cells #[.int .i64 bd.v, .int .i64 bd.a, .int .i64 bd.d, .int .i64 bd.lo, .int .i64 bd.hi] 23)) := by rw [hW5.out, hE]; exact Lib.hid (heap_alloc_new _ _)
  (try rw [← hE])
  have HK5 := Lib.hid ((hb5.block B (Array.getElem?_eq_some_iff.1 HK4.out).1).trans HK4.out)
  replace HEND := Lib.hid (HEND.out.trans (hb5.mono HEND.out.size))
  clear hW5 hb5 hE HK4
  obtain ⟨k14, k15, k0', k1⟩ := HKC.out W5 B HK5.out
  go_wp2_with fail
  refine (HLI.out _ HEND.out).mono ?_
  rintro e w6 ⟨⟨v6, rfl, ho6⟩, hb6⟩
  have HR6 := Lib.hid (ReadC.of_own ho6)
  have hE6 : E < w6.heap.size := Nat.lt_of_lt_of_le (Array.getElem?_eq_some_iff.1 HE.out).1 hb6.size
  have HE6 := Lib.hid ((hb6.block E (Array.getElem?_eq_some_iff.1 HE.out).1).trans HE.out)
  have HEN := Lib.hid (HEND.out.trans (hb6.mono HEND.out.size))
  have hw6 : w.heap.size ≤ w6.heap.size := HEN.out.size
  clear k14 k15 k0' k1 HEND HE HK5 hb6 ho6
  have hk6 := HR6.out
  obtain ⟨A6, c6, rfl, hl6, hc6, -⟩ := hk6
  go_wp2_with fail
  go_loopw [9] (fun u wr => ∃ k : Nat, k ≤ n ∧ u = .int .i64 k ∧ Hid (movesK V bd.lo bd.hi xs k = true) ∧ Below w6.heap.size w6 wr) (fun u _ => n - (intOf u).toNat)
  case atStart => exact ⟨0, by omega, rfl, Lib.hid rfl, Below.refl _ _⟩
  case round =>
   obtain ⟨k, hk, rfl, HK, hbr⟩ := hrel
   have HEW : Hid (Below w.heap.size w wr) := Lib.hid (HEN.out.trans (hbr.mono hw6))
   by_cases hlt : k < n
   case neg =>
    obtain rfl : k = n := by omega
    have hr := HALL.out (by rw [HXN.out]; exact HK.out)
    subst hr
    go_wp2
    go_ret
    exact ⟨rfl, HEW.out⟩
   obtain ⟨A', c', e, q1, q2, q3, -⟩ := HR6.out
   injection e with e1 _ e3
   subst e1 e3
   rw [← HXN.out] at q3
   obtain ⟨b', off', x, e, hb', hxk, hcell⟩ := q3.cmd k (by rw [HXN.out]; exact hlt)
   subst e
   have hsucc : movesK V bd.lo bd.hi xs (k + 1) = moveF V bd.lo bd.hi k x := by rw [movesK, HK.out, hxk, Bool.true_and]; rfl
   have g1 := (hbr.cell (p := ⟨b', off' + k * 7 + 1, none⟩) hb').trans (hcell 1 (by omega))
   have g2 := (hbr.cell (p := ⟨b', off' + k * 7 + 2, none⟩) hb').trans (hcell 2 (by omega))
   have g3 := (hbr.cell (p := ⟨b', off' + k * 7 + 3, none⟩) hb').trans (hcell 3 (by omega))
   have g4 := (hbr.cell (p := ⟨b', off' + k * 7 + 4, none⟩) hb').trans (hcell 4 (by omega))
   have hbad := HBAD.out k x hxk
   have hmd := HMD.out k x hxk
   obtain ⟨x0, x1, x2, x3, x4, x5, x6⟩ := x
   simp only [CmdS.cells, List.getElem?_cons_zero, List.getElem?_cons_succ, Nat.add_zero] at g1 g2 g3 g4
   simp only [moveF] at hsucc hbad hmd
   have hk0 : (0 : Int) ≤ (k : Int) := by omega
   have hkn : (k : Int) < (n : Int) := by omega
   have p3 : wr.cell? ⟨E, 3, none⟩ = some (.int .i64 bd.lo) := (hbr.cell (p := ⟨E, 3, none⟩) hE6).trans (heap_cell 3 _ HE6.out rfl)
   have p4 : wr.cell? ⟨E, 4, none⟩ = some (.int .i64 bd.hi) := (hbr.cell (p := ⟨E, 4, none⟩) hE6).trans (heap_cell 4 _ HE6.out rfl)
   have HS := Lib.hid hsucc
   have HBD := Lib.hid hbad
   have HMX := Lib.hid hmd
   clear hcell hxk hsucc hbad hmd HBAD HALL HMD HR6 q1 q3 HE6 hb'
   by_cases n1 : x1 = 1
   case neg =>
    have b1 : (x1 != 1) = true := by simp [n1]
    obtain rfl : r = false := HBD.out (decide_eq_false (fun h => n1 h.1))
    clear HBD HS n1
    go_wp2_with fail
    go_quiet (fail)
    go_wp2
    go_ret
    exact ⟨rfl, HEW.out.trans (Below.mono (by exact belowBy) HEW.out.size)⟩
   subst n1
   have b1 : ((1 : Int) != 1) = false := rfl
   by_cases n2 : x3 < 1
   case pos =>
    have dn2 : decide (x3 < 1) = true := decide_eq_true n2
    obtain rfl : r = false := HBD.out (decide_eq_false (fun h => by have := h.2.1; omega))
    clear HBD HS
    go_wp2_with fail
    go_quiet (fail)
    go_wp2
    go_ret
    exact ⟨rfl, HEW.out.trans (Below.mono (by exact belowBy) HEW.out.size)⟩
   have dn2 : decide (x3 < 1) = false := decide_eq_false n2
   by_cases n3 : V < x3
   case pos =>
    have dn3 : decide (V < x3) = true := decide_eq_true n3
    obtain rfl : r = false := HBD.out (decide_eq_false (fun h => by have := h.2.2.1; omega))
    clear HBD HS
    go_wp2_with fail
    go_quiet (fail)
    go_wp2
    go_ret
    exact ⟨rfl, HEW.out.trans (Below.mono (by exact belowBy) HEW.out.size)⟩
   have dn3 : decide (V < x3) = false := decide_eq_false n3
   by_cases n4 : x2 < bd.lo
   case pos =>
    have dn4 : decide (x2 < bd.lo) = true := decide_eq_true n4
    obtain rfl : r = false := HBD.out (decide_eq_false (fun h => by have := h.2.2.2.1; omega))
    clear HBD HS
    go_wp2_with fail
    go_quiet (fail)
    go_wp2
    go_ret
    exact ⟨rfl, HEW.out.trans (Below.mono (by exact belowBy) HEW.out.size)⟩
   have dn4 : decide (x2 < bd.lo) = false := decide_eq_false n4
   by_cases n5 : bd.hi < x2
   case pos =>
    have dn5 : decide (bd.hi < x2) = true := decide_eq_true n5
    obtain rfl : r = false := HBD.out (decide_eq_false (fun h => by have := h.2.2.2.2.1; omega))
    clear HBD HS
    go_wp2_with fail
    go_quiet (fail)
    go_wp2
    go_ret
    exact ⟨rfl, HEW.out.trans (Below.mono (by exact belowBy) HEW.out.size)⟩
   have dn5 : decide (bd.hi < x2) = false := decide_eq_false n5
   by_cases k0 : k = 0
   case pos =>
    have HN : Hid (movesK V bd.lo bd.hi xs (k + 1) = true) := Lib.hid (by rw [HS.out]; exact decide_eq_true ⟨rfl, by omega, by omega, by omega, by omega, fun h => by omega⟩)
    have d6 : decide ((0 : Int) < (k : Int)) = false := decide_eq_false (by omega)
    have d6n : decide (0 < k) = false := decide_eq_false (by omega)
    clear HBD HS k0
    go_wp2_with fail
    go_quiet (fail)
    go_wp2
    go_roundw
    case rel => exact ⟨k + 1, by omega, by go_num, HN, by exact belowBy⟩
    case measure => simp [intOf]; omega
   have d6 : (0 : Int) < (k : Int) := by omega
   have d6n : 0 < k := by omega
   by_cases n6 : x4 < 1
   case pos =>
    have hx4 : x4 = 0 := by have := HMX.out; omega
    obtain rfl : r = false := HBD.out (decide_eq_false (fun h => h.2.2.2.2.2 (by omega) hx4))
    clear HBD HS hx4
    go_wp2_with fail
    go_quiet (fail)
    go_wp2
    go_ret
    exact ⟨rfl, HEW.out.trans (Below.mono (by exact belowBy) HEW.out.size)⟩
   have d7 : decide (x4 < 1) = false := decide_eq_false n6
   have HN : Hid (movesK V bd.lo bd.hi xs (k + 1) = true) := Lib.hid (by rw [HS.out]; exact decide_eq_true ⟨rfl, by omega, by omega, by omega, by omega, fun _ => by omega⟩)
   clear HBD HS
   go_wp2_with fail
   go_quiet (fail)
   go_wp2
   go_roundw
   case rel => exact ⟨k + 1, by omega, by go_num, HN, by exact belowBy⟩
   case measure => simp [intOf]; omega

end Go.Proofs.YthhfnageadckkaaGreat
