/- Merged: Layer 15: is a line such as the state has it? Layer 15: an axis made. -/
import Derived.Test.YthhfnageadckkaaGreatM22
import Derived.Laws.ResultCell
set_option linter.unusedVariables false
set_option linter.unusedSimpArgs false
set_option maxHeartbeats 4000000
namespace Go.Proofs.YthhfnageadckkaaGreat
open Go.RowKit
attribute [local go_sem] ite_max ite_min vite_max vite_min ext_cell ext_frozen

theorem beq_decide (x k : Int) : (x == k) = decide (x = k) := by
 by_cases h : x = k <;> simp [h]

set_option maxRecDepth 100000 in
theorem afits_at (a : AX) (sv nv wv : Value) (r : Bool) (w : World) (hs : sv.oneCell' = true) (hl : LineV w 0 a.ns a.ws (.agg #[nv, wv])) (hn : a.ns.length ≤ 400) (hm : a.ws.length ≤ 400) (hv : -9223372036854775807 ≤ a.l.v ∧ a.l.v ≤ 9223372036854775807) (hr : fitsX a = r) :
  Calls Tryz.prog 28 #[.agg #[.int .i64 a.st, .int .i64 a.l.v, .int .i64 a.l.a, .int .i64 a.l.d, .int .i64 a.l.lo, .int .i64 a.l.hi, .int .i64 a.win, .int .i64 a.hat, .int .i64 a.fast, .int .i64 a.creep, .int .i64 a.g.p, .int .i64 a.g.v, sv, .int .i64 a.off, nv, wv, .bool a.hd, .int .i64 a.h.p, .int .i64 a.h.f, .int .i64 a.h.c, .bool a.h.t, .int .i64 a.ov, .int .i64 a.sta, .int .i64 a.mas, .int .i64 a.cau, .bool a.ins]] w fun e w' => e = .returned (.bool r) ∧ Below w.heap.size w w' := by
 have HM : Hid (∀ W, Below w.heap.size w W → Calls Tryz.prog 57 #[.agg (axC a sv nv wv).toArray] W fun e w' => e = .returned (.bool (movesX a)) ∧ Below W.heap.size W w') := Lib.hid (fun W hW => amoves_at a sv nv wv _ W hs (hl.below hW) hn hm rfl)
 obtain ⟨⟨A, c, rfl, h1, h1', h3, -⟩, ⟨D, d, rfl, k1, k1', k3, -⟩⟩ := LineV.parts hl
 have HX := Lib.hid h3
 obtain ⟨L, hL⟩ := axL_some a sv (.slice A a.ns.length c) (.slice D a.ws.length d)
 rw [← hL.eq] at HM
 have HL := Lib.hid hL
 obtain ⟨mv, hmv⟩ : ∃ x, movesX a = x := ⟨_, rfl⟩
 rw [hmv] at HM
 obtain ⟨V, hV⟩ : ∃ x, a.l.v = x := ⟨_, rfl⟩
 obtain ⟨st, hst⟩ : ∃ x, a.st = x := ⟨_, rfl⟩
 obtain ⟨m, hm'⟩ : ∃ m, a.ws.length = m := ⟨_, rfl⟩
 have hwe : a.ws.isEmpty = decide (m = 0) := by
  rw [← hm']
  cases a.ws <;> simp
 unfold fitsX at hr
 rw [hmv, hV, hst, hwe] at hr
 rw [hV] at hv
 have hnv : IntKind.i64.wrap (-V) = -V := IntWalk.i64_in _ (by omega)
 rw [hm'] at k1 ⊢
 clear h3 k3 hl hmv hwe
 obtain ⟨ns, hns⟩ : ∃ x, a.ns = x := ⟨_, rfl⟩
 rw [hns] at hr h1 HX hn
 have HN := Lib.hid hns
 obtain ⟨n, hn'⟩ : ∃ m, ns.length = m := ⟨_, rfl⟩
 rw [hns, hn']
 rw [hn'] at h1 hn
 have HNL := Lib.hid hn'
 have HML := Lib.hid hm'
 have HV := Lib.hid hV
 have HST := Lib.hid hst
 have HR := Lib.hid hr
 clear hn' hns hm' hV hst hr hL
 go_enter Tryz.func28, Tryz.ntmps28
 go_upto_region 1 with (fail)
 refine wp_name fun W hW => ?_
 obtain ⟨B, hB⟩ : ∃ B, B = w.heap.size := ⟨_, rfl⟩
 have HB : Hid (Below w.heap.size w W) := by rw [hW.out]; exact Lib.hid (by exact belowBy)
 have hlt : B < W.heap.size := by rw [hW.out, hB]; simp
 have HK : Hid (W.heap[B]? = some (.cells L.toArray 35)) := by
  rw [hW.out, hB, HL.out.eq]
  refine Lib.hid ?_
  rw [HN.out, HNL.out, HML.out]
  exact (heap_alloc_new _ _)
 (try rw [← hB])
 clear hW hB
 have q14 : W.cell? ⟨B, 14, none⟩ = some (.slice A n c) := heap_cell 14 _ HK.out (by rw [HL.out.eq, HN.out, HNL.out]; rfl)
 have q15 : W.cell? ⟨B, 15, none⟩ = some (.slice D m d) := heap_cell 15 _ HK.out (by rw [HL.out.eq, HML.out]; rfl)
 go_upto_region 2 with (fail)
 refine wp_name fun W2 hW2 => ?_
 obtain ⟨C, hC⟩ : ∃ C, C = W.heap.size := ⟨_, rfl⟩
 have hbx : Below W.heap.size W W2 := by rw [hW2.out]; exact belowBy
 have HB2 := Lib.hid (HB.out.trans (hbx.mono HB.out.size))
 have HK2 := Lib.hid ((hbx.block B hlt).trans HK.out)
 have hlt2 : B < W2.heap.size := Nat.lt_of_lt_of_le hlt hbx.size
 have hltC : C < W2.heap.size := by rw [hW2.out, hC]; simp
 have c0 : W2.cell? ⟨C, 0, none⟩ = some (.slice A n c) := by rw [hW2.out, hC]; go_simp
 have c1 : W2.cell? ⟨C, 1, none⟩ = some (.slice D m d) := by rw [hW2.out, hC]; go_simp
 have b0 : W2.cell? ⟨B, 0, none⟩ = some (.int .i64 st) := heap_cell 0 _ HK2.out (by rw [HL.out.eq, ← HST.out]; rfl)
 have b1 : W2.cell? ⟨B, 1, none⟩ = some (.int .i64 V) := heap_cell 1 _ HK2.out (by rw [HL.out.eq, ← HV.out]; rfl)
 (try rw [← hC])
 clear hW2 hC hbx HK HB hlt q14 q15
 cases ns with
 | nil =>
  obtain rfl : 0 = n := HNL.out
  have hr := HR.out
  clear HR
  simp only at hr
  by_cases m0 : m = 0
  ·subst m0
   by_cases s0 : st = 0
   ·subst s0
    obtain rfl : true = r := by rw [← hr]; rfl
    go_wp2
    go_ret
    exact ⟨rfl, HB2.out⟩
   by_cases s1 : st = 1
   ·subst s1
    obtain rfl : true = r := by rw [← hr]; rfl
    go_wp2
    go_ret
    exact ⟨rfl, HB2.out⟩
   by_cases s3 : st = 3
   ·subst s3
    obtain rfl : true = r := by rw [← hr]; rfl
    go_wp2
    go_ret
    exact ⟨rfl, HB2.out⟩
   by_cases s7 : st = 7
   ·subst s7
    obtain rfl : true = r := by rw [← hr]; rfl
    go_wp2
    go_ret
    exact ⟨rfl, HB2.out⟩
   have hrr : r = false := by
    rw [← hr]
    simp [s0, s1, s3, s7]
   subst hrr
   have t0 : (st == 0) = false := by simp [s0]
   have t1 : (st == 1) = false := by simp [s1]
   have t3 : (st == 3) = false := by simp [s3]
   have t7 : (st == 7) = false := by simp [s7]
   clear s0 s1 s3 s7
   go_wp2
   go_ret
   exact ⟨rfl, HB2.out⟩
  ·have m1 : ((m : Int) == 0) = false := by simp [m0]
   rw [decide_eq_false m0, Bool.false_and] at hr
   subst hr
   go_wp2
   go_ret
   exact ⟨rfl, HB2.out⟩
 | cons x xs =>
  obtain rfl : xs.length + 1 = n := HNL.out
  have hr := HR.out
  clear HR
  simp only at hr
  go_wp2_with fail
  obtain ⟨b, off, y, rfl, hb, hxk, hcell⟩ := HX.out.cmd 0 (Nat.succ_pos _)
  obtain rfl : x = y := by simpa using hxk
  have g0 := (HB2.out.cell (p := ⟨b, off + 0, none⟩) hb).trans (hcell 0 (by omega))
  have g1 := (HB2.out.cell (p := ⟨b, off + 1, none⟩) hb).trans (hcell 1 (by omega))
  have g2 := (HB2.out.cell (p := ⟨b, off + 2, none⟩) hb).trans (hcell 2 (by omega))
  have g3 := (HB2.out.cell (p := ⟨b, off + 3, none⟩) hb).trans (hcell 3 (by omega))
  have g4 := (HB2.out.cell (p := ⟨b, off + 4, none⟩) hb).trans (hcell 4 (by omega))
  have g5 := (HB2.out.cell (p := ⟨b, off + 5, none⟩) hb).trans (hcell 5 (by omega))
  have g6 := (HB2.out.cell (p := ⟨b, off + 6, none⟩) hb).trans (hcell 6 (by omega))
  have hb2 : b < W2.heap.size := Nat.lt_of_lt_of_le hb HB2.out.size
  obtain ⟨x0, x1, x2, x3, x4, x5, x6⟩ := x
  simp only [CmdS.cells, List.getElem?_cons_zero, List.getElem?_cons_succ, Nat.add_zero] at g0 g1 g2 g3 g4 g5 g6
  clear hxk hcell HX
  have HRR := Lib.hid hr
  clear hr
  obtain ⟨u, hu⟩ : ∃ u, xs.length + 1 = u := ⟨_, rfl⟩
  have hup : 0 < u := by omega
  try rw [hu] at h1 c0 ⊢
  clear hu
  go_region_held3 (fun w' => w'.cell? ⟨C, 0, none⟩ = some (.slice (some ⟨b, off, none⟩) u c) ∧ w'.cell? ⟨C, 1, none⟩ = some (.slice D m d) ∧ w'.cell? ⟨B, 1, none⟩ = some (.int .i64 V) ∧ w'.cell? ⟨b, off, none⟩ = some (.int .i64 x0) ∧ w'.cell? ⟨b, off + 1, none⟩ = some (.int .i64 x1) ∧ w'.cell? ⟨b, off + 2, none⟩ = some (.int .i64 x2) ∧ w'.cell? ⟨b, off + 3, none⟩ = some (.int .i64 x3) ∧ w'.cell? ⟨b, off + 4, none⟩ = some (.int .i64 x4) ∧ w'.cell? ⟨b, off + 5, none⟩ = some (.int .i64 x5) ∧ w'.cell? ⟨b, off + 6, none⟩ = some (.int .i64 x6)) (go_keep) (fail)
  generalize hW5 : (W2.alloc (.cells #[.int .i64 x0, .int .i64 x1, .int .i64 x2, .int .i64 x3, .int .i64 x4, .int .i64 x5, .int .i64 x6] 63)).drew = W5
  obtain ⟨E, hE⟩ : ∃ E, E = W2.heap.size := ⟨_, rfl⟩
  have hbx : Below W2.heap.size W2 W5 := by rw [← hW5]; exact belowBy
  have HB5 := Lib.hid (HB2.out.trans (hbx.mono HB2.out.size))
  have HK5 := Lib.hid ((hbx.block B hlt2).trans HK2.out)
  have HRG : Hid (W5.rangeAt B 0 L) := Lib.hid (fun j u hu => by
   rw [Nat.zero_add]
   exact heap_cell j u HK5.out (by rw [List.getElem?_toArray]; exact hu))
  have a0 := (hbx.cell (p := ⟨B, 0, none⟩) hlt2).trans b0
  have d1 : W5.cell? ⟨E, 1, none⟩ = some (.int .i64 x1) := by rw [← hW5, hE]; clear hW5; go_simp
  have d3 : W5.cell? ⟨E, 3, none⟩ = some (.int .i64 x3) := by rw [← hW5, hE]; clear hW5; go_simp
  have d6 : W5.cell? ⟨E, 6, none⟩ = some (.int .i64 x6) := by rw [← hW5, hE]; clear hW5; go_simp
  (try rw [← hE])
  have hr := HRR.out
  simp only at hr
  clear HRR hW5 hE hbx HB2 HK2 c0 c1 b0 b1 g0 g1 g2 g3 g4 g5 g6 hb hb2 hlt2 hltC
  by_cases m0 : m = 0
  ·subst m0
   simp only [decide_true, Bool.true_and] at hr
   by_cases s2 : st = 2
   ·subst s2
    obtain rfl : (x1 == 7) = r := by rw [← hr]; exact beq_decide x1 7
    clear hr
    go_wp2
    all_goals go_ret
    all_goals exact ⟨rfl, HB5.out⟩
   by_cases s3 : st = 3
   ·subst s3
    obtain rfl : (x1 == 6) = r := by rw [← hr]; exact beq_decide x1 6
    clear hr
    go_wp2
    all_goals go_ret
    all_goals exact ⟨rfl, HB5.out⟩
   by_cases s5 : st = 5
   ·subst s5
    simp only [show ¬ (5 : Int) = 2 by decide, show ¬ (5 : Int) = 3 by decide, if_false, if_true] at hr
    by_cases e1 : x1 = 4
    ·subst e1
     by_cases e2 : x3 = 0
     ·subst e2
      obtain rfl : false = r := by rw [← hr]; simp
      clear hr
      go_wp2
      go_ret
      exact ⟨rfl, HB5.out⟩
     have t2 : (x3 != 0) = true := by simp [e2]
     by_cases e3 : x3 ≤ V
     ·by_cases e4 : -V ≤ x3
      ·obtain rfl : true = r := by rw [← hr]; exact (decide_eq_true ⟨rfl, e2, e3, e4⟩).symm
       clear hr e2
       go_wp2
       go_ret
       exact ⟨rfl, HB5.out⟩
      ·obtain rfl : false = r := by rw [← hr]; exact (decide_eq_false (fun h => e4 h.2.2.2)).symm
       clear hr e2
       go_wp2
       go_ret
       exact ⟨rfl, HB5.out⟩
     ·obtain rfl : false = r := by rw [← hr]; exact (decide_eq_false (fun h => e3 h.2.2.1)).symm
      clear hr e2
      go_wp2
      go_ret
      exact ⟨rfl, HB5.out⟩
    ·obtain rfl : false = r := by rw [← hr]; exact (decide_eq_false (fun h => e1 h.1)).symm
     have t1 : (x1 == 4) = false := by simp [e1]
     clear hr e1
     go_wp2
     go_ret
     exact ⟨rfl, HB5.out⟩
   by_cases s6 : st = 6
   ·subst s6
    simp only [show ¬ (6 : Int) = 2 by decide, show ¬ (6 : Int) = 3 by decide, show ¬ (6 : Int) = 5 by decide, if_false, if_true] at hr
    by_cases e1 : x1 = 8
    ·subst e1
     by_cases e2 : 0 < x6
     ·obtain rfl : true = r := by rw [← hr]; exact (decide_eq_true ⟨rfl, e2⟩).symm
      clear hr
      go_wp2
      go_ret
      exact ⟨rfl, HB5.out⟩
     ·obtain rfl : false = r := by rw [← hr]; exact (decide_eq_false (fun h => e2 h.2)).symm
      clear hr
      go_wp2
      go_ret
      exact ⟨rfl, HB5.out⟩
    ·obtain rfl : false = r := by rw [← hr]; exact (decide_eq_false (fun h => e1 h.1)).symm
     have t1 : (x1 == 8) = false := by simp [e1]
     clear hr e1
     go_wp2
     go_ret
     exact ⟨rfl, HB5.out⟩
   by_cases s4 : st = 4
   ·subst s4
    simp only [show ¬ (4 : Int) = 2 by decide, show ¬ (4 : Int) = 3 by decide, show ¬ (4 : Int) = 5 by decide, show ¬ (4 : Int) = 6 by decide, if_false, if_true] at hr
    by_cases e1 : x1 = 5
    ·subst e1
     obtain rfl : true = r := by rw [← hr]; rfl
     clear hr
     go_wp2
     go_ret
     exact ⟨rfl, HB5.out⟩
    obtain rfl : mv = r := by rw [← hr, decide_eq_false e1]; rfl
    have t1 : (x1 == 5) = false := by simp [e1]
    clear hr e1
    go_wp2_with (first
     | refine wpList_load_midG 35 _ rfl B 0 rfl L _ HRG.out Tryz.underlying35 rfl HL.out.size (by kernel_rfl) ?_)
    refine (HM.out _ HB5.out).mono ?_
    rintro e w6 ⟨rfl, hb6⟩
    have HB6 := Lib.hid (HB5.out.trans (hb6.mono HB5.out.size))
    clear hb6
    go_wp2
    go_ret
    exact ⟨rfl, HB6.out⟩
   obtain rfl : false = r := by rw [← hr, if_neg s2, if_neg s3, if_neg s5, if_neg s6, if_neg s4]
   have t2 : (st == 2) = false := by simp [s2]
   have t3 : (st == 3) = false := by simp [s3]
   have t5 : (st == 5) = false := by simp [s5]
   have t6 : (st == 6) = false := by simp [s6]
   have t4 : (st == 4) = false := by simp [s4]
   clear s2 s3 s4 s5 s6 hr
   go_wp2
   go_ret
   exact ⟨rfl, HB5.out⟩
  ·have m1 : ((m : Int) == 0) = false := by simp [m0]
   simp only [decide_eq_false m0, Bool.false_and, Bool.false_or] at hr
   by_cases s4 : st = 4
   ·subst s4
    obtain rfl : mv = r := by rw [← hr]; rfl
    clear hr
    go_wp2_with (first
     | refine wpList_load_midG 35 _ rfl B 0 rfl L _ HRG.out Tryz.underlying35 rfl HL.out.size (by kernel_rfl) ?_)
    refine (HM.out _ HB5.out).mono ?_
    rintro e w6 ⟨rfl, hb6⟩
    have HB6 := Lib.hid (HB5.out.trans (hb6.mono HB5.out.size))
    clear hb6
    go_wp2
    go_ret
    exact ⟨rfl, HB6.out⟩
   ·obtain rfl : false = r := by
     rw [← hr, if_neg s4]
     simp
    clear hr
    have t4 : (st == 4) = false := by simp [s4]
    clear s4
    by_cases s2 : st = 2
    ·subst s2
     go_wp2
     go_ret
     exact ⟨rfl, HB5.out⟩
    by_cases s3 : st = 3
    ·subst s3
     go_wp2
     go_ret
     exact ⟨rfl, HB5.out⟩
    by_cases s5 : st = 5
    ·subst s5
     go_wp2
     go_ret
     exact ⟨rfl, HB5.out⟩
    by_cases s6 : st = 6
    ·subst s6
     go_wp2
     go_ret
     exact ⟨rfl, HB5.out⟩
    have t2 : (st == 2) = false := by simp [s2]
    have t3 : (st == 3) = false := by simp [s3]
    have t5 : (st == 5) = false := by simp [s5]
    have t6 : (st == 6) = false := by simp [s6]
    clear s2 s3 s5 s6
    go_wp2
    go_ret
    exact ⟨rfl, HB5.out⟩


theorem post_rowT {P : Program} {fn : Func} {R : Ending → World → Prop} {a : Act} {w : World} {p u : Tmp} {ty : TypeId} {g : Nat} {t : TypeId} {cs : Array Value} {fr : Nat × Nat} {d : TypeDesc} (h : fn.results = #[.cell p ty, .tmp u])
  (hp : a.tmps.getD p undef = .pointer (some ⟨g, 0, none⟩)) (hg : w.heap[g]? = some (.cells cs t fr)) (hu : P.underlying ty = some d) (hd : (match d with | .struct _ | .array _ _ => true | _ => false) = true) (hi : (P.info? ty).map (·.size) = some cs.size)
  (hdf : a.defers = []) (hR : R (.returned (.tuple #[.agg cs, a.tmps.getD u undef])) w) : bodyPost P fn R .ret a w := by
 refine bodyPost_ret (v := .tuple #[.agg cs, a.tmps.getD u undef]) ?_ hdf hR
 rw [results_cell_tmp h, hp]
 simp [asAddr, Result.andThen, run_loadVar_row w g t ty cs fr d hg hu hd hi]
def nilS : Value := .slice none 0 0
theorem zero_one : (axC zeroX nilS nilS nilS).toArray.all (·.oneCell') = true := axC_oneC _ _ _ _ rfl rfl rfl

def NewA (l : LimS) (win hat fast creep : Int) (w : World) (e : Ending) (w' : World) : Prop :=
 (madeB l win hat fast creep = true ∧ ∃ sv, e = .returned (.tuple #[.agg (axC (newX l win hat fast creep) sv nilS nilS).toArray, .int .i64 0]) ∧ SmV w' (List.replicate win.toNat 0) sv ∧ NewV w.heap.size sv) ∨
 (madeB l win hat fast creep = false ∧ e = .returned (.tuple #[.agg (axC zeroX nilS nilS nilS).toArray, .int .i64 1]))

set_option maxRecDepth 100000 in
theorem anew_any (l : LimS) (win hat fast creep : Int) (w : World) :
  Calls Tryz.prog 16 #[.agg #[.int .i64 l.v, .int .i64 l.a, .int .i64 l.d, .int .i64 l.lo, .int .i64 l.hi], .int .i64 win, .int .i64 hat, .int .i64 fast, .int .i64 creep] w fun e w' => NewA l win hat fast creep w e w' ∧ Below w.heap.size w w' := by
 have HNO : Hid (∀ w' : World, madeB l win hat fast creep = false → NewA l win hat fast creep w (.returned (.tuple #[.agg (axC zeroX nilS nilS nilS).toArray, .int .i64 1])) w') := Lib.hid (fun w' h => .inr ⟨h, rfl⟩)
 have HYES : Hid (∀ (w' : World) sv, madeB l win hat fast creep = true → SmV w' (List.replicate win.toNat 0) sv → NewV w.heap.size sv → NewA l win hat fast creep w (.returned (.tuple #[.agg (axC (newX l win hat fast creep) sv nilS nilS).toArray, .int .i64 0])) w') := Lib.hid (fun w' sv h h1 h2 => .inl ⟨h, sv, rfl, h1, h2⟩)
 obtain ⟨NA, hNA⟩ : ∃ N : Ending → World → Prop, N = NewA l win hat fast creep w := ⟨_, rfl⟩
 rw [← hNA] at HNO HYES
 show Calls Tryz.prog 16 #[.agg #[.int .i64 l.v, .int .i64 l.a, .int .i64 l.d, .int .i64 l.lo, .int .i64 l.hi], .int .i64 win, .int .i64 hat, .int .i64 fast, .int .i64 creep] w fun e w' => NewA l win hat fast creep w e w' ∧ Below w.heap.size w w'
 rw [← hNA]
 clear hNA
 go_enter Tryz.func16, Tryz.ntmps16
 go_upto_region 1 with (fail)
 refine wp_name fun W hW => ?_
 obtain ⟨B, hB⟩ : ∃ B, B = w.heap.size := ⟨_, rfl⟩
 have HB : Hid (Below w.heap.size w W) := by rw [hW.out]; exact Lib.hid (by exact belowBy)
 have hlt : B + 1 < W.heap.size := by rw [hW.out, hB]; simp
 obtain ⟨zs, hz1, hz2⟩ : ∃ zs : Array Value, W.heap[B + 1]? = some (.cells zs 35) ∧ zs.size = 26 := by
  rw [hW.out, hB]
  exact ⟨_, heap_alloc_atX (by simp), rfl⟩
 have c0 : W.heap[B]? = some (.cells #[.int .i64 l.v, .int .i64 l.a, .int .i64 l.d, .int .i64 l.lo, .int .i64 l.hi] 23) := by
  rw [hW.out, hB]; exact heap_alloc2_old w _ _
 have HZ1 := Lib.hid hz1
 have HZ2 := Lib.hid hz2
 have HC0 := Lib.hid c0
 (try rw [← hB])
 have HBw := Lib.hid hB
 clear hW hB hz1 hz2 c0
 by_cases hwin : 1 ≤ win ∧ win ≤ 16
 ·obtain ⟨m, hm⟩ : ∃ m : Nat, win = (m : Int) := ⟨win.toNat, by omega⟩
  subst hm
  have HW := Lib.hid hwin
  go_wp2_with fail
  refine (sm_new_at 0 m _ (by omega) rfl).mono ?_
  rintro e w1 ⟨g, rfl, hg, hb1, hcur⟩
  have HB1 := Lib.hid (HB.out.trans (hb1.mono HB.out.size))
  have HZ := Lib.hid ((hb1.block (B + 1) hlt).trans HZ1.out)
  have HC1 := Lib.hid ((hb1.block B (by omega)).trans HC0.out)
  have hlt1 : B + 1 < w1.heap.size := Nat.lt_of_lt_of_le hlt hb1.size
  have HSM : Hid (SmV w1 (List.replicate (m : Int).toNat 0) (.slice (some ⟨g, 0, none⟩) m m) ∧ B + 2 ≤ g ∧ g < w1.heap.size) := Lib.hid (by
   have hgl : g < w1.heap.size := (Array.getElem?_eq_some_iff.1 hcur.out).1
   refine ⟨⟨some ⟨g, 0, none⟩, m, by simp, by simp, by omega, by simp [intsC], fun hn => ⟨g, 0, rfl, hgl, fun j u hu => ?_⟩⟩, by omega, hgl⟩
   have e0 : intsC (List.replicate (m : Int).toNat 0) = curK 0 m m := by simp [intsC, curK]
   rw [e0] at hu
   rw [Nat.zero_add]
   exact heap_cell j u hcur.out (by rw [List.getElem?_toArray]; exact hu))
  clear hb1 HZ1 HB HC0 hlt hg hcur
  go_upto_region 2 with (fail)
  refine wp_name fun W2 hW2 => ?_
  obtain ⟨D, hD⟩ : ∃ D, D = w1.heap.size := ⟨_, rfl⟩
  have hbx : Below w1.heap.size w1 W2 := by rw [hW2.out]; exact belowBy
  have HB2 := Lib.hid (HB1.out.trans (hbx.mono HB1.out.size))
  have HZW := Lib.hid ((hbx.block (B + 1) hlt1).trans HZ.out)
  have HCW := Lib.hid ((hbx.block B (by omega)).trans HC1.out)
  have HSW := Lib.hid (HSM.out.1.below hbx)
  have hgB := HSM.out.2.1
  have hD0 : Hid (W2.cell? ⟨D, 0, none⟩ = some (.slice (some ⟨g, 0, none⟩) m m)) := Lib.hid (by rw [hW2.out, hD]; go_simp)
  have hlt2 : B + 1 < W2.heap.size := Nat.lt_of_lt_of_le hlt1 hbx.size
  have hDW : D < W2.heap.size := by rw [hW2.out, hD]; simp
  have hDB : B + 1 < D := by rw [hD]; exact hlt1
  (try rw [← hD])
  clear hW2 hD hbx HB1 HZ HC1 HSM hlt1
  have c0 := heap_cell 0 _ HCW.out rfl
  have c1 := heap_cell 1 _ HCW.out rfl
  have c2 := heap_cell 2 _ HCW.out rfl
  have c3 := heap_cell 3 _ HCW.out rfl
  have c4 := heap_cell 4 _ HCW.out rfl
  obtain ⟨q, hq⟩ : ∃ q, rightB ⟨l.v, l.a, l.d, l.lo, l.hi⟩ = q := ⟨_, rfl⟩
  have HQ := Lib.hid hq
  clear hq
  go_wp2_with fail
  refine (gright_at _ _ _ _ _ _ q HQ.out).mono ?_
  rintro e w3 ⟨rfl, hb3⟩
  have HZ3 := Lib.hid ((hb3.block (B + 1) hlt2).trans HZW.out)
  have HC3 := Lib.hid ((hb3.block B (by omega)).trans HCW.out)
  have HS3 := Lib.hid (HSW.out.below hb3)
  have HB3 := Lib.hid (HB2.out.trans (hb3.mono HB2.out.size))
  have HD3 := Lib.hid ((hb3.cell (p := ⟨D, 0, none⟩) hDW).trans hD0.out)
  have hlt3 : B + 1 < w3.heap.size := Nat.lt_of_lt_of_le hlt2 hb3.size
  have hD3 : D < w3.heap.size := Nat.lt_of_lt_of_le hDW hb3.size
  have hbf : Below B w w3 := by rw [HBw.out]; exact HB3.out
  clear hb3 HZW HCW HSW HB2 hlt2 c0 c1 c2 c3 c4 hD0 hDW
  have c3 := heap_cell 3 _ HC3.out rfl
  have c4 := heap_cell 4 _ HC3.out rfl
  have hmd : madeB l m hat fast creep = (q && decide (l.lo ≤ hat ∧ hat ≤ l.hi) && homeB 0 fast creep) := by
   unfold madeB
   rw [decide_eq_true HW.out, Bool.true_and]
   exact congrArg (fun b => b && decide (l.lo ≤ hat ∧ hat ≤ l.hi) && homeB 0 fast creep) HQ.out
  cases q
  ·have hmn : madeB l m hat fast creep = false := by rw [hmd]; rfl
   have HMN := Lib.hid (HNO.out · hmn)
   clear HNO HYES hmn
   go_wp2_with (refine wpList_store_row rfl 35 _ _ rfl (B + 1) (axC zeroX nilS nilS nilS).toArray rfl rfl 35 _ HZ3.out axis_size HZ2.out zero_one ?_)
   refine post_rowT rfl rfl (setRow_heap _ _ _ _ _ _ HZ3.out) Tryz.underlying35 rfl axis_size rfl ⟨HMN.out _, ?_⟩
   rw [← HBw.out]
   exact below_setRow hbf (Nat.le_succ _) _
  by_cases e1 : hat < l.lo
  ·have hmn : madeB l m hat fast creep = false := by rw [hmd, decide_eq_false (by omega)]; rfl
   have HMN := Lib.hid (HNO.out · hmn)
   clear HNO HYES hmn
   go_wp2_with (refine wpList_store_row rfl 35 _ _ rfl (B + 1) (axC zeroX nilS nilS nilS).toArray rfl rfl 35 _ HZ3.out axis_size HZ2.out zero_one ?_)
   refine post_rowT rfl rfl (setRow_heap _ _ _ _ _ _ HZ3.out) Tryz.underlying35 rfl axis_size rfl ⟨HMN.out _, ?_⟩
   rw [← HBw.out]
   exact below_setRow hbf (Nat.le_succ _) _
  by_cases e2 : l.hi < hat
  ·have hmn : madeB l m hat fast creep = false := by rw [hmd, decide_eq_false (by omega)]; rfl
   have HMN := Lib.hid (HNO.out · hmn)
   clear HNO HYES hmn
   go_wp2_with (refine wpList_store_row rfl 35 _ _ rfl (B + 1) (axC zeroX nilS nilS nilS).toArray rfl rfl 35 _ HZ3.out axis_size HZ2.out zero_one ?_)
   refine post_rowT rfl rfl (setRow_heap _ _ _ _ _ _ HZ3.out) Tryz.underlying35 rfl axis_size rfl ⟨HMN.out _, ?_⟩
   rw [← HBw.out]
   exact below_setRow hbf (Nat.le_succ _) _
  rw [decide_eq_true (show l.lo ≤ hat ∧ hat ≤ l.hi by omega)] at hmd
  go_wp2_with fail
  cases hh : homeB 0 fast creep
  ·have HMN := Lib.hid (HNO.out · (by rw [hmd, hh]; rfl))
   clear HNO HYES hmd
   refine (hnew_no fast creep _ hh).mono ?_
   rintro e w4 ⟨rfl, hb4⟩
   clear hh
   have HZ4 := Lib.hid ((hb4.block (B + 1) hlt3).trans HZ3.out)
   have hbf4 : Below B w w4 := hbf.trans (hb4.mono (by omega))
   have hlt4 : B + 1 < w4.heap.size := Nat.lt_of_lt_of_le hlt3 hb4.size
   clear hb4 c3 c4 HZ3 HC3 HD3 HB3 HS3
   have HZA : Hid (∀ x, (w4.alloc x).heap[B + 1]? = some (.cells zs 35)) := Lib.hid (fun x => ((below_new (Below.refl _ _) (Nat.le_refl _) _).block (B + 1) hlt4).trans HZ4.out)
   go_wp2_with (refine wpList_store_row rfl 35 _ _ rfl (B + 1) (axC zeroX nilS nilS nilS).toArray rfl rfl 35 _ (HZA.out _) axis_size HZ2.out zero_one ?_)
   refine post_rowT rfl rfl (setRow_heap _ _ _ _ _ _ (HZA.out _)) Tryz.underlying35 rfl axis_size rfl ⟨HMN.out _, ?_⟩
   rw [← HBw.out]
   exact below_setRow (below_new hbf4 (Nat.le_of_eq HBw.out) _) (Nat.le_succ _) _
  ·have HMY := Lib.hid (HYES.out · (.slice (some ⟨g, 0, none⟩) m m) (by rw [hmd, hh]; rfl))
   clear HNO HYES hmd
   refine (hnew_yes fast creep _ hh).mono ?_
   rintro e w4 ⟨rfl, hb4⟩
   clear hh
   have HZ4 := Lib.hid ((hb4.block (B + 1) hlt3).trans HZ3.out)
   have HC4 := Lib.hid ((hb4.block B (by omega)).trans HC3.out)
   have HD4 := (hb4.cell (p := ⟨D, 0, none⟩) hD3).trans HD3.out
   have HS4 := Lib.hid (HS3.out.below hb4)
   have hbf4 : Below B w w4 := hbf.trans (hb4.mono (by omega))
   have hlt4 : B + 1 < w4.heap.size := Nat.lt_of_lt_of_le hlt3 hb4.size
   have hD4 : D < w4.heap.size := Nat.lt_of_lt_of_le hD3 hb4.size
   have hB4 : B < w4.heap.size := by omega
   clear hb4 c3 c4 HZ3 HC3 HD3 HB3 HS3
   have HZA : Hid (∀ x, (w4.alloc x).heap[B + 1]? = some (.cells zs 35)) := Lib.hid (fun x => ((below_new (Below.refl _ _) (Nat.le_refl _) _).block (B + 1) hlt4).trans HZ4.out)
   have c0 := heap_cell 0 _ HC4.out rfl
   have c1 := heap_cell 1 _ HC4.out rfl
   have c2 := heap_cell 2 _ HC4.out rfl
   have c3 := heap_cell 3 _ HC4.out rfl
   have c4 := heap_cell 4 _ HC4.out rfl
   go_wp2_with (refine wpList_store_row rfl 35 _ _ rfl (B + 1) (axC (newX l m hat fast creep) (.slice (some ⟨g, 0, none⟩) m m) nilS nilS).toArray rfl rfl 35 _ (HZA.out _) axis_size HZ2.out (axC_oneC _ _ _ _ rfl rfl rfl) ?_)
   refine post_rowT rfl rfl (setRow_heap _ _ _ _ _ _ (HZA.out _)) Tryz.underlying35 rfl axis_size rfl ⟨HMY.out _ ?_ ?_, ?_⟩
   ·have hsr : SmR w4 (List.replicate (m : Int).toNat 0) (B + 2) (.slice (some ⟨g, 0, none⟩) m m) := ⟨HS4.out, fun b o n c _ e => by
     injection e with e1
     injection e1 with e1
     injection e1 with e1
     omega⟩
    exact SmR.row ⟨hsr.1.below (below_new (Below.refl _ _) (Nat.le_refl _) _), hsr.2⟩ (by omega)
   ·intro b o n c _ e
    injection e with e1
    injection e1 with e1
    injection e1 with e1
    have := HBw.out
    omega
   ·rw [← HBw.out]
    exact below_setRow (below_new hbf4 (Nat.le_of_eq HBw.out) _) (Nat.le_succ _) _
 ·have hmn : madeB l win hat fast creep = false := by unfold madeB; rw [decide_eq_false hwin]; rfl
  have HMN := Lib.hid (HNO.out · hmn)
  have hsn : (decide (1 ≤ win ∧ win ≤ 16) && plB 0) = false := by rw [decide_eq_false hwin]; rfl
  clear HNO HYES hmn hwin
  go_wp2_with fail
  refine (sm_new_no 0 win _ hsn).mono ?_
  rintro e w1 ⟨rfl, hb1⟩
  clear hsn
  have HB1 := Lib.hid (HB.out.trans (hb1.mono HB.out.size))
  have HZ := Lib.hid ((hb1.block (B + 1) hlt).trans HZ1.out)
  have hlt1 : B + 1 < w1.heap.size := Nat.lt_of_lt_of_le hlt hb1.size
  clear hb1 HZ1 HB HC0 hlt
  have HZA : Hid (∀ x, (w1.alloc x).heap[B + 1]? = some (.cells zs 35)) := Lib.hid (fun x => ((below_new (Below.refl _ _) (Nat.le_refl _) _).block (B + 1) hlt1).trans HZ.out)
  go_wp2_with (refine wpList_store_row rfl 35 _ _ rfl (B + 1) (axC zeroX nilS nilS nilS).toArray rfl rfl 35 _ (HZA.out _) axis_size HZ2.out zero_one ?_)
  have hbf : Below B w w1 := by rw [HBw.out]; exact HB1.out
  refine post_rowT rfl rfl (setRow_heap _ _ _ _ _ _ (HZA.out _)) Tryz.underlying35 rfl axis_size rfl ⟨HMN.out _, ?_⟩
  rw [← HBw.out]
  exact below_setRow (below_new hbf (Nat.le_of_eq HBw.out) _) (Nat.le_succ _) _

end Go.Proofs.YthhfnageadckkaaGreat
