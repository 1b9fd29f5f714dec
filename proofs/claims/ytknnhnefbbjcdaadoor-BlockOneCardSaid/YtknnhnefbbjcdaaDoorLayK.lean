/- Layer 20, the reference: the check of a program: if it finds nothing, names differ and cells are few. -/
import Derived.Test.YtknnhnefbbjcdaaDoorLayJ
import Derived.Test.YtknnhnefbbjcdaaDoorM39
namespace Go.Proofs.YtknnhnefbbjcdaaDoor
open Go.RowKit
set_option linter.unusedVariables false
set_option linter.unusedSimpArgs false
attribute [local go_sem] ite_max ite_min vite_max vite_min ext_cell ext_frozen extS_cell extS_frozen

theorem RowV.take {w : World} {A : Option Addr} {xs : List VarS} {cap : Nat} (h : RowV w A xs cap) (i : Nat) (hi : i ≤ xs.length) : RowV w A (xs.take i) cap := by
 obtain ⟨h1, h2, h3, f, h4, h5⟩ := h
 have hl : (xs.take i).length = i := by simp; omega
 refine ⟨by omega, h2, by rw [hl]; omega, f, fun hne => ?_, fun j x hx => h5 j x ?_⟩
 ·obtain ⟨b, off, ha, hb, hc⟩ := h4 (by intro he; rw [he] at hne; simp at hne)
  exact ⟨b, off, ha, hb, fun k hk => hc k (by rw [hl] at hk; omega)⟩
 ·have hj : j < i := by have := (List.getElem?_eq_some_iff.1 hx).1; omega
  rwa [List.getElem?_take_of_lt hj] at hx
theorem cellsN_few {v : VarS} (h : ArrOk v) : cellsN v ≤ 256 := by
 unfold cellsN
 split
 ·rename_i ha
  obtain ⟨h1, h2, h3⟩ := h ha
  omega
 ·split
  ·have := rcount_few v.type; omega
  ·omega
def ErrC (vs : List VarS) (e : Ending) : Prop := ∃ a b, e = .returned (.agg #[.int .i64 a, .int .i64 b]) ∧ (a = 0 → DiffN vs ∧ sumN vs ≤ 1024)

set_option maxRecDepth 100000 in
set_option maxHeartbeats 4000000 in
theorem check20_any (p : Prg) (cs : List Value) (w : World) (h : PrgAt w p cs) (hfit : FitP p) : Calls Tryd.prog 13 #[.agg cs.toArray] w fun e w' => ErrC p.vars e ∧ Below w.heap.size w w' := by
 obtain ⟨Av, kv, Ab, kb, rfl, hv, hbd⟩ := h
 have HRV := Lib.hid hv
 have HRB := Lib.hid hbd
 have HFIT := Lib.hid hfit
 have hv1 := hv.1
 have hv2 := hv.2.1
 obtain ⟨n, hn⟩ : ∃ n, p.vars.length = n := ⟨_, rfl⟩
 obtain ⟨nb, hnb⟩ : ∃ n, p.body.length = n := ⟨_, rfl⟩
 have HST : Hid (∀ W, Below w.heap.size w W → Calls Tryd.prog 34 #[.slice Av n kv, .slice Ab nb kb, .bool false] W fun e w' => ErrR e ∧ Below W.heap.size W w') := Lib.hid (fun W hW => by have := stmts20_any p.body hfit.body p.vars W Av kv (hv.below hW) Ab kb false (hbd.below hW); rwa [hn, hnb] at this)
 have HCE : Hid (∀ v ∈ p.vars, ∀ W, Calls Tryd.prog 33 #[.agg v.cells.toArray] W fun e w' => e = .returned (.int .i64 (cellsN v)) ∧ Below W.heap.size W w') := Lib.hid (fun v hvm W => cells20_any v (hfit.vars v hvm).arrOk W)
 have HFE : Hid (∀ v ∈ p.vars, cellsN v ≤ 256) := Lib.hid (fun v hvm => cellsN_few (hfit.vars v hvm).arrOk)
 have HFI : Hid (∀ i nm W, i ≤ n → Below w.heap.size w W → Calls Tryd.prog 32 #[.slice Av i kv, .string nm] W fun e w' => e = .returned (findR (findV (p.vars.take i) nm)) ∧ Below W.heap.size W w') := Lib.hid (fun i nm W hi hW => by
  have := find20_any (p.vars.take i) nm W Av kv ((hv.below hW).take i (by omega))
  rwa [show (p.vars.take i).length = i by simp; omega] at this)
 rw [hn] at hv1
 have HN := Lib.hid hn
 show Calls Tryd.prog 13 #[.agg #[.string p.name, .slice Av p.vars.length kv, .slice Ab p.body.length kb]] w _
 rw [hn, hnb]
 have hn64 : n ≤ 64 := by rw [← hn]; exact hfit.vl
 clear hv hbd hfit hn hnb
 go_enter Tryd.func13, Tryd.ntmps13
 go_upto_region 1 with (fail)
 refine wp_name fun W hW => ?_
 obtain ⟨B, hB⟩ : ∃ B, B = w.heap.size := ⟨_, rfl⟩
 have hB1 : B + 1 = w.heap.size + 1 := by omega
 have HP : Hid (∀ W', Below W.heap.size W W' → W'.cell? ⟨B, 1, none⟩ = some (.slice Av n kv) ∧ W'.cell? ⟨B, 2, none⟩ = some (.slice Ab nb kb) ∧ B < W'.heap.size) := Lib.hid (fun W' hW' => by
  have hl : B < W.heap.size := by rw [hW.out, hB]; simp; omega
  exact ⟨(hW'.cell (p := ⟨B, 1, none⟩) hl).trans (by rw [hW.out, hB]; go_simp), (hW'.cell (p := ⟨B, 2, none⟩) hl).trans (by rw [hW.out, hB]; go_simp), Nat.lt_of_lt_of_le hl hW'.size⟩)
 have hR : ResV W (B + 1) := by
  refine ⟨by rw [hW.out, hB]; simp, ?_, ?_, ?_, ?_⟩
  all_goals (rw [hW.out, hB1]; go_simp)
 have hbel : Below w.heap.size w W := by rw [hW.out]; exact belowBy
 have HR := Lib.hid hR
 have HB := Lib.hid hbel
 rw [show w.heap.size + 1 = B + 1 by omega, ← hB]
 have hwB : w.heap.size ≤ B := by omega
 clear hW hR hbel hB hB1
 go_upto_region 3 with (fail)
 go_loopw [3, 4] (fun vc vi wr => ∃ (i c : Nat), i ≤ n ∧ vi = .int .i64 i ∧ vc = .int .i64 c ∧ c ≤ 1024 ∧ Hid (c = sumN (p.vars.take i) ∧ ∀ j v, j < i → p.vars[j]? = some v → findV (p.vars.take j) v.name = none) ∧ Below W.heap.size W wr) (fun _ vi _ => n - (intOf vi).toNat)
 case atStart => exact ⟨0, 0, by omega, rfl, rfl, by omega, Lib.hid ⟨rfl, fun j v hj => by omega⟩, Below.refl _ _⟩
 case round =>
  obtain ⟨i, c, hi, rfl, rfl, hc, HC, hbr⟩ := hrel
  have HS := Lib.hid hbr
  have HRr := Lib.hid (HR.out.below hbr)
  have HBr := Lib.hid (HB.out.trans (hbr.mono HB.out.size))
  obtain ⟨p1, p2, lB⟩ := HP.out wr hbr
  have r0 := HRr.out.r0
  have r1 := HRr.out.r1
  have q0 := HRr.out.q0
  have q1 := HRr.out.q1
  have lB1 := HRr.out.lt
  have hz := HBr.out.size
  clear hbr
  by_cases hlt : i < n
  ·obtain ⟨b, off, v, rfl, hbl, hx, hrg⟩ := RowV.at8 (HRV.out.below HBr.out) (i := i) (by rw [HN.out]; exact hlt)
   have hi0 : (0 : Int) ≤ (i : Int) ∧ (i : Int) < (n : Int) := by omega
   have HX := Lib.hid hx
   have HRG := Lib.hid hrg
   obtain ⟨nm, hnm⟩ : ∃ s, v.name = s := ⟨_, rfl⟩
   obtain ⟨ln, hln⟩ : ∃ s, v.line = s := ⟨_, rfl⟩
   have x0 : wr.cell? ⟨b, off + i * 8, none⟩ = some (.string nm) := by rw [← hnm]; exact hrg 0 _ rfl
   have x7 : wr.cell? ⟨b, off + i * 8 + 7, none⟩ = some (.int .i64 ln) := by rw [← hln]; exact hrg 7 _ rfl
   obtain ⟨fv, hfv⟩ : ∃ r, findV (p.vars.take i) nm = r := ⟨_, rfl⟩
   have HF : Hid (∀ W', Below wr.heap.size wr W' → Calls Tryd.prog 32 #[.slice (some ⟨b, off, none⟩) i kv, .string nm] W' fun e w' => e = .returned (findR fv) ∧ Below W'.heap.size W' w') := Lib.hid (fun W' hW' => by have := HFI.out i nm W' (by omega) (HBr.out.trans (hW'.mono HBr.out.size)); rwa [hfv] at this)
   have HFV := Lib.hid hfv
   have HNM := Lib.hid hnm
   clear hx hrg hnm hln hfv
   go_upto_region 5 with (fail)
   cases fv
   ·skip
    replace HF : Hid (∀ W', Below wr.heap.size wr W' → Calls Tryd.prog 32 #[.slice (some ⟨b, off, none⟩) i kv, .string nm] W' fun e w' => e = .returned (.tuple #[.agg #[.string ⟨#[]⟩, .int .i64 0, .int .i64 0, .bool false, .int .i64 0, .int .i64 0, .int .i64 0, .int .i64 0], .bool false]) ∧ Below W'.heap.size W' w') := HF
    refine wp_region_wild 15 13 ([{ i := 13, d := 27, R := isVal (.bool false), N := (fun _ => []) }, { i := 14, d := 5, R := isVar (.cells #[.string ⟨#[]⟩, .int .i64 0, .int .i64 0, .bool false, .int .i64 0, .int .i64 0, .int .i64 0, .int .i64 0] 45), N := newB }] : List Wd) [false, false, false, false, false, false, false, false, false, false, false, false, false, true, true] rfl (by kernel_rfl) (by kernel_rfl) (fun _ _ _ _ _ h => h) (by kernel_rfl) ?_ ?_
    ·intro x hx v w1 w2 hR hb
     simp only [List.mem_cons, List.not_mem_nil, or_false] at hx
     rcases hx with rfl | rfl
     all_goals (dsimp only at hR ⊢; exact hR.below hb)
    apply Exists.intro
    refine ⟨fun S hS hne => ?_, ?_, ?_, ?_⟩
    ·simp only [List.take_succ_cons, List.take_zero, List.map_cons, List.map_nil]
     delta CS
     repeat (first | with_reducible refine mask_skip ?_ | ((with_reducible refine mask_keep ?_); go_big_quiet_step ((go_at_call 32; exact extS_call hS (HF.out _ (extS_below _))))))
     exact mask_nil rfl
    ·skip
     intro x hx he
     simp only [List.mem_cons, List.not_mem_nil, or_false] at hx
     rcases hx with rfl | rfl
     all_goals (dsimp only at he; first | (exact absurd he (by decide)) | clear he)
     intro o ho
     simp only [List.getElem?_cons_succ, List.getElem?_cons_zero, Option.some.injEq] at ho
     subst ho
     intro vs w' hbw hdeps
     simp only [putsF, List.foldl_cons, List.foldl_nil]
     simp only [List.forall_mem_cons, List.not_mem_nil, false_implies, implies_true, and_true] at hdeps
     obtain ⟨dp0, dp1⟩ := hdeps
     clear dp0 dp1
     refine ⟨.bool false, fun u => ?_⟩
     go_simp
    ·skip
     simp only [List.forall_mem_cons, List.not_mem_nil, false_implies, implies_true, and_true]
     refine ⟨?_, ?_⟩
     all_goals
      intro o ho
      simp only [List.getElem?_cons_succ, List.getElem?_cons_zero, Option.some.injEq] at ho
      subst ho
      intro vs w' hbw hdeps
      simp only [putsF, List.foldl_cons, List.foldl_nil]
      refine ⟨by first | rfl | go_simp, ?_⟩
      first | with_reducible refine wild_plain ?_ | with_reducible refine wild_link ?_
      clear hdeps
      go_simp
     ·exact wildUpon_value ⟨⟨rfl, trivial⟩, Below.refl _ _, fun b hb => by cases hb⟩
     ·exact wild_var
    ·skip
     intro vs w' hbw hr hap hlk
     simp only [List.forall_mem_cons, List.not_mem_nil, false_implies, implies_true, and_true] at hr hap
     obtain ⟨hh13, ⟨hh14, n14⟩⟩ := hr
     obtain ⟨e13, t13⟩ := hh13
     obtain ⟨q, e14, hobj⟩ := hh14
     rw [e14] at n14
     clear hlk
     try simp only [e13, e14] at hap
     try simp only [newB_ptr, newB_row, newB_win, newB_win2, List.mem_cons, forall_eq_or_imp, or_false, List.mem_singleton, forall_eq, List.not_mem_nil, false_implies, implies_true, not_false_eq_true, and_true, true_and] at n14 hap
     try simp only [ne_eq, not_true_eq_false, false_implies, true_and, and_true, Nat.reduceEqDiff, not_false_eq_true, forall_const] at hap
     simp only [putsF, List.foldl_cons, List.foldl_nil, e13, e14, List.drop_succ_cons, List.drop_zero]
     clear e13 e14
     clear t13
     have hqr : wr.heap.size ≤ q := n14.1
     have HOBJ := Lib.hid hobj
     have hbw' := Lib.hid hbw
     have y0 := heap_cell 0 _ hobj rfl
     have y1 := heap_cell 1 _ hobj rfl
     have y2 := heap_cell 2 _ hobj rfl
     have y3 := heap_cell 3 _ hobj rfl
     have y4 := heap_cell 4 _ hobj rfl
     have y5 := heap_cell 5 _ hobj rfl
     have y6 := heap_cell 6 _ hobj rfl
     have y7 := heap_cell 7 _ hobj rfl
     have yf : ∀ o, w'.frozen? ⟨q, o, none⟩ = false := fun o => heap_free o hobj
     go_upto_region 6 with (fail)
     refine wp_name fun W4 hWn => ?_
     have hb4 : Below wr.heap.size wr W4 := by rw [hWn.out]; exact belowBy
     clear hWn y0 y1 y2 y3 y4 y5 y6 y7 yf hobj n14 hbw hbw' HOBJ
     have HS4 := Lib.hid (HS.out.trans (hb4.mono HS.out.size))
     have HR4 := Lib.hid (HRr.out.below hb4)
     have HB4 := Lib.hid (HBr.out.trans (hb4.mono HBr.out.size))
     replace x0 := (hb4.cell (p := ⟨b, off + i * 8, none⟩) hbl).trans x0
     replace x7 := (hb4.cell (p := ⟨b, off + i * 8 + 7, none⟩) hbl).trans x7
     have hbl4 : b < W4.heap.size := Nat.lt_of_lt_of_le hbl hb4.size
     have HRG4 : Hid (W4.rangeAt b (off + i * 8) v.cells) := Lib.hid (fun j u hu => (hb4.cell (p := ⟨b, _, none⟩) hbl).trans (HRG.out j u hu))
     clear p1 p2 lB r0 r1 q0 q1 lB1 hz hb4 HRr HBr HRG
     obtain ⟨p1, p2, lB⟩ := HP.out W4 HS4.out
     have r0 := HR4.out.r0
     have r1 := HR4.out.r1
     have q0 := HR4.out.q0
     have q1 := HR4.out.q1
     have lB1 := HR4.out.lt
     have hz := HB4.out.size
     go_wp2_with (refine wpList_load_mid rfl 45 _ rfl b (off + i * 8) rfl v.cells _ HRG4.out Tryd.underlying45 rfl var_size8 ?_)
     refine (HCE.out v (List.mem_of_getElem? HX.out) _).mono ?_
     rintro e w5 ⟨rfl, hb5⟩
     obtain ⟨cv, hcv⟩ : ∃ x, cellsN v = x := ⟨_, rfl⟩
     have hcv2 : cv ≤ 256 := by rw [← hcv]; exact HFE.out v (List.mem_of_getElem? HX.out)
     rw [hcv]
     have HCV := Lib.hid hcv
     clear hcv
     have HS5 := Lib.hid (HS4.out.trans (hb5.mono HS4.out.size))
     have HR5 := Lib.hid (HR4.out.below hb5)
     have HB5 := Lib.hid (HB4.out.trans (hb5.mono HB4.out.size))
     replace x7 := (hb5.cell (p := ⟨b, off + i * 8 + 7, none⟩) hbl4).trans x7
     clear p1 p2 lB r0 r1 q0 q1 lB1 hz hb5 HR4 HB4 HS4 HRG4 x0
     obtain ⟨p1, p2, lB⟩ := HP.out w5 HS5.out
     have r0 := HR5.out.r0
     have r1 := HR5.out.r1
     have q0 := HR5.out.q0
     have q1 := HR5.out.q1
     have lB1 := HR5.out.lt
     have hz := HB5.out.size
     by_cases hbig : 1024 < c + cv
     ·have hbig2 : (1024 : Int) < (c : Int) + (cv : Int) := by omega
      go_wp2
      refine bodyPost_ret (v := .agg #[.int .i64 13, .int .i64 ln]) (by simp [results, Tryd.results13, go_sem, r0, r1, q0, q1, lB1]) rfl ⟨⟨_, _, rfl, fun h => absurd h (by decide)⟩, by have hq := HB5.out; exact belowBy⟩
     ·have hbig2 : ¬ (1024 : Int) < (c : Int) + (cv : Int) := by omega
      go_wp2
      go_roundw
      case rel =>
       refine ⟨i + 1, c + cv, by omega, by go_num, by go_num, by omega, Lib.hid ⟨by rw [sumN_take HX.out, ← HC.out.1, HCV.out], fun j u hj hu => ?_⟩, HS5.out⟩
       rcases Nat.lt_succ_iff_lt_or_eq.1 hj with h | rfl
       ·exact HC.out.2 j u h hu
       ·rw [HX.out] at hu
        cases hu
        rw [HNM.out]
        exact HFV.out
      case measure => simp [intOf]; omega
   ·skip
    rename_i v'
    replace HF : Hid (∀ W', Below wr.heap.size wr W' → Calls Tryd.prog 32 #[.slice (some ⟨b, off, none⟩) i kv, .string nm] W' fun e w' => e = .returned (.tuple #[.agg v'.cells.toArray, .bool true]) ∧ Below W'.heap.size W' w') := HF
    refine wp_region_wild 15 13 ([{ i := 13, d := 27, R := isVal (.bool true), N := (fun _ => []) }, { i := 14, d := 5, R := isVar (.cells #[.string ⟨#[]⟩, .int .i64 0, .int .i64 0, .bool false, .int .i64 0, .int .i64 0, .int .i64 0, .int .i64 0] 45), N := newB }] : List Wd) [false, false, false, false, false, false, false, false, false, false, false, false, false, true, true] rfl (by kernel_rfl) (by kernel_rfl) (fun _ _ _ _ _ h => h) (by kernel_rfl) ?_ ?_
    ·intro x hx v w1 w2 hR hb
     simp only [List.mem_cons, List.not_mem_nil, or_false] at hx
     rcases hx with rfl | rfl
     all_goals (dsimp only at hR ⊢; exact hR.below hb)
    apply Exists.intro
    refine ⟨fun S hS hne => ?_, ?_, ?_, ?_⟩
    ·simp only [List.take_succ_cons, List.take_zero, List.map_cons, List.map_nil]
     delta CS
     repeat (first | with_reducible refine mask_skip ?_ | ((with_reducible refine mask_keep ?_); go_big_quiet_step ((go_at_call 32; exact extS_call hS (HF.out _ (extS_below _))))))
     exact mask_nil rfl
    ·skip
     intro x hx he
     simp only [List.mem_cons, List.not_mem_nil, or_false] at hx
     rcases hx with rfl | rfl
     all_goals (dsimp only at he; first | (exact absurd he (by decide)) | clear he)
     intro o ho
     simp only [List.getElem?_cons_succ, List.getElem?_cons_zero, Option.some.injEq] at ho
     subst ho
     intro vs w' hbw hdeps
     simp only [putsF, List.foldl_cons, List.foldl_nil]
     simp only [List.forall_mem_cons, List.not_mem_nil, false_implies, implies_true, and_true] at hdeps
     obtain ⟨dp0, dp1⟩ := hdeps
     clear dp0 dp1
     refine ⟨.bool true, fun u => ?_⟩
     go_simp
    ·skip
     simp only [List.forall_mem_cons, List.not_mem_nil, false_implies, implies_true, and_true]
     refine ⟨?_, ?_⟩
     all_goals
      intro o ho
      simp only [List.getElem?_cons_succ, List.getElem?_cons_zero, Option.some.injEq] at ho
      subst ho
      intro vs w' hbw hdeps
      simp only [putsF, List.foldl_cons, List.foldl_nil]
      refine ⟨by first | rfl | go_simp, ?_⟩
      first | with_reducible refine wild_plain ?_ | with_reducible refine wild_link ?_
      clear hdeps
      go_simp
     ·exact wildUpon_value ⟨⟨rfl, trivial⟩, Below.refl _ _, fun b hb => by cases hb⟩
     ·exact wild_var
    ·skip
     intro vs w' hbw hr hap hlk
     simp only [List.forall_mem_cons, List.not_mem_nil, false_implies, implies_true, and_true] at hr hap
     obtain ⟨hh13, ⟨hh14, n14⟩⟩ := hr
     obtain ⟨e13, t13⟩ := hh13
     obtain ⟨q, e14, hobj⟩ := hh14
     rw [e14] at n14
     clear hlk
     try simp only [e13, e14] at hap
     try simp only [newB_ptr, newB_row, newB_win, newB_win2, List.mem_cons, forall_eq_or_imp, or_false, List.mem_singleton, forall_eq, List.not_mem_nil, false_implies, implies_true, not_false_eq_true, and_true, true_and] at n14 hap
     try simp only [ne_eq, not_true_eq_false, false_implies, true_and, and_true, Nat.reduceEqDiff, not_false_eq_true, forall_const] at hap
     simp only [putsF, List.foldl_cons, List.foldl_nil, e13, e14, List.drop_succ_cons, List.drop_zero]
     clear e13 e14
     clear t13
     have hqr : wr.heap.size ≤ q := n14.1
     have HOBJ := Lib.hid hobj
     have hbw' := Lib.hid hbw
     go_upto_region 6 with (refine wpList_store_row rfl 45 _ _ rfl q v'.cells.toArray rfl rfl 45 _ HOBJ.out var_size8 rfl (var_one8 v') ?_)
     refine wp_name fun W4 hWn => ?_
     have hb4 : Below wr.heap.size wr W4 := by rw [hWn.out]; exact below_setRow hbw'.out hqr _
     clear hWn hobj n14 hbw hbw' HOBJ
     have HS4 := Lib.hid (HS.out.trans (hb4.mono HS.out.size))
     have HR4 := Lib.hid (HRr.out.below hb4)
     have HB4 := Lib.hid (HBr.out.trans (hb4.mono HBr.out.size))
     replace x0 := (hb4.cell (p := ⟨b, off + i * 8, none⟩) hbl).trans x0
     replace x7 := (hb4.cell (p := ⟨b, off + i * 8 + 7, none⟩) hbl).trans x7
     have hbl4 : b < W4.heap.size := Nat.lt_of_lt_of_le hbl hb4.size
     have HRG4 : Hid (W4.rangeAt b (off + i * 8) v.cells) := Lib.hid (fun j u hu => (hb4.cell (p := ⟨b, _, none⟩) hbl).trans (HRG.out j u hu))
     clear p1 p2 lB r0 r1 q0 q1 lB1 hz hb4 HRr HBr HRG
     obtain ⟨p1, p2, lB⟩ := HP.out W4 HS4.out
     have r0 := HR4.out.r0
     have r1 := HR4.out.r1
     have q0 := HR4.out.q0
     have q1 := HR4.out.q1
     have lB1 := HR4.out.lt
     have hz := HB4.out.size
     go_wp2
     refine bodyPost_ret (v := .agg #[.int .i64 11, .int .i64 ln]) (by simp [results, Tryd.results13, go_sem, r0, r1, q0, q1, lB1]) rfl ⟨⟨_, _, rfl, fun h => absurd h (by decide)⟩, by have hq := HB4.out; exact belowBy⟩
  ·obtain rfl : i = n := by omega
   go_wp2_with fail
   refine (HST.out _ HBr.out).mono ?_
   rintro e w1 ⟨⟨a, b, rfl⟩, hb⟩
   have HR1 := Lib.hid (HRr.out.below hb)
   have HB1 := Lib.hid (HBr.out.trans (hb.mono HBr.out.size))
   clear r0 r1 q0 q1 lB1 hz lB p1 p2 hb
   have r0 := HR1.out.r0
   have r1 := HR1.out.r1
   have q0 := HR1.out.q0
   have q1 := HR1.out.q1
   have lB1 := HR1.out.lt
   have hz := HB1.out.size
   go_wp2
   refine bodyPost_ret (v := .agg #[.int .i64 a, .int .i64 b]) (by simp [results, Tryd.results13, go_sem, r0, r1, q0, q1, lB1]) rfl ⟨⟨_, _, rfl, fun _ => ⟨fun j v hj => ?_, ?_⟩⟩, by have hq := HB1.out; exact belowBy⟩
   ·exact HC.out.2 j v (by have := (List.getElem?_eq_some_iff.1 hj).1; rw [HN.out] at this; exact this) hj
   ·have := HC.out.1
    rw [List.take_of_length_le (by rw [HN.out]; exact Nat.le_refl _)] at this
    omega

end Go.Proofs.YtknnhnefbbjcdaaDoor
