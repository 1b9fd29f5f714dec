/- Layer 22: each cell is one variable's: the walk. -/
import Derived.Test.YtpgkebfdfhdliaaDoorLayU
namespace Go.Proofs.YtpgkebfdfhdliaaDoor
open Go.RowKit
set_option linter.unusedVariables false
set_option linter.unusedSimpArgs false
attribute [local go_sem] ite_max ite_min vite_max vite_min ext_cell ext_frozen extS_cell extS_frozen

set_option maxRecDepth 100000 in
set_option maxHeartbeats 4000000 in
theorem walk_LayApart (p : Prg) (cs : List Value) (w : World) (h : PrgAt w p cs) (hsm : ∀ s ∈ p.body, SmS s) (ht : Blanks w) : Calls Tryd.prog 4 #[.agg cs.toArray] w fun e w' => e = .returned (.bool true) ∧ Below w.heap.size w w' := by
  obtain ⟨Av, kv, Ab, kb, rfl, hv, hbd⟩ := h
  have HP : Hid (PrgAt w p [.string p.name, .slice Av p.vars.length kv, .slice Ab p.body.length kb]) := Lib.hid ⟨Av, kv, Ab, kb, rfl, hv, hbd⟩
  have HSM := Lib.hid hsm
  have HT := Lib.hid ht
  clear hv hbd hsm ht
  go_enter Tryd.func4, Tryd.ntmps4
  go_upto_region 1 with (fail)
  refine wp_name fun W hW => ?_
  obtain ⟨B, hB⟩ : ∃ B, B = w.heap.size := ⟨_, rfl⟩
  have hC : PrgC W B p.name Av p.vars.length kv Ab p.body.length kb := by
    refine ⟨by rw [hW.out, hB]; simp, ?_, ?_, ?_⟩
    all_goals (rw [hW.out, hB]; go_simp)
  have hbel : Below w.heap.size w W := by rw [hW.out]; (repeat' (first | (with_reducible exact Below.refl _ _) | (with_reducible assumption) | (with_reducible refine below_drewN ?_ _) | (with_reducible refine Below.drew ?_) | (with_reducible refine below_new ?_ (Nat.le_refl _) _) | (with_reducible refine Below.setCell ?_ ?_ _) | (with_reducible refine below_go ?_ (by assumption) (Nat.le_refl _)) | (simp; done) | (simp; omega) | omega))
  rw [← hB]
  have HC := Lib.hid hC
  have HB := Lib.hid hbel
  clear hW hbel hB hC
  go_wp2_with fail
  refine (awake22 _ (HT.out.on HB.out)).mono ?_
  rintro e w1 ⟨rfl, hb⟩
  have HC1 := Lib.hid (HC.out.below hb)
  have HB1 := Lib.hid (HB.out.trans (hb.mono HB.out.size))
  clear hb HC HB
  obtain ⟨lB, c0, c1, c2⟩ := HC1.out
  go_wp2_with fail
  refine (fits22_any p _ _ (HP.out.keep HB1.out) HSM.out).mono ?_
  rintro e w2 ⟨⟨b, rfl, hf⟩, hb⟩
  have HF := Lib.hid hf
  have HC2 := Lib.hid (HC1.out.below hb)
  have HB2 := Lib.hid (HB1.out.trans (hb.mono HB1.out.size))
  clear lB c0 c1 c2 hb HC1 HB1 hf
  obtain ⟨lB, c0, c1, c2⟩ := HC2.out
  cases b
  · go_wp2
    go_ret
    exact ⟨rfl, HB2.out⟩
  have hfp := (HF.out rfl).1
  have HOK : Hid (∀ v ∈ p.vars, ArrOk v) := Lib.hid (fun v hv => (hfp.vars v hv).arrOk)
  have HVL : Hid (p.vars.length ≤ 64) := Lib.hid hfp.vl
  have HDF : Hid (DiffN p.vars) := Lib.hid (HF.out rfl).2.1
  have hs1024 : sumN p.vars ≤ 1024 := (HF.out rfl).2.2
  have HFE : Hid (∀ v ∈ p.vars, cellsN v ≤ 256) := Lib.hid (fun v hv => cellsN_few (HOK.out v hv))
  clear hfp HF
  go_wp2_with fail
  refine (layof_any p _ _ (HP.out.keep HB2.out) HOK.out HVL.out (HT.out.on HB2.out)).mono ?_
  rintro e w3 ⟨⟨u, rfl, vA, vF, rfl, hoA, hoF⟩, hb3⟩
  obtain ⟨A0, k0, hvA⟩ := own_slice hoA
  obtain ⟨A1, k1, hvF⟩ := own_slice hoF
  subst hvA hvF
  have HR1 := Lib.hid (rowN_of hoA).1
  have HC3 := Lib.hid (HC2.out.below hb3)
  have HB3 := Lib.hid (HB2.out.trans (hb3.mono HB2.out.size))
  clear hoA hoF hb3 HC2 HB2 lB c0 c1 c2
  obtain ⟨lB, c0, c1, c2⟩ := HC3.out
  obtain ⟨n, hn⟩ : ∃ n, p.vars.length = n := ⟨_, rfl⟩
  obtain ⟨sm, hsm⟩ : ∃ n, sumN p.vars = n := ⟨_, rfl⟩
  rw [hsm] at hs1024 ⊢
  have HSMM := Lib.hid hsm
  have hn64 : n ≤ 64 := by rw [← hn]; exact HVL.out
  have HPN : Hid (∀ W, Below w.heap.size w W → ∀ v ∈ p.vars, ∀ i, p.vars[i]? = some v → Calls Tryd.prog 12 #[.agg #[.string p.name, .slice Av n kv, .slice Ab p.body.length kb], .string v.name] W fun e w' => e = .returned (.tuple #[.int .i64 (sumN (p.vars.take i) : Nat), .agg v.cells.toArray, .bool true]) ∧ Below W.heap.size W w') := Lib.hid (fun W hW v hv i hi => by
    have := layat_any p _ v.name W (HP.out.keep hW) HOK.out HVL.out (HT.out.on hW)
    rw [HDF.out.own hi, hn] at this
    exact this)
  have HN := Lib.hid hn
  rw [hn] at c1 ⊢
  rw [hn] at HC3
  have HRV : Hid (RowV w Av p.vars kv) := Lib.hid (by
    obtain ⟨Av', kv', Ab', kb', e, h1, -⟩ := HP.out
    simp at e
    obtain ⟨⟨rfl, rfl⟩, -⟩ := e
    exact h1)
  have hkv1 := HRV.out.1
  have hkv2 := HRV.out.2.1
  rw [hn] at hkv1
  clear hn hsm
  go_upto_region 6 with (fail)
  refine wp_name fun W4 hW4 => ?_
  obtain ⟨L, hL⟩ : ∃ L, L = w3.heap.size := ⟨_, rfl⟩
  have hb4 : Below w3.heap.size w3 W4 := by rw [hW4.out]; (repeat' (first | (with_reducible exact Below.refl _ _) | (with_reducible assumption) | (with_reducible refine below_drewN ?_ _) | (with_reducible refine Below.drew ?_) | (with_reducible refine below_new ?_ (Nat.le_refl _) _) | (with_reducible refine Below.setCell ?_ ?_ _) | (with_reducible refine below_go ?_ (by assumption) (Nat.le_refl _)) | (simp; done) | (simp; omega) | omega))
  have HL : Hid (∀ W', Below W4.heap.size W4 W' → W'.cell? ⟨L, 0, none⟩ = some (.slice A0 n k0) ∧ W'.cell? ⟨L, 1, none⟩ = some (.int .i64 sm) ∧ W'.cell? ⟨L, 2, none⟩ = some (.slice A1 sm k1) ∧ L < W'.heap.size) := Lib.hid (fun W' hW' => by
    have hl : L < W4.heap.size := by rw [hW4.out, hL]; simp
    exact ⟨(hW'.cell (p := ⟨L, 0, none⟩) hl).trans (by rw [hW4.out, hL]; go_simp), (hW'.cell (p := ⟨L, 1, none⟩) hl).trans (by rw [hW4.out, hL]; go_simp), (hW'.cell (p := ⟨L, 2, none⟩) hl).trans (by rw [hW4.out, hL]; go_simp), Nat.lt_of_lt_of_le hl hW'.size⟩)
  rw [← hL]
  have HC4 := Lib.hid (HC3.out.below hb4)
  have HB4 := Lib.hid (HB3.out.trans (hb4.mono HB3.out.size))
  have HR4 := Lib.hid (HR1.out.below hb4)
  clear hW4 hb4 hL HC3 HB3 HR1 lB c0 c1 c2
  go_upto_region 8 with (fail)
  go_loopw [4, 5] (fun vn vi wr => ∃ (i a : Nat), i ≤ n ∧ vi = .int .i64 i ∧ vn = .int .i64 a ∧ a ≤ 256 * i ∧ Hid (a = sumN (p.vars.take i)) ∧ Below W4.heap.size W4 wr) (fun _ vi _ => n - (intOf vi).toNat)
  case atStart => exact ⟨0, 0, by omega, rfl, rfl, by omega, Lib.hid rfl, Below.refl _ _⟩
  case round =>
    obtain ⟨i, a, hi, rfl, rfl, ha, HA, hbr⟩ := hrel
    have HS := Lib.hid hbr
    have HCr := Lib.hid (HC4.out.below hbr)
    have HBr := Lib.hid (HB4.out.trans (hbr.mono HB4.out.size))
    have HRr := Lib.hid (HR4.out.below hbr)
    obtain ⟨l0, l1, l2, lL⟩ := HL.out wr hbr
    obtain ⟨lB, c0, c1, c2⟩ := HCr.out
    clear hbr
    by_cases hlt : i < n
    · have hi0 : (0 : Int) ≤ (i : Int) ∧ (i : Int) < (n : Int) := by omega
      obtain ⟨b, off, v, rfl, hbl, hx, hrg⟩ := RowV.at8 (HRV.out.below HBr.out) (i := i) (by rw [HN.out]; exact hlt)
      have HX := Lib.hid hx
      have HRG := Lib.hid hrg
      have x0 : wr.cell? ⟨b, off + i * 8, none⟩ = some (.string v.name) := hrg 0 _ rfl
      have HAT : Hid (∀ W, Below wr.heap.size wr W → Calls Tryd.prog 12 #[.agg #[.string p.name, .slice (some ⟨b, off, none⟩) n kv, .slice Ab p.body.length kb], .string v.name] W fun e w' => e = .returned (.tuple #[.int .i64 a, .agg v.cells.toArray, .bool true]) ∧ Below W.heap.size W w') := Lib.hid (fun W hW => by
        have := HPN.out W (HBr.out.trans (hW.mono HBr.out.size)) v (List.mem_of_getElem? hx) i hx
        rw [← HA.out] at this
        exact this)
      clear hx hrg
      go_upto_region 10 with (fail)
      refine wp_region_wild 14 11 ([{ i := 11, d := 34, R := isVal (.bool true), N := (fun _ => []) }, { i := 12, d := 7, R := isVar (.cells #[.string ⟨#[]⟩, .int .i64 0, .int .i64 0, .bool false, .int .i64 0, .int .i64 0, .int .i64 0, .int .i64 0] 35), N := newB }] : List Wd) [false, false, false, false, false, false, false, false, false, false, false, true, true, false] rfl (by kernel_rfl) (by kernel_rfl) (fun _ _ _ _ _ h => h) (by kernel_rfl) ?_ ?_
      · intro x hx v w1 w2 hR hb
        simp only [List.mem_cons, List.not_mem_nil, or_false] at hx
        rcases hx with rfl | rfl
        all_goals (dsimp only at hR ⊢; exact hR.below hb)
      apply Exists.intro
      refine ⟨fun S hS hne => ?_, ?_, ?_, ?_⟩
      · simp only [List.take_succ_cons, List.take_zero, List.map_cons, List.map_nil]
        delta CS
        repeat (first | with_reducible refine mask_skip ?_ | ((with_reducible refine mask_keep ?_); go_big_quiet_step ((go_at_call 12; exact extS_call hS (HAT.out _ (extS_below _))))))
        exact mask_nil rfl
      · skip
        intro x hx he
        simp only [List.mem_cons, List.not_mem_nil, or_false] at hx
        rcases hx with rfl | rfl
        all_goals (dsimp only at he; first | (exact absurd he (by decide)) | clear he)
        intro o ho
        simp only [List.getElem?_cons_succ, List.getElem?_cons_zero, Option.some.injEq] at ho
        subst ho
        intro vs w' hbw hdeps
        simp only [putsF, List.foldl_cons, List.foldl_nil]
        simp only [List.forall_mem_cons, List.not_mem_nil, false_implies, implies_true, and_true] at hdeps
        obtain ⟨dp0, dp1⟩ := hdeps
        clear dp0 dp1
        refine ⟨.bool true, fun u => ?_⟩
        go_simp
      · skip
        simp only [List.forall_mem_cons, List.not_mem_nil, false_implies, implies_true, and_true]
        refine ⟨?_, ?_⟩
        all_goals
          intro o ho
          simp only [List.getElem?_cons_succ, List.getElem?_cons_zero, Option.some.injEq] at ho
          subst ho
          intro vs w' hbw hdeps
          simp only [putsF, List.foldl_cons, List.foldl_nil]
          refine ⟨by first | rfl | go_simp, ?_⟩
          first | with_reducible refine wild_plain ?_ | with_reducible refine wild_link ?_
          clear hdeps
          go_simp
        · exact wildUpon_value ⟨⟨rfl, trivial⟩, Below.refl _ _, fun b hb => by cases hb⟩
        · exact wild_var
      · skip
        intro vs w' hbw hr hap hlk
        simp only [List.forall_mem_cons, List.not_mem_nil, false_implies, implies_true, and_true] at hr hap
        obtain ⟨hh11, ⟨hh12, n12⟩⟩ := hr
        obtain ⟨e11, t11⟩ := hh11
        obtain ⟨q, e12, hobj⟩ := hh12
        rw [e12] at n12
        clear hlk
        try simp only [e11, e12] at hap
        try simp only [newB_ptr, newB_row, newB_win, newB_win2, List.mem_cons, forall_eq_or_imp, or_false, List.mem_singleton, forall_eq, List.not_mem_nil, false_implies, implies_true, not_false_eq_true, and_true, true_and] at n12 hap
        try simp only [ne_eq, not_true_eq_false, false_implies, true_and, and_true, Nat.reduceEqDiff, not_false_eq_true, forall_const] at hap
        simp only [putsF, List.foldl_cons, List.foldl_nil, e11, e12, List.drop_succ_cons, List.drop_zero]
        clear e11 e12
        clear t11
        have hqr : wr.heap.size ≤ q := n12.1
        have HOBJ := Lib.hid hobj
        have HBW := Lib.hid hbw
        clear hobj n12 hbw l0 l1 l2 c0 c1 c2 x0
        go_upto_region 11 with (refine wpList_store_row rfl 35 _ _ rfl q v.cells.toArray rfl rfl 35 _ HOBJ.out var_size8 rfl (var_one8 v) ?_)
        refine wp_name fun W5 hW5 => ?_
        have hb5 : Below wr.heap.size wr W5 := by rw [hW5.out]; exact below_setRow HBW.out hqr _
        have hh5 : W5.heap[q]? = some (.cells v.cells.toArray 35) := by rw [hW5.out]; exact setRow_heap _ _ _ _ _ _ HOBJ.out
        have hS5 := HS.out.trans (hb5.mono HS.out.size)
        have HS5 := Lib.hid hS5
        have HB5 := Lib.hid (HBr.out.trans (hb5.mono HBr.out.size))
        obtain ⟨lB5, c0, c1, c2⟩ := HCr.out.below hb5
        obtain ⟨l0, l1, l2, lL5⟩ := HL.out W5 hS5
        obtain ⟨gA, oA, rfl, hgA, a0⟩ := (HRr.out.below hb5).2.2 i (a : Int) (by rw [offsN_get _ _ _ (by rw [HN.out]; exact hlt), Nat.zero_add, ← HA.out])
        have hRG5 : ∀ j u, v.cells[j]? = some u → W5.cell? ⟨b, off + i * 8 + j, none⟩ = some u := fun j u hu => (hb5.cell (p := ⟨b, _, none⟩) hbl).trans (HRG.out j u hu)
        have y0 : W5.cell? ⟨b, off + i * 8, none⟩ = some (.string v.name) := hRG5 0 _ rfl
        have y1 : W5.cell? ⟨b, off + i * 8 + 1, none⟩ = some (.int .i64 v.type) := hRG5 1 _ rfl
        have y2 : W5.cell? ⟨b, off + i * 8 + 2, none⟩ = some (.int .i64 v.sect) := hRG5 2 _ rfl
        have y3 : W5.cell? ⟨b, off + i * 8 + 3, none⟩ = some (.bool v.arr) := hRG5 3 _ rfl
        have y4 : W5.cell? ⟨b, off + i * 8 + 4, none⟩ = some (.int .i64 v.lo) := hRG5 4 _ rfl
        have y5 : W5.cell? ⟨b, off + i * 8 + 5, none⟩ = some (.int .i64 v.hi) := hRG5 5 _ rfl
        have y6 : W5.cell? ⟨b, off + i * 8 + 6, none⟩ = some (.int .i64 v.init) := hRG5 6 _ rfl
        have y7 : W5.cell? ⟨b, off + i * 8 + 7, none⟩ = some (.int .i64 v.line) := hRG5 7 _ rfl
        have x0 : W5.cell? ⟨q, 0, none⟩ = some (.string v.name) := heap_cell 0 _ hh5 rfl
        have x1 : W5.cell? ⟨q, 1, none⟩ = some (.int .i64 v.type) := heap_cell 1 _ hh5 rfl
        have x2 : W5.cell? ⟨q, 2, none⟩ = some (.int .i64 v.sect) := heap_cell 2 _ hh5 rfl
        have x3 : W5.cell? ⟨q, 3, none⟩ = some (.bool v.arr) := heap_cell 3 _ hh5 rfl
        have x4 : W5.cell? ⟨q, 4, none⟩ = some (.int .i64 v.lo) := heap_cell 4 _ hh5 rfl
        have x5 : W5.cell? ⟨q, 5, none⟩ = some (.int .i64 v.hi) := heap_cell 5 _ hh5 rfl
        have x6 : W5.cell? ⟨q, 6, none⟩ = some (.int .i64 v.init) := heap_cell 6 _ hh5 rfl
        have x7 : W5.cell? ⟨q, 7, none⟩ = some (.int .i64 v.line) := heap_cell 7 _ hh5 rfl
        have lb5 : b < W5.heap.size := Nat.lt_of_lt_of_le hbl hb5.size
        have lq5 : q < W5.heap.size := (Array.getElem?_eq_some_iff.1 hh5).1
        have HH5 := Lib.hid hh5
        clear hW5 hb5 hh5 hS5 hRG5 HBW HOBJ HAT HS HCr HBr HRr lL lB
        refine wp_region_ext (by kernel_rfl) (by kernel_rfl) ?_
        repeat (go_big_quiet_step (fail))
        refine wpQuiet_nil ?_
        intro w6 hb6
        replace hb6 := ext_below hb6
        have HVR : Hid (w6.rangeAt q 0 v.cells) := Lib.hid (fun j u hu => by rw [Nat.zero_add]; exact (hb6.cell (p := ⟨q, j, none⟩) lq5).trans (heap_cell j _ HH5.out (by rw [List.getElem?_toArray]; exact hu)))
        have HS6 := Lib.hid (HS5.out.trans (hb6.mono HS5.out.size))
        have HB6 := Lib.hid (HB5.out.trans (hb6.mono HB5.out.size))
        clear hb6 HS5 HB5 HH5 y0 y1 y2 y3 y4 y5 y6 y7 x0 x1 x2 x3 x4 x5 x6 x7 l0 l1 l2 c0 c1 c2 a0 lq5
        go_wp2_with (refine wpList_load_mid rfl 35 _ rfl q 0 rfl v.cells _ HVR.out Tryd.underlying35 rfl var_size8 ?_)
        refine (kcells_any v (HOK.out v (List.mem_of_getElem? HX.out)) _ (HT.out.on HB6.out)).mono ?_
        rintro e w7 ⟨rfl, hb7⟩
        obtain ⟨cv, hcv⟩ : ∃ x, cellsN v = x := ⟨_, rfl⟩
        have hcv2 : cv ≤ 256 := by rw [← hcv]; exact HFE.out v (List.mem_of_getElem? HX.out)
        rw [hcv]
        have HCV := Lib.hid hcv
        have HS7 := Lib.hid (HS6.out.trans (hb7.mono HS6.out.size))
        clear hcv hb7 HS6 HB6 HVR
        go_wp2
        go_roundw
        case rel => exact ⟨i + 1, a + cv, by omega, by go_num, by go_num, by omega, Lib.hid (by rw [sumN_take HX.out, ← HA.out, HCV.out]), HS7.out⟩
        case measure => simp [intOf]; omega
    · obtain rfl : i = n := by omega
      obtain rfl : a = sm := by rw [HA.out, List.take_of_length_le (by rw [HN.out]; exact Nat.le_refl _), HSMM.out]
      have hle : (a : Int) ≤ 1024 := by omega
      go_wp2
      go_ret
      exact ⟨rfl, by have hq := HBr.out; (repeat' (first | (with_reducible exact Below.refl _ _) | (with_reducible assumption) | (with_reducible refine below_drewN ?_ _) | (with_reducible refine Below.drew ?_) | (with_reducible refine below_new ?_ (Nat.le_refl _) _) | (with_reducible refine Below.setCell ?_ ?_ _) | (with_reducible refine below_go ?_ (by assumption) (Nat.le_refl _)) | (simp; done) | (simp; omega) | omega))⟩

end Go.Proofs.YtpgkebfdfhdliaaDoor
