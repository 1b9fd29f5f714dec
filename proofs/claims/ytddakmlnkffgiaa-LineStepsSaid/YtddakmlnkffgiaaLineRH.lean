/- Layer 12: any line is right or not, takes, ends and clears commands as the document says (LineSteps): the walk. -/
import Derived.Test.YtddakmlnkffgiaaLineRI
import Derived.Deep.CutBlock
import Derived.Deep.RegionWith
namespace Go.Proofs.Ytddakmlnkffgiaa
open Go.RowKit
set_option linter.unusedVariables false
set_option linter.unusedSimpArgs false
attribute [local go_sem] ite_max ite_min vite_max vite_min ext_cell ext_frozen extS_cell extS_frozen

set_option maxRecDepth 100000 in
set_option maxHeartbeats 4000000 in
theorem walk_steps (ns ws : List CmdS) (x : CmdS) (A D : Option Addr) (n m c d : Nat) (w : World) (h : LineV w 0 ns ws (.agg #[.slice A n c, .slice D m d])) :
    Calls Try.prog 9 #[.agg #[.slice A n c, .slice D m d], x.val] w fun e w' => e = .returned (.bool true) ∧ Below w.heap.size w w' := by
  obtain ⟨hn, hm⟩ := h.lens
  have HLN := Lib.hid (And.intro hn hm)
  have HL := Lib.hid h
  have HXV : Hid (x.cells = x.cells) := Lib.hid rfl
  clear hn hm h
  by_cases hsm : n ≤ 20 ∧ m ≤ 20
  · obtain ⟨hn20, hm20⟩ := hsm
    have HSM := Lib.hid (show decide (n ≤ 20 ∧ m ≤ 20) = true from decide_eq_true ⟨hn20, hm20⟩)
    obtain ⟨HADD, HRADD⟩ : Hid (∀ (v : Value) (b : Nat) (W : World), LineV W b ns ws v → Calls Try.prog 28 #[v, x.val] W fun e w' => AddPost W (addR ns ws x).ns (addR ns ws x).ws (addR ns ws x).ids (addR ns ws x).e e w') ∧ Hid (∀ (v : Value) (b : Nat) (W : World), LineV W b ns ws v → Calls Try.prog 34 #[v, x.val] W fun e w' => AddPost W (addR ns ws x).ns (addR ns ws x).ws (addR ns ws x).ids (addR ns ws x).e e w') :=
      ⟨Lib.hid fun v b W hv => ladd_at ns ws v b x _ W hv rfl, Lib.hid fun v b W hv => radd_at ns ws v b x _ W hv (by have := HLN.out; omega) (by have := HLN.out; omega) rfl⟩
    obtain ⟨R, hR⟩ : ∃ R, addR ns ws x = R := ⟨_, rfl⟩
    rw [hR] at HADD HRADD
    obtain ⟨E, hE⟩ : ∃ E, endR ns ws = E := ⟨_, rfl⟩
    obtain ⟨K, hK⟩ : ∃ K, clearR ns ws = K := ⟨_, rfl⟩
    obtain ⟨F, hF⟩ : ∃ F, lastR ns ws = F := ⟨_, rfl⟩
    obtain ⟨G, hG⟩ : ∃ G, nextR ns ws = G := ⟨_, rfl⟩
    obtain ⟨q, hq⟩ : ∃ q, lineB ns ws = q := ⟨_, rfl⟩
    obtain ⟨N, hN⟩ : ∃ N, (ns ++ ws).length = N := ⟨_, rfl⟩
    have HNL := Lib.hid hN
    clear hN
    have HE : Hid (∀ (v : Value) (b : Nat) (W : World), LineV W b ns ws v → Calls Try.prog 29 #[v] W fun e w' => EndPost W E.ns E.ws E.id e w') := Lib.hid (hE ▸ fun v b W hv => lend_at ns ws v b W hv)
    have HK : Hid (∀ (v : Value) (b : Nat) (W : World), LineV W b ns ws v → Calls Try.prog 30 #[v] W fun e w' => ClearPost W K e w') := Lib.hid (hK ▸ fun v b W hv => lclear_at ns ws v b W hv)
    have HF : Hid (∀ (v : Value) (b : Nat) (W : World), LineV W b ns ws v → Calls Try.prog 38 #[v] W fun e w' => OnePost W F.x F.ok e w') := Lib.hid (hF ▸ fun v b W hv => llast_at ns ws v b W hv (by have := HLN.out; omega) (by have := HLN.out; omega))
    have HG : Hid (∀ (v : Value) (b : Nat) (W : World), LineV W b ns ws v → Calls Try.prog 39 #[v] W fun e w' => OnePost W G.x G.ok e w') := Lib.hid (hG ▸ fun v b W hv => lnext_at ns ws v b W hv)
    have EE := Lib.hid hE
    have EK := Lib.hid hK
    have EF := Lib.hid hF
    have EG := Lib.hid hG
    have HQ := Lib.hid hq
    obtain ⟨x0, x1, x2, x3, x4, x5, x6⟩ := x
    simp only [CmdS.val] at HADD HRADD ⊢
    clear hR HXV hE hK hF hG hq
    go_enter Try.func9, Try.ntmps9
    go_wp2_with fail
    refine (awake12 _).mono ?_
    rintro e w1 ⟨rfl, hb1⟩
    obtain ⟨hb1c, hb1f⟩ := bcell hb1
    have hb1z := hb1.size
    have hb1c0 := fun o => hb1c (w.heap.size) o (by first | (simp; done) | (simp; omega) | (simp at *; omega) | omega)
    have hb1f0 := fun o => hb1f (w.heap.size) o (by first | (simp; done) | (simp; omega) | (simp at *; omega) | omega)
    have hb1l0 := below_lt (b := w.heap.size) hb1 (by first | (simp; done) | (simp; omega) | (simp at *; omega) | omega)
    have hb1c1 := fun o => hb1c (w.heap.size + 1) o (by first | (simp; done) | (simp; omega) | (simp at *; omega) | omega)
    have hb1f1 := fun o => hb1f (w.heap.size + 1) o (by first | (simp; done) | (simp; omega) | (simp at *; omega) | omega)
    have hb1l1 := below_lt (b := w.heap.size + 1) hb1 (by first | (simp; done) | (simp; omega) | (simp at *; omega) | omega)
    have hB1 : Below w.heap.size w w1 := by (repeat' (first | (with_reducible exact Below.refl _ _) | (with_reducible assumption) | (with_reducible refine below_drewN ?_ _) | (with_reducible refine Below.drew ?_) | (with_reducible refine below_new ?_ (Nat.le_refl _) _) | (with_reducible refine Below.setCell ?_ ?_ _) | (with_reducible refine below_go ?_ (by assumption) (Nat.le_refl _)) | (simp; done) | (simp; omega) | omega))
    clear hb1
    go_wp2_with fail
    refine (lsmall_at A D n m c d _ true HSM.out).mono ?_
    rintro e w2 ⟨rfl, hb2⟩
    obtain ⟨hb2c, hb2f⟩ := bcell hb2
    have hb2z := hb2.size
    have hb2c0 := fun o => hb2c (w.heap.size) o (by first | (simp; done) | (simp; omega) | (simp at *; omega) | omega)
    have hb2f0 := fun o => hb2f (w.heap.size) o (by first | (simp; done) | (simp; omega) | (simp at *; omega) | omega)
    have hb2l0 := below_lt (b := w.heap.size) hb2 (by first | (simp; done) | (simp; omega) | (simp at *; omega) | omega)
    have hb2c1 := fun o => hb2c (w.heap.size + 1) o (by first | (simp; done) | (simp; omega) | (simp at *; omega) | omega)
    have hb2f1 := fun o => hb2f (w.heap.size + 1) o (by first | (simp; done) | (simp; omega) | (simp at *; omega) | omega)
    have hb2l1 := below_lt (b := w.heap.size + 1) hb2 (by first | (simp; done) | (simp; omega) | (simp at *; omega) | omega)
    have hB2 : Below w.heap.size w w2 := by (repeat' (first | (with_reducible exact Below.refl _ _) | (with_reducible assumption) | (with_reducible refine below_drewN ?_ _) | (with_reducible refine Below.drew ?_) | (with_reducible refine below_new ?_ (Nat.le_refl _) _) | (with_reducible refine Below.setCell ?_ ?_ _) | (with_reducible refine below_go ?_ (by assumption) (Nat.le_refl _)) | (simp; done) | (simp; omega) | omega))
    have hz2 := hb2z
    clear hb2
    have HLV : Hid (LV w2 w.heap.size ns ws A D n m c d) := Lib.hid ⟨by omega, by go_simp, by go_simp, HL.out.below hB2⟩
    have HCV : Hid (CV w2 (w.heap.size + 1) ⟨x0, x1, x2, x3, x4, x5, x6⟩) := Lib.hid ⟨by omega, fun j hj => by
      match j, hj with
      | 0, _ => simp only [CmdS.cells, List.getElem?_cons_zero]; go_simp
      | 1, _ => simp only [CmdS.cells, List.getElem?_cons_zero, List.getElem?_cons_succ]; go_simp
      | 2, _ => simp only [CmdS.cells, List.getElem?_cons_zero, List.getElem?_cons_succ]; go_simp
      | 3, _ => simp only [CmdS.cells, List.getElem?_cons_zero, List.getElem?_cons_succ]; go_simp
      | 4, _ => simp only [CmdS.cells, List.getElem?_cons_zero, List.getElem?_cons_succ]; go_simp
      | 5, _ => simp only [CmdS.cells, List.getElem?_cons_zero, List.getElem?_cons_succ]; go_simp
      | 6, _ => simp only [CmdS.cells, List.getElem?_cons_zero, List.getElem?_cons_succ]; go_simp⟩
    have l0 := HLV.out.c0
    have l1 := HLV.out.c1
    have hlt2 := HLV.out.lt
    have HXN : Hid (Lies w2 w2.heap.size 7 A n (cmdsC ns)) := Lib.hid (HLV.out.line.lies HLN.out.1 HLN.out.2).1
    have HXM : Hid (Lies w2 w2.heap.size 7 D m (cmdsC ws)) := Lib.hid (HLV.out.line.lies HLN.out.1 HLN.out.2).2
    clear hb1c hb1f hb1z hb1c0 hb1c1 hb1f0 hb1f1 hb1l0 hb1l1 hb2c hb2f hb2z hb2c0 hb2c1 hb2f0 hb2f1 hb2l0 hb2l1 hB1 HL HSM
    go_wp2_with fail
    refine wp_region_wild 10 1000 ([{ i := 0, d := 27, R := isNil0, N := (fun _ => []) }, { i := 3, d := 30, R := isCl n (cmdsC ns), N := newN n }, { i := 4, d := 31, R := isNil0, N := (fun _ => []) }, { i := 7, d := 34, R := isCl m (cmdsC ws), N := newN m }, { i := 8, d := 35, R := isAny, N := (fun _ => []), D := [3, 7], L := isAgg1 }, { i := 9, d := 5, R := isVar (.cells #[.slice none 0 0, .slice none 0 0] 45), N := newB }] : List Wd) [true, false, false, true, true, false, false, true, true, true] rfl (by kernel_rfl) (by kernel_rfl) (fun _ _ _ _ _ h => h) (by kernel_rfl) ?_ ?_
    · intro x hx v w1 w2 hR hb
      simp only [List.mem_cons, List.not_mem_nil, or_false] at hx
      rcases hx with rfl | rfl | rfl | rfl | rfl | rfl
      all_goals (dsimp only at hR ⊢; exact hR.below hb)
    apply Exists.intro
    refine ⟨fun S hS hne => ?_, ?_, ?_, ?_⟩
    · simp only [List.take_succ_cons, List.take_zero, List.map_cons, List.map_nil]
      delta CS
      repeat (first | with_reducible refine mask_skip ?_ | ((with_reducible refine mask_keep ?_); go_big_quiet_step (fail)))
      exact mask_nil rfl
    · intro x hx he
      simp only [List.mem_cons, List.not_mem_nil, or_false] at hx
      rcases hx with rfl | rfl | rfl | rfl | rfl | rfl
      all_goals (dsimp only at he; exact absurd he (by decide))
    · skip
      simp only [List.forall_mem_cons, List.not_mem_nil, false_implies, implies_true, and_true]
      refine ⟨?_, ?_, ?_, ?_, ?_, ?_⟩
      all_goals
        intro o ho
        simp only [List.getElem?_cons_succ, List.getElem?_cons_zero, Option.some.injEq] at ho
        subst ho
        intro vs w' hbw hdeps
        simp only [putsF, List.foldl_cons, List.foldl_nil]
        refine ⟨by first | rfl | go_simp, ?_⟩
        first | with_reducible refine wild_plain ?_ | with_reducible refine wild_link ?_
        simp only [List.forall_mem_cons, List.not_mem_nil, false_implies, implies_true, and_true] at hdeps
        obtain ⟨dp0, dp1, dp2, dp3, dp4, dp5⟩ := hdeps
      · clear dp0 dp1 dp2 dp3 dp4 dp5
        go_simp
        exact wildUpon_value ⟨⟨_, rfl⟩, (Below.refl _ _).alloc (Nat.le_refl _) _, fun b hb => by cases hb⟩
      · obtain ⟨B, e0⟩ := dp0 (by decide)
        clear dp0 dp1 dp2 dp3 dp4 dp5
        refine wild_cl (.tmp 27) (.tmp 29) rfl B ns A n c ?_ ?_ (HXN.out.on hbw) (by omega)
        · rw [← e0]
          go_simp
        · go_simp
      · clear dp0 dp1 dp2 dp3 dp4 dp5
        go_simp
        exact wildUpon_value ⟨⟨_, rfl⟩, (Below.refl _ _).alloc (Nat.le_refl _) _, fun b hb => by cases hb⟩
      · obtain ⟨B, e0⟩ := dp2 (by decide)
        clear dp0 dp1 dp2 dp3 dp4 dp5
        refine wild_cl (.tmp 31) (.tmp 33) rfl B ws D m d ?_ ?_ (HXM.out.on hbw) (by omega)
        · rw [← e0]
          go_simp
        · go_simp
      · obtain ⟨g3, k3, e3, -⟩ := dp1 (by decide)
        obtain ⟨g7, k7, e7, -⟩ := dp3 (by decide)
        clear dp0 dp1 dp2 dp3 dp4 dp5
        simp only [List.map_cons, List.map_nil]
        rw [e3, e7]
        go_simp
        exact wildUpon_value ⟨⟨trivial, rfl⟩, Below.refl _ _, fun b hb => by cases hb⟩
      · clear dp0 dp1 dp2 dp3 dp4 dp5
        go_simp
        exact wild_var
    · skip
      intro vs w' hbw hr hap hlk
      simp only [List.forall_mem_cons, List.not_mem_nil, false_implies, implies_true, and_true] at hr hap
      obtain ⟨hh0, ⟨hh3, n3⟩, hh4, ⟨hh7, n7⟩, hh8, ⟨hh9, n9⟩⟩ := hr
      obtain ⟨B0, e0⟩ := hh0
      obtain ⟨g3, k3, e3, q3, r3, o3⟩ := hh3
      rw [e3] at n3
      obtain ⟨B4, e4⟩ := hh4
      obtain ⟨g7, k7, e7, q7, r7, o7⟩ := hh7
      rw [e7] at n7
      clear hh8
      obtain ⟨p9, e9, o9⟩ := hh9
      rw [e9] at n9
      simp only [List.forall_mem_cons, List.not_mem_nil, false_implies, implies_true, and_true, true_and, List.map_cons, List.map_nil, isAgg1, e0, e3, e4, e7, e9] at hlk
      have l8 := hlk
      try simp only [e0, e3, e4, e7, e9] at hap
      try simp only [newB_ptr, newB_row, newB_win, newB_win2, List.mem_cons, forall_eq_or_imp, or_false, List.mem_singleton, forall_eq, List.not_mem_nil, false_implies, implies_true, not_false_eq_true, and_true, true_and] at n3 n7 n9 hap
      try simp only [ne_eq, not_true_eq_false, false_implies, true_and, and_true, Nat.reduceEqDiff, not_false_eq_true, forall_const] at hap
      simp only [putsF, List.foldl_cons, List.foldl_nil, e0, e3, e4, e7, e9, l8, List.drop_succ_cons, List.drop_zero]
      clear e0 e3 e4 e7 e9 l8
      have c9 := heap_cell 0 _ o9 rfl
      have d9 := heap_cell 1 _ o9 rfl
      have f9 : ∀ o, w'.frozen? ⟨p9, o, none⟩ = false := fun o => heap_free o o9
      have ha1 := hap.2.2.1
      have ha2 := hap.2.2.2
      have hws := hbw.size
      have ho3 := o3
      have ho7 := o7
      have HO3 := Lib.hid o3
      have HO7 := Lib.hid o7
      have HA := Lib.hid hap
      have hp9 := n9.1
      have hp9l := n9.2
      clear hlk hap o3 o7 ho3 ho7 n3 n7 ha1 ha2 l0 l1 o9
      go_upto_region 6 with (fail)
      refine wp_name fun W5 hW => ?_
      have hT : Below w2.heap.size w2 W5 := by rw [hW.out]; (repeat' (first | (with_reducible exact Below.refl _ _) | (with_reducible assumption) | (with_reducible refine below_drewN ?_ _) | (with_reducible refine Below.drew ?_) | (with_reducible refine below_new ?_ (Nat.le_refl _) _) | (with_reducible refine Below.setCell ?_ ?_ _) | (with_reducible refine below_go ?_ (by assumption) (Nat.le_refl _)) | (simp; done) | (simp; omega) | omega))
      have HMV : Hid (LV W5 p9 ns ws (some ⟨g3, 0, none⟩) (some ⟨g7, 0, none⟩) n m k3 k7) := Lib.hid ⟨by rw [hW.out]; simp; omega, by rw [hW.out]; go_simp, by rw [hW.out]; go_simp, by
        rw [hW.out]
        have hn := HLN.out.1
        have hm := HLN.out.2
        refine ⟨_, _, rfl, ⟨_, _, by rw [hn], by omega, r3, ?_, fun b o _ _ => Nat.zero_le _⟩, ⟨_, _, by rw [hm], by omega, r7, ?_, fun b o _ _ => Nat.zero_le _⟩⟩
        · rw [← hn]
          simpa using (HO3.out.apart HA.out.2.2.1 0 _).apart HA.out.2.2.1 1 _
        · rw [← hm]
          simpa using (HO7.out.apart HA.out.2.2.2 0 _).apart HA.out.2.2.2 1 _⟩
      replace HLV := Lib.hid (HLV.out.below hT)
      replace HCV := Lib.hid (HCV.out.below hT)
      have HB : Hid (Below w.heap.size w W5) := Lib.hid (hB2.trans (hT.mono hB2.size))
      clear hW hT hbw c9 d9 f9 HO3 HO7 HA hB2 HXN HXM n9 hws hp9 hp9l
      have l0 := HLV.out.c0
      have l1 := HLV.out.c1
      go_wp2_with fail
      refine (rright_at ns ws _ 0 q _ HLV.out.line (by have := HLN.out; omega) (by have := HLN.out; omega) HQ.out).mono ?_
      rintro e W6 ⟨rfl, hS⟩
      replace HLV := Lib.hid (HLV.out.below hS)
      replace HCV := Lib.hid (HCV.out.below hS)
      replace HMV := Lib.hid (HMV.out.below hS)
      replace HB := Lib.hid (HB.out.trans (hS.mono HB.out.size))
      clear l0 l1 hS
      have m0 := HMV.out.c0
      have m1 := HMV.out.c1
      have t0 := HCV.out.c 0 (by omega)
      have t1 := HCV.out.c 1 (by omega)
      have t2 := HCV.out.c 2 (by omega)
      have t3 := HCV.out.c 3 (by omega)
      have t4 := HCV.out.c 4 (by omega)
      have t5 := HCV.out.c 5 (by omega)
      have t6 := HCV.out.c 6 (by omega)
      simp only [CmdS.cells, List.getElem?_cons_zero, List.getElem?_cons_succ] at t0 t1 t2 t3 t4 t5 t6
      go_wp2_with fail
      refine (HADD.out _ _ _ HMV.out.line).mono ?_
      rintro e V7 ⟨v, i, rfl, hl, hi, hS⟩
      obtain ⟨a7, b7, rfl, ⟨A7, c7, rfl, y1⟩, ⟨D7, d7, rfl, y2⟩⟩ := hl
      have HL7 : Hid (LineV V7 0 R.ns R.ws (.agg #[.slice A7 R.ns.length c7, .slice D7 R.ws.length d7])) := Lib.hid (LineV.base0 ⟨_, _, rfl, ⟨A7, c7, rfl, y1⟩, ⟨D7, d7, rfl, y2⟩⟩ (Nat.zero_le _))
      obtain ⟨I7, ci7, rfl, hc7, hd7, hs7⟩ := hi.form
      have J7 := Lib.hid hs7
      clear hs7 hi
      have hsV := hS.size
      clear y1 y2
      clear m0 m1 t0 t1 t2 t3 t4 t5 t6
      go_upto_region 8 with (fail)
      refine wp_name fun W7 hW => ?_
      have hV : Below V7.heap.size V7 W7 := by rw [hW.out]; (repeat' (first | (with_reducible exact Below.refl _ _) | (with_reducible assumption) | (with_reducible refine below_drewN ?_ _) | (with_reducible refine Below.drew ?_) | (with_reducible refine below_new ?_ (Nat.le_refl _) _) | (with_reducible refine Below.setCell ?_ ?_ _) | (with_reducible refine below_go ?_ (by assumption) (Nat.le_refl _)) | (simp; done) | (simp; omega) | omega))
      have hT : Below W6.heap.size W6 W7 := by rw [hW.out]; (repeat' (first | (with_reducible exact Below.refl _ _) | (with_reducible assumption) | (with_reducible refine below_drewN ?_ _) | (with_reducible refine Below.drew ?_) | (with_reducible refine below_new ?_ (Nat.le_refl _) _) | (with_reducible refine Below.setCell ?_ ?_ _) | (with_reducible refine below_go ?_ (by assumption) (Nat.le_refl _)) | (simp; done) | (simp; omega) | omega))
      have N7 : Hid (LV W7 V7.heap.size R.ns R.ws A7 D7 R.ns.length R.ws.length c7 d7) := Lib.hid ⟨by rw [hW.out]; simp, by rw [hW.out]; go_simp, by rw [hW.out]; go_simp, HL7.out.below hV⟩
      replace J7 := Lib.hid (J7.out.on hV)
      replace HLV := Lib.hid (HLV.out.below hT)
      replace HCV := Lib.hid (HCV.out.below hT)
      replace HMV := Lib.hid (HMV.out.below hT)
      replace HB := Lib.hid (HB.out.trans (hT.mono HB.out.size))
      clear hW hV hT hS hsV HL7
      have l0 := HLV.out.c0
      have l1 := HLV.out.c1
      have t0 := HCV.out.c 0 (by omega)
      have t1 := HCV.out.c 1 (by omega)
      have t2 := HCV.out.c 2 (by omega)
      have t3 := HCV.out.c 3 (by omega)
      have t4 := HCV.out.c 4 (by omega)
      have t5 := HCV.out.c 5 (by omega)
      have t6 := HCV.out.c 6 (by omega)
      simp only [CmdS.cells, List.getElem?_cons_zero, List.getElem?_cons_succ] at t0 t1 t2 t3 t4 t5 t6
      go_wp2_with fail
      refine (HRADD.out _ _ _ HLV.out.line).mono ?_
      rintro e V8 ⟨v, i, rfl, hl, hi, hS⟩
      obtain ⟨a8, b8, rfl, ⟨A8, c8, rfl, y1⟩, ⟨D8, d8, rfl, y2⟩⟩ := hl
      have HL8 : Hid (LineV V8 0 R.ns R.ws (.agg #[.slice A8 R.ns.length c8, .slice D8 R.ws.length d8])) := Lib.hid (LineV.base0 ⟨_, _, rfl, ⟨A8, c8, rfl, y1⟩, ⟨D8, d8, rfl, y2⟩⟩ (Nat.zero_le _))
      obtain ⟨I8, ci8, rfl, hc8, hd8, hs8⟩ := hi.form
      have J8 := Lib.hid hs8
      clear hs8 hi
      have hsV := hS.size
      clear y1 y2
      clear l0 l1 t0 t1 t2 t3 t4 t5 t6
      go_upto_region 9 with (fail)
      refine wp_name fun W8 hW => ?_
      have hV : Below V8.heap.size V8 W8 := by rw [hW.out]; (repeat' (first | (with_reducible exact Below.refl _ _) | (with_reducible assumption) | (with_reducible refine below_drewN ?_ _) | (with_reducible refine Below.drew ?_) | (with_reducible refine below_new ?_ (Nat.le_refl _) _) | (with_reducible refine Below.setCell ?_ ?_ _) | (with_reducible refine below_go ?_ (by assumption) (Nat.le_refl _)) | (simp; done) | (simp; omega) | omega))
      have hT : Below W7.heap.size W7 W8 := by rw [hW.out]; (repeat' (first | (with_reducible exact Below.refl _ _) | (with_reducible assumption) | (with_reducible refine below_drewN ?_ _) | (with_reducible refine Below.drew ?_) | (with_reducible refine below_new ?_ (Nat.le_refl _) _) | (with_reducible refine Below.setCell ?_ ?_ _) | (with_reducible refine below_go ?_ (by assumption) (Nat.le_refl _)) | (simp; done) | (simp; omega) | omega))
      have N8 : Hid (LV W8 V8.heap.size R.ns R.ws A8 D8 R.ns.length R.ws.length c8 d8) := Lib.hid ⟨by rw [hW.out]; simp, by rw [hW.out]; go_simp, by rw [hW.out]; go_simp, HL8.out.below hV⟩
      replace J8 := Lib.hid (J8.out.on hV)
      replace HLV := Lib.hid (HLV.out.below hT)
      replace HCV := Lib.hid (HCV.out.below hT)
      replace HMV := Lib.hid (HMV.out.below hT)
      replace N7 := Lib.hid (N7.out.below hT)
      replace J7 := Lib.hid (J7.out.on hT)
      replace HB := Lib.hid (HB.out.trans (hT.mono HB.out.size))
      clear hW hV hT hS hsV HL8
      have m0 := HMV.out.c0
      have m1 := HMV.out.c1
      go_wp2_with fail
      refine (lright_at ns ws _ 0 q _ HMV.out.line HQ.out).mono ?_
      rintro e W9 ⟨rfl, hS⟩
      replace HLV := Lib.hid (HLV.out.below hS)
      replace HCV := Lib.hid (HCV.out.below hS)
      replace HMV := Lib.hid (HMV.out.below hS)
      replace N7 := Lib.hid (N7.out.below hS)
      replace N8 := Lib.hid (N8.out.below hS)
      replace J7 := Lib.hid (J7.out.on hS)
      replace J8 := Lib.hid (J8.out.on hS)
      replace HB := Lib.hid (HB.out.trans (hS.mono HB.out.size))
      clear m0 m1 hS
      have m0 := N7.out.c0
      have m1 := N7.out.c1
      have l0 := N8.out.c0
      have l1 := N8.out.c1
      go_wp2_with fail
      refine (same_at R.ns R.ws _ _ 0 0 _ N7.out.line N8.out.line).mono ?_
      rintro e W10 ⟨rfl, hS⟩
      replace HLV := Lib.hid (HLV.out.below hS)
      replace HCV := Lib.hid (HCV.out.below hS)
      replace HMV := Lib.hid (HMV.out.below hS)
      replace N7 := Lib.hid (N7.out.below hS)
      replace N8 := Lib.hid (N8.out.below hS)
      replace J7 := Lib.hid (J7.out.on hS)
      replace J8 := Lib.hid (J8.out.on hS)
      replace HB := Lib.hid (HB.out.trans (hS.mono HB.out.size))
      clear m0 m1 l0 l1 hS
      go_wp2_with fail
      refine (same_ints _ _ I7 I8 _ _ ci7 ci8 true _ J7.out J8.out ⟨hc7, hd7⟩ ⟨hc8, hd8⟩ (by simp)).mono ?_
      rintro e W11 ⟨rfl, hS⟩
      replace HLV := Lib.hid (HLV.out.below hS)
      replace HCV := Lib.hid (HCV.out.below hS)
      replace HMV := Lib.hid (HMV.out.below hS)
      replace N7 := Lib.hid (N7.out.below hS)
      replace N8 := Lib.hid (N8.out.below hS)
      replace J7 := Lib.hid (J7.out.on hS)
      replace J8 := Lib.hid (J8.out.on hS)
      replace HB := Lib.hid (HB.out.trans (hS.mono HB.out.size))
      clear hS N7 N8 J7 J8
      have l0 := HLV.out.c0
      have l1 := HLV.out.c1
      go_wp2_with fail
      refine (rlist_at ns ws _ 0 _ HLV.out.line (by have := HLN.out; omega) (by have := HLN.out; omega)).mono ?_
      rintro e W12 ⟨⟨v, rfl, ho⟩, hS⟩
      rw [HNL.out] at ho
      obtain ⟨L, cL, rfl, hcL, hdL, hL⟩ := ReadC.of_own ho
      have HR : Hid (isReadC N (cmdsC (ns ++ ws)) 0 (.slice L N cL) W12) := Lib.hid ((ReadC.of_own ho).base0 (Nat.zero_le _))
      replace HLV := Lib.hid (HLV.out.below hS)
      replace HCV := Lib.hid (HCV.out.below hS)
      replace HMV := Lib.hid (HMV.out.below hS)
      replace HB := Lib.hid (HB.out.trans (hS.mono HB.out.size))
      clear hS l0 l1 ho hL
      have m0 := HMV.out.c0
      have m1 := HMV.out.c1
      go_wp2_with fail
      refine (HE.out _ _ _ HMV.out.line).mono ?_
      rintro e V12 ⟨v, rfl, hl, hS⟩
      obtain ⟨a12, b12, rfl, ⟨A12, c12, rfl, y1⟩, ⟨D12, d12, rfl, y2⟩⟩ := hl
      have HL12 : Hid (LineV V12 0 E.ns E.ws (.agg #[.slice A12 E.ns.length c12, .slice D12 E.ws.length d12])) := Lib.hid (LineV.base0 ⟨_, _, rfl, ⟨A12, c12, rfl, y1⟩, ⟨D12, d12, rfl, y2⟩⟩ (Nat.zero_le _))
      have hsV := hS.size
      clear y1 y2
      clear m0 m1
      go_upto_region 13 with (fail)
      refine wp_name fun W13 hW => ?_
      have hV : Below V12.heap.size V12 W13 := by rw [hW.out]; (repeat' (first | (with_reducible exact Below.refl _ _) | (with_reducible assumption) | (with_reducible refine below_drewN ?_ _) | (with_reducible refine Below.drew ?_) | (with_reducible refine below_new ?_ (Nat.le_refl _) _) | (with_reducible refine Below.setCell ?_ ?_ _) | (with_reducible refine below_go ?_ (by assumption) (Nat.le_refl _)) | (simp; done) | (simp; omega) | omega))
      have hT : Below W12.heap.size W12 W13 := by rw [hW.out]; (repeat' (first | (with_reducible exact Below.refl _ _) | (with_reducible assumption) | (with_reducible refine below_drewN ?_ _) | (with_reducible refine Below.drew ?_) | (with_reducible refine below_new ?_ (Nat.le_refl _) _) | (with_reducible refine Below.setCell ?_ ?_ _) | (with_reducible refine below_go ?_ (by assumption) (Nat.le_refl _)) | (simp; done) | (simp; omega) | omega))
      have N12 : Hid (LV W13 V12.heap.size E.ns E.ws A12 D12 E.ns.length E.ws.length c12 d12) := Lib.hid ⟨by rw [hW.out]; simp, by rw [hW.out]; go_simp, by rw [hW.out]; go_simp, HL12.out.below hV⟩
      replace HLV := Lib.hid (HLV.out.below hT)
      replace HCV := Lib.hid (HCV.out.below hT)
      replace HMV := Lib.hid (HMV.out.below hT)
      replace HR := Lib.hid (HR.out.below hT)
      replace HB := Lib.hid (HB.out.trans (hT.mono HB.out.size))
      clear hW hV hT hS hsV HL12
      have m0 := HMV.out.c0
      have m1 := HMV.out.c1
      go_wp2_with fail
      refine (HK.out _ _ _ HMV.out.line).mono ?_
      rintro e V13 ⟨v, i, rfl, hl, hi, hS⟩
      obtain ⟨a13, b13, rfl, ⟨A13, c13, rfl, y1⟩, ⟨D13, d13, rfl, y2⟩⟩ := hl
      simp only [List.length_nil] at y1 y2 ⊢
      have HL13 : Hid (LineV V13 0 [] [] (.agg #[.slice A13 0 c13, .slice D13 0 d13])) := Lib.hid (LineV.base0 ⟨_, _, rfl, ⟨A13, c13, rfl, y1⟩, ⟨D13, d13, rfl, y2⟩⟩ (Nat.zero_le _))
      obtain ⟨I13, ci13, rfl, hc13, hd13, hs13⟩ := hi.form
      have J13 := Lib.hid hs13
      clear hs13 hi
      have hsV := hS.size
      clear y1 y2 m0 m1
      go_upto_region 14 with (fail)
      refine wp_name fun W14 hW => ?_
      have hV : Below V13.heap.size V13 W14 := by rw [hW.out]; (repeat' (first | (with_reducible exact Below.refl _ _) | (with_reducible assumption) | (with_reducible refine below_drewN ?_ _) | (with_reducible refine Below.drew ?_) | (with_reducible refine below_new ?_ (Nat.le_refl _) _) | (with_reducible refine Below.setCell ?_ ?_ _) | (with_reducible refine below_go ?_ (by assumption) (Nat.le_refl _)) | (simp; done) | (simp; omega) | omega))
      have hT : Below W13.heap.size W13 W14 := by rw [hW.out]; (repeat' (first | (with_reducible exact Below.refl _ _) | (with_reducible assumption) | (with_reducible refine below_drewN ?_ _) | (with_reducible refine Below.drew ?_) | (with_reducible refine below_new ?_ (Nat.le_refl _) _) | (with_reducible refine Below.setCell ?_ ?_ _) | (with_reducible refine below_go ?_ (by assumption) (Nat.le_refl _)) | (simp; done) | (simp; omega) | omega))
      have N13 : Hid (LV W14 V13.heap.size [] [] A13 D13 0 0 c13 d13) := Lib.hid ⟨by rw [hW.out]; simp, by rw [hW.out]; go_simp, by rw [hW.out]; go_simp, HL13.out.below hV⟩
      replace J13 := Lib.hid (J13.out.on hV)
      replace HLV := Lib.hid (HLV.out.below hT)
      replace HCV := Lib.hid (HCV.out.below hT)
      replace HMV := Lib.hid (HMV.out.below hT)
      replace HR := Lib.hid (HR.out.below hT)
      replace N12 := Lib.hid (N12.out.below hT)
      replace HB := Lib.hid (HB.out.trans (hT.mono HB.out.size))
      clear hW hV hT hS hsV HL13
      have m0 := HMV.out.c0
      have m1 := HMV.out.c1
      go_wp2_with fail
      refine (HF.out _ _ _ HMV.out.line).mono ?_
      rintro e V14 ⟨rfl, hS⟩
      have hsV := hS.size
      clear m0 m1
      go_upto_region 15 with (fail)
      refine wp_name fun W15 hW => ?_
      have hT : Below W14.heap.size W14 W15 := by rw [hW.out]; (repeat' (first | (with_reducible exact Below.refl _ _) | (with_reducible assumption) | (with_reducible refine below_drewN ?_ _) | (with_reducible refine Below.drew ?_) | (with_reducible refine below_new ?_ (Nat.le_refl _) _) | (with_reducible refine Below.setCell ?_ ?_ _) | (with_reducible refine below_go ?_ (by assumption) (Nat.le_refl _)) | (simp; done) | (simp; omega) | omega))
      have z0 : W15.cell? ⟨V14.heap.size, 0, none⟩ = some (.int .i64 F.x.id) := by rw [hW.out]; go_simp
      have z1 : W15.cell? ⟨V14.heap.size, 1, none⟩ = some (.int .i64 F.x.kind) := by rw [hW.out]; go_simp
      have z2 : W15.cell? ⟨V14.heap.size, 2, none⟩ = some (.int .i64 F.x.target) := by rw [hW.out]; go_simp
      have z3 : W15.cell? ⟨V14.heap.size, 3, none⟩ = some (.int .i64 F.x.speed) := by rw [hW.out]; go_simp
      have z4 : W15.cell? ⟨V14.heap.size, 4, none⟩ = some (.int .i64 F.x.mode) := by rw [hW.out]; go_simp
      have z5 : W15.cell? ⟨V14.heap.size, 5, none⟩ = some (.int .i64 F.x.num) := by rw [hW.out]; go_simp
      have z6 : W15.cell? ⟨V14.heap.size, 6, none⟩ = some (.int .i64 F.x.den) := by rw [hW.out]; go_simp
      have N14 : Hid (CV W15 V14.heap.size F.x) := Lib.hid ⟨by rw [hW.out]; simp, fun j hj => by
        match j, hj with
        | 0, _ => exact z0
        | 1, _ => exact z1
        | 2, _ => exact z2
        | 3, _ => exact z3
        | 4, _ => exact z4
        | 5, _ => exact z5
        | 6, _ => exact z6⟩
      replace HLV := Lib.hid (HLV.out.below hT)
      replace HCV := Lib.hid (HCV.out.below hT)
      replace HMV := Lib.hid (HMV.out.below hT)
      replace HR := Lib.hid (HR.out.below hT)
      replace N12 := Lib.hid (N12.out.below hT)
      replace N13 := Lib.hid (N13.out.below hT)
      replace J13 := Lib.hid (J13.out.on hT)
      replace HB := Lib.hid (HB.out.trans (hT.mono HB.out.size))
      clear hW hT hS hsV z0 z1 z2 z3 z4 z5 z6
      have m0 := HMV.out.c0
      have m1 := HMV.out.c1
      go_wp2_with fail
      refine (HG.out _ _ _ HMV.out.line).mono ?_
      rintro e V15 ⟨rfl, hS⟩
      have hsV := hS.size
      clear m0 m1
      go_upto_region 16 with (fail)
      refine wp_name fun W16 hW => ?_
      have hT : Below W15.heap.size W15 W16 := by rw [hW.out]; (repeat' (first | (with_reducible exact Below.refl _ _) | (with_reducible assumption) | (with_reducible refine below_drewN ?_ _) | (with_reducible refine Below.drew ?_) | (with_reducible refine below_new ?_ (Nat.le_refl _) _) | (with_reducible refine Below.setCell ?_ ?_ _) | (with_reducible refine below_go ?_ (by assumption) (Nat.le_refl _)) | (simp; done) | (simp; omega) | omega))
      have z0 : W16.cell? ⟨V15.heap.size, 0, none⟩ = some (.int .i64 G.x.id) := by rw [hW.out]; go_simp
      have z1 : W16.cell? ⟨V15.heap.size, 1, none⟩ = some (.int .i64 G.x.kind) := by rw [hW.out]; go_simp
      have z2 : W16.cell? ⟨V15.heap.size, 2, none⟩ = some (.int .i64 G.x.target) := by rw [hW.out]; go_simp
      have z3 : W16.cell? ⟨V15.heap.size, 3, none⟩ = some (.int .i64 G.x.speed) := by rw [hW.out]; go_simp
      have z4 : W16.cell? ⟨V15.heap.size, 4, none⟩ = some (.int .i64 G.x.mode) := by rw [hW.out]; go_simp
      have z5 : W16.cell? ⟨V15.heap.size, 5, none⟩ = some (.int .i64 G.x.num) := by rw [hW.out]; go_simp
      have z6 : W16.cell? ⟨V15.heap.size, 6, none⟩ = some (.int .i64 G.x.den) := by rw [hW.out]; go_simp
      have N15 : Hid (CV W16 V15.heap.size G.x) := Lib.hid ⟨by rw [hW.out]; simp, fun j hj => by
        match j, hj with
        | 0, _ => exact z0
        | 1, _ => exact z1
        | 2, _ => exact z2
        | 3, _ => exact z3
        | 4, _ => exact z4
        | 5, _ => exact z5
        | 6, _ => exact z6⟩
      replace HLV := Lib.hid (HLV.out.below hT)
      replace HCV := Lib.hid (HCV.out.below hT)
      replace HMV := Lib.hid (HMV.out.below hT)
      replace HR := Lib.hid (HR.out.below hT)
      replace N12 := Lib.hid (N12.out.below hT)
      replace N13 := Lib.hid (N13.out.below hT)
      replace N14 := Lib.hid (N14.out.below hT)
      replace J13 := Lib.hid (J13.out.on hT)
      replace HB := Lib.hid (HB.out.trans (hT.mono HB.out.size))
      clear hW hT hS hsV z0 z1 z2 z3 z4 z5 z6
      clear HADD HRADD HE HK HF HG
      cases q
      · obtain ⟨e1, e2, e3, e4⟩ := told_no HQ.out
        rw [EE.out] at e1
        rw [EK.out] at e2
        rw [EF.out] at e3
        rw [EG.out] at e4
        clear EE EK EF EG
        subst e1 e2 e3 e4
        simp only [List.length_nil] at N12 hc13 ⊢
        have m0 := N12.out.c0
        have m1 := N12.out.c1
        have l0 := N13.out.c0
        have l1 := N13.out.c1
        go_wp2_with fail
        refine (same_at [] [] _ _ 0 0 _ N12.out.line nil_line).mono ?_
        rintro e W17 ⟨rfl, hS⟩
        replace N12 := Lib.hid (N12.out.below hS)
        replace N13 := Lib.hid (N13.out.below hS)
        replace N14 := Lib.hid (N14.out.below hS)
        replace N15 := Lib.hid (N15.out.below hS)
        replace HB := Lib.hid (HB.out.trans (hS.mono HB.out.size))
        clear m0 m1 l0 l1 hS
        have l0 := N13.out.c0
        have l1 := N13.out.c1
        go_wp2_with fail
        refine (same_at [] [] _ _ 0 0 _ N13.out.line nil_line).mono ?_
        rintro e W18 ⟨rfl, hS⟩
        replace N12 := Lib.hid (N12.out.below hS)
        replace N13 := Lib.hid (N13.out.below hS)
        replace N14 := Lib.hid (N14.out.below hS)
        replace N15 := Lib.hid (N15.out.below hS)
        replace HB := Lib.hid (HB.out.trans (hS.mono HB.out.size))
        clear l0 l1 hS
        have t0 : W18.cell? ⟨V14.heap.size, 0, none⟩ = some (.int .i64 0) := N14.out.c 0 (by omega)
        have t1 : W18.cell? ⟨V14.heap.size, 1, none⟩ = some (.int .i64 0) := N14.out.c 1 (by omega)
        have t2 : W18.cell? ⟨V14.heap.size, 2, none⟩ = some (.int .i64 0) := N14.out.c 2 (by omega)
        have t3 : W18.cell? ⟨V14.heap.size, 3, none⟩ = some (.int .i64 0) := N14.out.c 3 (by omega)
        have t4 : W18.cell? ⟨V14.heap.size, 4, none⟩ = some (.int .i64 0) := N14.out.c 4 (by omega)
        have t5 : W18.cell? ⟨V14.heap.size, 5, none⟩ = some (.int .i64 0) := N14.out.c 5 (by omega)
        have t6 : W18.cell? ⟨V14.heap.size, 6, none⟩ = some (.int .i64 0) := N14.out.c 6 (by omega)
        have u0 : W18.cell? ⟨V15.heap.size, 0, none⟩ = some (.int .i64 0) := N15.out.c 0 (by omega)
        have u1 : W18.cell? ⟨V15.heap.size, 1, none⟩ = some (.int .i64 0) := N15.out.c 1 (by omega)
        have u2 : W18.cell? ⟨V15.heap.size, 2, none⟩ = some (.int .i64 0) := N15.out.c 2 (by omega)
        have u3 : W18.cell? ⟨V15.heap.size, 3, none⟩ = some (.int .i64 0) := N15.out.c 3 (by omega)
        have u4 : W18.cell? ⟨V15.heap.size, 4, none⟩ = some (.int .i64 0) := N15.out.c 4 (by omega)
        have u5 : W18.cell? ⟨V15.heap.size, 5, none⟩ = some (.int .i64 0) := N15.out.c 5 (by omega)
        have u6 : W18.cell? ⟨V15.heap.size, 6, none⟩ = some (.int .i64 0) := N15.out.c 6 (by omega)
        go_wp2
        go_ret
        exact ⟨rfl, HB.out⟩
      · rcases line_cases HQ.out with ⟨rfl, rfl⟩ | ⟨y, rfl⟩
        · obtain ⟨e1, e2, e3, e4⟩ := told_nil
          rw [EE.out] at e1
          rw [EK.out] at e2
          rw [EF.out] at e3
          rw [EG.out] at e4
          obtain ⟨rfl, rfl⟩ : n = 0 ∧ m = 0 := HLN.out
          obtain rfl : N = 0 := HNL.out.symm
          clear EE EK EF EG HNL HLN
          subst e1 e2 e3 e4
          simp only [List.length_nil, List.append_nil, List.map_nil] at N12 HR hc13 J13 ⊢
          have l0 := N13.out.c0
          have l1 := N13.out.c1
          go_wp2_with fail
          refine (same_at [] [] _ _ 0 0 _ N13.out.line nil_line).mono ?_
          rintro e W17 ⟨rfl, hS⟩
          replace HLV := Lib.hid (HLV.out.below hS)
          replace HMV := Lib.hid (HMV.out.below hS)
          replace N12 := Lib.hid (N12.out.below hS)
          replace N13 := Lib.hid (N13.out.below hS)
          replace HR := Lib.hid (HR.out.below hS)
          replace J13 := Lib.hid (J13.out.on hS)
          replace HB := Lib.hid (HB.out.trans (hS.mono HB.out.size))
          clear l0 l1 hS
          go_wp2_with fail
          refine (rids_at [] _ 0 _ HR.out (by simp)).mono ?_
          rintro e W18 ⟨⟨v, rfl, ho⟩, hS⟩
          obtain ⟨I18, ci18, rfl, hc18, hd18, hs18⟩ := IdsV.form (xs := []) ho
          have J18 := Lib.hid hs18
          replace HLV := Lib.hid (HLV.out.below hS)
          replace HMV := Lib.hid (HMV.out.below hS)
          replace N12 := Lib.hid (N12.out.below hS)
          replace N13 := Lib.hid (N13.out.below hS)
          replace J13 := Lib.hid (J13.out.on hS)
          replace HB := Lib.hid (HB.out.trans (hS.mono HB.out.size))
          clear hS hs18 ho HR
          simp only [List.length_nil] at hc18 ⊢
          go_wp2_with fail
          refine (same_ints [] [] I13 I18 0 0 ci13 ci18 true _ J13.out J18.out ⟨by omega, hd13⟩ ⟨hc18, hd18⟩ rfl).mono ?_
          rintro e W19 ⟨rfl, hS⟩
          replace HLV := Lib.hid (HLV.out.below hS)
          replace HMV := Lib.hid (HMV.out.below hS)
          replace N12 := Lib.hid (N12.out.below hS)
          replace N13 := Lib.hid (N13.out.below hS)
          replace HB := Lib.hid (HB.out.trans (hS.mono HB.out.size))
          clear hS J13 J18
          have m0 := HMV.out.c0
          have m1 := HMV.out.c1
          have l0 := HLV.out.c0
          have l1 := HLV.out.c1
          go_wp2_with fail
          refine (same_at [] [] _ _ 0 0 _ HMV.out.line HLV.out.line).mono ?_
          rintro e W20 ⟨rfl, hS⟩
          replace N12 := Lib.hid (N12.out.below hS)
          replace HB := Lib.hid (HB.out.trans (hS.mono HB.out.size))
          clear m0 m1 l0 l1 hS HMV HLV
          have m0 := N12.out.c0
          have m1 := N12.out.c1
          go_wp2_with fail
          refine (same_at [] [] _ _ 0 0 _ N12.out.line nil_line).mono ?_
          rintro e W21 ⟨rfl, hS⟩
          replace N12 := Lib.hid (N12.out.below hS)
          replace HB := Lib.hid (HB.out.trans (hS.mono HB.out.size))
          clear m0 m1 hS
          go_wp2
          go_ret
          exact ⟨rfl, HB.out⟩
        · obtain ⟨e1, e2, e3, e4, e5, e6⟩ := told_one HQ.out
          rw [EE.out] at e1
          rw [EK.out] at e2
          rw [EF.out] at e3 e4
          rw [EG.out] at e5 e6
          obtain ⟨hn1, hm1⟩ := HLN.out
          have hNN : N = m + 1 := by
            have := HNL.out
            simp only [List.cons_append, List.nil_append, List.length_cons] at this
            omega
          rw [← hm1] at e4 e5 e6
          simp only [List.length_cons, List.length_nil, Nat.zero_add] at hn1
          simp only [List.cons_append, List.nil_append] at HR HNL
          obtain ⟨fx, fok⟩ := F
          obtain ⟨gx, gok⟩ := G
          simp only at e3 e4 e5 e6 N14 N15 ⊢
          subst e3 hn1
          have HM1 := Lib.hid hm1
          have HNM := Lib.hid hNN
          clear EE EK EF EG hm1 HLN
          rcases Nat.eq_zero_or_pos m with hm0 | hm0
          · subst hm0
            obtain rfl : ws = [] := List.eq_nil_of_length_eq_zero HM1.out.symm
            subst hNN
            obtain rfl : y = fx := by simpa using e4
            obtain rfl : gok = false := by simpa using e5
            clear e4 e5 e6 HM1 HNM HNL
            have HNL : Hid ([y].length = 1) := Lib.hid rfl
            subst e1 e2
            simp only [List.take_nil, List.drop_nil, List.length_cons, List.length_nil, Nat.zero_add] at N12 hc13 J13 ⊢
            have l0 := N13.out.c0
            have l1 := N13.out.c1
            go_wp2_with fail
            refine (same_at [] [] _ _ 0 0 _ N13.out.line nil_line).mono ?_
            rintro e W17 ⟨rfl, hS⟩
            replace HLV := Lib.hid (HLV.out.below hS)
            replace HMV := Lib.hid (HMV.out.below hS)
            replace N12 := Lib.hid (N12.out.below hS)
            replace N14 := Lib.hid (N14.out.below hS)
            replace N15 := Lib.hid (N15.out.below hS)
            replace HR := Lib.hid (HR.out.below hS)
            replace J13 := Lib.hid (J13.out.on hS)
            replace HB := Lib.hid (HB.out.trans (hS.mono HB.out.size))
            clear l0 l1 hS N13
            go_wp2_with fail
            refine (rids_at ([y]) _ 0 _ (by rw [HNL.out]; exact HR.out) (by rw [HNL.out]; omega)).mono ?_
            rintro e W18 ⟨⟨v, rfl, ho⟩, hS⟩
            obtain ⟨I18, ci18, rfl, hc18, hd18, hs18⟩ := IdsV.form (xs := [y]) ho
            rw [HNL.out] at hc18 hs18 ⊢
            have J18 := Lib.hid hs18
            replace HLV := Lib.hid (HLV.out.below hS)
            replace HMV := Lib.hid (HMV.out.below hS)
            replace N12 := Lib.hid (N12.out.below hS)
            replace N14 := Lib.hid (N14.out.below hS)
            replace N15 := Lib.hid (N15.out.below hS)
            replace HR := Lib.hid (HR.out.below hS)
            replace J13 := Lib.hid (J13.out.on hS)
            replace HB := Lib.hid (HB.out.trans (hS.mono HB.out.size))
            clear hS hs18 ho
            go_wp2_with fail
            refine (same_ints _ _ I13 I18 _ _ ci13 ci18 true _ J13.out J18.out ⟨hc13, hd13⟩ ⟨hc18, hd18⟩ (by simp)).mono ?_
            rintro e W19 ⟨rfl, hS⟩
            replace HLV := Lib.hid (HLV.out.below hS)
            replace HMV := Lib.hid (HMV.out.below hS)
            replace N12 := Lib.hid (N12.out.below hS)
            replace N14 := Lib.hid (N14.out.below hS)
            replace N15 := Lib.hid (N15.out.below hS)
            replace HR := Lib.hid (HR.out.below hS)
            replace HB := Lib.hid (HB.out.trans (hS.mono HB.out.size))
            clear hS J13 J18
            have m0 := HMV.out.c0
            have m1 := HMV.out.c1
            have l0 := HLV.out.c0
            have l1 := HLV.out.c1
            go_wp2_with fail
            refine (same_at [y] ([]) _ _ 0 0 _ HMV.out.line HLV.out.line).mono ?_
            rintro e W20 ⟨rfl, hS⟩
            replace N12 := Lib.hid (N12.out.below hS)
            replace N14 := Lib.hid (N14.out.below hS)
            replace N15 := Lib.hid (N15.out.below hS)
            replace HR := Lib.hid (HR.out.below hS)
            replace HB := Lib.hid (HB.out.trans (hS.mono HB.out.size))
            clear m0 m1 l0 l1 hS HMV HLV
            go_upto_region 22 with (fail)
            obtain ⟨hLies, hLc, hLd⟩ := HR.out.lies
            obtain ⟨bl, ol, rfl⟩ := hLies.some (by omega)
            obtain ⟨hbl, hyc⟩ := hLies.at_cmd 0 y rfl
            simp only [Nat.zero_mul, Nat.add_zero] at hyc
            have m0 := N12.out.c0
            have m1 := N12.out.c1
            have h12 := N12.out.lt
            have h14 := N14.out.lt
            have f0 : W20.cell? ⟨V14.heap.size, 0, none⟩ = some (.int .i64 y.id) := N14.out.c 0 (by omega)
            have f1 : W20.cell? ⟨V14.heap.size, 1, none⟩ = some (.int .i64 y.kind) := N14.out.c 1 (by omega)
            have f2 : W20.cell? ⟨V14.heap.size, 2, none⟩ = some (.int .i64 y.target) := N14.out.c 2 (by omega)
            have f3 : W20.cell? ⟨V14.heap.size, 3, none⟩ = some (.int .i64 y.speed) := N14.out.c 3 (by omega)
            have f4 : W20.cell? ⟨V14.heap.size, 4, none⟩ = some (.int .i64 y.mode) := N14.out.c 4 (by omega)
            have f5 : W20.cell? ⟨V14.heap.size, 5, none⟩ = some (.int .i64 y.num) := N14.out.c 5 (by omega)
            have f6 : W20.cell? ⟨V14.heap.size, 6, none⟩ = some (.int .i64 y.den) := N14.out.c 6 (by omega)
            have y0' : W20.cell? ⟨bl, ol, none⟩ = some (.int .i64 y.id) := hyc 0 (by omega)
            have y1' : W20.cell? ⟨bl, ol + 1, none⟩ = some (.int .i64 y.kind) := hyc 1 (by omega)
            have y2' : W20.cell? ⟨bl, ol + 2, none⟩ = some (.int .i64 y.target) := hyc 2 (by omega)
            have y3' : W20.cell? ⟨bl, ol + 3, none⟩ = some (.int .i64 y.speed) := hyc 3 (by omega)
            have y4' : W20.cell? ⟨bl, ol + 4, none⟩ = some (.int .i64 y.mode) := hyc 4 (by omega)
            have y5' : W20.cell? ⟨bl, ol + 5, none⟩ = some (.int .i64 y.num) := hyc 5 (by omega)
            have y6' : W20.cell? ⟨bl, ol + 6, none⟩ = some (.int .i64 y.den) := hyc 6 (by omega)
            have hcI : (1 : Int) ≤ (cL : Int) := by omega
            have hw0 : IntKind.i64.wrap 0 = 0 := rfl
            clear hyc hLies HNL
            by_cases hcc : cL = 1
            · subst hcc
              have HOF := Lib.hid (fun (W : World) (hb : Below W20.heap.size W20 W) => show Calls Try.prog 41 #[.slice (some ⟨bl, ol, none⟩) 0 0] W (fun e w' => RetL W w' [] [] e ∧ Below W.heap.size W w') from rof_at [] [] [] _ 0 W (read_none (by omega)) (by simp) rfl rfl)
              refine wp_region_held_drew (S := fun w' => w'.cell? ⟨V12.heap.size, 0, none⟩ = some (.slice A12 0 c12) ∧ w'.cell? ⟨V12.heap.size, 1, none⟩ = some (.slice D12 0 d12) ∧ w'.cell? ⟨V14.heap.size, 0, none⟩ = some (.int .i64 y.id) ∧ w'.cell? ⟨V14.heap.size, 1, none⟩ = some (.int .i64 y.kind) ∧ w'.cell? ⟨V14.heap.size, 2, none⟩ = some (.int .i64 y.target) ∧ w'.cell? ⟨V14.heap.size, 3, none⟩ = some (.int .i64 y.speed) ∧ w'.cell? ⟨V14.heap.size, 4, none⟩ = some (.int .i64 y.mode) ∧ w'.cell? ⟨V14.heap.size, 5, none⟩ = some (.int .i64 y.num) ∧ w'.cell? ⟨V14.heap.size, 6, none⟩ = some (.int .i64 y.den) ∧ w'.cell? ⟨bl, ol, none⟩ = some (.int .i64 y.id) ∧ w'.cell? ⟨bl, ol + 1, none⟩ = some (.int .i64 y.kind) ∧ w'.cell? ⟨bl, ol + 2, none⟩ = some (.int .i64 y.target) ∧ w'.cell? ⟨bl, ol + 3, none⟩ = some (.int .i64 y.speed) ∧ w'.cell? ⟨bl, ol + 4, none⟩ = some (.int .i64 y.mode) ∧ w'.cell? ⟨bl, ol + 5, none⟩ = some (.int .i64 y.num) ∧ w'.cell? ⟨bl, ol + 6, none⟩ = some (.int .i64 y.den)) (by kernel_rfl) ?_ (fun hHeld => ?_)
              · (refine ⟨?_, ?_, ?_, ?_, ?_, ?_, ?_, ?_, ?_, ?_, ?_, ?_, ?_, ?_, ?_, ?_⟩ <;> assumption)
              (refine takeH (i := 0) (v := ?_) rfl (by kernel_rfl) (by kernel_rfl) (by kernel_rfl) (fun _ _ _ h => h) (Or.inl ⟨by first | kernel_rfl | rfl, ?_⟩) (by assumption) ?_; rotate_left; focus (intro w' hSw; (try dsimp only at hSw); go_simp; try (with_reducible rfl)); (try simp only [Act.put, List.setIfInBounds_toArray, List.set_cons_zero, List.set_cons_succ]))
              (refine takeH (i := 1) (v := ?_) rfl (by kernel_rfl) (by kernel_rfl) (by kernel_rfl) (fun _ _ _ h => h) (Or.inl ⟨by first | kernel_rfl | rfl, ?_⟩) (by assumption) ?_; rotate_left; focus (intro w' hSw; (try dsimp only at hSw); go_simp; try (with_reducible rfl)); (try simp only [Act.put, List.setIfInBounds_toArray, List.set_cons_zero, List.set_cons_succ]))
              (refine takeH (i := 2) (v := ?_) rfl (by kernel_rfl) (by kernel_rfl) (by kernel_rfl) (fun _ _ _ h => h) (Or.inl ⟨by first | kernel_rfl | rfl, ?_⟩) (by assumption) ?_; rotate_left; focus (intro w' hSw; (try dsimp only at hSw); go_simp; try (with_reducible rfl)); (try simp only [Act.put, List.setIfInBounds_toArray, List.set_cons_zero, List.set_cons_succ]))
              (refine oneH (i := 3) (by kernel_rfl) rfl (fun K hK => ?_); go_simp; (go_at_call 41; (with_reducible refine (HOF.out _ ?bb).mono ?_); (case bb => (repeat' (first | (with_reducible exact Below.refl _ _) | (with_reducible assumption) | (with_reducible refine below_drewN ?_ _) | (with_reducible refine Below.drew ?_) | (with_reducible refine below_new ?_ (Nat.le_refl _) _) | (with_reducible refine Below.setCell ?_ ?_ _) | (with_reducible refine below_go ?_ (by assumption) (Nat.le_refl _)) | (simp; done) | (simp; omega) | omega))); rintro e W22 ⟨⟨v, rfl, hl⟩, hSa⟩; obtain ⟨a22, b22, rfl, ⟨A22, c22, rfl, y1⟩, ⟨D22, d22, rfl, y2⟩⟩ := hl; (have HL22 := Lib.hid (LineV.base0 (show LineV W22 _ [] [] (.agg #[.slice A22 0 c22, .slice D22 0 d22]) from ⟨_, _, rfl, ⟨A22, c22, rfl, y1⟩, ⟨D22, d22, rfl, y2⟩⟩) (Nat.zero_le _))); (have HBa : Below W20.heap.size W20 W22 := (by (repeat' (first | (with_reducible exact Below.refl _ _) | (with_reducible assumption) | (with_reducible refine below_drewN ?_ _) | (with_reducible refine Below.drew ?_) | (with_reducible refine below_new ?_ (Nat.le_refl _) _) | (with_reducible refine Below.setCell ?_ ?_ _) | (with_reducible refine below_go ?_ (by assumption) (Nat.le_refl _)) | (simp; done) | (simp; omega) | omega)))); (have hza := hSa.size); (simp at hza); (have h12a : V12.heap.size < W22.heap.size := by omega); (have h14a : V14.heap.size < W22.heap.size := by omega); (have hbla : bl < W22.heap.size := by omega); (have am0 : W22.cell? ⟨V12.heap.size, 0, none⟩ = some (.slice A12 0 c12) := (hSa.cell (p := ⟨V12.heap.size, 0, none⟩) (by first | exact h12 | (simp; exact h12) | (simp; omega))).trans (by first | exact m0 | go_simp)); (have am1 : W22.cell? ⟨V12.heap.size, 1, none⟩ = some (.slice D12 0 d12) := (hSa.cell (p := ⟨V12.heap.size, 1, none⟩) (by first | exact h12 | (simp; exact h12) | (simp; omega))).trans (by first | exact m1 | go_simp)); (have af0 : W22.cell? ⟨V14.heap.size, 0, none⟩ = some (.int .i64 y.id) := (hSa.cell (p := ⟨V14.heap.size, 0, none⟩) (by first | exact h14 | (simp; exact h14) | (simp; omega))).trans (by first | exact f0 | go_simp)); (have af1 : W22.cell? ⟨V14.heap.size, 1, none⟩ = some (.int .i64 y.kind) := (hSa.cell (p := ⟨V14.heap.size, 1, none⟩) (by first | exact h14 | (simp; exact h14) | (simp; omega))).trans (by first | exact f1 | go_simp)); (have af2 : W22.cell? ⟨V14.heap.size, 2, none⟩ = some (.int .i64 y.target) := (hSa.cell (p := ⟨V14.heap.size, 2, none⟩) (by first | exact h14 | (simp; exact h14) | (simp; omega))).trans (by first | exact f2 | go_simp)); (have af3 : W22.cell? ⟨V14.heap.size, 3, none⟩ = some (.int .i64 y.speed) := (hSa.cell (p := ⟨V14.heap.size, 3, none⟩) (by first | exact h14 | (simp; exact h14) | (simp; omega))).trans (by first | exact f3 | go_simp)); (have af4 : W22.cell? ⟨V14.heap.size, 4, none⟩ = some (.int .i64 y.mode) := (hSa.cell (p := ⟨V14.heap.size, 4, none⟩) (by first | exact h14 | (simp; exact h14) | (simp; omega))).trans (by first | exact f4 | go_simp)); (have af5 : W22.cell? ⟨V14.heap.size, 5, none⟩ = some (.int .i64 y.num) := (hSa.cell (p := ⟨V14.heap.size, 5, none⟩) (by first | exact h14 | (simp; exact h14) | (simp; omega))).trans (by first | exact f5 | go_simp)); (have af6 : W22.cell? ⟨V14.heap.size, 6, none⟩ = some (.int .i64 y.den) := (hSa.cell (p := ⟨V14.heap.size, 6, none⟩) (by first | exact h14 | (simp; exact h14) | (simp; omega))).trans (by first | exact f6 | go_simp)); (have ay0' : W22.cell? ⟨bl, ol, none⟩ = some (.int .i64 y.id) := (hSa.cell (p := ⟨bl, ol, none⟩) (by first | exact hbl | (simp; exact hbl) | (simp; omega))).trans (by first | exact y0' | go_simp)); (have ay1' : W22.cell? ⟨bl, ol + 1, none⟩ = some (.int .i64 y.kind) := (hSa.cell (p := ⟨bl, ol + 1, none⟩) (by first | exact hbl | (simp; exact hbl) | (simp; omega))).trans (by first | exact y1' | go_simp)); (have ay2' : W22.cell? ⟨bl, ol + 2, none⟩ = some (.int .i64 y.target) := (hSa.cell (p := ⟨bl, ol + 2, none⟩) (by first | exact hbl | (simp; exact hbl) | (simp; omega))).trans (by first | exact y2' | go_simp)); (have ay3' : W22.cell? ⟨bl, ol + 3, none⟩ = some (.int .i64 y.speed) := (hSa.cell (p := ⟨bl, ol + 3, none⟩) (by first | exact hbl | (simp; exact hbl) | (simp; omega))).trans (by first | exact y3' | go_simp)); (have ay4' : W22.cell? ⟨bl, ol + 4, none⟩ = some (.int .i64 y.mode) := (hSa.cell (p := ⟨bl, ol + 4, none⟩) (by first | exact hbl | (simp; exact hbl) | (simp; omega))).trans (by first | exact y4' | go_simp)); (have ay5' : W22.cell? ⟨bl, ol + 5, none⟩ = some (.int .i64 y.num) := (hSa.cell (p := ⟨bl, ol + 5, none⟩) (by first | exact hbl | (simp; exact hbl) | (simp; omega))).trans (by first | exact y5' | go_simp)); (have ay6' : W22.cell? ⟨bl, ol + 6, none⟩ = some (.int .i64 y.den) := (hSa.cell (p := ⟨bl, ol + 6, none⟩) (by first | exact hbl | (simp; exact hbl) | (simp; omega))).trans (by first | exact y6' | go_simp)); clear y1 y2); go_wp2_with fail; refine hK.out _ _ ?_ (fun hHeld => ?_); (focus (refine ⟨?_, ?_, ?_, ?_, ?_, ?_, ?_, ?_, ?_, ?_, ?_, ?_, ?_, ?_, ?_, ?_⟩ <;> assumption)); clear hK K; (try simp only [Act.put, List.setIfInBounds_toArray, List.set_cons_zero, List.set_cons_succ]))
              (refine oneH (i := 4) (by kernel_rfl) rfl (fun K hK => ?_); go_simp; (go_at_call 35; (with_reducible refine (same_at _ _ _ _ 0 0 _ (N12.out.line.below ?bb) HL22.out).mono ?_); (case bb => exact HBa); rintro e W23 ⟨rfl, hSb⟩; (have HBb : Below W20.heap.size W20 W23 := HBa.trans (hSb.mono HBa.size)); (have bm0 : W23.cell? ⟨V12.heap.size, 0, none⟩ = some (.slice A12 0 c12) := (hSb.cell (p := ⟨V12.heap.size, 0, none⟩) (by first | exact h12a | (simp; exact h12a) | (simp; omega))).trans (by first | exact am0 | go_simp)); (have bm1 : W23.cell? ⟨V12.heap.size, 1, none⟩ = some (.slice D12 0 d12) := (hSb.cell (p := ⟨V12.heap.size, 1, none⟩) (by first | exact h12a | (simp; exact h12a) | (simp; omega))).trans (by first | exact am1 | go_simp)); (have bf0 : W23.cell? ⟨V14.heap.size, 0, none⟩ = some (.int .i64 y.id) := (hSb.cell (p := ⟨V14.heap.size, 0, none⟩) (by first | exact h14a | (simp; exact h14a) | (simp; omega))).trans (by first | exact af0 | go_simp)); (have bf1 : W23.cell? ⟨V14.heap.size, 1, none⟩ = some (.int .i64 y.kind) := (hSb.cell (p := ⟨V14.heap.size, 1, none⟩) (by first | exact h14a | (simp; exact h14a) | (simp; omega))).trans (by first | exact af1 | go_simp)); (have bf2 : W23.cell? ⟨V14.heap.size, 2, none⟩ = some (.int .i64 y.target) := (hSb.cell (p := ⟨V14.heap.size, 2, none⟩) (by first | exact h14a | (simp; exact h14a) | (simp; omega))).trans (by first | exact af2 | go_simp)); (have bf3 : W23.cell? ⟨V14.heap.size, 3, none⟩ = some (.int .i64 y.speed) := (hSb.cell (p := ⟨V14.heap.size, 3, none⟩) (by first | exact h14a | (simp; exact h14a) | (simp; omega))).trans (by first | exact af3 | go_simp)); (have bf4 : W23.cell? ⟨V14.heap.size, 4, none⟩ = some (.int .i64 y.mode) := (hSb.cell (p := ⟨V14.heap.size, 4, none⟩) (by first | exact h14a | (simp; exact h14a) | (simp; omega))).trans (by first | exact af4 | go_simp)); (have bf5 : W23.cell? ⟨V14.heap.size, 5, none⟩ = some (.int .i64 y.num) := (hSb.cell (p := ⟨V14.heap.size, 5, none⟩) (by first | exact h14a | (simp; exact h14a) | (simp; omega))).trans (by first | exact af5 | go_simp)); (have bf6 : W23.cell? ⟨V14.heap.size, 6, none⟩ = some (.int .i64 y.den) := (hSb.cell (p := ⟨V14.heap.size, 6, none⟩) (by first | exact h14a | (simp; exact h14a) | (simp; omega))).trans (by first | exact af6 | go_simp)); (have by0' : W23.cell? ⟨bl, ol, none⟩ = some (.int .i64 y.id) := (hSb.cell (p := ⟨bl, ol, none⟩) (by first | exact hbla | (simp; exact hbla) | (simp; omega))).trans (by first | exact ay0' | go_simp)); (have by1' : W23.cell? ⟨bl, ol + 1, none⟩ = some (.int .i64 y.kind) := (hSb.cell (p := ⟨bl, ol + 1, none⟩) (by first | exact hbla | (simp; exact hbla) | (simp; omega))).trans (by first | exact ay1' | go_simp)); (have by2' : W23.cell? ⟨bl, ol + 2, none⟩ = some (.int .i64 y.target) := (hSb.cell (p := ⟨bl, ol + 2, none⟩) (by first | exact hbla | (simp; exact hbla) | (simp; omega))).trans (by first | exact ay2' | go_simp)); (have by3' : W23.cell? ⟨bl, ol + 3, none⟩ = some (.int .i64 y.speed) := (hSb.cell (p := ⟨bl, ol + 3, none⟩) (by first | exact hbla | (simp; exact hbla) | (simp; omega))).trans (by first | exact ay3' | go_simp)); (have by4' : W23.cell? ⟨bl, ol + 4, none⟩ = some (.int .i64 y.mode) := (hSb.cell (p := ⟨bl, ol + 4, none⟩) (by first | exact hbla | (simp; exact hbla) | (simp; omega))).trans (by first | exact ay4' | go_simp)); (have by5' : W23.cell? ⟨bl, ol + 5, none⟩ = some (.int .i64 y.num) := (hSb.cell (p := ⟨bl, ol + 5, none⟩) (by first | exact hbla | (simp; exact hbla) | (simp; omega))).trans (by first | exact ay5' | go_simp)); (have by6' : W23.cell? ⟨bl, ol + 6, none⟩ = some (.int .i64 y.den) := (hSb.cell (p := ⟨bl, ol + 6, none⟩) (by first | exact hbla | (simp; exact hbla) | (simp; omega))).trans (by first | exact ay6' | go_simp))); go_wp2_with fail; refine hK.out _ _ ?_ (fun hHeld => ?_); (focus (refine ⟨?_, ?_, ?_, ?_, ?_, ?_, ?_, ?_, ?_, ?_, ?_, ?_, ?_, ?_, ?_, ?_⟩ <;> assumption)); clear hK K; (try simp only [Act.put, List.setIfInBounds_toArray, List.set_cons_zero, List.set_cons_succ]))
              (refine takeH (i := 5) (v := ?_) rfl (by kernel_rfl) (by kernel_rfl) (by kernel_rfl) (fun _ _ _ h => h) (Or.inl ⟨by first | kernel_rfl | rfl, ?_⟩) (by assumption) ?_; rotate_left; focus (intro w' hSw; (try dsimp only at hSw); go_simp; try (with_reducible rfl)); (try simp only [Act.put, List.setIfInBounds_toArray, List.set_cons_zero, List.set_cons_succ]))
              (refine takeH (i := 6) (v := ?_) rfl (by kernel_rfl) (by kernel_rfl) (by kernel_rfl) (fun _ _ _ h => h) (Or.inl ⟨by first | kernel_rfl | rfl, ?_⟩) (by assumption) ?_; rotate_left; focus (intro w' hSw; (try dsimp only at hSw); go_simp; try (with_reducible rfl)); (try simp only [Act.put, List.setIfInBounds_toArray, List.set_cons_zero, List.set_cons_succ]))
              (refine takeH (i := 7) (v := ?_) rfl (by kernel_rfl) (by kernel_rfl) (by kernel_rfl) (fun _ _ _ h => h) (Or.inl ⟨by first | kernel_rfl | rfl, ?_⟩) (by assumption) ?_; rotate_left; focus (intro w' hSw; (try dsimp only at hSw); go_simp; try (with_reducible rfl)); (try simp only [Act.put, List.setIfInBounds_toArray, List.set_cons_zero, List.set_cons_succ]))
              (refine takeH (i := 8) (v := ?_) rfl (by kernel_rfl) (by kernel_rfl) (by kernel_rfl) (fun _ _ _ h => h) (Or.inl ⟨by first | kernel_rfl | rfl, ?_⟩) (by assumption) ?_; rotate_left; focus (intro w' hSw; (try dsimp only at hSw); go_simp; try (with_reducible rfl)); (try simp only [Act.put, List.setIfInBounds_toArray, List.set_cons_zero, List.set_cons_succ]))
              (refine takeH (i := 9) (v := ?_) rfl (by kernel_rfl) (by kernel_rfl) (by kernel_rfl) (fun _ _ _ h => h) (Or.inl ⟨by first | kernel_rfl | rfl, ?_⟩) (by assumption) ?_; rotate_left; focus (intro w' hSw; (try dsimp only at hSw); go_simp; try (with_reducible rfl)); (try simp only [Act.put, List.setIfInBounds_toArray, List.set_cons_zero, List.set_cons_succ]))
              (refine takeH (i := 10) (v := ?_) rfl (by kernel_rfl) (by kernel_rfl) (by kernel_rfl) (fun _ _ _ h => h) (Or.inl ⟨by first | kernel_rfl | rfl, ?_⟩) (by assumption) ?_; rotate_left; focus (intro w' hSw; (try dsimp only at hSw); go_simp; try (with_reducible rfl)); (try simp only [Act.put, List.setIfInBounds_toArray, List.set_cons_zero, List.set_cons_succ]))
              (refine takeH (i := 11) (v := ?_) rfl (by kernel_rfl) (by kernel_rfl) (by kernel_rfl) (fun _ _ _ h => h) (Or.inl ⟨by first | kernel_rfl | rfl, ?_⟩) (by assumption) ?_; rotate_left; focus (intro w' hSw; (try dsimp only at hSw); go_simp; try (with_reducible rfl)); (try simp only [Act.put, List.setIfInBounds_toArray, List.set_cons_zero, List.set_cons_succ]))
              (refine takeH (i := 12) (v := ?_) rfl (by kernel_rfl) (by kernel_rfl) (by kernel_rfl) (fun _ _ _ h => h) (Or.inl ⟨by first | kernel_rfl | rfl, ?_⟩) (by assumption) ?_; rotate_left; focus (intro w' hSw; (try dsimp only at hSw); go_simp; try (with_reducible rfl)); (try simp only [Act.put, List.setIfInBounds_toArray, List.set_cons_zero, List.set_cons_succ]))
              (refine takeH (i := 13) (v := ?_) rfl (by kernel_rfl) (by kernel_rfl) (by kernel_rfl) (fun _ _ _ h => h) (Or.inl ⟨by first | kernel_rfl | rfl, ?_⟩) (by assumption) ?_; rotate_left; focus (intro w' hSw; (try dsimp only at hSw); go_simp; try (with_reducible rfl)); (try simp only [Act.put, List.setIfInBounds_toArray, List.set_cons_zero, List.set_cons_succ]))
              (refine takeH (i := 14) (v := ?_) rfl (by kernel_rfl) (by kernel_rfl) (by kernel_rfl) (fun _ _ _ h => h) (Or.inl ⟨by first | kernel_rfl | rfl, ?_⟩) (by assumption) ?_; rotate_left; focus (intro w' hSw; (try dsimp only at hSw); go_simp; try (with_reducible rfl)); (try simp only [Act.put, List.setIfInBounds_toArray, List.set_cons_zero, List.set_cons_succ]))
              (refine takeH (i := 15) (v := ?_) rfl (by kernel_rfl) (by kernel_rfl) (by kernel_rfl) (fun _ _ _ h => h) (Or.inl ⟨by first | kernel_rfl | rfl, ?_⟩) (by assumption) ?_; rotate_left; focus (intro w' hSw; (try dsimp only at hSw); go_simp; try (with_reducible rfl)); (try simp only [Act.put, List.setIfInBounds_toArray, List.set_cons_zero, List.set_cons_succ]))
              (refine takeH (i := 16) (v := ?_) rfl (by kernel_rfl) (by kernel_rfl) (by kernel_rfl) (fun _ _ _ h => h) (Or.inl ⟨by first | kernel_rfl | rfl, ?_⟩) (by assumption) ?_; rotate_left; focus (intro w' hSw; (try dsimp only at hSw); go_simp; try (with_reducible rfl)); (try simp only [Act.put, List.setIfInBounds_toArray, List.set_cons_zero, List.set_cons_succ]))
              (refine takeH (i := 17) (v := ?_) rfl (by kernel_rfl) (by kernel_rfl) (by kernel_rfl) (fun _ _ _ h => h) (Or.inl ⟨by first | kernel_rfl | rfl, ?_⟩) (by assumption) ?_; rotate_left; focus (intro w' hSw; (try dsimp only at hSw); go_simp; try (with_reducible rfl)); (try simp only [Act.put, List.setIfInBounds_toArray, List.set_cons_zero, List.set_cons_succ]))
              (refine takeH (i := 18) (v := ?_) rfl (by kernel_rfl) (by kernel_rfl) (by kernel_rfl) (fun _ _ _ h => h) (Or.inl ⟨by first | kernel_rfl | rfl, ?_⟩) (by assumption) ?_; rotate_left; focus (intro w' hSw; (try dsimp only at hSw); go_simp; try (with_reducible rfl)); (try simp only [Act.put, List.setIfInBounds_toArray, List.set_cons_zero, List.set_cons_succ]))
              (refine takeH (i := 19) (v := ?_) rfl (by kernel_rfl) (by kernel_rfl) (by kernel_rfl) (fun _ _ _ h => h) (Or.inl ⟨by first | kernel_rfl | rfl, ?_⟩) (by assumption) ?_; rotate_left; focus (intro w' hSw; (try dsimp only at hSw); go_simp; try (with_reducible rfl)); (try simp only [Act.put, List.setIfInBounds_toArray, List.set_cons_zero, List.set_cons_succ]))
              (refine takeH (i := 20) (v := ?_) rfl (by kernel_rfl) (by kernel_rfl) (by kernel_rfl) (fun _ _ _ h => h) (Or.inl ⟨by first | kernel_rfl | rfl, ?_⟩) (by assumption) ?_; rotate_left; focus (intro w' hSw; (try dsimp only at hSw); go_simp; try (with_reducible rfl)); (try simp only [Act.put, List.setIfInBounds_toArray, List.set_cons_zero, List.set_cons_succ]))
              (refine takeH (i := 21) (v := ?_) rfl (by kernel_rfl) (by kernel_rfl) (by kernel_rfl) (fun _ _ _ h => h) (Or.inl ⟨by first | kernel_rfl | rfl, ?_⟩) (by assumption) ?_; rotate_left; focus (intro w' hSw; (try dsimp only at hSw); go_simp; try (with_reducible rfl)); (try simp only [Act.put, List.setIfInBounds_toArray, List.set_cons_zero, List.set_cons_succ]))
              (refine takeH (i := 22) (v := ?_) rfl (by kernel_rfl) (by kernel_rfl) (by kernel_rfl) (fun _ _ _ h => h) (Or.inl ⟨by first | kernel_rfl | rfl, ?_⟩) (by assumption) ?_; rotate_left; focus (intro w' hSw; (try dsimp only at hSw); go_simp; try (with_reducible rfl)); (try simp only [Act.put, List.setIfInBounds_toArray, List.set_cons_zero, List.set_cons_succ]))
              (refine takeH (i := 23) (v := ?_) rfl (by kernel_rfl) (by kernel_rfl) (by kernel_rfl) (fun _ _ _ h => h) (Or.inl ⟨by first | kernel_rfl | rfl, ?_⟩) (by assumption) ?_; rotate_left; focus (intro w' hSw; (try dsimp only at hSw); go_simp; try (with_reducible rfl)); (try simp only [Act.put, List.setIfInBounds_toArray, List.set_cons_zero, List.set_cons_succ]))
              (refine takeH (i := 24) (v := ?_) rfl (by kernel_rfl) (by kernel_rfl) (by kernel_rfl) (fun _ _ _ h => h) (Or.inl ⟨by first | kernel_rfl | rfl, ?_⟩) (by assumption) ?_; rotate_left; focus (intro w' hSw; (try dsimp only at hSw); go_simp; try (with_reducible rfl)); (try simp only [Act.put, List.setIfInBounds_toArray, List.set_cons_zero, List.set_cons_succ]))
              (refine takeH (i := 25) (v := ?_) rfl (by kernel_rfl) (by kernel_rfl) (by kernel_rfl) (fun _ _ _ h => h) (Or.inl ⟨by first | kernel_rfl | rfl, ?_⟩) (by assumption) ?_; rotate_left; focus (intro w' hSw; (try dsimp only at hSw); go_simp; try (with_reducible rfl)); (try simp only [Act.put, List.setIfInBounds_toArray, List.set_cons_zero, List.set_cons_succ]))
              (refine takeH (i := 26) (v := ?_) rfl (by kernel_rfl) (by kernel_rfl) (by kernel_rfl) (fun _ _ _ h => h) (Or.inl ⟨by first | kernel_rfl | rfl, ?_⟩) (by assumption) ?_; rotate_left; focus (intro w' hSw; (try dsimp only at hSw); go_simp; try (with_reducible rfl)); (try simp only [Act.put, List.setIfInBounds_toArray, List.set_cons_zero, List.set_cons_succ]))
              (refine takeH (i := 27) (v := undef) rfl (by kernel_rfl) (by kernel_rfl) (by kernel_rfl) (fun _ _ _ h => h) (Or.inr ⟨by first | kernel_rfl | rfl, rfl⟩) (by assumption) ?_; (try simp only [Act.put, List.setIfInBounds_toArray, List.set_cons_zero, List.set_cons_succ]))
              (refine takeH (i := 28) (v := undef) rfl (by kernel_rfl) (by kernel_rfl) (by kernel_rfl) (fun _ _ _ h => h) (Or.inr ⟨by first | kernel_rfl | rfl, rfl⟩) (by assumption) ?_; (try simp only [Act.put, List.setIfInBounds_toArray, List.set_cons_zero, List.set_cons_succ]))
              (refine takeH (i := 29) (v := undef) rfl (by kernel_rfl) (by kernel_rfl) (by kernel_rfl) (fun _ _ _ h => h) (Or.inr ⟨by first | kernel_rfl | rfl, rfl⟩) (by assumption) ?_; (try simp only [Act.put, List.setIfInBounds_toArray, List.set_cons_zero, List.set_cons_succ]))
              (refine takeH (i := 30) (v := undef) rfl (by kernel_rfl) (by kernel_rfl) (by kernel_rfl) (fun _ _ _ h => h) (Or.inr ⟨by first | kernel_rfl | rfl, rfl⟩) (by assumption) ?_; (try simp only [Act.put, List.setIfInBounds_toArray, List.set_cons_zero, List.set_cons_succ]))
              (refine takeH (i := 31) (v := undef) rfl (by kernel_rfl) (by kernel_rfl) (by kernel_rfl) (fun _ _ _ h => h) (Or.inr ⟨by first | kernel_rfl | rfl, rfl⟩) (by assumption) ?_; (try simp only [Act.put, List.setIfInBounds_toArray, List.set_cons_zero, List.set_cons_succ]))
              (refine takeH (i := 32) (v := ?_) rfl (by kernel_rfl) (by kernel_rfl) (by kernel_rfl) (fun _ _ _ h => h) (Or.inl ⟨by first | kernel_rfl | rfl, ?_⟩) (by assumption) ?_; rotate_left; focus (intro w' hSw; (try dsimp only at hSw); go_simp; try (with_reducible rfl)); (try simp only [Act.put, List.setIfInBounds_toArray, List.set_cons_zero, List.set_cons_succ]))
              (refine takeH (i := 33) (v := ?_) rfl (by kernel_rfl) (by kernel_rfl) (by kernel_rfl) (fun _ _ _ h => h) (Or.inl ⟨by first | kernel_rfl | rfl, ?_⟩) (by assumption) ?_; rotate_left; focus (intro w' hSw; (try dsimp only at hSw); go_simp; try (with_reducible rfl)); (try simp only [Act.put, List.setIfInBounds_toArray, List.set_cons_zero, List.set_cons_succ]))
              (refine takeH (i := 34) (v := ?_) rfl (by kernel_rfl) (by kernel_rfl) (by kernel_rfl) (fun _ _ _ h => h) (Or.inl ⟨by first | kernel_rfl | rfl, ?_⟩) (by assumption) ?_; rotate_left; focus (intro w' hSw; (try dsimp only at hSw); go_simp; try (with_reducible rfl)); (try simp only [Act.put, List.setIfInBounds_toArray, List.set_cons_zero, List.set_cons_succ]))
              refine wpAnyH_done (by kernel_rfl) ?_ _
              go_wp2
              go_ret
              exact ⟨by first | kernel_rfl | (go_simp; done), HB.out.trans (HBb.mono HB.out.size)⟩
            · have hcn : ¬ 1 = cL := by omega
              have HOF := Lib.hid (fun (W : World) (hb : Below W20.heap.size W20 W) => show Calls Try.prog 41 #[.slice (some ⟨bl, ol + 7, none⟩) 0 (cL - 1)] W (fun e w' => RetL W w' [] [] e ∧ Below W.heap.size W w') from rof_at [] [] [] _ 0 W (read_none (by omega)) (by simp) rfl rfl)
              refine wp_region_held_drew (S := fun w' => w'.cell? ⟨V12.heap.size, 0, none⟩ = some (.slice A12 0 c12) ∧ w'.cell? ⟨V12.heap.size, 1, none⟩ = some (.slice D12 0 d12) ∧ w'.cell? ⟨V14.heap.size, 0, none⟩ = some (.int .i64 y.id) ∧ w'.cell? ⟨V14.heap.size, 1, none⟩ = some (.int .i64 y.kind) ∧ w'.cell? ⟨V14.heap.size, 2, none⟩ = some (.int .i64 y.target) ∧ w'.cell? ⟨V14.heap.size, 3, none⟩ = some (.int .i64 y.speed) ∧ w'.cell? ⟨V14.heap.size, 4, none⟩ = some (.int .i64 y.mode) ∧ w'.cell? ⟨V14.heap.size, 5, none⟩ = some (.int .i64 y.num) ∧ w'.cell? ⟨V14.heap.size, 6, none⟩ = some (.int .i64 y.den) ∧ w'.cell? ⟨bl, ol, none⟩ = some (.int .i64 y.id) ∧ w'.cell? ⟨bl, ol + 1, none⟩ = some (.int .i64 y.kind) ∧ w'.cell? ⟨bl, ol + 2, none⟩ = some (.int .i64 y.target) ∧ w'.cell? ⟨bl, ol + 3, none⟩ = some (.int .i64 y.speed) ∧ w'.cell? ⟨bl, ol + 4, none⟩ = some (.int .i64 y.mode) ∧ w'.cell? ⟨bl, ol + 5, none⟩ = some (.int .i64 y.num) ∧ w'.cell? ⟨bl, ol + 6, none⟩ = some (.int .i64 y.den)) (by kernel_rfl) ?_ (fun hHeld => ?_)
              · (refine ⟨?_, ?_, ?_, ?_, ?_, ?_, ?_, ?_, ?_, ?_, ?_, ?_, ?_, ?_, ?_, ?_⟩ <;> assumption)
              (refine takeH (i := 0) (v := ?_) rfl (by kernel_rfl) (by kernel_rfl) (by kernel_rfl) (fun _ _ _ h => h) (Or.inl ⟨by first | kernel_rfl | rfl, ?_⟩) (by assumption) ?_; rotate_left; focus (intro w' hSw; (try dsimp only at hSw); go_simp; try (with_reducible rfl)); (try simp only [Act.put, List.setIfInBounds_toArray, List.set_cons_zero, List.set_cons_succ]))
              (refine takeH (i := 1) (v := ?_) rfl (by kernel_rfl) (by kernel_rfl) (by kernel_rfl) (fun _ _ _ h => h) (Or.inl ⟨by first | kernel_rfl | rfl, ?_⟩) (by assumption) ?_; rotate_left; focus (intro w' hSw; (try dsimp only at hSw); go_simp; try (with_reducible rfl)); (try simp only [Act.put, List.setIfInBounds_toArray, List.set_cons_zero, List.set_cons_succ]))
              (refine takeH (i := 2) (v := ?_) rfl (by kernel_rfl) (by kernel_rfl) (by kernel_rfl) (fun _ _ _ h => h) (Or.inl ⟨by first | kernel_rfl | rfl, ?_⟩) (by assumption) ?_; rotate_left; focus (intro w' hSw; (try dsimp only at hSw); go_simp; try (with_reducible rfl)); (try simp only [Act.put, List.setIfInBounds_toArray, List.set_cons_zero, List.set_cons_succ]))
              (refine oneH (i := 3) (by kernel_rfl) rfl (fun K hK => ?_); go_simp; (go_at_call 41; (with_reducible refine (HOF.out _ ?bb).mono ?_); (case bb => (repeat' (first | (with_reducible exact Below.refl _ _) | (with_reducible assumption) | (with_reducible refine below_drewN ?_ _) | (with_reducible refine Below.drew ?_) | (with_reducible refine below_new ?_ (Nat.le_refl _) _) | (with_reducible refine Below.setCell ?_ ?_ _) | (with_reducible refine below_go ?_ (by assumption) (Nat.le_refl _)) | (simp; done) | (simp; omega) | omega))); rintro e W22 ⟨⟨v, rfl, hl⟩, hSa⟩; obtain ⟨a22, b22, rfl, ⟨A22, c22, rfl, y1⟩, ⟨D22, d22, rfl, y2⟩⟩ := hl; (have HL22 := Lib.hid (LineV.base0 (show LineV W22 _ [] [] (.agg #[.slice A22 0 c22, .slice D22 0 d22]) from ⟨_, _, rfl, ⟨A22, c22, rfl, y1⟩, ⟨D22, d22, rfl, y2⟩⟩) (Nat.zero_le _))); (have HBa : Below W20.heap.size W20 W22 := (by (repeat' (first | (with_reducible exact Below.refl _ _) | (with_reducible assumption) | (with_reducible refine below_drewN ?_ _) | (with_reducible refine Below.drew ?_) | (with_reducible refine below_new ?_ (Nat.le_refl _) _) | (with_reducible refine Below.setCell ?_ ?_ _) | (with_reducible refine below_go ?_ (by assumption) (Nat.le_refl _)) | (simp; done) | (simp; omega) | omega)))); (have hza := hSa.size); (simp at hza); (have h12a : V12.heap.size < W22.heap.size := by omega); (have h14a : V14.heap.size < W22.heap.size := by omega); (have hbla : bl < W22.heap.size := by omega); (have am0 : W22.cell? ⟨V12.heap.size, 0, none⟩ = some (.slice A12 0 c12) := (hSa.cell (p := ⟨V12.heap.size, 0, none⟩) (by first | exact h12 | (simp; exact h12) | (simp; omega))).trans (by first | exact m0 | go_simp)); (have am1 : W22.cell? ⟨V12.heap.size, 1, none⟩ = some (.slice D12 0 d12) := (hSa.cell (p := ⟨V12.heap.size, 1, none⟩) (by first | exact h12 | (simp; exact h12) | (simp; omega))).trans (by first | exact m1 | go_simp)); (have af0 : W22.cell? ⟨V14.heap.size, 0, none⟩ = some (.int .i64 y.id) := (hSa.cell (p := ⟨V14.heap.size, 0, none⟩) (by first | exact h14 | (simp; exact h14) | (simp; omega))).trans (by first | exact f0 | go_simp)); (have af1 : W22.cell? ⟨V14.heap.size, 1, none⟩ = some (.int .i64 y.kind) := (hSa.cell (p := ⟨V14.heap.size, 1, none⟩) (by first | exact h14 | (simp; exact h14) | (simp; omega))).trans (by first | exact f1 | go_simp)); (have af2 : W22.cell? ⟨V14.heap.size, 2, none⟩ = some (.int .i64 y.target) := (hSa.cell (p := ⟨V14.heap.size, 2, none⟩) (by first | exact h14 | (simp; exact h14) | (simp; omega))).trans (by first | exact f2 | go_simp)); (have af3 : W22.cell? ⟨V14.heap.size, 3, none⟩ = some (.int .i64 y.speed) := (hSa.cell (p := ⟨V14.heap.size, 3, none⟩) (by first | exact h14 | (simp; exact h14) | (simp; omega))).trans (by first | exact f3 | go_simp)); (have af4 : W22.cell? ⟨V14.heap.size, 4, none⟩ = some (.int .i64 y.mode) := (hSa.cell (p := ⟨V14.heap.size, 4, none⟩) (by first | exact h14 | (simp; exact h14) | (simp; omega))).trans (by first | exact f4 | go_simp)); (have af5 : W22.cell? ⟨V14.heap.size, 5, none⟩ = some (.int .i64 y.num) := (hSa.cell (p := ⟨V14.heap.size, 5, none⟩) (by first | exact h14 | (simp; exact h14) | (simp; omega))).trans (by first | exact f5 | go_simp)); (have af6 : W22.cell? ⟨V14.heap.size, 6, none⟩ = some (.int .i64 y.den) := (hSa.cell (p := ⟨V14.heap.size, 6, none⟩) (by first | exact h14 | (simp; exact h14) | (simp; omega))).trans (by first | exact f6 | go_simp)); (have ay0' : W22.cell? ⟨bl, ol, none⟩ = some (.int .i64 y.id) := (hSa.cell (p := ⟨bl, ol, none⟩) (by first | exact hbl | (simp; exact hbl) | (simp; omega))).trans (by first | exact y0' | go_simp)); (have ay1' : W22.cell? ⟨bl, ol + 1, none⟩ = some (.int .i64 y.kind) := (hSa.cell (p := ⟨bl, ol + 1, none⟩) (by first | exact hbl | (simp; exact hbl) | (simp; omega))).trans (by first | exact y1' | go_simp)); (have ay2' : W22.cell? ⟨bl, ol + 2, none⟩ = some (.int .i64 y.target) := (hSa.cell (p := ⟨bl, ol + 2, none⟩) (by first | exact hbl | (simp; exact hbl) | (simp; omega))).trans (by first | exact y2' | go_simp)); (have ay3' : W22.cell? ⟨bl, ol + 3, none⟩ = some (.int .i64 y.speed) := (hSa.cell (p := ⟨bl, ol + 3, none⟩) (by first | exact hbl | (simp; exact hbl) | (simp; omega))).trans (by first | exact y3' | go_simp)); (have ay4' : W22.cell? ⟨bl, ol + 4, none⟩ = some (.int .i64 y.mode) := (hSa.cell (p := ⟨bl, ol + 4, none⟩) (by first | exact hbl | (simp; exact hbl) | (simp; omega))).trans (by first | exact y4' | go_simp)); (have ay5' : W22.cell? ⟨bl, ol + 5, none⟩ = some (.int .i64 y.num) := (hSa.cell (p := ⟨bl, ol + 5, none⟩) (by first | exact hbl | (simp; exact hbl) | (simp; omega))).trans (by first | exact y5' | go_simp)); (have ay6' : W22.cell? ⟨bl, ol + 6, none⟩ = some (.int .i64 y.den) := (hSa.cell (p := ⟨bl, ol + 6, none⟩) (by first | exact hbl | (simp; exact hbl) | (simp; omega))).trans (by first | exact y6' | go_simp)); clear y1 y2); go_wp2_with fail; refine hK.out _ _ ?_ (fun hHeld => ?_); (focus (refine ⟨?_, ?_, ?_, ?_, ?_, ?_, ?_, ?_, ?_, ?_, ?_, ?_, ?_, ?_, ?_, ?_⟩ <;> assumption)); clear hK K; (try simp only [Act.put, List.setIfInBounds_toArray, List.set_cons_zero, List.set_cons_succ]))
              (refine oneH (i := 4) (by kernel_rfl) rfl (fun K hK => ?_); go_simp; (go_at_call 35; (with_reducible refine (same_at _ _ _ _ 0 0 _ (N12.out.line.below ?bb) HL22.out).mono ?_); (case bb => exact HBa); rintro e W23 ⟨rfl, hSb⟩; (have HBb : Below W20.heap.size W20 W23 := HBa.trans (hSb.mono HBa.size)); (have bm0 : W23.cell? ⟨V12.heap.size, 0, none⟩ = some (.slice A12 0 c12) := (hSb.cell (p := ⟨V12.heap.size, 0, none⟩) (by first | exact h12a | (simp; exact h12a) | (simp; omega))).trans (by first | exact am0 | go_simp)); (have bm1 : W23.cell? ⟨V12.heap.size, 1, none⟩ = some (.slice D12 0 d12) := (hSb.cell (p := ⟨V12.heap.size, 1, none⟩) (by first | exact h12a | (simp; exact h12a) | (simp; omega))).trans (by first | exact am1 | go_simp)); (have bf0 : W23.cell? ⟨V14.heap.size, 0, none⟩ = some (.int .i64 y.id) := (hSb.cell (p := ⟨V14.heap.size, 0, none⟩) (by first | exact h14a | (simp; exact h14a) | (simp; omega))).trans (by first | exact af0 | go_simp)); (have bf1 : W23.cell? ⟨V14.heap.size, 1, none⟩ = some (.int .i64 y.kind) := (hSb.cell (p := ⟨V14.heap.size, 1, none⟩) (by first | exact h14a | (simp; exact h14a) | (simp; omega))).trans (by first | exact af1 | go_simp)); (have bf2 : W23.cell? ⟨V14.heap.size, 2, none⟩ = some (.int .i64 y.target) := (hSb.cell (p := ⟨V14.heap.size, 2, none⟩) (by first | exact h14a | (simp; exact h14a) | (simp; omega))).trans (by first | exact af2 | go_simp)); (have bf3 : W23.cell? ⟨V14.heap.size, 3, none⟩ = some (.int .i64 y.speed) := (hSb.cell (p := ⟨V14.heap.size, 3, none⟩) (by first | exact h14a | (simp; exact h14a) | (simp; omega))).trans (by first | exact af3 | go_simp)); (have bf4 : W23.cell? ⟨V14.heap.size, 4, none⟩ = some (.int .i64 y.mode) := (hSb.cell (p := ⟨V14.heap.size, 4, none⟩) (by first | exact h14a | (simp; exact h14a) | (simp; omega))).trans (by first | exact af4 | go_simp)); (have bf5 : W23.cell? ⟨V14.heap.size, 5, none⟩ = some (.int .i64 y.num) := (hSb.cell (p := ⟨V14.heap.size, 5, none⟩) (by first | exact h14a | (simp; exact h14a) | (simp; omega))).trans (by first | exact af5 | go_simp)); (have bf6 : W23.cell? ⟨V14.heap.size, 6, none⟩ = some (.int .i64 y.den) := (hSb.cell (p := ⟨V14.heap.size, 6, none⟩) (by first | exact h14a | (simp; exact h14a) | (simp; omega))).trans (by first | exact af6 | go_simp)); (have by0' : W23.cell? ⟨bl, ol, none⟩ = some (.int .i64 y.id) := (hSb.cell (p := ⟨bl, ol, none⟩) (by first | exact hbla | (simp; exact hbla) | (simp; omega))).trans (by first | exact ay0' | go_simp)); (have by1' : W23.cell? ⟨bl, ol + 1, none⟩ = some (.int .i64 y.kind) := (hSb.cell (p := ⟨bl, ol + 1, none⟩) (by first | exact hbla | (simp; exact hbla) | (simp; omega))).trans (by first | exact ay1' | go_simp)); (have by2' : W23.cell? ⟨bl, ol + 2, none⟩ = some (.int .i64 y.target) := (hSb.cell (p := ⟨bl, ol + 2, none⟩) (by first | exact hbla | (simp; exact hbla) | (simp; omega))).trans (by first | exact ay2' | go_simp)); (have by3' : W23.cell? ⟨bl, ol + 3, none⟩ = some (.int .i64 y.speed) := (hSb.cell (p := ⟨bl, ol + 3, none⟩) (by first | exact hbla | (simp; exact hbla) | (simp; omega))).trans (by first | exact ay3' | go_simp)); (have by4' : W23.cell? ⟨bl, ol + 4, none⟩ = some (.int .i64 y.mode) := (hSb.cell (p := ⟨bl, ol + 4, none⟩) (by first | exact hbla | (simp; exact hbla) | (simp; omega))).trans (by first | exact ay4' | go_simp)); (have by5' : W23.cell? ⟨bl, ol + 5, none⟩ = some (.int .i64 y.num) := (hSb.cell (p := ⟨bl, ol + 5, none⟩) (by first | exact hbla | (simp; exact hbla) | (simp; omega))).trans (by first | exact ay5' | go_simp)); (have by6' : W23.cell? ⟨bl, ol + 6, none⟩ = some (.int .i64 y.den) := (hSb.cell (p := ⟨bl, ol + 6, none⟩) (by first | exact hbla | (simp; exact hbla) | (simp; omega))).trans (by first | exact ay6' | go_simp))); go_wp2_with fail; refine hK.out _ _ ?_ (fun hHeld => ?_); (focus (refine ⟨?_, ?_, ?_, ?_, ?_, ?_, ?_, ?_, ?_, ?_, ?_, ?_, ?_, ?_, ?_, ?_⟩ <;> assumption)); clear hK K; (try simp only [Act.put, List.setIfInBounds_toArray, List.set_cons_zero, List.set_cons_succ]))
              (refine takeH (i := 5) (v := ?_) rfl (by kernel_rfl) (by kernel_rfl) (by kernel_rfl) (fun _ _ _ h => h) (Or.inl ⟨by first | kernel_rfl | rfl, ?_⟩) (by assumption) ?_; rotate_left; focus (intro w' hSw; (try dsimp only at hSw); go_simp; try (with_reducible rfl)); (try simp only [Act.put, List.setIfInBounds_toArray, List.set_cons_zero, List.set_cons_succ]))
              (refine takeH (i := 6) (v := ?_) rfl (by kernel_rfl) (by kernel_rfl) (by kernel_rfl) (fun _ _ _ h => h) (Or.inl ⟨by first | kernel_rfl | rfl, ?_⟩) (by assumption) ?_; rotate_left; focus (intro w' hSw; (try dsimp only at hSw); go_simp; try (with_reducible rfl)); (try simp only [Act.put, List.setIfInBounds_toArray, List.set_cons_zero, List.set_cons_succ]))
              (refine takeH (i := 7) (v := ?_) rfl (by kernel_rfl) (by kernel_rfl) (by kernel_rfl) (fun _ _ _ h => h) (Or.inl ⟨by first | kernel_rfl | rfl, ?_⟩) (by assumption) ?_; rotate_left; focus (intro w' hSw; (try dsimp only at hSw); go_simp; try (with_reducible rfl)); (try simp only [Act.put, List.setIfInBounds_toArray, List.set_cons_zero, List.set_cons_succ]))
              (refine takeH (i := 8) (v := ?_) rfl (by kernel_rfl) (by kernel_rfl) (by kernel_rfl) (fun _ _ _ h => h) (Or.inl ⟨by first | kernel_rfl | rfl, ?_⟩) (by assumption) ?_; rotate_left; focus (intro w' hSw; (try dsimp only at hSw); go_simp; try (with_reducible rfl)); (try simp only [Act.put, List.setIfInBounds_toArray, List.set_cons_zero, List.set_cons_succ]))
              (refine takeH (i := 9) (v := ?_) rfl (by kernel_rfl) (by kernel_rfl) (by kernel_rfl) (fun _ _ _ h => h) (Or.inl ⟨by first | kernel_rfl | rfl, ?_⟩) (by assumption) ?_; rotate_left; focus (intro w' hSw; (try dsimp only at hSw); go_simp; try (with_reducible rfl)); (try simp only [Act.put, List.setIfInBounds_toArray, List.set_cons_zero, List.set_cons_succ]))
              (refine takeH (i := 10) (v := ?_) rfl (by kernel_rfl) (by kernel_rfl) (by kernel_rfl) (fun _ _ _ h => h) (Or.inl ⟨by first | kernel_rfl | rfl, ?_⟩) (by assumption) ?_; rotate_left; focus (intro w' hSw; (try dsimp only at hSw); go_simp; try (with_reducible rfl)); (try simp only [Act.put, List.setIfInBounds_toArray, List.set_cons_zero, List.set_cons_succ]))
              (refine takeH (i := 11) (v := ?_) rfl (by kernel_rfl) (by kernel_rfl) (by kernel_rfl) (fun _ _ _ h => h) (Or.inl ⟨by first | kernel_rfl | rfl, ?_⟩) (by assumption) ?_; rotate_left; focus (intro w' hSw; (try dsimp only at hSw); go_simp; try (with_reducible rfl)); (try simp only [Act.put, List.setIfInBounds_toArray, List.set_cons_zero, List.set_cons_succ]))
              (refine takeH (i := 12) (v := ?_) rfl (by kernel_rfl) (by kernel_rfl) (by kernel_rfl) (fun _ _ _ h => h) (Or.inl ⟨by first | kernel_rfl | rfl, ?_⟩) (by assumption) ?_; rotate_left; focus (intro w' hSw; (try dsimp only at hSw); go_simp; try (with_reducible rfl)); (try simp only [Act.put, List.setIfInBounds_toArray, List.set_cons_zero, List.set_cons_succ]))
              (refine takeH (i := 13) (v := ?_) rfl (by kernel_rfl) (by kernel_rfl) (by kernel_rfl) (fun _ _ _ h => h) (Or.inl ⟨by first | kernel_rfl | rfl, ?_⟩) (by assumption) ?_; rotate_left; focus (intro w' hSw; (try dsimp only at hSw); go_simp; try (with_reducible rfl)); (try simp only [Act.put, List.setIfInBounds_toArray, List.set_cons_zero, List.set_cons_succ]))
              (refine takeH (i := 14) (v := ?_) rfl (by kernel_rfl) (by kernel_rfl) (by kernel_rfl) (fun _ _ _ h => h) (Or.inl ⟨by first | kernel_rfl | rfl, ?_⟩) (by assumption) ?_; rotate_left; focus (intro w' hSw; (try dsimp only at hSw); go_simp; try (with_reducible rfl)); (try simp only [Act.put, List.setIfInBounds_toArray, List.set_cons_zero, List.set_cons_succ]))
              (refine takeH (i := 15) (v := ?_) rfl (by kernel_rfl) (by kernel_rfl) (by kernel_rfl) (fun _ _ _ h => h) (Or.inl ⟨by first | kernel_rfl | rfl, ?_⟩) (by assumption) ?_; rotate_left; focus (intro w' hSw; (try dsimp only at hSw); go_simp; try (with_reducible rfl)); (try simp only [Act.put, List.setIfInBounds_toArray, List.set_cons_zero, List.set_cons_succ]))
              (refine takeH (i := 16) (v := ?_) rfl (by kernel_rfl) (by kernel_rfl) (by kernel_rfl) (fun _ _ _ h => h) (Or.inl ⟨by first | kernel_rfl | rfl, ?_⟩) (by assumption) ?_; rotate_left; focus (intro w' hSw; (try dsimp only at hSw); go_simp; try (with_reducible rfl)); (try simp only [Act.put, List.setIfInBounds_toArray, List.set_cons_zero, List.set_cons_succ]))
              (refine takeH (i := 17) (v := ?_) rfl (by kernel_rfl) (by kernel_rfl) (by kernel_rfl) (fun _ _ _ h => h) (Or.inl ⟨by first | kernel_rfl | rfl, ?_⟩) (by assumption) ?_; rotate_left; focus (intro w' hSw; (try dsimp only at hSw); go_simp; try (with_reducible rfl)); (try simp only [Act.put, List.setIfInBounds_toArray, List.set_cons_zero, List.set_cons_succ]))
              (refine takeH (i := 18) (v := ?_) rfl (by kernel_rfl) (by kernel_rfl) (by kernel_rfl) (fun _ _ _ h => h) (Or.inl ⟨by first | kernel_rfl | rfl, ?_⟩) (by assumption) ?_; rotate_left; focus (intro w' hSw; (try dsimp only at hSw); go_simp; try (with_reducible rfl)); (try simp only [Act.put, List.setIfInBounds_toArray, List.set_cons_zero, List.set_cons_succ]))
              (refine takeH (i := 19) (v := ?_) rfl (by kernel_rfl) (by kernel_rfl) (by kernel_rfl) (fun _ _ _ h => h) (Or.inl ⟨by first | kernel_rfl | rfl, ?_⟩) (by assumption) ?_; rotate_left; focus (intro w' hSw; (try dsimp only at hSw); go_simp; try (with_reducible rfl)); (try simp only [Act.put, List.setIfInBounds_toArray, List.set_cons_zero, List.set_cons_succ]))
              (refine takeH (i := 20) (v := ?_) rfl (by kernel_rfl) (by kernel_rfl) (by kernel_rfl) (fun _ _ _ h => h) (Or.inl ⟨by first | kernel_rfl | rfl, ?_⟩) (by assumption) ?_; rotate_left; focus (intro w' hSw; (try dsimp only at hSw); go_simp; try (with_reducible rfl)); (try simp only [Act.put, List.setIfInBounds_toArray, List.set_cons_zero, List.set_cons_succ]))
              (refine takeH (i := 21) (v := ?_) rfl (by kernel_rfl) (by kernel_rfl) (by kernel_rfl) (fun _ _ _ h => h) (Or.inl ⟨by first | kernel_rfl | rfl, ?_⟩) (by assumption) ?_; rotate_left; focus (intro w' hSw; (try dsimp only at hSw); go_simp; try (with_reducible rfl)); (try simp only [Act.put, List.setIfInBounds_toArray, List.set_cons_zero, List.set_cons_succ]))
              (refine takeH (i := 22) (v := ?_) rfl (by kernel_rfl) (by kernel_rfl) (by kernel_rfl) (fun _ _ _ h => h) (Or.inl ⟨by first | kernel_rfl | rfl, ?_⟩) (by assumption) ?_; rotate_left; focus (intro w' hSw; (try dsimp only at hSw); go_simp; try (with_reducible rfl)); (try simp only [Act.put, List.setIfInBounds_toArray, List.set_cons_zero, List.set_cons_succ]))
              (refine takeH (i := 23) (v := ?_) rfl (by kernel_rfl) (by kernel_rfl) (by kernel_rfl) (fun _ _ _ h => h) (Or.inl ⟨by first | kernel_rfl | rfl, ?_⟩) (by assumption) ?_; rotate_left; focus (intro w' hSw; (try dsimp only at hSw); go_simp; try (with_reducible rfl)); (try simp only [Act.put, List.setIfInBounds_toArray, List.set_cons_zero, List.set_cons_succ]))
              (refine takeH (i := 24) (v := ?_) rfl (by kernel_rfl) (by kernel_rfl) (by kernel_rfl) (fun _ _ _ h => h) (Or.inl ⟨by first | kernel_rfl | rfl, ?_⟩) (by assumption) ?_; rotate_left; focus (intro w' hSw; (try dsimp only at hSw); go_simp; try (with_reducible rfl)); (try simp only [Act.put, List.setIfInBounds_toArray, List.set_cons_zero, List.set_cons_succ]))
              (refine takeH (i := 25) (v := ?_) rfl (by kernel_rfl) (by kernel_rfl) (by kernel_rfl) (fun _ _ _ h => h) (Or.inl ⟨by first | kernel_rfl | rfl, ?_⟩) (by assumption) ?_; rotate_left; focus (intro w' hSw; (try dsimp only at hSw); go_simp; try (with_reducible rfl)); (try simp only [Act.put, List.setIfInBounds_toArray, List.set_cons_zero, List.set_cons_succ]))
              (refine takeH (i := 26) (v := ?_) rfl (by kernel_rfl) (by kernel_rfl) (by kernel_rfl) (fun _ _ _ h => h) (Or.inl ⟨by first | kernel_rfl | rfl, ?_⟩) (by assumption) ?_; rotate_left; focus (intro w' hSw; (try dsimp only at hSw); go_simp; try (with_reducible rfl)); (try simp only [Act.put, List.setIfInBounds_toArray, List.set_cons_zero, List.set_cons_succ]))
              (refine takeH (i := 27) (v := undef) rfl (by kernel_rfl) (by kernel_rfl) (by kernel_rfl) (fun _ _ _ h => h) (Or.inr ⟨by first | kernel_rfl | rfl, rfl⟩) (by assumption) ?_; (try simp only [Act.put, List.setIfInBounds_toArray, List.set_cons_zero, List.set_cons_succ]))
              (refine takeH (i := 28) (v := undef) rfl (by kernel_rfl) (by kernel_rfl) (by kernel_rfl) (fun _ _ _ h => h) (Or.inr ⟨by first | kernel_rfl | rfl, rfl⟩) (by assumption) ?_; (try simp only [Act.put, List.setIfInBounds_toArray, List.set_cons_zero, List.set_cons_succ]))
              (refine takeH (i := 29) (v := undef) rfl (by kernel_rfl) (by kernel_rfl) (by kernel_rfl) (fun _ _ _ h => h) (Or.inr ⟨by first | kernel_rfl | rfl, rfl⟩) (by assumption) ?_; (try simp only [Act.put, List.setIfInBounds_toArray, List.set_cons_zero, List.set_cons_succ]))
              (refine takeH (i := 30) (v := undef) rfl (by kernel_rfl) (by kernel_rfl) (by kernel_rfl) (fun _ _ _ h => h) (Or.inr ⟨by first | kernel_rfl | rfl, rfl⟩) (by assumption) ?_; (try simp only [Act.put, List.setIfInBounds_toArray, List.set_cons_zero, List.set_cons_succ]))
              (refine takeH (i := 31) (v := undef) rfl (by kernel_rfl) (by kernel_rfl) (by kernel_rfl) (fun _ _ _ h => h) (Or.inr ⟨by first | kernel_rfl | rfl, rfl⟩) (by assumption) ?_; (try simp only [Act.put, List.setIfInBounds_toArray, List.set_cons_zero, List.set_cons_succ]))
              (refine takeH (i := 32) (v := ?_) rfl (by kernel_rfl) (by kernel_rfl) (by kernel_rfl) (fun _ _ _ h => h) (Or.inl ⟨by first | kernel_rfl | rfl, ?_⟩) (by assumption) ?_; rotate_left; focus (intro w' hSw; (try dsimp only at hSw); go_simp; try (with_reducible rfl)); (try simp only [Act.put, List.setIfInBounds_toArray, List.set_cons_zero, List.set_cons_succ]))
              (refine takeH (i := 33) (v := ?_) rfl (by kernel_rfl) (by kernel_rfl) (by kernel_rfl) (fun _ _ _ h => h) (Or.inl ⟨by first | kernel_rfl | rfl, ?_⟩) (by assumption) ?_; rotate_left; focus (intro w' hSw; (try dsimp only at hSw); go_simp; try (with_reducible rfl)); (try simp only [Act.put, List.setIfInBounds_toArray, List.set_cons_zero, List.set_cons_succ]))
              (refine takeH (i := 34) (v := ?_) rfl (by kernel_rfl) (by kernel_rfl) (by kernel_rfl) (fun _ _ _ h => h) (Or.inl ⟨by first | kernel_rfl | rfl, ?_⟩) (by assumption) ?_; rotate_left; focus (intro w' hSw; (try dsimp only at hSw); go_simp; try (with_reducible rfl)); (try simp only [Act.put, List.setIfInBounds_toArray, List.set_cons_zero, List.set_cons_succ]))
              refine wpAnyH_done (by kernel_rfl) ?_ _
              go_wp2
              go_ret
              exact ⟨by first | kernel_rfl | (go_simp; done), HB.out.trans (HBb.mono HB.out.size)⟩
          · obtain rfl : gok = true := by rw [e5]; exact decide_eq_true hm0
            have hy1 := e6 hm0
            clear e5 e6
            obtain ⟨t1, ht1⟩ : ∃ t, ws.take 1 = t := ⟨_, rfl⟩
            obtain ⟨t2, ht2⟩ : ∃ t, ws.drop 1 = t := ⟨_, rfl⟩
            rw [ht1, ht2] at e1
            have HT1 := Lib.hid ht1
            have HT2 := Lib.hid ht2
            have HY := Lib.hid (And.intro e4 hy1)
            clear ht1 ht2 e4 hy1
            subst e1 e2
            simp only [HNL.out] at hc13 J13 ⊢
            subst hNN
            have hN0I : (0 : Int) < (m : Int) + 1 := by omega
            have hN1I : (1 : Int) < (m : Int) + 1 := by omega
            have hmI : (0 : Int) < (m : Int) := by omega
            have hN0 : ((m : Int) + 1 == 0) = false := by simp; omega
            have l0 := N13.out.c0
            have l1 := N13.out.c1
            go_wp2_with fail
            refine (same_at [] [] _ _ 0 0 _ N13.out.line nil_line).mono ?_
            rintro e W17 ⟨rfl, hS⟩
            replace HLV := Lib.hid (HLV.out.below hS)
            replace HMV := Lib.hid (HMV.out.below hS)
            replace N12 := Lib.hid (N12.out.below hS)
            replace N14 := Lib.hid (N14.out.below hS)
            replace N15 := Lib.hid (N15.out.below hS)
            replace HR := Lib.hid (HR.out.below hS)
            replace J13 := Lib.hid (J13.out.on hS)
            replace HB := Lib.hid (HB.out.trans (hS.mono HB.out.size))
            clear l0 l1 hS N13
            go_wp2_with fail
            refine (rids_at (y :: ws) _ 0 _ (by rw [HNL.out]; exact HR.out) (by rw [HNL.out]; omega)).mono ?_
            rintro e W18 ⟨⟨v, rfl, ho⟩, hS⟩
            obtain ⟨I18, ci18, rfl, hc18, hd18, hs18⟩ := IdsV.form (xs := y :: ws) ho
            rw [HNL.out] at hc18 hs18 ⊢
            have J18 := Lib.hid hs18
            replace HLV := Lib.hid (HLV.out.below hS)
            replace HMV := Lib.hid (HMV.out.below hS)
            replace N12 := Lib.hid (N12.out.below hS)
            replace N14 := Lib.hid (N14.out.below hS)
            replace N15 := Lib.hid (N15.out.below hS)
            replace HR := Lib.hid (HR.out.below hS)
            replace J13 := Lib.hid (J13.out.on hS)
            replace HB := Lib.hid (HB.out.trans (hS.mono HB.out.size))
            clear hS hs18 ho
            go_wp2_with fail
            refine (same_ints _ _ I13 I18 _ _ ci13 ci18 true _ J13.out J18.out ⟨hc13, hd13⟩ ⟨hc18, hd18⟩ (by simp)).mono ?_
            rintro e W19 ⟨rfl, hS⟩
            replace HLV := Lib.hid (HLV.out.below hS)
            replace HMV := Lib.hid (HMV.out.below hS)
            replace N12 := Lib.hid (N12.out.below hS)
            replace N14 := Lib.hid (N14.out.below hS)
            replace N15 := Lib.hid (N15.out.below hS)
            replace HR := Lib.hid (HR.out.below hS)
            replace HB := Lib.hid (HB.out.trans (hS.mono HB.out.size))
            clear hS J13 J18
            have m0 := HMV.out.c0
            have m1 := HMV.out.c1
            have l0 := HLV.out.c0
            have l1 := HLV.out.c1
            go_wp2_with fail
            refine (same_at [y] (ws) _ _ 0 0 _ HMV.out.line HLV.out.line).mono ?_
            rintro e W20 ⟨rfl, hS⟩
            replace N12 := Lib.hid (N12.out.below hS)
            replace N14 := Lib.hid (N14.out.below hS)
            replace N15 := Lib.hid (N15.out.below hS)
            replace HR := Lib.hid (HR.out.below hS)
            replace HB := Lib.hid (HB.out.trans (hS.mono HB.out.size))
            clear m0 m1 l0 l1 hS HMV HLV
            go_upto_region 22 with (fail)
            obtain ⟨hLies, hLc, hLd⟩ := HR.out.lies
            obtain ⟨bl, ol, rfl⟩ := hLies.some (by omega)
            obtain ⟨hbl, hyc⟩ := hLies.at_cmd 0 y rfl
            obtain ⟨-, hfc⟩ := hLies.at_cmd m fx HY.out.1
            obtain ⟨-, hgc⟩ := hLies.at_cmd 1 gx HY.out.2
            have HTL : Hid (Lies W20 W20.heap.size 7 (some ⟨bl, ol + 7, none⟩) m (cmdsC ws)) := Lib.hid (by simpa using hLies.tail)
            simp only [Nat.zero_mul, Nat.add_zero, Nat.one_mul] at hyc hgc
            have m0 := N12.out.c0
            have m1 := N12.out.c1
            have h12 := N12.out.lt
            have h14 := N14.out.lt
            have h15 := N15.out.lt
            have f0 : W20.cell? ⟨V14.heap.size, 0, none⟩ = some (.int .i64 fx.id) := N14.out.c 0 (by omega)
            have f1 : W20.cell? ⟨V14.heap.size, 1, none⟩ = some (.int .i64 fx.kind) := N14.out.c 1 (by omega)
            have f2 : W20.cell? ⟨V14.heap.size, 2, none⟩ = some (.int .i64 fx.target) := N14.out.c 2 (by omega)
            have f3 : W20.cell? ⟨V14.heap.size, 3, none⟩ = some (.int .i64 fx.speed) := N14.out.c 3 (by omega)
            have f4 : W20.cell? ⟨V14.heap.size, 4, none⟩ = some (.int .i64 fx.mode) := N14.out.c 4 (by omega)
            have f5 : W20.cell? ⟨V14.heap.size, 5, none⟩ = some (.int .i64 fx.num) := N14.out.c 5 (by omega)
            have f6 : W20.cell? ⟨V14.heap.size, 6, none⟩ = some (.int .i64 fx.den) := N14.out.c 6 (by omega)
            have g0 : W20.cell? ⟨V15.heap.size, 0, none⟩ = some (.int .i64 gx.id) := N15.out.c 0 (by omega)
            have g1 : W20.cell? ⟨V15.heap.size, 1, none⟩ = some (.int .i64 gx.kind) := N15.out.c 1 (by omega)
            have g2 : W20.cell? ⟨V15.heap.size, 2, none⟩ = some (.int .i64 gx.target) := N15.out.c 2 (by omega)
            have g3 : W20.cell? ⟨V15.heap.size, 3, none⟩ = some (.int .i64 gx.speed) := N15.out.c 3 (by omega)
            have g4 : W20.cell? ⟨V15.heap.size, 4, none⟩ = some (.int .i64 gx.mode) := N15.out.c 4 (by omega)
            have g5 : W20.cell? ⟨V15.heap.size, 5, none⟩ = some (.int .i64 gx.num) := N15.out.c 5 (by omega)
            have g6 : W20.cell? ⟨V15.heap.size, 6, none⟩ = some (.int .i64 gx.den) := N15.out.c 6 (by omega)
            have y0' : W20.cell? ⟨bl, ol, none⟩ = some (.int .i64 y.id) := hyc 0 (by omega)
            have p0 : W20.cell? ⟨bl, ol + m * 7, none⟩ = some (.int .i64 fx.id) := hfc 0 (by omega)
            have p1 : W20.cell? ⟨bl, ol + m * 7 + 1, none⟩ = some (.int .i64 fx.kind) := hfc 1 (by omega)
            have p2 : W20.cell? ⟨bl, ol + m * 7 + 2, none⟩ = some (.int .i64 fx.target) := hfc 2 (by omega)
            have p3 : W20.cell? ⟨bl, ol + m * 7 + 3, none⟩ = some (.int .i64 fx.speed) := hfc 3 (by omega)
            have p4 : W20.cell? ⟨bl, ol + m * 7 + 4, none⟩ = some (.int .i64 fx.mode) := hfc 4 (by omega)
            have p5 : W20.cell? ⟨bl, ol + m * 7 + 5, none⟩ = some (.int .i64 fx.num) := hfc 5 (by omega)
            have p6 : W20.cell? ⟨bl, ol + m * 7 + 6, none⟩ = some (.int .i64 fx.den) := hfc 6 (by omega)
            have q0 : W20.cell? ⟨bl, ol + 7, none⟩ = some (.int .i64 gx.id) := hgc 0 (by omega)
            have q1 : W20.cell? ⟨bl, ol + 7 + 1, none⟩ = some (.int .i64 gx.kind) := hgc 1 (by omega)
            have q2 : W20.cell? ⟨bl, ol + 7 + 2, none⟩ = some (.int .i64 gx.target) := hgc 2 (by omega)
            have q3 : W20.cell? ⟨bl, ol + 7 + 3, none⟩ = some (.int .i64 gx.speed) := hgc 3 (by omega)
            have q4 : W20.cell? ⟨bl, ol + 7 + 4, none⟩ = some (.int .i64 gx.mode) := hgc 4 (by omega)
            have q5 : W20.cell? ⟨bl, ol + 7 + 5, none⟩ = some (.int .i64 gx.num) := hgc 5 (by omega)
            have q6 : W20.cell? ⟨bl, ol + 7 + 6, none⟩ = some (.int .i64 gx.den) := hgc 6 (by omega)
            have hcI : (1 : Int) ≤ (cL : Int) := by omega
            have hcI2 : (m : Int) + 1 ≤ (cL : Int) := by omega
            have hcn : ¬ 1 = cL := by omega
            have hqq : IntKind.i64.wrap ((m : Int) + 1 - 1) = (m : Int) := by rw [show (m : Int) + 1 - 1 = m by omega]; exact IntWalk.i64_in _ (by omega)
            have hqw : IntKind.i64.wrap (m : Int) = (m : Int) := IntWalk.i64_in _ (by omega)
            have hcn2 : ¬ cL = 1 := by omega
            have h1m : (1 : Int) ≤ (m : Int) + 1 := by omega
            have hm00 : (0 : Int) ≤ (m : Int) := by omega
            have hm01 : (m : Int) < (m : Int) + 1 := by omega
            clear hyc hfc hgc hLies HNL HY
            have HOF := Lib.hid (fun (W : World) (hb : Below W20.heap.size W20 W) => show Calls Try.prog 41 #[.slice (some ⟨bl, ol + 7, none⟩) m (cL - 1)] W (fun e w' => RetL W w' t1 t2 e ∧ Below W.heap.size W w') from rof_at ws t1 t2 _ 0 W (by rw [← HM1.out]; exact ⟨_, _, rfl, by omega, by omega, HTL.out.on hb, fun _ _ _ _ => Nat.zero_le _⟩) (by rw [← HM1.out]; omega) HT1.out HT2.out)
            refine wp_region_held_drew (S := fun w' => w'.cell? ⟨V12.heap.size, 0, none⟩ = some (.slice A12 t1.length c12) ∧ w'.cell? ⟨V12.heap.size, 1, none⟩ = some (.slice D12 t2.length d12) ∧ w'.cell? ⟨V14.heap.size, 0, none⟩ = some (.int .i64 fx.id) ∧ w'.cell? ⟨V14.heap.size, 1, none⟩ = some (.int .i64 fx.kind) ∧ w'.cell? ⟨V14.heap.size, 2, none⟩ = some (.int .i64 fx.target) ∧ w'.cell? ⟨V14.heap.size, 3, none⟩ = some (.int .i64 fx.speed) ∧ w'.cell? ⟨V14.heap.size, 4, none⟩ = some (.int .i64 fx.mode) ∧ w'.cell? ⟨V14.heap.size, 5, none⟩ = some (.int .i64 fx.num) ∧ w'.cell? ⟨V14.heap.size, 6, none⟩ = some (.int .i64 fx.den) ∧ w'.cell? ⟨V15.heap.size, 0, none⟩ = some (.int .i64 gx.id) ∧ w'.cell? ⟨V15.heap.size, 1, none⟩ = some (.int .i64 gx.kind) ∧ w'.cell? ⟨V15.heap.size, 2, none⟩ = some (.int .i64 gx.target) ∧ w'.cell? ⟨V15.heap.size, 3, none⟩ = some (.int .i64 gx.speed) ∧ w'.cell? ⟨V15.heap.size, 4, none⟩ = some (.int .i64 gx.mode) ∧ w'.cell? ⟨V15.heap.size, 5, none⟩ = some (.int .i64 gx.num) ∧ w'.cell? ⟨V15.heap.size, 6, none⟩ = some (.int .i64 gx.den) ∧ w'.cell? ⟨bl, ol, none⟩ = some (.int .i64 y.id) ∧ w'.cell? ⟨bl, ol + m * 7, none⟩ = some (.int .i64 fx.id) ∧ w'.cell? ⟨bl, ol + m * 7 + 1, none⟩ = some (.int .i64 fx.kind) ∧ w'.cell? ⟨bl, ol + m * 7 + 2, none⟩ = some (.int .i64 fx.target) ∧ w'.cell? ⟨bl, ol + m * 7 + 3, none⟩ = some (.int .i64 fx.speed) ∧ w'.cell? ⟨bl, ol + m * 7 + 4, none⟩ = some (.int .i64 fx.mode) ∧ w'.cell? ⟨bl, ol + m * 7 + 5, none⟩ = some (.int .i64 fx.num) ∧ w'.cell? ⟨bl, ol + m * 7 + 6, none⟩ = some (.int .i64 fx.den) ∧ w'.cell? ⟨bl, ol + 7, none⟩ = some (.int .i64 gx.id) ∧ w'.cell? ⟨bl, ol + 7 + 1, none⟩ = some (.int .i64 gx.kind) ∧ w'.cell? ⟨bl, ol + 7 + 2, none⟩ = some (.int .i64 gx.target) ∧ w'.cell? ⟨bl, ol + 7 + 3, none⟩ = some (.int .i64 gx.speed) ∧ w'.cell? ⟨bl, ol + 7 + 4, none⟩ = some (.int .i64 gx.mode) ∧ w'.cell? ⟨bl, ol + 7 + 5, none⟩ = some (.int .i64 gx.num) ∧ w'.cell? ⟨bl, ol + 7 + 6, none⟩ = some (.int .i64 gx.den)) (by kernel_rfl) ?_ (fun hHeld => ?_)
            · (refine ⟨?_, ?_, ?_, ?_, ?_, ?_, ?_, ?_, ?_, ?_, ?_, ?_, ?_, ?_, ?_, ?_, ?_, ?_, ?_, ?_, ?_, ?_, ?_, ?_, ?_, ?_, ?_, ?_, ?_, ?_, ?_⟩ <;> assumption)
            (refine takeH (i := 0) (v := ?_) rfl (by kernel_rfl) (by kernel_rfl) (by kernel_rfl) (fun _ _ _ h => h) (Or.inl ⟨by first | kernel_rfl | rfl, ?_⟩) (by assumption) ?_; rotate_left; focus (intro w' hSw; (try dsimp only at hSw); go_simp; try (with_reducible rfl)); (try simp only [Act.put, List.setIfInBounds_toArray, List.set_cons_zero, List.set_cons_succ]))
            (refine takeH (i := 1) (v := ?_) rfl (by kernel_rfl) (by kernel_rfl) (by kernel_rfl) (fun _ _ _ h => h) (Or.inl ⟨by first | kernel_rfl | rfl, ?_⟩) (by assumption) ?_; rotate_left; focus (intro w' hSw; (try dsimp only at hSw); go_simp; try (with_reducible rfl)); (try simp only [Act.put, List.setIfInBounds_toArray, List.set_cons_zero, List.set_cons_succ]))
            (refine takeH (i := 2) (v := ?_) rfl (by kernel_rfl) (by kernel_rfl) (by kernel_rfl) (fun _ _ _ h => h) (Or.inl ⟨by first | kernel_rfl | rfl, ?_⟩) (by assumption) ?_; rotate_left; focus (intro w' hSw; (try dsimp only at hSw); go_simp; try (with_reducible rfl)); (try simp only [Act.put, List.setIfInBounds_toArray, List.set_cons_zero, List.set_cons_succ]))
            (refine oneH (i := 3) (by kernel_rfl) rfl (fun K hK => ?_); go_simp; (go_at_call 41; (with_reducible refine (HOF.out _ ?bb).mono ?_); (case bb => (repeat' (first | (with_reducible exact Below.refl _ _) | (with_reducible assumption) | (with_reducible refine below_drewN ?_ _) | (with_reducible refine Below.drew ?_) | (with_reducible refine below_new ?_ (Nat.le_refl _) _) | (with_reducible refine Below.setCell ?_ ?_ _) | (with_reducible refine below_go ?_ (by assumption) (Nat.le_refl _)) | (simp; done) | (simp; omega) | omega))); rintro e W22 ⟨⟨v, rfl, hl⟩, hSa⟩; obtain ⟨a22, b22, rfl, ⟨A22, c22, rfl, y1⟩, ⟨D22, d22, rfl, y2⟩⟩ := hl; (have HL22 := Lib.hid (LineV.base0 (show LineV W22 _ t1 t2 (.agg #[.slice A22 t1.length c22, .slice D22 t2.length d22]) from ⟨_, _, rfl, ⟨A22, c22, rfl, y1⟩, ⟨D22, d22, rfl, y2⟩⟩) (Nat.zero_le _))); (have HBa : Below W20.heap.size W20 W22 := (by (repeat' (first | (with_reducible exact Below.refl _ _) | (with_reducible assumption) | (with_reducible refine below_drewN ?_ _) | (with_reducible refine Below.drew ?_) | (with_reducible refine below_new ?_ (Nat.le_refl _) _) | (with_reducible refine Below.setCell ?_ ?_ _) | (with_reducible refine below_go ?_ (by assumption) (Nat.le_refl _)) | (simp; done) | (simp; omega) | omega)))); (have hza := hSa.size); (simp at hza); (have h12a : V12.heap.size < W22.heap.size := by omega); (have h14a : V14.heap.size < W22.heap.size := by omega); (have h15a : V15.heap.size < W22.heap.size := by omega); (have hbla : bl < W22.heap.size := by omega); (have am0 : W22.cell? ⟨V12.heap.size, 0, none⟩ = some (.slice A12 t1.length c12) := (hSa.cell (p := ⟨V12.heap.size, 0, none⟩) (by first | exact h12 | (simp; exact h12) | (simp; omega))).trans (by first | exact m0 | go_simp)); (have am1 : W22.cell? ⟨V12.heap.size, 1, none⟩ = some (.slice D12 t2.length d12) := (hSa.cell (p := ⟨V12.heap.size, 1, none⟩) (by first | exact h12 | (simp; exact h12) | (simp; omega))).trans (by first | exact m1 | go_simp)); (have af0 : W22.cell? ⟨V14.heap.size, 0, none⟩ = some (.int .i64 fx.id) := (hSa.cell (p := ⟨V14.heap.size, 0, none⟩) (by first | exact h14 | (simp; exact h14) | (simp; omega))).trans (by first | exact f0 | go_simp)); (have af1 : W22.cell? ⟨V14.heap.size, 1, none⟩ = some (.int .i64 fx.kind) := (hSa.cell (p := ⟨V14.heap.size, 1, none⟩) (by first | exact h14 | (simp; exact h14) | (simp; omega))).trans (by first | exact f1 | go_simp)); (have af2 : W22.cell? ⟨V14.heap.size, 2, none⟩ = some (.int .i64 fx.target) := (hSa.cell (p := ⟨V14.heap.size, 2, none⟩) (by first | exact h14 | (simp; exact h14) | (simp; omega))).trans (by first | exact f2 | go_simp)); (have af3 : W22.cell? ⟨V14.heap.size, 3, none⟩ = some (.int .i64 fx.speed) := (hSa.cell (p := ⟨V14.heap.size, 3, none⟩) (by first | exact h14 | (simp; exact h14) | (simp; omega))).trans (by first | exact f3 | go_simp)); (have af4 : W22.cell? ⟨V14.heap.size, 4, none⟩ = some (.int .i64 fx.mode) := (hSa.cell (p := ⟨V14.heap.size, 4, none⟩) (by first | exact h14 | (simp; exact h14) | (simp; omega))).trans (by first | exact f4 | go_simp)); (have af5 : W22.cell? ⟨V14.heap.size, 5, none⟩ = some (.int .i64 fx.num) := (hSa.cell (p := ⟨V14.heap.size, 5, none⟩) (by first | exact h14 | (simp; exact h14) | (simp; omega))).trans (by first | exact f5 | go_simp)); (have af6 : W22.cell? ⟨V14.heap.size, 6, none⟩ = some (.int .i64 fx.den) := (hSa.cell (p := ⟨V14.heap.size, 6, none⟩) (by first | exact h14 | (simp; exact h14) | (simp; omega))).trans (by first | exact f6 | go_simp)); (have ag0 : W22.cell? ⟨V15.heap.size, 0, none⟩ = some (.int .i64 gx.id) := (hSa.cell (p := ⟨V15.heap.size, 0, none⟩) (by first | exact h15 | (simp; exact h15) | (simp; omega))).trans (by first | exact g0 | go_simp)); (have ag1 : W22.cell? ⟨V15.heap.size, 1, none⟩ = some (.int .i64 gx.kind) := (hSa.cell (p := ⟨V15.heap.size, 1, none⟩) (by first | exact h15 | (simp; exact h15) | (simp; omega))).trans (by first | exact g1 | go_simp)); (have ag2 : W22.cell? ⟨V15.heap.size, 2, none⟩ = some (.int .i64 gx.target) := (hSa.cell (p := ⟨V15.heap.size, 2, none⟩) (by first | exact h15 | (simp; exact h15) | (simp; omega))).trans (by first | exact g2 | go_simp)); (have ag3 : W22.cell? ⟨V15.heap.size, 3, none⟩ = some (.int .i64 gx.speed) := (hSa.cell (p := ⟨V15.heap.size, 3, none⟩) (by first | exact h15 | (simp; exact h15) | (simp; omega))).trans (by first | exact g3 | go_simp)); (have ag4 : W22.cell? ⟨V15.heap.size, 4, none⟩ = some (.int .i64 gx.mode) := (hSa.cell (p := ⟨V15.heap.size, 4, none⟩) (by first | exact h15 | (simp; exact h15) | (simp; omega))).trans (by first | exact g4 | go_simp)); (have ag5 : W22.cell? ⟨V15.heap.size, 5, none⟩ = some (.int .i64 gx.num) := (hSa.cell (p := ⟨V15.heap.size, 5, none⟩) (by first | exact h15 | (simp; exact h15) | (simp; omega))).trans (by first | exact g5 | go_simp)); (have ag6 : W22.cell? ⟨V15.heap.size, 6, none⟩ = some (.int .i64 gx.den) := (hSa.cell (p := ⟨V15.heap.size, 6, none⟩) (by first | exact h15 | (simp; exact h15) | (simp; omega))).trans (by first | exact g6 | go_simp)); (have ay0' : W22.cell? ⟨bl, ol, none⟩ = some (.int .i64 y.id) := (hSa.cell (p := ⟨bl, ol, none⟩) (by first | exact hbl | (simp; exact hbl) | (simp; omega))).trans (by first | exact y0' | go_simp)); (have ap0 : W22.cell? ⟨bl, ol + m * 7, none⟩ = some (.int .i64 fx.id) := (hSa.cell (p := ⟨bl, ol + m * 7, none⟩) (by first | exact hbl | (simp; exact hbl) | (simp; omega))).trans (by first | exact p0 | go_simp)); (have ap1 : W22.cell? ⟨bl, ol + m * 7 + 1, none⟩ = some (.int .i64 fx.kind) := (hSa.cell (p := ⟨bl, ol + m * 7 + 1, none⟩) (by first | exact hbl | (simp; exact hbl) | (simp; omega))).trans (by first | exact p1 | go_simp)); (have ap2 : W22.cell? ⟨bl, ol + m * 7 + 2, none⟩ = some (.int .i64 fx.target) := (hSa.cell (p := ⟨bl, ol + m * 7 + 2, none⟩) (by first | exact hbl | (simp; exact hbl) | (simp; omega))).trans (by first | exact p2 | go_simp)); (have ap3 : W22.cell? ⟨bl, ol + m * 7 + 3, none⟩ = some (.int .i64 fx.speed) := (hSa.cell (p := ⟨bl, ol + m * 7 + 3, none⟩) (by first | exact hbl | (simp; exact hbl) | (simp; omega))).trans (by first | exact p3 | go_simp)); (have ap4 : W22.cell? ⟨bl, ol + m * 7 + 4, none⟩ = some (.int .i64 fx.mode) := (hSa.cell (p := ⟨bl, ol + m * 7 + 4, none⟩) (by first | exact hbl | (simp; exact hbl) | (simp; omega))).trans (by first | exact p4 | go_simp)); (have ap5 : W22.cell? ⟨bl, ol + m * 7 + 5, none⟩ = some (.int .i64 fx.num) := (hSa.cell (p := ⟨bl, ol + m * 7 + 5, none⟩) (by first | exact hbl | (simp; exact hbl) | (simp; omega))).trans (by first | exact p5 | go_simp)); (have ap6 : W22.cell? ⟨bl, ol + m * 7 + 6, none⟩ = some (.int .i64 fx.den) := (hSa.cell (p := ⟨bl, ol + m * 7 + 6, none⟩) (by first | exact hbl | (simp; exact hbl) | (simp; omega))).trans (by first | exact p6 | go_simp)); (have aq0 : W22.cell? ⟨bl, ol + 7, none⟩ = some (.int .i64 gx.id) := (hSa.cell (p := ⟨bl, ol + 7, none⟩) (by first | exact hbl | (simp; exact hbl) | (simp; omega))).trans (by first | exact q0 | go_simp)); (have aq1 : W22.cell? ⟨bl, ol + 7 + 1, none⟩ = some (.int .i64 gx.kind) := (hSa.cell (p := ⟨bl, ol + 7 + 1, none⟩) (by first | exact hbl | (simp; exact hbl) | (simp; omega))).trans (by first | exact q1 | go_simp)); (have aq2 : W22.cell? ⟨bl, ol + 7 + 2, none⟩ = some (.int .i64 gx.target) := (hSa.cell (p := ⟨bl, ol + 7 + 2, none⟩) (by first | exact hbl | (simp; exact hbl) | (simp; omega))).trans (by first | exact q2 | go_simp)); (have aq3 : W22.cell? ⟨bl, ol + 7 + 3, none⟩ = some (.int .i64 gx.speed) := (hSa.cell (p := ⟨bl, ol + 7 + 3, none⟩) (by first | exact hbl | (simp; exact hbl) | (simp; omega))).trans (by first | exact q3 | go_simp)); (have aq4 : W22.cell? ⟨bl, ol + 7 + 4, none⟩ = some (.int .i64 gx.mode) := (hSa.cell (p := ⟨bl, ol + 7 + 4, none⟩) (by first | exact hbl | (simp; exact hbl) | (simp; omega))).trans (by first | exact q4 | go_simp)); (have aq5 : W22.cell? ⟨bl, ol + 7 + 5, none⟩ = some (.int .i64 gx.num) := (hSa.cell (p := ⟨bl, ol + 7 + 5, none⟩) (by first | exact hbl | (simp; exact hbl) | (simp; omega))).trans (by first | exact q5 | go_simp)); (have aq6 : W22.cell? ⟨bl, ol + 7 + 6, none⟩ = some (.int .i64 gx.den) := (hSa.cell (p := ⟨bl, ol + 7 + 6, none⟩) (by first | exact hbl | (simp; exact hbl) | (simp; omega))).trans (by first | exact q6 | go_simp)); clear y1 y2); go_wp2_with fail; refine hK.out _ _ ?_ (fun hHeld => ?_); (focus (refine ⟨?_, ?_, ?_, ?_, ?_, ?_, ?_, ?_, ?_, ?_, ?_, ?_, ?_, ?_, ?_, ?_, ?_, ?_, ?_, ?_, ?_, ?_, ?_, ?_, ?_, ?_, ?_, ?_, ?_, ?_, ?_⟩ <;> assumption)); clear hK K; (try simp only [Act.put, List.setIfInBounds_toArray, List.set_cons_zero, List.set_cons_succ]))
            (refine oneH (i := 4) (by kernel_rfl) rfl (fun K hK => ?_); go_simp; (go_at_call 35; (with_reducible refine (same_at _ _ _ _ 0 0 _ (N12.out.line.below ?bb) HL22.out).mono ?_); (case bb => exact HBa); rintro e W23 ⟨rfl, hSb⟩; (have HBb : Below W20.heap.size W20 W23 := HBa.trans (hSb.mono HBa.size)); (have bm0 : W23.cell? ⟨V12.heap.size, 0, none⟩ = some (.slice A12 t1.length c12) := (hSb.cell (p := ⟨V12.heap.size, 0, none⟩) (by first | exact h12a | (simp; exact h12a) | (simp; omega))).trans (by first | exact am0 | go_simp)); (have bm1 : W23.cell? ⟨V12.heap.size, 1, none⟩ = some (.slice D12 t2.length d12) := (hSb.cell (p := ⟨V12.heap.size, 1, none⟩) (by first | exact h12a | (simp; exact h12a) | (simp; omega))).trans (by first | exact am1 | go_simp)); (have bf0 : W23.cell? ⟨V14.heap.size, 0, none⟩ = some (.int .i64 fx.id) := (hSb.cell (p := ⟨V14.heap.size, 0, none⟩) (by first | exact h14a | (simp; exact h14a) | (simp; omega))).trans (by first | exact af0 | go_simp)); (have bf1 : W23.cell? ⟨V14.heap.size, 1, none⟩ = some (.int .i64 fx.kind) := (hSb.cell (p := ⟨V14.heap.size, 1, none⟩) (by first | exact h14a | (simp; exact h14a) | (simp; omega))).trans (by first | exact af1 | go_simp)); (have bf2 : W23.cell? ⟨V14.heap.size, 2, none⟩ = some (.int .i64 fx.target) := (hSb.cell (p := ⟨V14.heap.size, 2, none⟩) (by first | exact h14a | (simp; exact h14a) | (simp; omega))).trans (by first | exact af2 | go_simp)); (have bf3 : W23.cell? ⟨V14.heap.size, 3, none⟩ = some (.int .i64 fx.speed) := (hSb.cell (p := ⟨V14.heap.size, 3, none⟩) (by first | exact h14a | (simp; exact h14a) | (simp; omega))).trans (by first | exact af3 | go_simp)); (have bf4 : W23.cell? ⟨V14.heap.size, 4, none⟩ = some (.int .i64 fx.mode) := (hSb.cell (p := ⟨V14.heap.size, 4, none⟩) (by first | exact h14a | (simp; exact h14a) | (simp; omega))).trans (by first | exact af4 | go_simp)); (have bf5 : W23.cell? ⟨V14.heap.size, 5, none⟩ = some (.int .i64 fx.num) := (hSb.cell (p := ⟨V14.heap.size, 5, none⟩) (by first | exact h14a | (simp; exact h14a) | (simp; omega))).trans (by first | exact af5 | go_simp)); (have bf6 : W23.cell? ⟨V14.heap.size, 6, none⟩ = some (.int .i64 fx.den) := (hSb.cell (p := ⟨V14.heap.size, 6, none⟩) (by first | exact h14a | (simp; exact h14a) | (simp; omega))).trans (by first | exact af6 | go_simp)); (have bg0 : W23.cell? ⟨V15.heap.size, 0, none⟩ = some (.int .i64 gx.id) := (hSb.cell (p := ⟨V15.heap.size, 0, none⟩) (by first | exact h15a | (simp; exact h15a) | (simp; omega))).trans (by first | exact ag0 | go_simp)); (have bg1 : W23.cell? ⟨V15.heap.size, 1, none⟩ = some (.int .i64 gx.kind) := (hSb.cell (p := ⟨V15.heap.size, 1, none⟩) (by first | exact h15a | (simp; exact h15a) | (simp; omega))).trans (by first | exact ag1 | go_simp)); (have bg2 : W23.cell? ⟨V15.heap.size, 2, none⟩ = some (.int .i64 gx.target) := (hSb.cell (p := ⟨V15.heap.size, 2, none⟩) (by first | exact h15a | (simp; exact h15a) | (simp; omega))).trans (by first | exact ag2 | go_simp)); (have bg3 : W23.cell? ⟨V15.heap.size, 3, none⟩ = some (.int .i64 gx.speed) := (hSb.cell (p := ⟨V15.heap.size, 3, none⟩) (by first | exact h15a | (simp; exact h15a) | (simp; omega))).trans (by first | exact ag3 | go_simp)); (have bg4 : W23.cell? ⟨V15.heap.size, 4, none⟩ = some (.int .i64 gx.mode) := (hSb.cell (p := ⟨V15.heap.size, 4, none⟩) (by first | exact h15a | (simp; exact h15a) | (simp; omega))).trans (by first | exact ag4 | go_simp)); (have bg5 : W23.cell? ⟨V15.heap.size, 5, none⟩ = some (.int .i64 gx.num) := (hSb.cell (p := ⟨V15.heap.size, 5, none⟩) (by first | exact h15a | (simp; exact h15a) | (simp; omega))).trans (by first | exact ag5 | go_simp)); (have bg6 : W23.cell? ⟨V15.heap.size, 6, none⟩ = some (.int .i64 gx.den) := (hSb.cell (p := ⟨V15.heap.size, 6, none⟩) (by first | exact h15a | (simp; exact h15a) | (simp; omega))).trans (by first | exact ag6 | go_simp)); (have by0' : W23.cell? ⟨bl, ol, none⟩ = some (.int .i64 y.id) := (hSb.cell (p := ⟨bl, ol, none⟩) (by first | exact hbla | (simp; exact hbla) | (simp; omega))).trans (by first | exact ay0' | go_simp)); (have bp0 : W23.cell? ⟨bl, ol + m * 7, none⟩ = some (.int .i64 fx.id) := (hSb.cell (p := ⟨bl, ol + m * 7, none⟩) (by first | exact hbla | (simp; exact hbla) | (simp; omega))).trans (by first | exact ap0 | go_simp)); (have bp1 : W23.cell? ⟨bl, ol + m * 7 + 1, none⟩ = some (.int .i64 fx.kind) := (hSb.cell (p := ⟨bl, ol + m * 7 + 1, none⟩) (by first | exact hbla | (simp; exact hbla) | (simp; omega))).trans (by first | exact ap1 | go_simp)); (have bp2 : W23.cell? ⟨bl, ol + m * 7 + 2, none⟩ = some (.int .i64 fx.target) := (hSb.cell (p := ⟨bl, ol + m * 7 + 2, none⟩) (by first | exact hbla | (simp; exact hbla) | (simp; omega))).trans (by first | exact ap2 | go_simp)); (have bp3 : W23.cell? ⟨bl, ol + m * 7 + 3, none⟩ = some (.int .i64 fx.speed) := (hSb.cell (p := ⟨bl, ol + m * 7 + 3, none⟩) (by first | exact hbla | (simp; exact hbla) | (simp; omega))).trans (by first | exact ap3 | go_simp)); (have bp4 : W23.cell? ⟨bl, ol + m * 7 + 4, none⟩ = some (.int .i64 fx.mode) := (hSb.cell (p := ⟨bl, ol + m * 7 + 4, none⟩) (by first | exact hbla | (simp; exact hbla) | (simp; omega))).trans (by first | exact ap4 | go_simp)); (have bp5 : W23.cell? ⟨bl, ol + m * 7 + 5, none⟩ = some (.int .i64 fx.num) := (hSb.cell (p := ⟨bl, ol + m * 7 + 5, none⟩) (by first | exact hbla | (simp; exact hbla) | (simp; omega))).trans (by first | exact ap5 | go_simp)); (have bp6 : W23.cell? ⟨bl, ol + m * 7 + 6, none⟩ = some (.int .i64 fx.den) := (hSb.cell (p := ⟨bl, ol + m * 7 + 6, none⟩) (by first | exact hbla | (simp; exact hbla) | (simp; omega))).trans (by first | exact ap6 | go_simp)); (have bq0 : W23.cell? ⟨bl, ol + 7, none⟩ = some (.int .i64 gx.id) := (hSb.cell (p := ⟨bl, ol + 7, none⟩) (by first | exact hbla | (simp; exact hbla) | (simp; omega))).trans (by first | exact aq0 | go_simp)); (have bq1 : W23.cell? ⟨bl, ol + 7 + 1, none⟩ = some (.int .i64 gx.kind) := (hSb.cell (p := ⟨bl, ol + 7 + 1, none⟩) (by first | exact hbla | (simp; exact hbla) | (simp; omega))).trans (by first | exact aq1 | go_simp)); (have bq2 : W23.cell? ⟨bl, ol + 7 + 2, none⟩ = some (.int .i64 gx.target) := (hSb.cell (p := ⟨bl, ol + 7 + 2, none⟩) (by first | exact hbla | (simp; exact hbla) | (simp; omega))).trans (by first | exact aq2 | go_simp)); (have bq3 : W23.cell? ⟨bl, ol + 7 + 3, none⟩ = some (.int .i64 gx.speed) := (hSb.cell (p := ⟨bl, ol + 7 + 3, none⟩) (by first | exact hbla | (simp; exact hbla) | (simp; omega))).trans (by first | exact aq3 | go_simp)); (have bq4 : W23.cell? ⟨bl, ol + 7 + 4, none⟩ = some (.int .i64 gx.mode) := (hSb.cell (p := ⟨bl, ol + 7 + 4, none⟩) (by first | exact hbla | (simp; exact hbla) | (simp; omega))).trans (by first | exact aq4 | go_simp)); (have bq5 : W23.cell? ⟨bl, ol + 7 + 5, none⟩ = some (.int .i64 gx.num) := (hSb.cell (p := ⟨bl, ol + 7 + 5, none⟩) (by first | exact hbla | (simp; exact hbla) | (simp; omega))).trans (by first | exact aq5 | go_simp)); (have bq6 : W23.cell? ⟨bl, ol + 7 + 6, none⟩ = some (.int .i64 gx.den) := (hSb.cell (p := ⟨bl, ol + 7 + 6, none⟩) (by first | exact hbla | (simp; exact hbla) | (simp; omega))).trans (by first | exact aq6 | go_simp))); go_wp2_with fail; refine hK.out _ _ ?_ (fun hHeld => ?_); (focus (refine ⟨?_, ?_, ?_, ?_, ?_, ?_, ?_, ?_, ?_, ?_, ?_, ?_, ?_, ?_, ?_, ?_, ?_, ?_, ?_, ?_, ?_, ?_, ?_, ?_, ?_, ?_, ?_, ?_, ?_, ?_, ?_⟩ <;> assumption)); clear hK K; (try simp only [Act.put, List.setIfInBounds_toArray, List.set_cons_zero, List.set_cons_succ]))
            (refine takeH (i := 5) (v := ?_) rfl (by kernel_rfl) (by kernel_rfl) (by kernel_rfl) (fun _ _ _ h => h) (Or.inl ⟨by first | kernel_rfl | rfl, ?_⟩) (by assumption) ?_; rotate_left; focus (intro w' hSw; (try dsimp only at hSw); go_simp; try (with_reducible rfl)); (try simp only [Act.put, List.setIfInBounds_toArray, List.set_cons_zero, List.set_cons_succ]))
            (refine takeH (i := 6) (v := ?_) rfl (by kernel_rfl) (by kernel_rfl) (by kernel_rfl) (fun _ _ _ h => h) (Or.inl ⟨by first | kernel_rfl | rfl, ?_⟩) (by assumption) ?_; rotate_left; focus (intro w' hSw; (try dsimp only at hSw); go_simp; try (with_reducible rfl)); (try simp only [Act.put, List.setIfInBounds_toArray, List.set_cons_zero, List.set_cons_succ]))
            (refine takeH (i := 7) (v := ?_) rfl (by kernel_rfl) (by kernel_rfl) (by kernel_rfl) (fun _ _ _ h => h) (Or.inl ⟨by first | kernel_rfl | rfl, ?_⟩) (by assumption) ?_; rotate_left; focus (intro w' hSw; (try dsimp only at hSw); go_simp; try (with_reducible rfl)); (try simp only [Act.put, List.setIfInBounds_toArray, List.set_cons_zero, List.set_cons_succ]))
            (refine takeH (i := 8) (v := ?_) rfl (by kernel_rfl) (by kernel_rfl) (by kernel_rfl) (fun _ _ _ h => h) (Or.inl ⟨by first | kernel_rfl | rfl, ?_⟩) (by assumption) ?_; rotate_left; focus (intro w' hSw; (try dsimp only at hSw); go_simp; try (with_reducible rfl)); (try simp only [Act.put, List.setIfInBounds_toArray, List.set_cons_zero, List.set_cons_succ]))
            (refine takeH (i := 9) (v := ?_) rfl (by kernel_rfl) (by kernel_rfl) (by kernel_rfl) (fun _ _ _ h => h) (Or.inl ⟨by first | kernel_rfl | rfl, ?_⟩) (by assumption) ?_; rotate_left; focus (intro w' hSw; (try dsimp only at hSw); go_simp; try (with_reducible rfl)); (try simp only [Act.put, List.setIfInBounds_toArray, List.set_cons_zero, List.set_cons_succ]))
            (refine takeH (i := 10) (v := ?_) rfl (by kernel_rfl) (by kernel_rfl) (by kernel_rfl) (fun _ _ _ h => h) (Or.inl ⟨by first | kernel_rfl | rfl, ?_⟩) (by assumption) ?_; rotate_left; focus (intro w' hSw; (try dsimp only at hSw); go_simp; try (with_reducible rfl)); (try simp only [Act.put, List.setIfInBounds_toArray, List.set_cons_zero, List.set_cons_succ]))
            (refine takeH (i := 11) (v := ?_) rfl (by kernel_rfl) (by kernel_rfl) (by kernel_rfl) (fun _ _ _ h => h) (Or.inl ⟨by first | kernel_rfl | rfl, ?_⟩) (by assumption) ?_; rotate_left; focus (intro w' hSw; (try dsimp only at hSw); go_simp; try (with_reducible rfl)); (try simp only [Act.put, List.setIfInBounds_toArray, List.set_cons_zero, List.set_cons_succ]))
            (refine takeH (i := 12) (v := ?_) rfl (by kernel_rfl) (by kernel_rfl) (by kernel_rfl) (fun _ _ _ h => h) (Or.inl ⟨by first | kernel_rfl | rfl, ?_⟩) (by assumption) ?_; rotate_left; focus (intro w' hSw; (try dsimp only at hSw); go_simp; try (with_reducible rfl)); (try simp only [Act.put, List.setIfInBounds_toArray, List.set_cons_zero, List.set_cons_succ]))
            (refine takeH (i := 13) (v := ?_) rfl (by kernel_rfl) (by kernel_rfl) (by kernel_rfl) (fun _ _ _ h => h) (Or.inl ⟨by first | kernel_rfl | rfl, ?_⟩) (by assumption) ?_; rotate_left; focus (intro w' hSw; (try dsimp only at hSw); go_simp; try (with_reducible rfl)); (try simp only [Act.put, List.setIfInBounds_toArray, List.set_cons_zero, List.set_cons_succ]))
            (refine takeH (i := 14) (v := ?_) rfl (by kernel_rfl) (by kernel_rfl) (by kernel_rfl) (fun _ _ _ h => h) (Or.inl ⟨by first | kernel_rfl | rfl, ?_⟩) (by assumption) ?_; rotate_left; focus (intro w' hSw; (try dsimp only at hSw); go_simp; try (with_reducible rfl)); (try simp only [Act.put, List.setIfInBounds_toArray, List.set_cons_zero, List.set_cons_succ]))
            (refine takeH (i := 15) (v := ?_) rfl (by kernel_rfl) (by kernel_rfl) (by kernel_rfl) (fun _ _ _ h => h) (Or.inl ⟨by first | kernel_rfl | rfl, ?_⟩) (by assumption) ?_; rotate_left; focus (intro w' hSw; (try dsimp only at hSw); go_simp; try (with_reducible rfl)); (try simp only [Act.put, List.setIfInBounds_toArray, List.set_cons_zero, List.set_cons_succ]))
            (refine takeH (i := 16) (v := ?_) rfl (by kernel_rfl) (by kernel_rfl) (by kernel_rfl) (fun _ _ _ h => h) (Or.inl ⟨by first | kernel_rfl | rfl, ?_⟩) (by assumption) ?_; rotate_left; focus (intro w' hSw; (try dsimp only at hSw); go_simp; try (with_reducible rfl)); (try simp only [Act.put, List.setIfInBounds_toArray, List.set_cons_zero, List.set_cons_succ]))
            (refine takeH (i := 17) (v := ?_) rfl (by kernel_rfl) (by kernel_rfl) (by kernel_rfl) (fun _ _ _ h => h) (Or.inl ⟨by first | kernel_rfl | rfl, ?_⟩) (by assumption) ?_; rotate_left; focus (intro w' hSw; (try dsimp only at hSw); go_simp; try (with_reducible rfl)); (try simp only [Act.put, List.setIfInBounds_toArray, List.set_cons_zero, List.set_cons_succ]))
            (refine takeH (i := 18) (v := ?_) rfl (by kernel_rfl) (by kernel_rfl) (by kernel_rfl) (fun _ _ _ h => h) (Or.inl ⟨by first | kernel_rfl | rfl, ?_⟩) (by assumption) ?_; rotate_left; focus (intro w' hSw; (try dsimp only at hSw); go_simp; try (with_reducible rfl)); (try simp only [Act.put, List.setIfInBounds_toArray, List.set_cons_zero, List.set_cons_succ]))
            (refine takeH (i := 19) (v := ?_) rfl (by kernel_rfl) (by kernel_rfl) (by kernel_rfl) (fun _ _ _ h => h) (Or.inl ⟨by first | kernel_rfl | rfl, ?_⟩) (by assumption) ?_; rotate_left; focus (intro w' hSw; (try dsimp only at hSw); go_simp; try (with_reducible rfl)); (try simp only [Act.put, List.setIfInBounds_toArray, List.set_cons_zero, List.set_cons_succ]))
            (refine takeH (i := 20) (v := ?_) rfl (by kernel_rfl) (by kernel_rfl) (by kernel_rfl) (fun _ _ _ h => h) (Or.inl ⟨by first | kernel_rfl | rfl, ?_⟩) (by assumption) ?_; rotate_left; focus (intro w' hSw; (try dsimp only at hSw); go_simp; try (with_reducible rfl)); (try simp only [Act.put, List.setIfInBounds_toArray, List.set_cons_zero, List.set_cons_succ]))
            (refine takeH (i := 21) (v := ?_) rfl (by kernel_rfl) (by kernel_rfl) (by kernel_rfl) (fun _ _ _ h => h) (Or.inl ⟨by first | kernel_rfl | rfl, ?_⟩) (by assumption) ?_; rotate_left; focus (intro w' hSw; (try dsimp only at hSw); go_simp; try (with_reducible rfl)); (try simp only [Act.put, List.setIfInBounds_toArray, List.set_cons_zero, List.set_cons_succ]))
            (refine takeH (i := 22) (v := ?_) rfl (by kernel_rfl) (by kernel_rfl) (by kernel_rfl) (fun _ _ _ h => h) (Or.inl ⟨by first | kernel_rfl | rfl, ?_⟩) (by assumption) ?_; rotate_left; focus (intro w' hSw; (try dsimp only at hSw); go_simp; try (with_reducible rfl)); (try simp only [Act.put, List.setIfInBounds_toArray, List.set_cons_zero, List.set_cons_succ]))
            (refine takeH (i := 23) (v := ?_) rfl (by kernel_rfl) (by kernel_rfl) (by kernel_rfl) (fun _ _ _ h => h) (Or.inl ⟨by first | kernel_rfl | rfl, ?_⟩) (by assumption) ?_; rotate_left; focus (intro w' hSw; (try dsimp only at hSw); go_simp; try (with_reducible rfl)); (try simp only [Act.put, List.setIfInBounds_toArray, List.set_cons_zero, List.set_cons_succ]))
            (refine takeH (i := 24) (v := ?_) rfl (by kernel_rfl) (by kernel_rfl) (by kernel_rfl) (fun _ _ _ h => h) (Or.inl ⟨by first | kernel_rfl | rfl, ?_⟩) (by assumption) ?_; rotate_left; focus (intro w' hSw; (try dsimp only at hSw); go_simp; try (with_reducible rfl)); (try simp only [Act.put, List.setIfInBounds_toArray, List.set_cons_zero, List.set_cons_succ]))
            (refine takeH (i := 25) (v := ?_) rfl (by kernel_rfl) (by kernel_rfl) (by kernel_rfl) (fun _ _ _ h => h) (Or.inl ⟨by first | kernel_rfl | rfl, ?_⟩) (by assumption) ?_; rotate_left; focus (intro w' hSw; (try dsimp only at hSw); go_simp; try (with_reducible rfl)); (try simp only [Act.put, List.setIfInBounds_toArray, List.set_cons_zero, List.set_cons_succ]))
            (refine takeH (i := 26) (v := ?_) rfl (by kernel_rfl) (by kernel_rfl) (by kernel_rfl) (fun _ _ _ h => h) (Or.inl ⟨by first | kernel_rfl | rfl, ?_⟩) (by assumption) ?_; rotate_left; focus (intro w' hSw; (try dsimp only at hSw); go_simp; try (with_reducible rfl)); (try simp only [Act.put, List.setIfInBounds_toArray, List.set_cons_zero, List.set_cons_succ]))
            (refine takeH (i := 27) (v := ?_) rfl (by kernel_rfl) (by kernel_rfl) (by kernel_rfl) (fun _ _ _ h => h) (Or.inl ⟨by first | kernel_rfl | rfl, ?_⟩) (by assumption) ?_; rotate_left; focus (intro w' hSw; (try dsimp only at hSw); go_simp; try (with_reducible rfl)); (try simp only [Act.put, List.setIfInBounds_toArray, List.set_cons_zero, List.set_cons_succ]))
            (refine takeH (i := 28) (v := ?_) rfl (by kernel_rfl) (by kernel_rfl) (by kernel_rfl) (fun _ _ _ h => h) (Or.inl ⟨by first | kernel_rfl | rfl, ?_⟩) (by assumption) ?_; rotate_left; focus (intro w' hSw; (try dsimp only at hSw); go_simp; try (with_reducible rfl)); (try simp only [Act.put, List.setIfInBounds_toArray, List.set_cons_zero, List.set_cons_succ]))
            (refine takeH (i := 29) (v := ?_) rfl (by kernel_rfl) (by kernel_rfl) (by kernel_rfl) (fun _ _ _ h => h) (Or.inl ⟨by first | kernel_rfl | rfl, ?_⟩) (by assumption) ?_; rotate_left; focus (intro w' hSw; (try dsimp only at hSw); go_simp; try (with_reducible rfl)); (try simp only [Act.put, List.setIfInBounds_toArray, List.set_cons_zero, List.set_cons_succ]))
            (refine takeH (i := 30) (v := ?_) rfl (by kernel_rfl) (by kernel_rfl) (by kernel_rfl) (fun _ _ _ h => h) (Or.inl ⟨by first | kernel_rfl | rfl, ?_⟩) (by assumption) ?_; rotate_left; focus (intro w' hSw; (try dsimp only at hSw); go_simp; try (with_reducible rfl)); (try simp only [Act.put, List.setIfInBounds_toArray, List.set_cons_zero, List.set_cons_succ]))
            (refine takeH (i := 31) (v := ?_) rfl (by kernel_rfl) (by kernel_rfl) (by kernel_rfl) (fun _ _ _ h => h) (Or.inl ⟨by first | kernel_rfl | rfl, ?_⟩) (by assumption) ?_; rotate_left; focus (intro w' hSw; (try dsimp only at hSw); go_simp; try (with_reducible rfl)); (try simp only [Act.put, List.setIfInBounds_toArray, List.set_cons_zero, List.set_cons_succ]))
            (refine takeH (i := 32) (v := ?_) rfl (by kernel_rfl) (by kernel_rfl) (by kernel_rfl) (fun _ _ _ h => h) (Or.inl ⟨by first | kernel_rfl | rfl, ?_⟩) (by assumption) ?_; rotate_left; focus (intro w' hSw; (try dsimp only at hSw); go_simp; try (with_reducible rfl)); (try simp only [Act.put, List.setIfInBounds_toArray, List.set_cons_zero, List.set_cons_succ]))
            (refine takeH (i := 33) (v := ?_) rfl (by kernel_rfl) (by kernel_rfl) (by kernel_rfl) (fun _ _ _ h => h) (Or.inl ⟨by first | kernel_rfl | rfl, ?_⟩) (by assumption) ?_; rotate_left; focus (intro w' hSw; (try dsimp only at hSw); go_simp; try (with_reducible rfl)); (try simp only [Act.put, List.setIfInBounds_toArray, List.set_cons_zero, List.set_cons_succ]))
            (refine takeH (i := 34) (v := ?_) rfl (by kernel_rfl) (by kernel_rfl) (by kernel_rfl) (fun _ _ _ h => h) (Or.inl ⟨by first | kernel_rfl | rfl, ?_⟩) (by assumption) ?_; rotate_left; focus (intro w' hSw; (try dsimp only at hSw); go_simp; try (with_reducible rfl)); (try simp only [Act.put, List.setIfInBounds_toArray, List.set_cons_zero, List.set_cons_succ]))
            refine wpAnyH_done (by kernel_rfl) ?_ _
            go_wp2
            go_ret
            exact ⟨by first | kernel_rfl | (go_simp; done), HB.out.trans (HBb.mono HB.out.size)⟩
  · have hcase : 20 < n ∨ (n ≤ 20 ∧ 20 < m) := by omega
    have HSM := Lib.hid (show decide (n ≤ 20 ∧ m ≤ 20) = false from decide_eq_false hsm)
    obtain ⟨x0, x1, x2, x3, x4, x5, x6⟩ := x
    simp only [CmdS.val]
    clear HXV hsm hcase
    go_enter Try.func9, Try.ntmps9
    go_wp2_with fail
    refine (awake12 _).mono ?_
    rintro e w1 ⟨rfl, hb1⟩
    obtain ⟨hb1c, hb1f⟩ := bcell hb1
    have hb1z := hb1.size
    have hb1c0 := fun o => hb1c (w.heap.size) o (by first | (simp; done) | (simp; omega) | (simp at *; omega) | omega)
    have hb1f0 := fun o => hb1f (w.heap.size) o (by first | (simp; done) | (simp; omega) | (simp at *; omega) | omega)
    have hb1l0 := below_lt (b := w.heap.size) hb1 (by first | (simp; done) | (simp; omega) | (simp at *; omega) | omega)
    have hb1c1 := fun o => hb1c (w.heap.size + 1) o (by first | (simp; done) | (simp; omega) | (simp at *; omega) | omega)
    have hb1f1 := fun o => hb1f (w.heap.size + 1) o (by first | (simp; done) | (simp; omega) | (simp at *; omega) | omega)
    have hb1l1 := below_lt (b := w.heap.size + 1) hb1 (by first | (simp; done) | (simp; omega) | (simp at *; omega) | omega)
    have hB1 : Below w.heap.size w w1 := by (repeat' (first | (with_reducible exact Below.refl _ _) | (with_reducible assumption) | (with_reducible refine below_drewN ?_ _) | (with_reducible refine Below.drew ?_) | (with_reducible refine below_new ?_ (Nat.le_refl _) _) | (with_reducible refine Below.setCell ?_ ?_ _) | (with_reducible refine below_go ?_ (by assumption) (Nat.le_refl _)) | (simp; done) | (simp; omega) | omega))
    clear hb1
    go_wp2_with fail
    refine (lsmall_at A D n m c d _ false HSM.out).mono ?_
    rintro e w2 ⟨rfl, hb2⟩
    go_wp2
    go_ret
    exact ⟨rfl, by (repeat' (first | (with_reducible exact Below.refl _ _) | (with_reducible assumption) | (with_reducible refine below_drewN ?_ _) | (with_reducible refine Below.drew ?_) | (with_reducible refine below_new ?_ (Nat.le_refl _) _) | (with_reducible refine Below.setCell ?_ ?_ _) | (with_reducible refine below_go ?_ (by assumption) (Nat.le_refl _)) | (simp; done) | (simp; omega) | omega))⟩

end Go.Proofs.Ytddakmlnkffgiaa
