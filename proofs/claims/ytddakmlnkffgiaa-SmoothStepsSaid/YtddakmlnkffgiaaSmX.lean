/- Layer 10: SmoothSteps at an empty window, the walk. -/
import Derived.Test.YtddakmlnkffgiaaSmX0
import Derived.Deep.DeepCutAuto
import Derived.Deep.AppendLies
import Derived.Deep.RegionHeld3
namespace Go.Proofs.Ytddakmlnkffgiaa
open Go.RowKit
set_option linter.unusedVariables false
set_option linter.unusedSimpArgs false
attribute [local go_sem] ite_max ite_min vite_max vite_min ext_cell ext_frozen extS_cell extS_frozen

set_option maxRecDepth 100000 in
set_option maxHeartbeats 8000000 in
theorem steps_none (m pos d : Int) (sa : Option Addr) (cap : Nat) (w : World) (hmb : -9223372036854775808 ≤ m ∧ m ≤ 9223372036854775807) (hpb : -9223372036854775808 ≤ pos ∧ pos ≤ 9223372036854775807) (hdb : -9223372036854775808 ≤ d ∧ d ≤ 9223372036854775807) :
    Calls Try.prog 13 #[.int .i64 m, .agg #[.slice sa 0 cap], .int .i64 pos, .int .i64 d] w fun e w' => e = .returned (.bool true) ∧ Below w.heap.size w w' := by
  obtain ⟨okb, hokb⟩ : ∃ b, newB1 m pos = b := ⟨_, rfl⟩
  have HOKB := Lib.hid hokb
  have hinf : (Try.prog.info? 2).map (fun i => (i.zero, i.size, i.bytes)) = some (some (.int .i64 0), 1, 8) := by kernel_rfl
  obtain ⟨i0, hi0, hz0, hz1, hz2⟩ := info_parts hinf
  have HI := Lib.hid hi0
  have HZ0 := Lib.hid hz0
  have HZ1 := Lib.hid hz1
  have HZ2 := Lib.hid hz2
  clear hokb hinf hi0 hz0 hz1 hz2
  go_enter Try.func13, Try.ntmps13
  go_wp2_with fail
  refine (awake10_at _).mono ?_
  rintro e w1 ⟨rfl, hb1⟩
  obtain ⟨hb1c, hb1f⟩ := bcell hb1
  have hb1z := hb1.size
  have hb1c0 := fun o => hb1c (w.heap.size) o (by first | (simp; done) | (simp; omega) | (simp at *; omega) | omega)
  have hb1f0 := fun o => hb1f (w.heap.size) o (by first | (simp; done) | (simp; omega) | (simp at *; omega) | omega)
  have hb1l0 := below_lt (b := w.heap.size) hb1 (by first | (simp; done) | (simp; omega) | (simp at *; omega) | omega)
  have hB1 : Below w.heap.size w w1 := by (repeat' (first | (with_reducible exact Below.refl _ _) | (with_reducible assumption) | (with_reducible refine below_drewN ?_ _) | (with_reducible refine Below.drew ?_) | (with_reducible refine below_new ?_ (Nat.le_refl _) _) | (with_reducible refine Below.setCell ?_ ?_ _) | (with_reducible refine below_go ?_ (by assumption) (Nat.le_refl _)) | (simp; done) | (simp; omega) | omega))
  have hl1 : w.heap.size < w1.heap.size := by have := hb1.size; simp at this; omega
  go_wp2_with fail
  refine (sm_new_any m pos _).mono ?_
  rintro e w2 ⟨sa2, q2, k2, e2, rfl, hnew, hb2⟩
  have HNEW := Lib.hid hnew
  have hB2 : Below w.heap.size w w2 := by (repeat' (first | (with_reducible exact Below.refl _ _) | (with_reducible assumption) | (with_reducible refine below_drewN ?_ _) | (with_reducible refine Below.drew ?_) | (with_reducible refine below_new ?_ (Nat.le_refl _) _) | (with_reducible refine Below.setCell ?_ ?_ _) | (with_reducible refine below_go ?_ (by assumption) (Nat.le_refl _)) | (simp; done) | (simp; omega) | omega))
  have c02 := (hb2.cell (p := ⟨w.heap.size, 0, none⟩) hl1)
  have hl2 : w.heap.size < w2.heap.size := Nat.lt_of_lt_of_le hl1 hb2.size
  clear hnew
  go_upto_region 6 with fail
  go_cut [11] (fun s11 wx => s11 = .bool okb ∧ wx = w2.alloc (.cells #[.slice sa2 q2 k2] 71))
  case first => as_aux_lemma =>
    by_cases h1 : 1 ≤ m
    · by_cases h2 : m ≤ 16
      · obtain ⟨pB, hpB⟩ : ∃ pB, plB pos = pB := ⟨_, rfl⟩
        have HPB := Lib.hid hpB
        have hr : newB1 m pos = pB := by unfold newB1; rw [hpB, decide_eq_true ⟨h1, h2⟩]; rfl
        have HB := Lib.hid hr
        clear hpB hr
        go_wp2_with fail
        refine (lawplace_r pos pB _ HPB.out).mono ?_
        rintro e w' ⟨rfl, rfl⟩
        go_wp2_with fail
        go_meet
        exact ⟨by rw [← HOKB.out, HB.out], rfl⟩
      · have hr : newB1 m pos = false := by unfold newB1; rw [decide_eq_false (fun h => h2 h.2)]; rfl
        have h2' : 16 < m := by omega
        have HB := Lib.hid hr
        clear hr
        go_wp2_with fail
        go_meet
        exact ⟨by rw [← HOKB.out, HB.out], rfl⟩
    · have hr : newB1 m pos = false := by unfold newB1; rw [decide_eq_false (fun h => h1 h.1)]; rfl
      have h1' : m < 1 := by omega
      have HB := Lib.hid hr
      clear hr
      go_wp2_with fail
      go_meet
      exact ⟨by rw [← HOKB.out, HB.out], rfl⟩
  case rest =>
    obtain ⟨rfl, rfl⟩ := hcut
    go_upto_region 7 with fail
    go_cut [82] (fun s82 wx => s82 = .bool false ∧ Below w.heap.size w wx ∧ w.heap.size < wx.heap.size ∧ wx.cell? ⟨w.heap.size, 0, none⟩ = some (.slice sa 0 cap))
    case first => as_aux_lemma =>
      rcases HNEW.out with ⟨hq, rfl, hqm, g, rfl, o⟩ | ⟨hq, rfl, rfl⟩
      · have ho := o
        have HO := Lib.hid o
        have hq' := hq
        simp only [newB1, Bool.and_eq_true, decide_eq_true_eq] at hq'
        have hqI : (1 : Int) ≤ (q2 : Int) ∧ (q2 : Int) ≤ 16 := by omega
        have hone : oneK (List.replicate q2 pos) q2 pos := fun i hi => rep_get q2 pos i hi
        have HRE := Lib.hid (rest_one (rightW_same q2 pos (by omega) hq'.2) hone)
        have hc0 := o.cs 0 (by omega)
        rw [rep_get q2 pos 0 (by omega)] at hc0
        have hgl2 := o.gl
        subst hqm
        have hob : okb = true := by rw [← HOKB.out, hq]
        subst hob
        clear hq hq' o ho hone
        go_wp2_with fail
        refine (sm_rest_w _ g q2 k2 true _ (HO.out.below ?bb) HRE.out).mono ?_
        case bb => (repeat' (first | (with_reducible exact Below.refl _ _) | (with_reducible assumption) | (with_reducible refine below_drewN ?_ _) | (with_reducible refine Below.drew ?_) | (with_reducible refine below_new ?_ (Nat.le_refl _) _) | (with_reducible refine Below.setCell ?_ ?_ _) | (with_reducible refine below_go ?_ (by assumption) (Nat.le_refl _)) | (simp; done) | (simp; omega) | omega))
        rintro e w3 ⟨rfl, hb3⟩
        obtain ⟨hb3c, hb3f⟩ := bcell hb3
        have hb3z := hb3.size
        have hb3c0 := fun o => hb3c (w.heap.size) o (by first | (simp; done) | (simp; omega) | (simp at *; omega) | omega)
        have hb3f0 := fun o => hb3f (w.heap.size) o (by first | (simp; done) | (simp; omega) | (simp at *; omega) | omega)
        have hb3l0 := below_lt (b := w.heap.size) hb3 (by first | (simp; done) | (simp; omega) | (simp at *; omega) | omega)
        have hb3c1 := fun o => hb3c (w2.heap.size) o (by first | (simp; done) | (simp; omega) | (simp at *; omega) | omega)
        have hb3f1 := fun o => hb3f (w2.heap.size) o (by first | (simp; done) | (simp; omega) | (simp at *; omega) | omega)
        have hb3l1 := below_lt (b := w2.heap.size) hb3 (by first | (simp; done) | (simp; omega) | (simp at *; omega) | omega)
        have hb3c2 := fun o => hb3c (g) o (by first | (simp; done) | (simp; omega) | (simp at *; omega) | omega)
        have hb3f2 := fun o => hb3f (g) o (by first | (simp; done) | (simp; omega) | (simp at *; omega) | omega)
        have hb3l2 := below_lt (b := g) hb3 (by first | (simp; done) | (simp; omega) | (simp at *; omega) | omega)
        go_wp2_with fail
        go_meet
        exact ⟨rfl, by (repeat' (first | (with_reducible exact Below.refl _ _) | (with_reducible assumption) | (with_reducible refine below_drewN ?_ _) | (with_reducible refine Below.drew ?_) | (with_reducible refine below_new ?_ (Nat.le_refl _) _) | (with_reducible refine Below.setCell ?_ ?_ _) | (with_reducible refine below_go ?_ (by assumption) (Nat.le_refl _)) | (simp; done) | (simp; omega) | omega)), by have := hb3.size; simp at this; omega, by go_simp⟩
      · have hob : okb = false := by rw [← HOKB.out, hq]
        subst hob
        clear hq
        go_wp2_with fail
        go_meet
        exact ⟨rfl, by (repeat' (first | (with_reducible exact Below.refl _ _) | (with_reducible assumption) | (with_reducible refine below_drewN ?_ _) | (with_reducible refine Below.drew ?_) | (with_reducible refine below_new ?_ (Nat.le_refl _) _) | (with_reducible refine Below.setCell ?_ ?_ _) | (with_reducible refine below_go ?_ (by assumption) (Nat.le_refl _)) | (simp; done) | (simp; omega) | omega)), by simp; omega, by go_simp⟩
    case rest =>
      obtain ⟨rfl, hBc, hlc, c0⟩ := hcut
      clear HNEW hb1 hb1c hb1f hb1z hb1c0 hb1f0 hb1l0 hb2 hB1 hB2 hl1 hl2 c02
      go_wp2_with (at_builtin; refine wp_append_0 rfl _ _ rfl ⟨wc.heap.size, 0, none⟩ sa cap rfl rfl ?_)
      refine wp_name fun W hW => ?_
      have cM : W.cell? ⟨wc.heap.size + 1, 0, none⟩ = some (.slice (some ⟨wc.heap.size, 0, none⟩) 0 0) := by rw [hW.out]; go_simp
      have cB : W.cell? ⟨w.heap.size, 0, none⟩ = some (.slice sa 0 cap) := by rw [hW.out]; go_simp
      have hBW : Below w.heap.size w W := by rw [hW.out]; (repeat' (first | (with_reducible exact Below.refl _ _) | (with_reducible assumption) | (with_reducible refine below_drewN ?_ _) | (with_reducible refine Below.drew ?_) | (with_reducible refine below_new ?_ (Nat.le_refl _) _) | (with_reducible refine Below.setCell ?_ ?_ _) | (with_reducible refine below_go ?_ (by assumption) (Nat.le_refl _)) | (simp; done) | (simp; omega) | omega))
      have hl0 : w.heap.size < W.heap.size := by rw [hW.out]; simp; omega
      have hlM0 : wc.heap.size + 1 < W.heap.size := by rw [hW.out]; simp
      have hwcw : w.heap.size < wc.heap.size := hlc
      clear hW c0 hBc
      refine wp_region_wild 12 9 ([{ i := 0, d := 88, R := isEmp, N := (fun _ => []) }, { i := 3, d := 91, R := isEmp, N := (fun _ => []) }, { i := 4, d := 92, R := isAny, N := (fun _ => []), D := [3], L := isAgg1 }, { i := 5, d := 93, R := isEmp, N := (fun _ => []) }, { i := 8, d := 96, R := isEmp, N := (fun _ => []) }, { i := 9, d := 97, R := isAny, N := (fun _ => []), D := [8], L := isAgg1 }, { i := 10, d := 13, R := isVar (.cells #[.slice none 0 0] 71), N := newB }, { i := 11, d := 14, R := isVar (.cells #[.slice none 0 0] 71), N := newB }] : List Wd) [true, false, false, true, true, true, false, false, true, true, true, true] rfl (by kernel_rfl) (by kernel_rfl) (fun _ _ _ _ _ h => h) (by kernel_rfl) ?_ ?_
      · intro x hx v w1 w2 hR hb
        simp only [List.mem_cons, List.not_mem_nil, or_false] at hx
        rcases hx with rfl | rfl | rfl | rfl | rfl | rfl | rfl | rfl
        all_goals (dsimp only at hR ⊢; exact hR.below hb)
      apply Exists.intro
      refine ⟨fun S hS hne => ?_, ?_, ?_, ?_⟩
      · simp only [List.take_succ_cons, List.take_zero, List.map_cons, List.map_nil]
        delta CS
        repeat (first | with_reducible refine mask_skip ?_ | ((with_reducible refine mask_keep ?_); go_big_quiet_step (fail)))
        exact mask_nil rfl
      · skip
        intro x hx he
        simp only [List.mem_cons, List.not_mem_nil, or_false] at hx
        rcases hx with rfl | rfl | rfl | rfl | rfl | rfl | rfl | rfl
        all_goals (dsimp only at he; first | (exact absurd he (by decide)) | clear he)
        intro o ho
        simp only [List.getElem?_cons_succ, List.getElem?_cons_zero, Option.some.injEq] at ho
        subst ho
        intro vs w' hbw hdeps
        simp only [putsF, List.foldl_cons, List.foldl_nil]
        simp only [List.forall_mem_cons, List.not_mem_nil, false_implies, implies_true, and_true] at hdeps
        obtain ⟨dp0, dp1, dp2, dp3, dp4, dp5, dp6, dp7⟩ := hdeps
        obtain ⟨g8, e8, _⟩ := dp4 (by decide)
        clear dp0 dp1 dp2 dp3 dp4 dp5 dp6 dp7
        rw [e8]
        refine ⟨.agg #[.slice (some ⟨g8, 0, none⟩) 0 0], fun u => ?_⟩
        go_simp
      · skip
        simp only [List.forall_mem_cons, List.not_mem_nil, false_implies, implies_true, and_true]
        refine ⟨?_, ?_, ?_, ?_, ?_, ?_, ?_, ?_⟩
        all_goals
          intro o ho
          simp only [List.getElem?_cons_succ, List.getElem?_cons_zero, Option.some.injEq] at ho
          subst ho
          intro vs w' hbw hdeps
          simp only [putsF, List.foldl_cons, List.foldl_nil]
          refine ⟨by first | rfl | go_simp, ?_⟩
          first | with_reducible refine wild_plain ?_ | with_reducible refine wild_link ?_
          simp only [List.forall_mem_cons, List.not_mem_nil, false_implies, implies_true, and_true] at hdeps
          obtain ⟨dp0, dp1, dp2, dp3, dp4, dp5, dp6, dp7⟩ := hdeps
        · clear dp0 dp1 dp2 dp3 dp4 dp5 dp6 dp7
          go_simp
          exact wildUpon_value ⟨⟨_, rfl, by simp⟩, (Below.refl _ _).alloc (Nat.le_refl _) _, fun b hb => by cases hb⟩
        · obtain ⟨B, e0, hB⟩ := dp0 (by decide)
          clear dp0 dp1 dp2 dp3 dp4 dp5 dp6 dp7
          refine wild_clone0 (.tmp 88) (.tmp 90) rfl B sa cap ?_ ?_ hB ⟨B, rfl, hB⟩
          · rw [← e0]
            go_simp
          · go_simp
        · obtain ⟨g8, e8, _⟩ := dp1 (by decide)
          clear dp0 dp1 dp2 dp3 dp4 dp5 dp6 dp7
          rw [e8]
          go_simp
          exact wildUpon_value ⟨⟨trivial, rfl⟩, Below.refl _ _, fun b hb => by cases hb⟩
        · clear dp0 dp1 dp2 dp3 dp4 dp5 dp6 dp7
          go_simp
          exact wildUpon_value ⟨⟨_, rfl, by simp⟩, (Below.refl _ _).alloc (Nat.le_refl _) _, fun b hb => by cases hb⟩
        · obtain ⟨B, e0, hB⟩ := dp3 (by decide)
          clear dp0 dp1 dp2 dp3 dp4 dp5 dp6 dp7
          refine wild_clone0 (.tmp 93) (.tmp 95) rfl B sa cap ?_ ?_ hB ⟨B, rfl, hB⟩
          · rw [← e0]
            go_simp
          · go_simp
        · obtain ⟨g8, e8, _⟩ := dp4 (by decide)
          clear dp0 dp1 dp2 dp3 dp4 dp5 dp6 dp7
          rw [e8]
          go_simp
          exact wildUpon_value ⟨⟨trivial, rfl⟩, Below.refl _ _, fun b hb => by cases hb⟩
        · clear dp0 dp1 dp2 dp3 dp4 dp5 dp6 dp7
          go_simp
          exact wild_var
        · clear dp0 dp1 dp2 dp3 dp4 dp5 dp6 dp7
          go_simp
          exact wild_var
      · skip
        intro vs w' hbw hr hap hlk
        simp only [List.forall_mem_cons, List.not_mem_nil, false_implies, implies_true, and_true] at hr hap
        obtain ⟨hh0, hh3, hh4, hh5, hh8, hh9, ⟨hh10, n10⟩, ⟨hh11, n11⟩⟩ := hr
        obtain ⟨B0, e0, hB0⟩ := hh0
        obtain ⟨B3, e3, hB3⟩ := hh3
        clear hh4
        obtain ⟨B5, e5, hB5⟩ := hh5
        obtain ⟨B8, e8, hB8⟩ := hh8
        clear hh9
        obtain ⟨p10, e10, o10⟩ := hh10
        rw [e10] at n10
        obtain ⟨p11, e11, o11⟩ := hh11
        rw [e11] at n11
        simp only [List.forall_mem_cons, List.not_mem_nil, false_implies, implies_true, and_true, true_and, List.map_cons, List.map_nil, isAgg1, e0, e3, e5, e8, e10, e11] at hlk
        obtain ⟨l4, l9⟩ := hlk
        simp only [e0, e3, e5, e8, e10, e11] at hap
        simp only [newB_ptr, newB_row, newB_win, newB_win2, List.mem_cons, forall_eq_or_imp, or_false, List.mem_singleton, forall_eq, List.not_mem_nil, false_implies, implies_true, not_false_eq_true, and_true, true_and] at n10 n11 hap
        simp only [ne_eq, not_true_eq_false, false_implies, true_and, and_true, Nat.reduceEqDiff, not_false_eq_true, forall_const] at hap
        simp only [putsF, List.foldl_cons, List.foldl_nil, e0, e3, e5, e8, e10, e11, l4, l9, List.drop_succ_cons, List.drop_zero]
        clear e0 e3 e5 e8 e10 e11 l4 l9
        have c10 := heap_cell 0 _ o10 rfl
        have c11 := heap_cell 0 _ o11 rfl
        have f10 : w'.frozen? ⟨p10, 0, none⟩ = false := heap_free 0 o10
        have f11 : w'.frozen? ⟨p11, 0, none⟩ = false := heap_free 0 o11
        have cM' := (hbw.cell (p := ⟨wc.heap.size + 1, 0, none⟩) hlM0).trans cM
        have c0' := (hbw.cell (p := ⟨w.heap.size, 0, none⟩) hl0).trans cB
        have hws := hbw.size
        have hp : ¬ p10 = p11 := by first | exact hap.1 | exact hap
        have hp2 : ¬ p11 = p10 := fun e => hp e.symm
        have h00 : ¬ w.heap.size = p10 := by omega
        have h01 : ¬ w.heap.size = p11 := by omega
        have h02 : ¬ wc.heap.size + 1 = p10 := by omega
        have h03 : ¬ wc.heap.size + 1 = p11 := by omega
        clear hap o10 o11
        go_upto_region 11 with fail
        refine wp_name fun W2 hW2 => ?_
        have hz2 : W2.heap.size = w'.heap.size := by rw [hW2.out, size_set, size_set]
        have bP : W2.cell? ⟨p10, 0, none⟩ = some (.slice (some ⟨B3, 0, none⟩) 0 0) := by rw [hW2.out]; go_simp
        have bS : W2.cell? ⟨p11, 0, none⟩ = some (.slice (some ⟨B8, 0, none⟩) 0 0) := by rw [hW2.out]; go_simp
        have bM : W2.cell? ⟨wc.heap.size + 1, 0, none⟩ = some (.slice (some ⟨wc.heap.size, 0, none⟩) 0 0) := by rw [hW2.out]; go_simp
        have b0 : W2.cell? ⟨w.heap.size, 0, none⟩ = some (.slice sa 0 cap) := by rw [hW2.out]; go_simp
        have hB2 : Below w.heap.size w W2 := by rw [hW2.out]; exact ((hBW.trans (hbw.mono (by omega))).setCell (by show w.heap.size ≤ p10; omega) _).setCell (by show w.heap.size ≤ p11; omega) _
        have hl2 : w.heap.size < W2.heap.size := by omega
        have hlM2 : wc.heap.size + 1 < W2.heap.size := by omega
        have hlP2 : p10 < W2.heap.size := by omega
        have hlS2 : p11 < W2.heap.size := by omega
        clear hW2 c10 c11 f10 f11 cM' c0' hbw hBW cM cB hws hp hp2 h00 h01 h02 h03 n10 n11 hz2 hB0 hB3 hB5 hB8
        go_wp2_with fail
        refine (lawright_nil sa cap _).mono ?_
        rintro e w6 ⟨rfl, hb6⟩
        have b06 := (hb6.cell (p := ⟨w.heap.size, 0, none⟩) hl2).trans b0
        have hl6 : w.heap.size < w6.heap.size := Nat.lt_of_lt_of_le hl2 hb6.size
        go_wp2_with fail
        refine (lawright_nil sa cap _).mono ?_
        rintro e W3 ⟨rfl, hb7⟩
        have hb23 : Below W2.heap.size W2 W3 := hb6.trans (hb7.mono hb6.size)
        have dM := (hb23.cell (p := ⟨wc.heap.size + 1, 0, none⟩) hlM2).trans bM
        have dP := (hb23.cell (p := ⟨p10, 0, none⟩) hlP2).trans bP
        have dS := (hb23.cell (p := ⟨p11, 0, none⟩) hlS2).trans bS
        have d0 := (hb23.cell (p := ⟨w.heap.size, 0, none⟩) hl2).trans b0
        have hz23 := hb23.size
        have hB3 : Below w.heap.size w W3 := hB2.trans (hb23.mono hB2.size)
        have hl3 : w.heap.size < W3.heap.size := by omega
        have hlM : wc.heap.size + 1 < W3.heap.size := by omega
        have hlP : p10 < W3.heap.size := by omega
        have hlS : p11 < W3.heap.size := by omega
        have HM3 : Hid (OnW W3 [] 0 wc.heap.size 0) := Lib.hid (emp_on (by omega))
        clear bM bP bS b0 b06 hb6 hb7 hb23 hB2 hl2 hlM2 hlP2 hlS2 hl6
        go_wp2_with fail
        go_region_held3 (fun w' => w'.cell? ⟨wc.heap.size + 1, 0, none⟩ = some (.slice (some ⟨wc.heap.size, 0, none⟩) 0 0) ∧ w'.cell? ⟨p10, 0, none⟩ = some (.slice (some ⟨B3, 0, none⟩) 0 0) ∧ w'.cell? ⟨p11, 0, none⟩ = some (.slice (some ⟨B8, 0, none⟩) 0 0) ∧ w'.cell? ⟨w.heap.size, 0, none⟩ = some (.slice sa 0 cap))
          (first | (refine ⟨?_, ?_, ?_, ?_⟩ <;> assumption) | go_keep)
          (first
            | (go_at_call 50; (with_reducible refine (sm_right_w [] wc.heap.size 0 0 false _ (HM3.out.below ?b1) (by decide)).mono ?_); (case b1 => (repeat' (first | (with_reducible exact Below.refl _ _) | (with_reducible assumption) | (with_reducible refine below_drewN ?_ _) | (with_reducible refine Below.drew ?_) | (with_reducible refine below_new ?_ (Nat.le_refl _) _) | (with_reducible refine Below.setCell ?_ ?_ _) | (with_reducible refine below_go ?_ (by assumption) (Nat.le_refl _)) | (simp; done) | (simp; omega) | omega))); rintro e v1 ⟨rfl, hv1⟩; have HB1 : Hid (Below W3.heap.size W3 v1) := Lib.hid (by (repeat' (first | (with_reducible exact Below.refl _ _) | (with_reducible assumption) | (with_reducible refine below_drewN ?_ _) | (with_reducible refine Below.drew ?_) | (with_reducible refine below_new ?_ (Nat.le_refl _) _) | (with_reducible refine Below.setCell ?_ ?_ _) | (with_reducible refine below_go ?_ (by assumption) (Nat.le_refl _)) | (simp; done) | (simp; omega) | omega))); have kM1 := (HB1.out.cell (p := ⟨wc.heap.size + 1, 0, none⟩) hlM).trans dM; have kP1 := (HB1.out.cell (p := ⟨p10, 0, none⟩) hlP).trans dP; have kS1 := (HB1.out.cell (p := ⟨p11, 0, none⟩) hlS).trans dS; have k01 := (HB1.out.cell (p := ⟨w.heap.size, 0, none⟩) hl3).trans d0)
            | (go_at_call 49; (with_reducible refine (lawright_nil sa cap _).mono ?_); rintro e v2 ⟨rfl, hv2⟩; have HB2 : Hid (Below W3.heap.size W3 v2) := Lib.hid (by (repeat' (first | (with_reducible exact Below.refl _ _) | (with_reducible assumption) | (with_reducible refine below_drewN ?_ _) | (with_reducible refine Below.drew ?_) | (with_reducible refine below_new ?_ (Nat.le_refl _) _) | (with_reducible refine Below.setCell ?_ ?_ _) | (with_reducible refine below_go ?_ (by assumption) (Nat.le_refl _)) | (simp; done) | (simp; omega) | omega))); have kM2 := (HB2.out.cell (p := ⟨wc.heap.size + 1, 0, none⟩) hlM).trans dM; have kP2 := (HB2.out.cell (p := ⟨p10, 0, none⟩) hlP).trans dP; have kS2 := (HB2.out.cell (p := ⟨p11, 0, none⟩) hlS).trans dS; have k02 := (HB2.out.cell (p := ⟨w.heap.size, 0, none⟩) hl3).trans d0)
            | (go_at_call 45; (with_reducible refine (sm_push_any [] wc.heap.size 0 0 pos _ (HM3.out.below ?b3) (by omega)).mono ?_); (case b3 => (repeat' (first | (with_reducible exact Below.refl _ _) | (with_reducible assumption) | (with_reducible refine below_drewN ?_ _) | (with_reducible refine Below.drew ?_) | (with_reducible refine below_new ?_ (Nat.le_refl _) _) | (with_reducible refine Below.setCell ?_ ?_ _) | (with_reducible refine below_go ?_ (by assumption) (Nat.le_refl _)) | (simp; done) | (simp; omega) | omega))); rintro e v3 ⟨g3, k3, rfl, hv3, o3⟩; have HB3 : Hid (Below W3.heap.size W3 v3) := Lib.hid (by (repeat' (first | (with_reducible exact Below.refl _ _) | (with_reducible assumption) | (with_reducible refine below_drewN ?_ _) | (with_reducible refine Below.drew ?_) | (with_reducible refine below_new ?_ (Nat.le_refl _) _) | (with_reducible refine Below.setCell ?_ ?_ _) | (with_reducible refine below_go ?_ (by assumption) (Nat.le_refl _)) | (simp; done) | (simp; omega) | omega))); have kM3 := (HB3.out.cell (p := ⟨wc.heap.size + 1, 0, none⟩) hlM).trans dM; have kP3 := (HB3.out.cell (p := ⟨p10, 0, none⟩) hlP).trans dP; have kS3 := (HB3.out.cell (p := ⟨p11, 0, none⟩) hlS).trans dS; have k03 := (HB3.out.cell (p := ⟨w.heap.size, 0, none⟩) hl3).trans d0)
            | (go_at_call 48; (with_reducible refine (lawsame_nil (some ⟨g3, 0, none⟩) (some ⟨B3, 0, none⟩) k3 0 _).mono ?_); rintro e v4 ⟨rfl, hv4⟩; have HB4 : Hid (Below W3.heap.size W3 v4) := Lib.hid (by (repeat' (first | (with_reducible exact Below.refl _ _) | (with_reducible assumption) | (with_reducible refine below_drewN ?_ _) | (with_reducible refine Below.drew ?_) | (with_reducible refine below_new ?_ (Nat.le_refl _) _) | (with_reducible refine Below.setCell ?_ ?_ _) | (with_reducible refine below_go ?_ (by assumption) (Nat.le_refl _)) | (simp; done) | (simp; omega) | omega))); have kM4 := (HB4.out.cell (p := ⟨wc.heap.size + 1, 0, none⟩) hlM).trans dM; have kP4 := (HB4.out.cell (p := ⟨p10, 0, none⟩) hlP).trans dP; have kS4 := (HB4.out.cell (p := ⟨p11, 0, none⟩) hlS).trans dS; have k04 := (HB4.out.cell (p := ⟨w.heap.size, 0, none⟩) hl3).trans d0)
            | (go_at_call 51; (with_reducible refine (sm_shift_any [] wc.heap.size 0 0 d _ (HM3.out.below ?b5) (by omega)).mono ?_); (case b5 => (repeat' (first | (with_reducible exact Below.refl _ _) | (with_reducible assumption) | (with_reducible refine below_drewN ?_ _) | (with_reducible refine Below.drew ?_) | (with_reducible refine below_new ?_ (Nat.le_refl _) _) | (with_reducible refine Below.setCell ?_ ?_ _) | (with_reducible refine below_go ?_ (by assumption) (Nat.le_refl _)) | (simp; done) | (simp; omega) | omega))); rintro e v5 ⟨g6, k6, rfl, hv5, o6⟩; have HB5 : Hid (Below W3.heap.size W3 v5) := Lib.hid (by (repeat' (first | (with_reducible exact Below.refl _ _) | (with_reducible assumption) | (with_reducible refine below_drewN ?_ _) | (with_reducible refine Below.drew ?_) | (with_reducible refine below_new ?_ (Nat.le_refl _) _) | (with_reducible refine Below.setCell ?_ ?_ _) | (with_reducible refine below_go ?_ (by assumption) (Nat.le_refl _)) | (simp; done) | (simp; omega) | omega))); have kM5 := (HB5.out.cell (p := ⟨wc.heap.size + 1, 0, none⟩) hlM).trans dM; have kP5 := (HB5.out.cell (p := ⟨p10, 0, none⟩) hlP).trans dP; have kS5 := (HB5.out.cell (p := ⟨p11, 0, none⟩) hlS).trans dS; have k05 := (HB5.out.cell (p := ⟨w.heap.size, 0, none⟩) hl3).trans d0)
            | (go_at_call 48; (with_reducible refine (lawsame_nil (some ⟨g6, 0, none⟩) (some ⟨B8, 0, none⟩) k6 0 _).mono ?_); rintro e v6 ⟨rfl, hv6⟩; have HB6 : Hid (Below W3.heap.size W3 v6) := Lib.hid (by (repeat' (first | (with_reducible exact Below.refl _ _) | (with_reducible assumption) | (with_reducible refine below_drewN ?_ _) | (with_reducible refine Below.drew ?_) | (with_reducible refine below_new ?_ (Nat.le_refl _) _) | (with_reducible refine Below.setCell ?_ ?_ _) | (with_reducible refine below_go ?_ (by assumption) (Nat.le_refl _)) | (simp; done) | (simp; omega) | omega))); have kM6 := (HB6.out.cell (p := ⟨wc.heap.size + 1, 0, none⟩) hlM).trans dM; have kP6 := (HB6.out.cell (p := ⟨p10, 0, none⟩) hlP).trans dP; have kS6 := (HB6.out.cell (p := ⟨p11, 0, none⟩) hlS).trans dS; have k06 := (HB6.out.cell (p := ⟨w.heap.size, 0, none⟩) hl3).trans d0)
            | (go_at_call 44; (with_reducible refine (sm_out_any [] wc.heap.size 0 0 0 _ (HM3.out.below ?b7) (by decide)).mono ?_); (case b7 => (repeat' (first | (with_reducible exact Below.refl _ _) | (with_reducible assumption) | (with_reducible refine below_drewN ?_ _) | (with_reducible refine Below.drew ?_) | (with_reducible refine below_new ?_ (Nat.le_refl _) _) | (with_reducible refine Below.setCell ?_ ?_ _) | (with_reducible refine below_go ?_ (by assumption) (Nat.le_refl _)) | (simp; done) | (simp; omega) | omega))); rintro e v7 ⟨rfl, hv7⟩; have HB7 : Hid (Below W3.heap.size W3 v7) := Lib.hid (by (repeat' (first | (with_reducible exact Below.refl _ _) | (with_reducible assumption) | (with_reducible refine below_drewN ?_ _) | (with_reducible refine Below.drew ?_) | (with_reducible refine below_new ?_ (Nat.le_refl _) _) | (with_reducible refine Below.setCell ?_ ?_ _) | (with_reducible refine below_go ?_ (by assumption) (Nat.le_refl _)) | (simp; done) | (simp; omega) | omega))); have kM7 := (HB7.out.cell (p := ⟨wc.heap.size + 1, 0, none⟩) hlM).trans dM; have kP7 := (HB7.out.cell (p := ⟨p10, 0, none⟩) hlP).trans dP; have kS7 := (HB7.out.cell (p := ⟨p11, 0, none⟩) hlS).trans dS; have k07 := (HB7.out.cell (p := ⟨w.heap.size, 0, none⟩) hl3).trans d0)
            | (go_at_call 47; (with_reducible refine (sm_rest_any [] wc.heap.size 0 0 false _ (HM3.out.below ?b8) (by decide)).mono ?_); (case b8 => (repeat' (first | (with_reducible exact Below.refl _ _) | (with_reducible assumption) | (with_reducible refine below_drewN ?_ _) | (with_reducible refine Below.drew ?_) | (with_reducible refine below_new ?_ (Nat.le_refl _) _) | (with_reducible refine Below.setCell ?_ ?_ _) | (with_reducible refine below_go ?_ (by assumption) (Nat.le_refl _)) | (simp; done) | (simp; omega) | omega))); rintro e v8 ⟨rfl, hv8⟩; have HB8 : Hid (Below W3.heap.size W3 v8) := Lib.hid (by (repeat' (first | (with_reducible exact Below.refl _ _) | (with_reducible assumption) | (with_reducible refine below_drewN ?_ _) | (with_reducible refine Below.drew ?_) | (with_reducible refine below_new ?_ (Nat.le_refl _) _) | (with_reducible refine Below.setCell ?_ ?_ _) | (with_reducible refine below_go ?_ (by assumption) (Nat.le_refl _)) | (simp; done) | (simp; omega) | omega))); have kM8 := (HB8.out.cell (p := ⟨wc.heap.size + 1, 0, none⟩) hlM).trans dM; have kP8 := (HB8.out.cell (p := ⟨p10, 0, none⟩) hlP).trans dP; have kS8 := (HB8.out.cell (p := ⟨p11, 0, none⟩) hlS).trans dS; have k08 := (HB8.out.cell (p := ⟨w.heap.size, 0, none⟩) hl3).trans d0)
            | (go_at_call 48; (with_reducible refine (lawsame_nil (some ⟨wc.heap.size, 0, none⟩) sa 0 cap _).mono ?_); rintro e v9 ⟨rfl, hv9⟩; have HB9 : Hid (Below W3.heap.size W3 v9) := Lib.hid (by (repeat' (first | (with_reducible exact Below.refl _ _) | (with_reducible assumption) | (with_reducible refine below_drewN ?_ _) | (with_reducible refine Below.drew ?_) | (with_reducible refine below_new ?_ (Nat.le_refl _) _) | (with_reducible refine Below.setCell ?_ ?_ _) | (with_reducible refine below_go ?_ (by assumption) (Nat.le_refl _)) | (simp; done) | (simp; omega) | omega))); have kM9 := (HB9.out.cell (p := ⟨wc.heap.size + 1, 0, none⟩) hlM).trans dM; have kP9 := (HB9.out.cell (p := ⟨p10, 0, none⟩) hlP).trans dP; have kS9 := (HB9.out.cell (p := ⟨p11, 0, none⟩) hlS).trans dS; have k09 := (HB9.out.cell (p := ⟨w.heap.size, 0, none⟩) hl3).trans d0))
        all_goals go_wp2
        all_goals go_ret
        all_goals exact ⟨rfl, hB3.trans (HB9.out.mono hB3.size)⟩

end Go.Proofs.Ytddakmlnkffgiaa
