/- Layer 10: SmoothSteps, the walk. -/
import Derived.Test.YtddakmlnkffgiaaSmW0
import Derived.Deep.DeepCutAuto
import Derived.Deep.AppendLies
import Derived.Deep.RegionHeld3
namespace Go.Proofs.Ytddakmlnkffgiaa
open Go.RowKit
set_option linter.unusedVariables false
set_option linter.unusedSimpArgs false
attribute [local go_sem] ite_max ite_min vite_max vite_min ext_cell ext_frozen extS_cell extS_frozen

set_option maxRecDepth 100000 in
set_option maxHeartbeats 8000000 in
theorem steps_some (m pos d : Int) (zs : List Int) (b off n cap : Nat) (w : World) (h : AtW w zs n b off cap) (hzl : zs.length = n) (hn : 1 ≤ n ∧ n ≤ 100) (hmb : -9223372036854775808 ≤ m ∧ m ≤ 9223372036854775807) (hpb : -9223372036854775808 ≤ pos ∧ pos ≤ 9223372036854775807) (hdb : -9223372036854775808 ≤ d ∧ d ≤ 9223372036854775807) :
    Calls Try.prog 13 #[.int .i64 m, .agg #[.slice (some ⟨b, off, none⟩) n cap], .int .i64 pos, .int .i64 d] w fun e w' => e = .returned (.bool true) ∧ Below w.heap.size w w' := by
  have H := Lib.hid h
  have hgl := h.gl
  have HZL := Lib.hid hzl
  have hnI : (1 : Int) ≤ (n : Int) ∧ (n : Int) ≤ 100 := by omega
  obtain ⟨rB, hrB⟩ : ∃ rB, rightW zs n = rB := ⟨_, rfl⟩
  have HRB := Lib.hid hrB
  obtain ⟨okb, hokb⟩ : ∃ b, newB1 m pos = b := ⟨_, rfl⟩
  have HOKB := Lib.hid hokb
  have hinf : (Try.prog.info? 2).map (fun i => (i.zero, i.size, i.bytes)) = some (some (.int .i64 0), 1, 8) := by kernel_rfl
  obtain ⟨i0, hi0, hz0, hz1, hz2⟩ := info_parts hinf
  have HI := Lib.hid hi0
  have HZ0 := Lib.hid hz0
  have HZ1 := Lib.hid hz1
  have HZ2 := Lib.hid hz2
  clear h hzl hrB hokb hinf hi0 hz0 hz1 hz2
  go_enter Try.func13, Try.ntmps13
  go_wp2_with fail
  refine (awake10_at _).mono ?_
  rintro e w1 ⟨rfl, hb1⟩
  obtain ⟨hb1c, hb1f⟩ := bcell hb1
  have hb1z := hb1.size
  have hb1c0 := fun o => hb1c (w.heap.size) o (by first | (simp; done) | (simp; omega) | (simp at *; omega) | omega)
  have hb1f0 := fun o => hb1f (w.heap.size) o (by first | (simp; done) | (simp; omega) | (simp at *; omega) | omega)
  have hb1l0 := below_lt (b := w.heap.size) hb1 (by first | (simp; done) | (simp; omega) | (simp at *; omega) | omega)
  have hB1 : Below w.heap.size w w1 := by (repeat' (first | (with_reducible exact Below.refl _ _) | (with_reducible assumption) | (with_reducible refine below_drewN ?_ _) | (with_reducible refine Below.drew ?_) | (with_reducible refine below_new ?_ (Nat.le_refl _) _) | (with_reducible refine Below.setCell ?_ ?_ _) | (with_reducible refine below_go ?_ (by assumption) (Nat.le_refl _)) | (simp; done) | (simp; omega) | omega))
  have hl1 : w.heap.size < w1.heap.size := by have := hb1.size; simp at this; omega
  go_wp2_with fail
  refine (sm_new_any m pos _).mono ?_
  rintro e w2 ⟨sa2, q2, k2, e2, rfl, hnew, hb2⟩
  have HNEW := Lib.hid hnew
  have hB2 : Below w.heap.size w w2 := by (repeat' (first | (with_reducible exact Below.refl _ _) | (with_reducible assumption) | (with_reducible refine below_drewN ?_ _) | (with_reducible refine Below.drew ?_) | (with_reducible refine below_new ?_ (Nat.le_refl _) _) | (with_reducible refine Below.setCell ?_ ?_ _) | (with_reducible refine below_go ?_ (by assumption) (Nat.le_refl _)) | (simp; done) | (simp; omega) | omega))
  have c02 := (hb2.cell (p := ⟨w.heap.size, 0, none⟩) hl1)
  have hl2 : w.heap.size < w2.heap.size := Nat.lt_of_lt_of_le hl1 hb2.size
  clear hnew
  go_upto_region 6 with fail
  go_cut [11] (fun s11 wx => s11 = .bool okb ∧ wx = w2.alloc (.cells #[.slice sa2 q2 k2] 71))
  case first => as_aux_lemma =>
    by_cases h1 : 1 ≤ m
    · by_cases h2 : m ≤ 16
      · obtain ⟨pB, hpB⟩ : ∃ pB, plB pos = pB := ⟨_, rfl⟩
        have HPB := Lib.hid hpB
        have hr : newB1 m pos = pB := by unfold newB1; rw [hpB, decide_eq_true ⟨h1, h2⟩]; rfl
        have HB := Lib.hid hr
        clear hpB hr
        go_wp2_with fail
        refine (lawplace_r pos pB _ HPB.out).mono ?_
        rintro e w' ⟨rfl, rfl⟩
        go_wp2_with fail
        go_meet
        exact ⟨by rw [← HOKB.out, HB.out], rfl⟩
      · have hr : newB1 m pos = false := by unfold newB1; rw [decide_eq_false (fun h => h2 h.2)]; rfl
        have h2' : 16 < m := by omega
        have HB := Lib.hid hr
        clear hr
        go_wp2_with fail
        go_meet
        exact ⟨by rw [← HOKB.out, HB.out], rfl⟩
    · have hr : newB1 m pos = false := by unfold newB1; rw [decide_eq_false (fun h => h1 h.1)]; rfl
      have h1' : m < 1 := by omega
      have HB := Lib.hid hr
      clear hr
      go_wp2_with fail
      go_meet
      exact ⟨by rw [← HOKB.out, HB.out], rfl⟩
  case rest =>
    obtain ⟨rfl, rfl⟩ := hcut
    go_upto_region 7 with fail
    go_cut [82] (fun s82 wx => s82 = .bool false ∧ Below w.heap.size w wx ∧ w.heap.size < wx.heap.size ∧ wx.cell? ⟨w.heap.size, 0, none⟩ = some (.slice (some ⟨b, off, none⟩) n cap))
    case first => as_aux_lemma =>
      rcases HNEW.out with ⟨hq, rfl, hqm, g, rfl, o⟩ | ⟨hq, rfl, rfl⟩
      · have ho := o
        have HO := Lib.hid o
        have hq' := hq
        simp only [newB1, Bool.and_eq_true, decide_eq_true_eq] at hq'
        have hqI : (1 : Int) ≤ (q2 : Int) ∧ (q2 : Int) ≤ 16 := by omega
        have hone : oneK (List.replicate q2 pos) q2 pos := fun i hi => rep_get q2 pos i hi
        have HRE := Lib.hid (rest_one (rightW_same q2 pos (by omega) hq'.2) hone)
        have hc0 := o.cs 0 (by omega)
        rw [rep_get q2 pos 0 (by omega)] at hc0
        have hgl2 := o.gl
        subst hqm
        have hob : okb = true := by rw [← HOKB.out, hq]
        subst hob
        clear hq hq' o ho hone
        go_wp2_with fail
        refine (sm_rest_w _ g q2 k2 true _ (HO.out.below ?bb) HRE.out).mono ?_
        case bb => (repeat' (first | (with_reducible exact Below.refl _ _) | (with_reducible assumption) | (with_reducible refine below_drewN ?_ _) | (with_reducible refine Below.drew ?_) | (with_reducible refine below_new ?_ (Nat.le_refl _) _) | (with_reducible refine Below.setCell ?_ ?_ _) | (with_reducible refine below_go ?_ (by assumption) (Nat.le_refl _)) | (simp; done) | (simp; omega) | omega))
        rintro e w3 ⟨rfl, hb3⟩
        obtain ⟨hb3c, hb3f⟩ := bcell hb3
        have hb3z := hb3.size
        have hb3c0 := fun o => hb3c (w.heap.size) o (by first | (simp; done) | (simp; omega) | (simp at *; omega) | omega)
        have hb3f0 := fun o => hb3f (w.heap.size) o (by first | (simp; done) | (simp; omega) | (simp at *; omega) | omega)
        have hb3l0 := below_lt (b := w.heap.size) hb3 (by first | (simp; done) | (simp; omega) | (simp at *; omega) | omega)
        have hb3c1 := fun o => hb3c (w2.heap.size) o (by first | (simp; done) | (simp; omega) | (simp at *; omega) | omega)
        have hb3f1 := fun o => hb3f (w2.heap.size) o (by first | (simp; done) | (simp; omega) | (simp at *; omega) | omega)
        have hb3l1 := below_lt (b := w2.heap.size) hb3 (by first | (simp; done) | (simp; omega) | (simp at *; omega) | omega)
        have hb3c2 := fun o => hb3c (g) o (by first | (simp; done) | (simp; omega) | (simp at *; omega) | omega)
        have hb3f2 := fun o => hb3f (g) o (by first | (simp; done) | (simp; omega) | (simp at *; omega) | omega)
        have hb3l2 := below_lt (b := g) hb3 (by first | (simp; done) | (simp; omega) | (simp at *; omega) | omega)
        go_wp2_with fail
        go_meet
        exact ⟨rfl, by (repeat' (first | (with_reducible exact Below.refl _ _) | (with_reducible assumption) | (with_reducible refine below_drewN ?_ _) | (with_reducible refine Below.drew ?_) | (with_reducible refine below_new ?_ (Nat.le_refl _) _) | (with_reducible refine Below.setCell ?_ ?_ _) | (with_reducible refine below_go ?_ (by assumption) (Nat.le_refl _)) | (simp; done) | (simp; omega) | omega)), by have := hb3.size; simp at this; omega, by go_simp⟩
      · have hob : okb = false := by rw [← HOKB.out, hq]
        subst hob
        clear hq
        go_wp2_with fail
        go_meet
        exact ⟨rfl, by (repeat' (first | (with_reducible exact Below.refl _ _) | (with_reducible assumption) | (with_reducible refine below_drewN ?_ _) | (with_reducible refine Below.drew ?_) | (with_reducible refine below_new ?_ (Nat.le_refl _) _) | (with_reducible refine Below.setCell ?_ ?_ _) | (with_reducible refine below_go ?_ (by assumption) (Nat.le_refl _)) | (simp; done) | (simp; omega) | omega)), by simp; omega, by go_simp⟩
    case rest =>
      obtain ⟨rfl, hBc, hlc, c0⟩ := hcut
      have HAc : Hid (AtW wc zs n b off cap) := Lib.hid (H.out.below (hBc.mono (Nat.le_refl _)))
      clear HNEW hb1 hb1c hb1f hb1z hb1c0 hb1f0 hb1l0 hb2 hB1 hB2 hl1 hl2 c02
      have hown0 := World.ownsRow_made (base := w.heap.size) (e := 2) (size := 1) wc #[] 0 (by have := hBc.size; omega) (by unfold maxLen; omega) rfl
      have HOWN0 := Lib.hid hown0
      have HNEWS := Lib.hid (at_news (HAc.out.below ((Below.refl _ wc).alloc (Nat.le_refl _) (.cells #[] 2))))
      have hbc := hBc.size
      clear hown0
      go_wp2_with (at_builtin; refine wpList_append_lies _ rfl _ _ 69 rfl w.heap.size 2 i0 (.int .i64 0) 1 8 Try.underlying69 HI.out HZ0.out HZ1.out HZ2.out rfl (by decide) _ 0 [] rfl HOWN0.out ⟨b, off, none⟩ n cap (rowsL zs n) rfl ?c0 HNEWS.out (rowsL_one zs n) ?c1 ?c2 ?c3 ?c4 _ rfl ?_)
      case c0 => rw [rowsL_len]; omega
      case c1 => omega
      case c2 => unfold maxLen; omega
      case c3 => omega
      case c4 => simp; omega
      intro g5 k5 w5 hown5 hgrow5 hat5 hlt5
      have HO5 := Lib.hid (own_of_row hown5)
      have hB5 : Below w.heap.size w w5 := below_grown (hBc.alloc hbc _) hgrow5 HOWN0.out (Nat.le_refl _) (by simp; omega)
      have hne5 : some w.heap.size ≠ (Value.slice (some ⟨wc.heap.size, 0, none⟩) 0 0).ownBlock := fun e => by simp [Value.ownBlock] at e; omega
      have c05 : w5.cell? ⟨w.heap.size, 0, none⟩ = some (.slice (some ⟨b, off, none⟩) n cap) := by
        rw [hgrow5.cell_far ⟨w.heap.size, 0, none⟩ (by simp; omega) hne5]
        go_simp
      have hl5 : w.heap.size < w5.heap.size := by have := hgrow5.size; simp at this; omega
      have HA5 : Hid (AtW w5 zs n b off cap) := Lib.hid (H.out.below hB5)
      have hg5l := HO5.out.lt
      clear hown5 hgrow5 hat5 hne5 HOWN0 HNEWS HAc hBc hlc c0 hbc
      go_wp2_with fail
      refine wp_name fun W hW => ?_
      have cM : W.cell? ⟨w5.heap.size, 0, none⟩ = some (.slice (some ⟨g5, 0, none⟩) n k5) := by rw [hW.out]; go_simp
      have c0 : W.cell? ⟨w.heap.size, 0, none⟩ = some (.slice (some ⟨b, off, none⟩) n cap) := by rw [hW.out]; go_simp
      have hBW : Below w.heap.size w W := by rw [hW.out]; exact hB5.alloc hB5.size _
      have hB5W : Below w5.heap.size w5 W := by rw [hW.out]; exact (Below.refl _ _).alloc (Nat.le_refl _) _
      have HAW : Hid (AtW W zs n b off cap) := Lib.hid (HA5.out.below hB5W)
      have HMW : Hid (OwnW W zs n g5 k5) := Lib.hid (HO5.out.below hB5W)
      have hl0 : w.heap.size < W.heap.size := by have := hB5W.size; omega
      have hlM : w5.heap.size < W.heap.size := by rw [hW.out]; simp
      have hlM0 : w.heap.size < w5.heap.size := hl5
      have hb5W := hB5W.size
      clear hW c05 HO5 HA5 hB5 hB5W hlt5
      refine wp_region_wild 12 9 ([{ i := 0, d := 88, R := isNone, N := (fun _ => []) }, { i := 3, d := 91, R := isRow zs n, N := newB }, { i := 4, d := 92, R := isAny, N := (fun _ => []), D := [3], L := isAgg1 }, { i := 5, d := 93, R := isNone, N := (fun _ => []) }, { i := 8, d := 96, R := isRow zs n, N := newB }, { i := 9, d := 97, R := isAny, N := (fun _ => []), D := [8], L := isAgg1 }, { i := 10, d := 13, R := isVar (.cells #[.slice none 0 0] 71), N := newB }, { i := 11, d := 14, R := isVar (.cells #[.slice none 0 0] 71), N := newB }] : List Wd) [true, false, false, true, true, true, false, false, true, true, true, true] rfl (by kernel_rfl) (by kernel_rfl) (fun _ _ _ _ _ h => h) (by kernel_rfl) ?_ ?_
      · intro x hx v w1 w2 hR hb
        simp only [List.mem_cons, List.not_mem_nil, or_false] at hx
        rcases hx with rfl | rfl | rfl | rfl | rfl | rfl | rfl | rfl
        all_goals (dsimp only at hR ⊢; exact hR.below hb)
      apply Exists.intro
      refine ⟨fun S hS hne => ?_, ?_, ?_, ?_⟩
      · simp only [List.take_succ_cons, List.take_zero, List.map_cons, List.map_nil]
        delta CS
        repeat (first | with_reducible refine mask_skip ?_ | ((with_reducible refine mask_keep ?_); go_big_quiet_step (fail)))
        exact mask_nil rfl
      · skip
        intro x hx he
        simp only [List.mem_cons, List.not_mem_nil, or_false] at hx
        rcases hx with rfl | rfl | rfl | rfl | rfl | rfl | rfl | rfl
        all_goals (dsimp only at he; first | (exact absurd he (by decide)) | clear he)
        intro o ho
        simp only [List.getElem?_cons_succ, List.getElem?_cons_zero, Option.some.injEq] at ho
        subst ho
        intro vs w' hbw hdeps
        simp only [putsF, List.foldl_cons, List.foldl_nil]
        simp only [List.forall_mem_cons, List.not_mem_nil, false_implies, implies_true, and_true] at hdeps
        obtain ⟨dp0, dp1, dp2, dp3, dp4, dp5, dp6, dp7⟩ := hdeps
        obtain ⟨g8, k8, e8, _⟩ := dp4 (by decide)
        clear dp0 dp1 dp2 dp3 dp4 dp5 dp6 dp7
        rw [e8]
        refine ⟨.agg #[.slice (some ⟨g8, 0, none⟩) n k8], fun u => ?_⟩
        go_simp
      · skip
        simp only [List.forall_mem_cons, List.not_mem_nil, false_implies, implies_true, and_true]
        refine ⟨?_, ?_, ?_, ?_, ?_, ?_, ?_, ?_⟩
        all_goals
          intro o ho
          simp only [List.getElem?_cons_succ, List.getElem?_cons_zero, Option.some.injEq] at ho
          subst ho
          intro vs w' hbw hdeps
          simp only [putsF, List.foldl_cons, List.foldl_nil]
          refine ⟨by first | rfl | go_simp, ?_⟩
          first | with_reducible refine wild_plain ?_ | with_reducible refine wild_link ?_
          simp only [List.forall_mem_cons, List.not_mem_nil, false_implies, implies_true, and_true] at hdeps
          obtain ⟨dp0, dp1, dp2, dp3, dp4, dp5, dp6, dp7⟩ := hdeps
        · clear dp0 dp1 dp2 dp3 dp4 dp5 dp6 dp7
          go_simp
          exact wildUpon_value ⟨⟨_, rfl⟩, (Below.refl _ _).alloc (Nat.le_refl _) _, fun b hb => by cases hb⟩
        · obtain ⟨B, e0⟩ := dp0 (by decide)
          clear dp0 dp1 dp2 dp3 dp4 dp5 dp6 dp7
          refine wild_clone (.tmp 88) (.tmp 90) rfl ⟨B, 0, none⟩ zs n b off cap ?_ ?_ (HAW.out.below hbw) (by omega) (by omega)
          · rw [← e0]
            go_simp
          · go_simp
        · obtain ⟨g8, k8, e8, _⟩ := dp1 (by decide)
          clear dp0 dp1 dp2 dp3 dp4 dp5 dp6 dp7
          rw [e8]
          go_simp
          exact wildUpon_value ⟨⟨trivial, rfl⟩, Below.refl _ _, fun b hb => by cases hb⟩
        · clear dp0 dp1 dp2 dp3 dp4 dp5 dp6 dp7
          go_simp
          exact wildUpon_value ⟨⟨_, rfl⟩, (Below.refl _ _).alloc (Nat.le_refl _) _, fun b hb => by cases hb⟩
        · obtain ⟨B, e0⟩ := dp3 (by decide)
          clear dp0 dp1 dp2 dp3 dp4 dp5 dp6 dp7
          refine wild_clone (.tmp 93) (.tmp 95) rfl ⟨B, 0, none⟩ zs n b off cap ?_ ?_ (HAW.out.below hbw) (by omega) (by omega)
          · rw [← e0]
            go_simp
          · go_simp
        · obtain ⟨g8, k8, e8, _⟩ := dp4 (by decide)
          clear dp0 dp1 dp2 dp3 dp4 dp5 dp6 dp7
          rw [e8]
          go_simp
          exact wildUpon_value ⟨⟨trivial, rfl⟩, Below.refl _ _, fun b hb => by cases hb⟩
        · clear dp0 dp1 dp2 dp3 dp4 dp5 dp6 dp7
          go_simp
          exact wild_var
        · clear dp0 dp1 dp2 dp3 dp4 dp5 dp6 dp7
          go_simp
          exact wild_var
      · skip
        intro vs w' hbw hr hap hlk
        simp only [List.forall_mem_cons, List.not_mem_nil, false_implies, implies_true, and_true] at hr hap
        obtain ⟨hh0, ⟨hh3, n3⟩, hh4, hh5, ⟨hh8, n8⟩, hh9, ⟨hh10, n10⟩, ⟨hh11, n11⟩⟩ := hr
        obtain ⟨B0, e0⟩ := hh0
        obtain ⟨gP, kP, e3, oP⟩ := hh3
        rw [e3] at n3
        clear hh4
        obtain ⟨B5, e5⟩ := hh5
        obtain ⟨gM, kM, e8, oM⟩ := hh8
        rw [e8] at n8
        clear hh9
        obtain ⟨p10, e10, o10⟩ := hh10
        rw [e10] at n10
        obtain ⟨p11, e11, o11⟩ := hh11
        rw [e11] at n11
        simp only [List.forall_mem_cons, List.not_mem_nil, false_implies, implies_true, and_true, true_and, List.map_cons, List.map_nil, isAgg1, e0, e3, e5, e8, e10, e11] at hlk
        obtain ⟨l4, l9⟩ := hlk
        simp only [e0, e3, e5, e8, e10, e11] at hap
        simp only [newB_ptr, newB_row, newB_win, newB_win2, List.mem_cons, forall_eq_or_imp, or_false, List.mem_singleton, forall_eq, List.not_mem_nil, false_implies, implies_true, not_false_eq_true, and_true, true_and] at n3 n8 n10 n11 hap
        simp only [ne_eq, not_true_eq_false, false_implies, true_and, and_true, Nat.reduceEqDiff, not_false_eq_true, forall_const] at hap
        simp only [putsF, List.foldl_cons, List.foldl_nil, e0, e3, e5, e8, e10, e11, l4, l9, List.drop_succ_cons, List.drop_zero]
        clear e0 e3 e5 e8 e10 e11 l4 l9
        have c10 := heap_cell 0 _ o10 rfl
        have c11 := heap_cell 0 _ o11 rfl
        have f10 : w'.frozen? ⟨p10, 0, none⟩ = false := heap_free 0 o10
        have f11 : w'.frozen? ⟨p11, 0, none⟩ = false := heap_free 0 o11
        have cM' := (hbw.cell (p := ⟨w5.heap.size, 0, none⟩) hlM).trans cM
        have c0' := (hbw.cell (p := ⟨w.heap.size, 0, none⟩) hl0).trans c0
        have hws := hbw.size
        have hg5W : g5 < W.heap.size := HMW.out.lt
        obtain ⟨⟨q1, q2', q3⟩, ⟨q4, q5, q6⟩, ⟨q7, q8, q9⟩, q10, q11, q12⟩ := hap
        have HFAR : Hid (FarS w w5.heap.size p10 p11 b g5 gP gM) := Lib.hid ⟨by omega, by omega, q2', q3, by omega, by omega, q1, by omega, by omega, q5, q6, by omega, by omega, by omega, by omega⟩
        have d0 : ¬ w.heap.size = p10 := by omega
        have d1 : ¬ w.heap.size = p11 := by omega
        have d2 : ¬ w5.heap.size = p10 := by omega
        have d3 : ¬ w5.heap.size = p11 := by omega
        have HOP := Lib.hid oP
        have HOM := Lib.hid oM
        clear oP oM o10 o11
        go_upto_region 11 with fail
        refine wp_name fun W2 hW2 => ?_
        have HSt : Hid (StS w W2 w5.heap.size p10 p11 b off n cap zs zs zs g5 k5 gP kP gM kM) := Lib.hid (by
          rw [hW2.out]
          refine ⟨((hBW.trans (hbw.mono (by omega))).setCell (by show w.heap.size ≤ p10; omega) _).setCell (by show w.heap.size ≤ p11; omega) _, by rw [size_set, size_set]; omega, by rw [size_set, size_set]; omega, by rw [size_set, size_set]; omega, by rw [size_set, size_set]; omega,
            by go_simp, by go_simp, by go_simp, by go_simp,
            ((HAW.out.below hbw).store (by show b ≠ p10; omega) _).store (by show b ≠ p11; omega) _, ((HMW.out.below hbw).store (by show g5 ≠ p10; omega) _).store (by show g5 ≠ p11; omega) _,
            (HOP.out.store (by show gP ≠ p10; omega) _).store (by show gP ≠ p11; omega) _, (HOM.out.store (by show gM ≠ p10; omega) _).store (by show gM ≠ p11; omega) _⟩)
        clear hW2 c10 c11 f10 f11 cM' c0' hws hg5W q1 q2' q3 q4 q5 q6 q7 q8 q9 q10 q11 q12 d0 d1 d2 d3 HOP HOM hbw hBW HAW HMW hl0 hlM hlM0 hb5W cM c0 n3 n8 n10 n11 hl5 hg5l
        have c02 := HSt.out.c0
        have hl02 := HSt.out.l0
        go_wp2_with fail
        refine (lawright_a zs b off n cap rB _ HSt.out.a0 HRB.out hn.1).mono ?_
        rintro e w6 ⟨rfl, hb6⟩
        have HS6 := Lib.hid (HSt.out.below hb6)
        clear HSt c02 hl02 hb6
        have c06 := HS6.out.c0
        have hl06 := HS6.out.l0
        go_wp2_with fail
        refine (lawright_a zs b off n cap rB _ HS6.out.a0 HRB.out hn.1).mono ?_
        rintro e w7 ⟨rfl, hb7⟩
        have HS7 := Lib.hid (HS6.out.below hb7)
        clear HS6 c06 hl06 hb7
        go_upto_if 101 with fail
        go_cut [15, 16] (fun s15 s16 wx => s15 = .int .i64 (sumL zs n) ∧ s16 = .bool (restW zs n) ∧ ∃ ps ms, Hid (StS w wx w5.heap.size p10 p11 b off n cap zs ps ms g5 k5 gP kP gM kM) ∧ Hid (∀ j, j < n → (pushL zs n pos)[j]?.getD 0 = ps[j]?.getD 0) ∧ Hid (∀ j, j < n → (shiftL zs n d)[j]?.getD 0 = ms[j]?.getD 0))
        case first =>
          cases rB
          · go_wp2_with fail
            go_meet
            refine ⟨?_, ?_, zs, zs, HS7, ?_, ?_⟩
            · unfold sumL; rw [HRB.out]; rfl
            · unfold restW; rw [HRB.out]; rfl
            · unfold pushL; rw [HRB.out]; exact Lib.hid (fun j _ => rfl)
            · unfold shiftL; rw [HRB.out]; exact Lib.hid (fun j _ => rfl)
          · have hn16 := (rightW_yes HRB.out).2.1
            go_upto_region 13 with fail
            go_cut [17] (fun s17 wx => s17 = .bool (farB d) ∧ wx = w7)
            case first =>
              by_cases h1 : -4398046511104 ≤ d
              · by_cases h2 : d ≤ 4398046511104
                · have HB : Hid (farB d = true) := Lib.hid (decide_eq_true ⟨h1, h2⟩)
                  go_wp2_with fail
                  go_meet
                  exact ⟨by rw [HB.out], rfl⟩
                · have HB : Hid (farB d = false) := Lib.hid (decide_eq_false (fun h => h2 h.2))
                  have h2' : 4398046511104 < d := by omega
                  go_wp2_with fail
                  go_meet
                  exact ⟨by rw [HB.out], rfl⟩
              · have HB : Hid (farB d = false) := Lib.hid (decide_eq_false (fun h => h1 h.1))
                have h1' : d < -4398046511104 := by omega
                go_wp2_with fail
                go_meet
                exact ⟨by rw [HB.out], rfl⟩
            case rest =>
              obtain ⟨rfl, rfl⟩ := hcut
              obtain ⟨fd, hfd⟩ : ∃ fd, farB d = fd := ⟨_, rfl⟩
              obtain ⟨pB, hpB⟩ : ∃ pB, plB pos = pB := ⟨_, rfl⟩
              rw [hfd]
              have HFD := Lib.hid hfd
              have HPB := Lib.hid hpB
              clear hfd hpB
              go_wp2_with fail
              go_loopw [15, 16, 17, 18] (fun u r f i w' => ∃ (k : Nat) (rr ff : Bool), k ≤ n ∧ i = .int .i64 (k : Int) ∧ u = .int .i64 (sumK zs k) ∧ r = .bool rr ∧ f = .bool ff ∧ Hid ((!(anyK (fun z => z != zs[0]?.getD 0) zs k)) = rr) ∧ Hid ((fd && !(anyK (fun z => !plB (z + d)) zs k)) = ff) ∧ Hid (StS w w' w5.heap.size p10 p11 b off n cap zs zs zs g5 k5 gP kP gM kM)) (fun _ _ _ i _ => n - (intOf i).toNat)
              case atStart => exact ⟨0, true, fd, by omega, rfl, rfl, rfl, rfl, Lib.hid rfl, Lib.hid (by cases fd <;> rfl), HS7⟩
              case round =>
                obtain ⟨k, rr, ff, hk, rfl, rfl, rfl, rfl, HRR, HFF, HSr⟩ := hrel
                have c0r := HSr.out.c0
                have hl0r := HSr.out.l0
                by_cases hkn : k < n
                · obtain ⟨z, hz⟩ : ∃ z, zs[k]?.getD 0 = z := ⟨_, rfl⟩
                  obtain ⟨z0, hz0⟩ : ∃ z0, zs[0]?.getD 0 = z0 := ⟨_, rfl⟩
                  have hcz := HSr.out.a0.cs k hkn
                  have hcz0 := HSr.out.a0.cs 0 (by omega)
                  rw [hz] at hcz
                  rw [hz0, Nat.add_zero] at hcz0
                  have hzb := (rightW_yes HRB.out).2.2 k hkn
                  rw [hz] at hzb
                  have hsb := sumK_bd zs n k (rightW_yes HRB.out).2.2 (by omega)
                  have hsn : sumK zs (k + 1) = sumK zs k + z := by rw [← hz]; rfl
                  have hr1 : (!(anyK (fun z => z != zs[0]?.getD 0) zs (k + 1))) = (rr && (z == z0)) := by
                    rw [← HRR.out]
                    show (!(anyK (fun z => z != zs[0]?.getD 0) zs k || (zs[k]?.getD 0 != zs[0]?.getD 0))) = _
                    have hbn : (!(z != z0)) = (z == z0) := by simp [bne]
                    rw [hz, hz0, Bool.not_or, hbn]
                  have hf1 : (fd && !(anyK (fun z => !plB (z + d)) zs (k + 1))) = (ff && plB (z + d)) := by
                    rw [← HFF.out]
                    show (fd && !(anyK (fun z => !plB (z + d)) zs k || !plB (zs[k]?.getD 0 + d))) = _
                    rw [hz, Bool.not_or, Bool.not_not, Bool.and_assoc]
                  have hdb2 : ff = true → -4398046511104 ≤ d ∧ d ≤ 4398046511104 := fun h => by
                    have h1 := HFF.out
                    rw [h, Bool.and_eq_true] at h1
                    have h2 : farB d = true := by rw [HFD.out]; exact h1.1
                    exact of_decide_eq_true h2
                  obtain ⟨q, hq⟩ : ∃ q, (z == z0) = q := ⟨_, rfl⟩
                  obtain ⟨pz, hpz⟩ : ∃ pz, plB (z + d) = pz := ⟨_, rfl⟩
                  rw [hq] at hr1
                  rw [hpz] at hf1
                  have HR1 := Lib.hid hr1
                  have HF1 := Lib.hid hf1
                  have HPZ := Lib.hid hpz
                  have HSN := Lib.hid hsn
                  have hkI : (0 : Int) ≤ (k : Int) ∧ (k : Int) < (n : Int) := by omega
                  have hn0 : (0 : Int) < (n : Int) := by omega
                  have hblr := HSr.out.a0.gl
                  clear hz hz0 hr1 hf1 hpz hsn HRR HFF
                  cases ff
                  · clear hdb2
                    cases rr
                    · as_aux_lemma =>
                      go_wp2_with fail
                      refine wp_region_ext (by kernel_rfl) (by kernel_rfl) ?_
                      repeat (go_big_quiet_step (fail))
                      refine wpQuiet_nil ?_
                      intro w8 hb8
                      replace hb8 := ext_below hb8
                      have HS8 := Lib.hid (HSr.out.below hb8)
                      clear hb8
                      go_wp2
                      go_roundw
                      case rel => exact ⟨k + 1, _, _, by omega, by go_num, by rw [HSN.out], rfl, rfl, HR1, HF1, HS8⟩
                      case measure => simp [intOf]; omega
                    · as_aux_lemma =>
                      go_wp2_with fail
                      refine wp_region_ext (by kernel_rfl) (by kernel_rfl) ?_
                      repeat (go_big_quiet_step (fail))
                      refine wpQuiet_nil ?_
                      intro w8 hb8
                      replace hb8 := ext_below hb8
                      have HS8 := Lib.hid (HSr.out.below hb8)
                      clear hb8
                      go_wp2
                      go_roundw
                      case rel => exact ⟨k + 1, _, _, by omega, by go_num, by rw [HSN.out], rfl, rfl, HR1, HF1, HS8⟩
                      case measure => simp [intOf]; omega
                  · have hdb3 := hdb2 rfl
                    clear hdb2
                    cases rr
                    · as_aux_lemma =>
                      go_wp2_with fail
                      refine wp_region_ext (by kernel_rfl) (by kernel_rfl) ?_
                      repeat (go_big_quiet_step (fail))
                      refine wpQuiet_nil ?_
                      intro w8 hb8
                      replace hb8 := ext_below hb8
                      have HS8 := Lib.hid (HSr.out.below hb8)
                      have c08 := HS8.out.c0
                      have hcz8 := (hb8.cell (p := ⟨b, off + k, none⟩) HSr.out.a0.gl).trans hcz
                      clear hb8
                      go_wp2_with fail
                      refine (lawplace_r (z + d) pz _ HPZ.out).mono ?_
                      rintro e w9 ⟨rfl, rfl⟩
                      go_wp2
                      go_roundw
                      case rel => exact ⟨k + 1, _, _, by omega, by go_num, by rw [HSN.out], rfl, rfl, HR1, HF1, HS8⟩
                      case measure => simp [intOf]; omega
                    · as_aux_lemma =>
                      go_wp2_with fail
                      refine wp_region_ext (by kernel_rfl) (by kernel_rfl) ?_
                      repeat (go_big_quiet_step (fail))
                      refine wpQuiet_nil ?_
                      intro w8 hb8
                      replace hb8 := ext_below hb8
                      have HS8 := Lib.hid (HSr.out.below hb8)
                      have c08 := HS8.out.c0
                      have hcz8 := (hb8.cell (p := ⟨b, off + k, none⟩) HSr.out.a0.gl).trans hcz
                      clear hb8
                      go_wp2_with fail
                      refine (lawplace_r (z + d) pz _ HPZ.out).mono ?_
                      rintro e w9 ⟨rfl, rfl⟩
                      go_wp2
                      go_roundw
                      case rel => exact ⟨k + 1, _, _, by omega, by go_num, by rw [HSN.out], rfl, rfl, HR1, HF1, HS8⟩
                      case measure => simp [intOf]; omega
                · obtain rfl : k = n := by omega
                  have HSUM : Hid (sumK zs k = sumL zs k) := Lib.hid (by unfold sumL; rw [HRB.out]; rfl)
                  have HRW : Hid (rr = restW zs k) := Lib.hid (by unfold restW; rw [HRB.out, ← HRR.out]; rfl)
                  have HFL : Hid (ff = (farB d && rightW (shW zs k d) k)) := Lib.hid (by
                    cases hfb : farB d
                    · rw [← HFF.out, ← HFD.out, hfb]; rfl
                    · rw [← HFF.out, ← HFD.out, hfb, ← farL_right zs k d HRB.out hfb]
                      unfold farL
                      rw [hfb]
                      rfl)
                  have hSu : ∃ su, sumK zs k = su := ⟨_, rfl⟩
                  obtain ⟨su, hsu⟩ := hSu
                  rw [hsu]
                  have HSU := Lib.hid hsu
                  clear hsu HRR HFF
                  go_wp2_with fail
                  go_loopw [19] (fun i w' => ∃ (j : Nat) (ps ms : List Int), j ≤ k ∧ i = .int .i64 (j : Int) ∧ Hid (StS w w' w5.heap.size p10 p11 b off k cap zs ps ms g5 k5 gP kP gM kM) ∧ Hid (pushSt pB zs ps k j) ∧ Hid (shiftSt ff zs ms k j d)) (fun i _ => k - (intOf i).toNat)
                  case atStart => exact ⟨0, zs, zs, by omega, rfl, HSr, Lib.hid ⟨HZL.out, (fun _ => pushTo_start zs k HZL.out), (fun _ => rfl)⟩, Lib.hid ⟨HZL.out, (fun _ => shiftTo_start zs k d HZL.out), (fun _ => rfl)⟩⟩
                  case round =>
                    clear HSr c0r hl0r
                    obtain ⟨j, ps, ms, hj, rfl, HSr, HPS, HMS⟩ := hrel
                    have c0r := HSr.out.c0
                    have hl0r := HSr.out.l0
                    by_cases hjk : j < k
                    · have hjI : (0 : Int) ≤ (j : Int) ∧ (j : Int) < (k : Int) := by omega
                      cases ff
                      · as_aux_lemma =>
                        have HS3 := HSr
                        have HMS' : Hid (shiftSt false zs ms k (j + 1) d) := Lib.hid ⟨HMS.out.1, (fun h => by cases h), HMS.out.2.2⟩
                        have cP3 := HS3.out.cP
                        have hlP3 := HS3.out.lP
                        go_wp2_with fail
                        refine (lawplace_r pos pB _ HPB.out).mono ?_
                        rintro e w9 ⟨rfl, rfl⟩
                        cases pB
                        · go_wp2
                          go_roundw
                          case rel => exact ⟨j + 1, ps, ms, by omega, by go_num, HS3, Lib.hid ⟨HPS.out.1, (fun h => by cases h), HPS.out.2.2⟩, HMS'⟩
                          case measure => simp [intOf]; omega
                        · by_cases hj0 : j = 0
                          · subst hj0
                            go_wp2
                            go_roundw
                            case rel => exact ⟨1, ps, _, by omega, by go_num, HS3, Lib.hid ⟨HPS.out.1, (fun _ => pushTo_skip (HPS.out.2.1 rfl)), (fun h => by cases h)⟩, HMS'⟩
                            case measure => simp [intOf]; omega
                          · obtain ⟨i, rfl⟩ : ∃ i, j = i + 1 := ⟨j - 1, by omega⟩
                            have hcb := HS3.out.a0.cs i (by omega)
                            have hiI : (0 : Int) ≤ (i : Int) ∧ (i : Int) + 1 < (k : Int) := by omega
                            have hcp := HS3.out.op.on.cs (i + 1) (by omega)
                            have hfp := HS3.out.op.free (i + 1)
                            have hij : (0 : Int) ≤ (i : Int) ∧ (i : Int) < (k : Int) := by omega
                            have HPN := Lib.hid (pushTo_next (HPS.out.2.1 rfl) hjk (by omega))
                            rw [Nat.add_sub_cancel] at HPN
                            go_wp2_with fail
                            go_region
                            all_goals go_wp2
                            all_goals go_roundw
                            case rel => exact ⟨i + 1 + 1, _, _, by omega, by go_num, Lib.hid ((HS3.out.below (Below.refl _ _).drew).setP HFAR.out (i + 1) _ (by omega) (by rw [HPS.out.1]; omega)), Lib.hid ⟨by rw [List.length_set]; exact HPS.out.1, (fun _ => HPN.out), (fun h => by cases h)⟩, HMS'⟩
                            case measure => simp [intOf]; omega
                      · as_aux_lemma =>
                        have hsw := HFL.out
                        rw [eq_comm, Bool.and_eq_true] at hsw
                        have hzd := (rightW_yes hsw.2).2.2 j hjk
                        rw [shW_get _ _ _ _ hjk] at hzd
                        obtain ⟨z, hz⟩ : ∃ z, zs[j]?.getD 0 = z := ⟨_, rfl⟩
                        have hst := HMS.out.2.1 rfl
                        have hmz : ms[j]?.getD 0 = z := by rw [hst.2 j hjk, if_neg (by omega), hz]
                        have hcm := HSr.out.os.on.cs j hjk
                        rw [hmz] at hcm
                        rw [hz] at hzd
                        have hfm := HSr.out.os.free j
                        have cSr := HSr.out.cS
                        have hlSr := HSr.out.lS
                        have hnx := shiftTo_next hst hjk
                        rw [hz] at hnx
                        have HMS' : Hid (shiftSt true zs (ms.set j (z + d)) k (j + 1) d) := Lib.hid ⟨by rw [List.length_set]; exact HMS.out.1, (fun _ => hnx), (fun h => by cases h)⟩
                        clear hsw hst hmz hz hnx
                        go_upto_region 25 with fail
                        refine wp_name fun W3 hW3 => ?_
                        have HS3 : Hid (StS w W3 w5.heap.size p10 p11 b off k cap zs ps (ms.set j (z + d)) g5 k5 gP kP gM kM) := Lib.hid (by rw [hW3.out]; exact HSr.out.setS HFAR.out j (z + d) hjk (by rw [HMS.out.1]; omega))
                        have c03 := HS3.out.c0
                        have hl03 := HS3.out.l0
                        have cP3 := HS3.out.cP
                        have hlP3 := HS3.out.lP
                        clear hW3 hcm hfm cSr hlSr
                        go_wp2_with fail
                        refine (lawplace_r pos pB _ HPB.out).mono ?_
                        rintro e w9 ⟨rfl, rfl⟩
                        cases pB
                        · go_wp2
                          go_roundw
                          case rel => exact ⟨j + 1, ps, ms.set j (z + d), by omega, by go_num, HS3, Lib.hid ⟨HPS.out.1, (fun h => by cases h), HPS.out.2.2⟩, HMS'⟩
                          case measure => simp [intOf]; omega
                        · by_cases hj0 : j = 0
                          · subst hj0
                            go_wp2
                            go_roundw
                            case rel => exact ⟨1, ps, _, by omega, by go_num, HS3, Lib.hid ⟨HPS.out.1, (fun _ => pushTo_skip (HPS.out.2.1 rfl)), (fun h => by cases h)⟩, HMS'⟩
                            case measure => simp [intOf]; omega
                          · obtain ⟨i, rfl⟩ : ∃ i, j = i + 1 := ⟨j - 1, by omega⟩
                            have hcb := HS3.out.a0.cs i (by omega)
                            have hiI : (0 : Int) ≤ (i : Int) ∧ (i : Int) + 1 < (k : Int) := by omega
                            have hcp := HS3.out.op.on.cs (i + 1) (by omega)
                            have hfp := HS3.out.op.free (i + 1)
                            have hij : (0 : Int) ≤ (i : Int) ∧ (i : Int) < (k : Int) := by omega
                            have HPN := Lib.hid (pushTo_next (HPS.out.2.1 rfl) hjk (by omega))
                            rw [Nat.add_sub_cancel] at HPN
                            go_wp2_with fail
                            go_region
                            all_goals go_wp2
                            all_goals go_roundw
                            case rel => exact ⟨i + 1 + 1, _, _, by omega, by go_num, Lib.hid ((HS3.out.below (Below.refl _ _).drew).setP HFAR.out (i + 1) _ (by omega) (by rw [HPS.out.1]; omega)), Lib.hid ⟨by rw [List.length_set]; exact HPS.out.1, (fun _ => HPN.out), (fun h => by cases h)⟩, HMS'⟩
                            case measure => simp [intOf]; omega
                    · as_aux_lemma =>
                      obtain rfl : j = k := by omega
                      have cPr := HSr.out.cP
                      have hlPr := HSr.out.lP
                      have hj0 : (0 : Int) < (j : Int) := by omega
                      have HSH := Lib.hid (shiftL_end HRB.out HFL.out HMS.out)
                      go_wp2_with fail
                      refine (lawplace_r pos pB _ HPB.out).mono ?_
                      rintro e w9 ⟨rfl, rfl⟩
                      cases pB
                      · go_wp2_with fail
                        go_meet
                        exact ⟨by rw [← HSUM.out, HSU.out], by rw [← HRW.out], ps, ms, HSr, Lib.hid (fun i _ => by rw [pushL_no HPB.out, HPS.out.2.2 rfl]), HSH⟩
                      · have hcp := HSr.out.op.on.cs 0 (by omega)
                        have hfp := HSr.out.op.free 0
                        go_wp2_with fail
                        go_meet
                        exact ⟨by rw [← HSUM.out, HSU.out], by rw [← HRW.out], ps.set 0 pos, ms, Lib.hid (HSr.out.setP HFAR.out 0 pos (by omega) (by rw [HPS.out.1]; omega)), Lib.hid (pushL_end HRB.out HPB.out (HPS.out.2.1 rfl) (by omega)), HSH⟩
        case rest => as_aux_lemma =>
          obtain ⟨rfl, rfl, ps, ms, HSx, HPS, HMS⟩ := hcut
          have HE1 := Lib.hid (sameK_all HPS.out)
          have HE2 := Lib.hid (sameK_all HMS.out)
          have HE3 : Hid (sameK zs zs n = true) := Lib.hid (sameK_all (fun _ _ => rfl))
          obtain ⟨sL, hsL⟩ : ∃ s, sumL zs n = s := ⟨_, rfl⟩
          obtain ⟨rW, hrW⟩ : ∃ s, restW zs n = s := ⟨_, rfl⟩
          rw [hsL, hrW]
          have HSL := Lib.hid hsL
          have HRW := Lib.hid hrW
          have HSd := Lib.hid (HSx.out.below (Below.refl _ wc).drew)
          have hn1000 : n ≤ 1000 := by omega
          have kM0 := HSd.out.cM
          have kP0 := HSd.out.cP
          have kS0 := HSd.out.cS
          have k00 := HSd.out.c0
          simp only [World.cell?_drew] at kM0 kP0 kS0 k00
          clear hsL hrW HPS HMS HFAR
          go_wp2_with fail
          go_region_held3 (fun w' => w'.cell? ⟨w5.heap.size, 0, none⟩ = some (.slice (some ⟨g5, 0, none⟩) n k5) ∧ w'.cell? ⟨p10, 0, none⟩ = some (.slice (some ⟨gP, 0, none⟩) n kP) ∧ w'.cell? ⟨p11, 0, none⟩ = some (.slice (some ⟨gM, 0, none⟩) n kM) ∧ w'.cell? ⟨w.heap.size, 0, none⟩ = some (.slice (some ⟨b, off, none⟩) n cap))
            (first | (refine ⟨?_, ?_, ?_, ?_⟩ <;> assumption) | go_keep)
            (first
              | (go_at_call 50; (with_reducible refine (sm_right_w zs g5 n k5 rB _ HSd.out.om.on HRB.out).mono ?_); rintro e v1 ⟨rfl, hv1⟩; have HS1 := Lib.hid (HSd.out.below hv1); have kM1 := HS1.out.cM; have kP1 := HS1.out.cP; have kS1 := HS1.out.cS; have k01 := HS1.out.c0)
              | (go_at_call 49; (with_reducible refine (lawright_a zs b off n cap rB _ HS1.out.a0 HRB.out hn.1).mono ?_); rintro e v2 ⟨rfl, hv2⟩; have HS2 := Lib.hid (HS1.out.below hv2); have kM2 := HS2.out.cM; have kP2 := HS2.out.cP; have kS2 := HS2.out.cS; have k02 := HS2.out.c0)
              | (go_at_call 45; (with_reducible refine (sm_push_any zs g5 n k5 pos _ HS2.out.om.on hn1000).mono ?_); rintro e v3 ⟨g3, k3, rfl, hv3, o3⟩; have HS3 := Lib.hid (HS2.out.below hv3); have kM3 := HS3.out.cM; have kP3 := HS3.out.cP; have kS3 := HS3.out.cS; have k03 := HS3.out.c0)
              | (go_at_call 48; (with_reducible refine (lawsame_a (pushL zs n pos) ps g3 0 gP 0 n k3 kP true _ o3.out.toAt HS3.out.op.on.toAt HE1.out).mono ?_); rintro e v4 ⟨rfl, hv4⟩; have HS4 := Lib.hid (HS3.out.below hv4); have kM4 := HS4.out.cM; have kP4 := HS4.out.cP; have kS4 := HS4.out.cS; have k04 := HS4.out.c0)
              | (go_at_call 51; (with_reducible refine (sm_shift_any zs g5 n k5 d _ HS4.out.om.on hn1000).mono ?_); rintro e v5 ⟨g6, k6, rfl, hv5, o6⟩; have HS5 := Lib.hid (HS4.out.below hv5); have kM5 := HS5.out.cM; have kP5 := HS5.out.cP; have kS5 := HS5.out.cS; have k05 := HS5.out.c0)
              | (go_at_call 48; (with_reducible refine (lawsame_a (shiftL zs n d) ms g6 0 gM 0 n k6 kM true _ o6.out.toAt HS5.out.os.on.toAt HE2.out).mono ?_); rintro e v6 ⟨rfl, hv6⟩; have HS6 := Lib.hid (HS5.out.below hv6); have kM6 := HS6.out.cM; have kP6 := HS6.out.cP; have kS6 := HS6.out.cS; have k06 := HS6.out.c0)
              | (go_at_call 44; (with_reducible refine (sm_out_any zs g5 n k5 sL _ HS6.out.om.on HSL.out).mono ?_); rintro e v7 ⟨rfl, hv7⟩; have HS7 := Lib.hid (HS6.out.below hv7); have kM7 := HS7.out.cM; have kP7 := HS7.out.cP; have kS7 := HS7.out.cS; have k07 := HS7.out.c0)
              | (go_at_call 47; (with_reducible refine (sm_rest_any zs g5 n k5 rW _ HS7.out.om.on HRW.out).mono ?_); rintro e v8 ⟨rfl, hv8⟩; have HS8 := Lib.hid (HS7.out.below hv8); have kM8 := HS8.out.cM; have kP8 := HS8.out.cP; have kS8 := HS8.out.cS; have k08 := HS8.out.c0)
              | (go_at_call 48; (with_reducible refine (lawsame_a zs zs g5 0 b off n k5 cap true _ HS8.out.om.on.toAt HS8.out.a0 HE3.out).mono ?_); rintro e v9 ⟨rfl, hv9⟩; have HS9 := Lib.hid (HS8.out.below hv9); have kM9 := HS9.out.cM; have kP9 := HS9.out.cP; have kS9 := HS9.out.cS; have k09 := HS9.out.c0))
          all_goals go_wp2
          all_goals go_ret
          all_goals exact ⟨rfl, HS9.out.be⟩

end Go.Proofs.Ytddakmlnkffgiaa
