/- Contracts of layer 12: a line of some commands. -/
import Derived.Test.YtddakmlnkffgiaaLineC
namespace Go.Proofs.Ytddakmlnkffgiaa
open Go.RowKit
set_option linter.unusedVariables false
set_option linter.unusedSimpArgs false
attribute [local go_sem] ite_max ite_min vite_max vite_min ext_cell ext_frozen extS_cell extS_frozen

set_option maxRecDepth 100000 in
set_option maxHeartbeats 800000 in
theorem lmade_cons (x : CmdS) (xs : List CmdS) (v : Value) (base : Nat) (w : World) (h : ReadC w (x :: xs).length (cmdsC (x :: xs)) base v) (hn : (x :: xs).length ≤ 400) :
    Calls Try.prog 55 #[v] w fun e w' => RetL w w' [x] xs e ∧ Below w.heap.size w w' := by
  obtain ⟨A, c, rfl, h1, h2, h3, -⟩ := h
  obtain ⟨n, hlen⟩ : ∃ n, (x :: xs).length = n := ⟨_, rfl⟩
  rw [hlen] at h1 h3 hn ⊢
  have hn1 : 1 ≤ n := by rw [← hlen, List.length_cons]; omega
  obtain ⟨b, off, rfl, hb, hc⟩ := h3.2 hn1
  have HA := Lib.hid h3.head
  have HB := Lib.hid h3.tail
  have hxs : xs.length = n - 1 := by rw [← hlen, List.length_cons]; omega
  have HL := Lib.hid hxs
  have hnI : (1 : Int) ≤ (n : Int) := by omega
  have hcI : (n : Int) ≤ (c : Int) := by omega
  have hn0 : ((n : Int) == 0) = false := by simp; omega
  clear hc h3 hlen hxs
  by_cases hcc : c = 1
  · subst hcc
    obtain rfl : n = 1 := by omega
    go_enter Try.func55, Try.ntmps55
    obtain ⟨W0, hW0⟩ : ∃ W0, w.heap.size + 1 = W0 := ⟨_, rfl⟩
    have HW0 := Lib.hid hW0
    clear hW0
    go_wp2_with fail
    refine wp_region_wild 7 1000 ([{ i := 2, d := 9, R := isReadC 1 (cmdsC [x]) W0, N := (fun _ => []) }, { i := 5, d := 12, R := isReadC 0 (cmdsC xs) W0, N := (fun _ => []) }, { i := 6, d := 13, R := isAny, N := (fun _ => []), D := [2, 5], L := isAgg1 }] : List Wd) [false, false, true, false, false, true, true] rfl (by kernel_rfl) (by kernel_rfl) (fun _ _ _ _ _ h => h) (by kernel_rfl) ?_ ?_
    · intro x hx v w1 w2 hR hb
      simp only [List.mem_cons, List.not_mem_nil, or_false] at hx
      rcases hx with rfl | rfl | rfl
      all_goals (dsimp only at hR ⊢; exact hR.below hb)
    apply Exists.intro
    refine ⟨fun S hS hne => ?_, ?_, ?_, ?_⟩
    · simp only [List.take_succ_cons, List.take_zero, List.map_cons, List.map_nil]
      delta CS
      repeat (first | with_reducible refine mask_skip ?_ | ((with_reducible refine mask_keep ?_); go_big_quiet_step (fail)))
      exact mask_nil rfl
    · intro x hx he
      simp only [List.mem_cons, List.not_mem_nil, or_false] at hx
      rcases hx with rfl | rfl | rfl
      all_goals (dsimp only at he; exact absurd he (by decide))
    · skip
      simp only [List.forall_mem_cons, List.not_mem_nil, false_implies, implies_true, and_true]
      refine ⟨?_, ?_, ?_⟩
      all_goals
        intro o ho
        simp only [List.getElem?_cons_succ, List.getElem?_cons_zero, Option.some.injEq] at ho
        subst ho
        intro vs w' hbw hdeps
        simp only [putsF, List.foldl_cons, List.foldl_nil]
        refine ⟨by first | rfl | go_simp, ?_⟩
        first | with_reducible refine wild_plain ?_ | with_reducible refine wild_link ?_
        simp only [List.forall_mem_cons, List.not_mem_nil, false_implies, implies_true, and_true] at hdeps
        obtain ⟨dp0, dp1, dp2⟩ := hdeps
      · clear dp0 dp1 dp2
        go_simp
        apply wildUpon_enter
        refine (clone_cmd _ 1 1 (cmdsC [x]) _ (by omega) ((HA.out.below ?bb).wide ?bz) (cmdsC_one _)).mono ?_
        case bb => exact ((Below.refl _ _).alloc (Nat.le_refl _) _).trans (hbw.mono (by simp))
        case bz => have := hbw.size; simp at this; omega
        rintro e w6 ⟨⟨v, rfl, hr⟩, hb6⟩
        exact ⟨_, rfl, hr.base0 (by have := hbw.size; simp at this; have := HW0.out; omega), hb6, by simp⟩
      · clear dp0 dp1 dp2
        go_simp
        apply wildUpon_enter
        refine (clone_cmd _ 0 _ (cmdsC xs) _ (by omega) (((show Lies w w.heap.size 7 (some ⟨b, off, none⟩) 0 (cmdsC xs) from ⟨by rw [cmdsC_len, HL.out], fun h => absurd h (by omega)⟩).below ?bb).wide ?bz) (cmdsC_one _)).mono ?_
        case bb => exact ((Below.refl _ _).alloc (Nat.le_refl _) _).trans (hbw.mono (by simp))
        case bz => have := hbw.size; simp at this; omega
        rintro e w6 ⟨⟨v, rfl, hr⟩, hb6⟩
        exact ⟨_, rfl, hr.base0 (by have := hbw.size; simp at this; have := HW0.out; omega), hb6, by simp⟩
      · obtain ⟨A2, c2, e2, _⟩ := dp0 (by decide)
        obtain ⟨A5, c5, e5, _⟩ := dp1 (by decide)
        clear dp0 dp1 dp2
        rw [e2, e5]
        go_simp
        exact wildUpon_value ⟨⟨trivial, rfl⟩, Below.refl _ _, by simp⟩
    · skip
      intro vs w' hbw hr hap hlk
      simp only [List.forall_mem_cons, List.not_mem_nil, false_implies, implies_true, and_true] at hr hap
      obtain ⟨hh2, hh5, hh6⟩ := hr
      obtain ⟨A2, c2, e2, k2, m2, l2, f2⟩ := hh2
      obtain ⟨A5, c5, e5, k5, m5, l5, f5⟩ := hh5
      clear hh6
      simp only [List.forall_mem_cons, List.not_mem_nil, false_implies, implies_true, and_true, true_and, List.map_cons, List.map_nil, isAgg1, e2, e5] at hlk
      have l6 := hlk
      try simp only [e2, e5] at hap
      try simp only [newB_ptr, newB_row, newB_win, newB_win2, List.mem_cons, forall_eq_or_imp, or_false, List.mem_singleton, forall_eq, List.not_mem_nil, false_implies, implies_true, not_false_eq_true, and_true, true_and] at  hap
      try simp only [ne_eq, not_true_eq_false, false_implies, true_and, and_true, Nat.reduceEqDiff, not_false_eq_true, forall_const] at hap
      simp only [putsF, List.foldl_cons, List.foldl_nil, e2, e5, l6, List.drop_succ_cons, List.drop_zero]
      clear e2 e5 l6
      have hsz : w.heap.size + 1 ≤ w'.heap.size := by have := hbw.size; simpa using this
      have hp : w.heap.size < w'.heap.size := by omega
      have HR : Hid (LineV w' W0 [x] xs (.agg #[.slice A2 1 c2, .slice A5 0 c5])) := Lib.hid ⟨_, _, rfl, ⟨A2, c2, rfl, k2, m2, l2, f2⟩, by rw [HL.out]; exact ⟨A5, c5, rfl, k5, m5, l5, f5⟩⟩
      have g0 : w'.cell? ⟨w.heap.size, 0, none⟩ = some (.slice none 0 0) := (hbw.cell (p := ⟨w.heap.size, 0, none⟩) (by simp)).trans (by go_simp)
      have g1 : w'.cell? ⟨w.heap.size, 1, none⟩ = some (.slice none 0 0) := (hbw.cell (p := ⟨w.heap.size, 1, none⟩) (by simp)).trans (by go_simp)
      have gf : ∀ o, w'.frozen? ⟨w.heap.size, o, none⟩ = false := fun o => (hbw.frozen (p := ⟨w.heap.size, o, none⟩) (by simp)).trans (by go_simp)
      have hB : Below w.heap.size w w' := ((Below.refl _ _).alloc (Nat.le_refl _) _).trans (hbw.mono (by simp))
      clear l2 l5 f2 f5 hbw
      go_wp2
      have hW0 := HW0.out
      have hlt : w.heap.size < W0 := by omega
      refine bodyPost_ret (v := .agg #[.slice A2 1 c2, .slice A5 0 c5]) ?_ rfl ?_
      · simp [results, Try.results55, go_sem, g0, g1, gf]
      · exact ⟨⟨_, rfl, ((HR.out.store (p := ⟨w.heap.size, 0, none⟩) hlt _).store (p := ⟨w.heap.size, 1, none⟩) hlt _).base0 (by omega)⟩, by (repeat' (first | (with_reducible exact Below.refl _ _) | (with_reducible assumption) | (with_reducible refine below_drewN ?_ _) | (with_reducible refine Below.drew ?_) | (with_reducible refine below_new ?_ (Nat.le_refl _) _) | (with_reducible refine Below.setCell ?_ ?_ _) | (with_reducible refine below_go ?_ (by assumption) (Nat.le_refl _)) | (simp; done) | (simp; omega) | omega))⟩
  · have hcn : ¬ 1 = c := by omega
    go_enter Try.func55, Try.ntmps55
    obtain ⟨W0, hW0⟩ : ∃ W0, w.heap.size + 1 = W0 := ⟨_, rfl⟩
    have HW0 := Lib.hid hW0
    clear hW0
    go_wp2_with fail
    refine wp_region_wild 7 1000 ([{ i := 2, d := 9, R := isReadC 1 (cmdsC [x]) W0, N := (fun _ => []) }, { i := 5, d := 12, R := isReadC (n - 1) (cmdsC xs) W0, N := (fun _ => []) }, { i := 6, d := 13, R := isAny, N := (fun _ => []), D := [2, 5], L := isAgg1 }] : List Wd) [false, false, true, false, false, true, true] rfl (by kernel_rfl) (by kernel_rfl) (fun _ _ _ _ _ h => h) (by kernel_rfl) ?_ ?_
    · intro x hx v w1 w2 hR hb
      simp only [List.mem_cons, List.not_mem_nil, or_false] at hx
      rcases hx with rfl | rfl | rfl
      all_goals (dsimp only at hR ⊢; exact hR.below hb)
    apply Exists.intro
    refine ⟨fun S hS hne => ?_, ?_, ?_, ?_⟩
    · simp only [List.take_succ_cons, List.take_zero, List.map_cons, List.map_nil]
      delta CS
      repeat (first | with_reducible refine mask_skip ?_ | ((with_reducible refine mask_keep ?_); go_big_quiet_step (fail)))
      exact mask_nil rfl
    · intro x hx he
      simp only [List.mem_cons, List.not_mem_nil, or_false] at hx
      rcases hx with rfl | rfl | rfl
      all_goals (dsimp only at he; exact absurd he (by decide))
    · skip
      simp only [List.forall_mem_cons, List.not_mem_nil, false_implies, implies_true, and_true]
      refine ⟨?_, ?_, ?_⟩
      all_goals
        intro o ho
        simp only [List.getElem?_cons_succ, List.getElem?_cons_zero, Option.some.injEq] at ho
        subst ho
        intro vs w' hbw hdeps
        simp only [putsF, List.foldl_cons, List.foldl_nil]
        refine ⟨by first | rfl | go_simp, ?_⟩
        first | with_reducible refine wild_plain ?_ | with_reducible refine wild_link ?_
        simp only [List.forall_mem_cons, List.not_mem_nil, false_implies, implies_true, and_true] at hdeps
        obtain ⟨dp0, dp1, dp2⟩ := hdeps
      · clear dp0 dp1 dp2
        go_simp
        apply wildUpon_enter
        refine (clone_cmd _ 1 c (cmdsC [x]) _ (by omega) ((HA.out.below ?bb).wide ?bz) (cmdsC_one _)).mono ?_
        case bb => exact ((Below.refl _ _).alloc (Nat.le_refl _) _).trans (hbw.mono (by simp))
        case bz => have := hbw.size; simp at this; omega
        rintro e w6 ⟨⟨v, rfl, hr⟩, hb6⟩
        exact ⟨_, rfl, hr.base0 (by have := hbw.size; simp at this; have := HW0.out; omega), hb6, by simp⟩
      · clear dp0 dp1 dp2
        go_simp
        apply wildUpon_enter
        refine (clone_cmd _ (n - 1) _ (cmdsC xs) _ (by omega) ((HB.out.below ?bb).wide ?bz) (cmdsC_one _)).mono ?_
        case bb => exact ((Below.refl _ _).alloc (Nat.le_refl _) _).trans (hbw.mono (by simp))
        case bz => have := hbw.size; simp at this; omega
        rintro e w6 ⟨⟨v, rfl, hr⟩, hb6⟩
        exact ⟨_, rfl, hr.base0 (by have := hbw.size; simp at this; have := HW0.out; omega), hb6, by simp⟩
      · obtain ⟨A2, c2, e2, _⟩ := dp0 (by decide)
        obtain ⟨A5, c5, e5, _⟩ := dp1 (by decide)
        clear dp0 dp1 dp2
        rw [e2, e5]
        go_simp
        exact wildUpon_value ⟨⟨trivial, rfl⟩, Below.refl _ _, by simp⟩
    · skip
      intro vs w' hbw hr hap hlk
      simp only [List.forall_mem_cons, List.not_mem_nil, false_implies, implies_true, and_true] at hr hap
      obtain ⟨hh2, hh5, hh6⟩ := hr
      obtain ⟨A2, c2, e2, k2, m2, l2, f2⟩ := hh2
      obtain ⟨A5, c5, e5, k5, m5, l5, f5⟩ := hh5
      clear hh6
      simp only [List.forall_mem_cons, List.not_mem_nil, false_implies, implies_true, and_true, true_and, List.map_cons, List.map_nil, isAgg1, e2, e5] at hlk
      have l6 := hlk
      try simp only [e2, e5] at hap
      try simp only [newB_ptr, newB_row, newB_win, newB_win2, List.mem_cons, forall_eq_or_imp, or_false, List.mem_singleton, forall_eq, List.not_mem_nil, false_implies, implies_true, not_false_eq_true, and_true, true_and] at  hap
      try simp only [ne_eq, not_true_eq_false, false_implies, true_and, and_true, Nat.reduceEqDiff, not_false_eq_true, forall_const] at hap
      simp only [putsF, List.foldl_cons, List.foldl_nil, e2, e5, l6, List.drop_succ_cons, List.drop_zero]
      clear e2 e5 l6
      have hsz : w.heap.size + 1 ≤ w'.heap.size := by have := hbw.size; simpa using this
      have hp : w.heap.size < w'.heap.size := by omega
      have HR : Hid (LineV w' W0 [x] xs (.agg #[.slice A2 1 c2, .slice A5 (n - 1) c5])) := Lib.hid ⟨_, _, rfl, ⟨A2, c2, rfl, k2, m2, l2, f2⟩, by rw [HL.out]; exact ⟨A5, c5, rfl, k5, m5, l5, f5⟩⟩
      have g0 : w'.cell? ⟨w.heap.size, 0, none⟩ = some (.slice none 0 0) := (hbw.cell (p := ⟨w.heap.size, 0, none⟩) (by simp)).trans (by go_simp)
      have g1 : w'.cell? ⟨w.heap.size, 1, none⟩ = some (.slice none 0 0) := (hbw.cell (p := ⟨w.heap.size, 1, none⟩) (by simp)).trans (by go_simp)
      have gf : ∀ o, w'.frozen? ⟨w.heap.size, o, none⟩ = false := fun o => (hbw.frozen (p := ⟨w.heap.size, o, none⟩) (by simp)).trans (by go_simp)
      have hB : Below w.heap.size w w' := ((Below.refl _ _).alloc (Nat.le_refl _) _).trans (hbw.mono (by simp))
      clear l2 l5 f2 f5 hbw
      go_wp2
      have hW0 := HW0.out
      have hlt : w.heap.size < W0 := by omega
      refine bodyPost_ret (v := .agg #[.slice A2 1 c2, .slice A5 (n - 1) c5]) ?_ rfl ?_
      · simp [results, Try.results55, go_sem, g0, g1, gf]
      · exact ⟨⟨_, rfl, ((HR.out.store (p := ⟨w.heap.size, 0, none⟩) hlt _).store (p := ⟨w.heap.size, 1, none⟩) hlt _).base0 (by omega)⟩, by (repeat' (first | (with_reducible exact Below.refl _ _) | (with_reducible assumption) | (with_reducible refine below_drewN ?_ _) | (with_reducible refine Below.drew ?_) | (with_reducible refine below_new ?_ (Nat.le_refl _) _) | (with_reducible refine Below.setCell ?_ ?_ _) | (with_reducible refine below_go ?_ (by assumption) (Nat.le_refl _)) | (simp; done) | (simp; omega) | omega))⟩

end Go.Proofs.Ytddakmlnkffgiaa
