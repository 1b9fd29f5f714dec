/- Contracts of the reference of layer 1: products, quotients and rests of two numbers. -/
import Derived.Test.YtcamegfnhbbaeaaM06
import Derived.Test.YtcamegfnhbbaeaaM04
import Derived.Test.YtcamegfnhbbaeaaWild
import Derived.Deep.DeepCutAuto
namespace Go.Proofs.Ytcamegfnhbbaeaa
open Go.RowKit
set_option linter.unusedVariables false
set_option linter.unusedSimpArgs false
attribute [local go_sem] ite_max ite_min vite_max vite_min ext_cell ext_frozen extS_cell extS_frozen

theorem tdiv_sz (a b : Int) : ((decide (a < 0) != decide (b < 0)) = true ∧ -(max a (-a) / max b (-b)) = a.tdiv b) ∨ ((decide (a < 0) != decide (b < 0)) = false ∧ max a (-a) / max b (-b) = a.tdiv b) := by
  by_cases h1 : a < 0 <;> by_cases h2 : b < 0
  · right
    refine ⟨by simp [h1, h2], ?_⟩
    rw [show max a (-a) = -a by omega, show max b (-b) = -b by omega, ← Int.tdiv_eq_ediv_of_nonneg (by omega), Int.neg_tdiv, Int.tdiv_neg, Int.neg_neg]
  · left
    refine ⟨by simp [h1, h2], ?_⟩
    rw [show max a (-a) = -a by omega, show max b (-b) = b by omega, ← Int.tdiv_eq_ediv_of_nonneg (by omega), Int.neg_tdiv, Int.neg_neg]
  · left
    refine ⟨by simp [h1, h2], ?_⟩
    rw [show max a (-a) = a by omega, show max b (-b) = -b by omega, ← Int.tdiv_eq_ediv_of_nonneg (by omega), Int.tdiv_neg, Int.neg_neg]
  · right
    refine ⟨by simp [h1, h2], ?_⟩
    rw [show max a (-a) = a by omega, show max b (-b) = b by omega, Int.tdiv_eq_ediv_of_nonneg (by omega)]
theorem tmod_sz (a b : Int) : (decide (a < 0) = true ∧ -(max a (-a) % max b (-b)) = a.tmod b) ∨ (decide (a < 0) = false ∧ max a (-a) % max b (-b) = a.tmod b) := by
  have hm : ∀ x : Int, 0 ≤ x → x % max b (-b) = x.tmod b := fun x hx => by
    rw [← Int.tmod_eq_emod_of_nonneg hx]
    by_cases h2 : b < 0
    · rw [show max b (-b) = -b by omega, Int.tmod_neg]
    · rw [show max b (-b) = b by omega]
  by_cases h1 : a < 0
  · left
    refine ⟨by simp [h1], ?_⟩
    rw [show max a (-a) = -a by omega, hm (-a) (by omega), Int.neg_tmod, Int.neg_neg]
  · right
    refine ⟨by simp [h1], ?_⟩
    rw [show max a (-a) = a by omega, hm a (by omega)]

set_option maxRecDepth 100000 in
set_option maxHeartbeats 1000000 in
theorem rmul_at (a b : Int) (w : World) (ha : -9223372036854775808 ≤ a ∧ a ≤ 9223372036854775807) (hb : -9223372036854775808 ≤ b ∧ b ≤ 9223372036854775807) :
    Calls Try.prog 23 #[.int .i64 a, .int .i64 b] w fun e w' => e = .returned (.tuple #[.int .i64 (fitV (a * b)), .bool (fitB (a * b))]) ∧ Below w.heap.size w w' := by
  have hs := size_mul a b
  have hz := size_bd a b ha hb
  have hA : 0 ≤ max a (-a) ∧ max a (-a) ≤ 9223372036854775808 := by omega
  have hB : 0 ≤ max b (-b) ∧ max b (-b) ≤ 9223372036854775808 := by omega
  have HOA := Lib.hid (fun w => rof_at a w ha)
  have HOB := Lib.hid (fun w => rof_at b w hb)
  generalize max a (-a) = A at *
  generalize max b (-b) = B at *
  obtain ⟨sa, hsa⟩ : ∃ sa, decide (a < 0) = sa := ⟨_, rfl⟩
  obtain ⟨sb, hsb⟩ : ∃ sb, decide (b < 0) = sb := ⟨_, rfl⟩
  rw [hsa] at HOA hs
  rw [hsb] at HOB hs
  obtain ⟨x, hx⟩ : ∃ x, a * b = x := ⟨_, rfl⟩
  rw [hx] at hs ⊢
  have HX : Hid (((sa != sb) = true ∧ -(A * B) = x) ∨ ((sa != sb) = false ∧ A * B = x)) := Lib.hid (by
    rcases hs with ⟨h1, h2⟩ | ⟨h1, h2⟩
    · exact .inl ⟨h1, h2.symm⟩
    · exact .inr ⟨h1, h2.symm⟩)
  have HT := Lib.hid (fun w => rtimes_at A B sa sb w (by omega) (by omega))
  have HP := Lib.hid (show 0 ≤ A * B ∧ A * B < 340282366920938463463374607431768211456 by omega)
  generalize A * B = M at *
  clear hs hz hsa hsb hx
  go_enter Try.func23, Try.ntmps23
  go_wp2_with fail
  refine (HOA.out _).mono ?_
  rintro e w1 ⟨rfl, hb1⟩
  go_wp2_with fail
  refine (HOB.out _).mono ?_
  rintro e w2 ⟨rfl, hb2⟩
  go_wp2_with fail
  refine (HT.out _).mono ?_
  rintro e w3 ⟨rfl, hb3⟩
  go_wp2_with fail
  refine (rroom_at M x (sa != sb) _ HP.out HX.out).mono ?_
  rintro e w4 ⟨rfl, hb4⟩
  go_wp2
  go_ret2
  have z1 := hb1.size
  have z2 := hb2.size
  have z3 := hb3.size
  exact ⟨rfl, ((hb1.trans (hb2.mono (by omega))).trans (hb3.mono (by omega))).trans (hb4.mono (by omega))⟩

theorem wide_of {w : World} {p : Nat} {T : TypeId} (h : w.heap[p]? = some (.cells #[.int .u64 0, .int .u64 0, .int .u64 0, .int .u64 0, .bool false] T)) : wideAt w p :=
  ⟨heap_cell 0 _ h rfl, heap_cell 1 _ h rfl, heap_cell 2 _ h rfl, heap_cell 3 _ h rfl, heap_cell 4 _ h rfl, fun o => heap_free o h⟩
/-- one value -/
def isVal (u v : Value) (_ : World) : Prop := v = u ∧ True
theorem isVal.below {u v : Value} {w w' : World} (h : isVal u v w) (_ : Below w.heap.size w w') : isVal u v w' := h
theorem quo_bd (A B : Int) (hA : 0 ≤ A ∧ A ≤ 340282366920938463463374607431768211455) (hB : 1 ≤ B) : 0 ≤ A / B ∧ A / B < 340282366920938463463374607431768211456 ∧ 0 ≤ A % B ∧ A % B < B := by
  have h1 : 0 ≤ A / B := Int.ediv_nonneg (by omega) (by omega)
  have h2 := Int.ediv_le_self (a := A) B (by omega)
  exact ⟨h1, by omega, Int.emod_nonneg _ (by omega), Int.emod_lt_of_pos _ (by omega)⟩

set_option maxRecDepth 100000 in
set_option maxHeartbeats 4000000 in
theorem rdiv_at (a b : Int) (w : World) (ha : -9223372036854775808 ≤ a ∧ a ≤ 9223372036854775807) (hb : -9223372036854775808 ≤ b ∧ b ≤ 9223372036854775807) :
    Calls Try.prog 24 #[.int .i64 a, .int .i64 b] w fun e w' => e = .returned (.tuple #[.int .i64 (divV a b), .int .i64 (divE a b)]) ∧ Below w.heap.size w w' := by
  by_cases b0 : b = 0
  · subst b0
    rw [show divV a 0 = 0 from rfl, show divE a 0 = 3 from rfl]
    go_enter Try.func24, Try.ntmps24
    go_wp2
    go_ret2
    exact ⟨rfl, by (repeat' (first | (with_reducible exact Below.refl _ _) | (with_reducible assumption) | (with_reducible refine below_drewN ?_ _) | (with_reducible refine Below.drew ?_) | (with_reducible refine below_new ?_ (Nat.le_refl _) _) | (with_reducible refine Below.setCell ?_ ?_ _) | (with_reducible refine below_go ?_ (by assumption) (Nat.le_refl _)) | (simp; done) | (simp; omega) | omega))⟩
  · have q0 : (b == 0) = false := by simpa using b0
    have hs := tdiv_sz a b
    have hA : 0 ≤ max a (-a) ∧ max a (-a) ≤ 9223372036854775808 := by omega
    have hB : 1 ≤ max b (-b) ∧ max b (-b) ≤ 9223372036854775808 := by omega
    have hq := quo_bd (max a (-a)) (max b (-b)) (by omega) (by omega)
    have HOA := Lib.hid (fun w => rof_at a w ha)
    have HOB := Lib.hid (fun w => rof_at b w hb)
    have hres : (fitB (a.tdiv b) = true ∧ divV a b = fitV (a.tdiv b) ∧ divE a b = 0) ∨ (fitB (a.tdiv b) = false ∧ divV a b = 0 ∧ divE a b = 2) := by
      by_cases hn : a = -9223372036854775808 ∧ b = -1
      · obtain ⟨rfl, rfl⟩ := hn
        exact .inr ⟨by decide, rfl, rfl⟩
      · have e1 : divE a b = 0 := by unfold divE; rw [if_neg b0, if_neg hn]
        have e2 := tdiv_bd a b ha b0 hn
        exact .inl ⟨fitB_yes e2, by unfold divV; rw [if_pos e1, fitV_yes e2], e1⟩
    generalize max a (-a) = A at *
    generalize max b (-b) = B at *
    obtain ⟨sa, hsa⟩ : ∃ sa, decide (a < 0) = sa := ⟨_, rfl⟩
    obtain ⟨sb, hsb⟩ : ∃ sb, decide (b < 0) = sb := ⟨_, rfl⟩
    rw [hsa] at HOA hs
    rw [hsb] at HOB hs
    have HX := Lib.hid hs
    have HY := Lib.hid (fun w => rby_at A B sa sb w (by omega) (by omega))
    have HQ := Lib.hid hq
    generalize A / B = n at *
    generalize A % B = r at *
    generalize a.tdiv b = x at *
    have HRM := Lib.hid (fun w => rroom_at n x (sa != sb) w ⟨HQ.out.1, HQ.out.2.1⟩ HX.out)
    generalize divV a b = dv at *
    generalize divE a b = de at *
    clear hs hq hsa hsb b0 HX HQ
    have HRES := Lib.hid hres
    clear hres
    go_enter Try.func24, Try.ntmps24
    go_wp2_with fail
    refine (HOA.out _).mono ?_
    rintro e w1 ⟨rfl, hb1⟩
    go_wp2_with fail
    refine (HOB.out _).mono ?_
    rintro e w2 ⟨rfl, hb2⟩
    go_wp2_with fail
    refine (HY.out _).mono ?_
    rintro e w3 ⟨rfl, hb3⟩
    obtain ⟨hb3c, hb3f⟩ := bcell hb3
    have hb3z := hb3.size
    have hb3c0 := fun o => hb3c (w2.heap.size) o (by first | (simp; done) | (simp; omega) | (simp at *; omega) | omega)
    have hb3f0 := fun o => hb3f (w2.heap.size) o (by first | (simp; done) | (simp; omega) | (simp at *; omega) | omega)
    have hb3l0 := below_lt (b := w2.heap.size) hb3 (by first | (simp; done) | (simp; omega) | (simp at *; omega) | omega)
    have hb3c1 := fun o => hb3c (w2.heap.size + 1) o (by first | (simp; done) | (simp; omega) | (simp at *; omega) | omega)
    have hb3f1 := fun o => hb3f (w2.heap.size + 1) o (by first | (simp; done) | (simp; omega) | (simp at *; omega) | omega)
    have hb3l1 := below_lt (b := w2.heap.size + 1) hb3 (by first | (simp; done) | (simp; omega) | (simp at *; omega) | omega)
    have z1 := hb1.size
    have z2 := hb2.size
    have hB3 : Below w.heap.size w w3 := by (repeat' (first | (with_reducible exact Below.refl _ _) | (with_reducible assumption) | (with_reducible refine below_drewN ?_ _) | (with_reducible refine Below.drew ?_) | (with_reducible refine below_new ?_ (Nat.le_refl _) _) | (with_reducible refine Below.setCell ?_ ?_ _) | (with_reducible refine below_go ?_ (by assumption) (Nat.le_refl _)) | (simp; done) | (simp; omega) | omega))
    clear hb1 hb2 hb3
    have z4 : w2.heap.size < w3.heap.size + 1 := by omega
    have z5 : w2.heap.size + 1 < w3.heap.size + 1 := by omega
    go_wp2_with fail
    refine (HRM.out _).mono ?_
    rintro e w4 ⟨rfl, hb4⟩
    rcases HRES.out with ⟨h1, h2, h3⟩ | ⟨h1, h2, h3⟩
    · rw [h1]
      have H2 := Lib.hid h2
      have H3 := Lib.hid h3
      clear h1 h2 h3 HRES
      go_wp2
      go_ret2
      exact ⟨by rw [H2.out, H3.out]; rfl, by (repeat' (first | (with_reducible exact Below.refl _ _) | (with_reducible assumption) | (with_reducible refine below_drewN ?_ _) | (with_reducible refine Below.drew ?_) | (with_reducible refine below_new ?_ (Nat.le_refl _) _) | (with_reducible refine Below.setCell ?_ ?_ _) | (with_reducible refine below_go ?_ (by assumption) (Nat.le_refl _)) | (simp; done) | (simp; omega) | omega))⟩
    · rw [h1]
      have H2 := Lib.hid h2
      have H3 := Lib.hid h3
      clear h1 h2 h3 HRES
      go_wp2
      go_ret2
      exact ⟨by rw [H2.out, H3.out]; rfl, by (repeat' (first | (with_reducible exact Below.refl _ _) | (with_reducible assumption) | (with_reducible refine below_drewN ?_ _) | (with_reducible refine Below.drew ?_) | (with_reducible refine below_new ?_ (Nat.le_refl _) _) | (with_reducible refine Below.setCell ?_ ?_ _) | (with_reducible refine below_go ?_ (by assumption) (Nat.le_refl _)) | (simp; done) | (simp; omega) | omega))⟩

set_option maxRecDepth 100000 in
set_option maxHeartbeats 1000000 in
theorem rmod_at (a b : Int) (w : World) (ha : -9223372036854775808 ≤ a ∧ a ≤ 9223372036854775807) (hb : -9223372036854775808 ≤ b ∧ b ≤ 9223372036854775807) :
    Calls Try.prog 25 #[.int .i64 a, .int .i64 b] w fun e w' => e = .returned (.tuple #[.int .i64 (modV a b), .int .i64 (modE b)]) ∧ Below w.heap.size w w' := by
  by_cases b0 : b = 0
  · subst b0
    rw [show modV a 0 = 0 from rfl, show modE 0 = 3 from rfl]
    go_enter Try.func25, Try.ntmps25
    go_wp2
    go_ret2
    exact ⟨rfl, by (repeat' (first | (with_reducible exact Below.refl _ _) | (with_reducible assumption) | (with_reducible refine below_drewN ?_ _) | (with_reducible refine Below.drew ?_) | (with_reducible refine below_new ?_ (Nat.le_refl _) _) | (with_reducible refine Below.setCell ?_ ?_ _) | (with_reducible refine below_go ?_ (by assumption) (Nat.le_refl _)) | (simp; done) | (simp; omega) | omega))⟩
  · have q0 : (b == 0) = false := by simpa using b0
    have hs := tmod_sz a b
    have hA : 0 ≤ max a (-a) ∧ max a (-a) ≤ 9223372036854775808 := by omega
    have hB : 1 ≤ max b (-b) ∧ max b (-b) ≤ 9223372036854775808 := by omega
    have hq := quo_bd (max a (-a)) (max b (-b)) (by omega) (by omega)
    have HOA := Lib.hid (fun w => rof_at a w ha)
    have HOB := Lib.hid (fun w => rof_at b w hb)
    have e1 : modE b = 0 := by unfold modE; rw [if_neg b0]
    have e2 : modV a b = fitV (a.tmod b) := by unfold modV; rw [if_neg b0, fitV_yes (tmod_bd a b ha)]
    rw [e1, e2]
    clear e1 e2
    generalize max a (-a) = A at *
    generalize max b (-b) = B at *
    obtain ⟨sa, hsa⟩ : ∃ sa, decide (a < 0) = sa := ⟨_, rfl⟩
    obtain ⟨sb, hsb⟩ : ∃ sb, decide (b < 0) = sb := ⟨_, rfl⟩
    rw [hsa] at HOA hs
    rw [hsb] at HOB
    have HX := Lib.hid hs
    have HY := Lib.hid (fun w => rby_at A B sa sb w (by omega) (by omega))
    have HQ := Lib.hid hq
    generalize A / B = n at *
    generalize A % B = r at *
    generalize a.tmod b = x at *
    have HRM := Lib.hid (fun w => rroom_at r x sa w ⟨HQ.out.2.2.1, by have := HQ.out.2.2.2; omega⟩ HX.out)
    clear hs hq hsa hsb b0 HX HQ
    go_enter Try.func25, Try.ntmps25
    go_wp2_with fail
    refine (HOA.out _).mono ?_
    rintro e w1 ⟨rfl, hb1⟩
    go_wp2_with fail
    have z4 : w1.heap.size < w1.heap.size + 1 := by omega
    refine wp_name fun W hW => ?_
    have c0 : W.cell? ⟨w1.heap.size, 0, none⟩ = some (.int .u64 (d0 A)) := by rw [hW.out]; go_simp
    have c1 : W.cell? ⟨w1.heap.size, 1, none⟩ = some (.int .u64 (d1 A)) := by rw [hW.out]; go_simp
    have c2 : W.cell? ⟨w1.heap.size, 2, none⟩ = some (.int .u64 (d2 A)) := by rw [hW.out]; go_simp
    have c3 : W.cell? ⟨w1.heap.size, 3, none⟩ = some (.int .u64 (d3 A)) := by rw [hW.out]; go_simp
    have c4 : W.cell? ⟨w1.heap.size, 4, none⟩ = some (.bool sa) := by rw [hW.out]; go_simp
    have hl1 : w1.heap.size < W.heap.size := by rw [hW.out]; simp
    have hBW : Below w.heap.size w W := by rw [hW.out]; (repeat' (first | (with_reducible exact Below.refl _ _) | (with_reducible assumption) | (with_reducible refine below_drewN ?_ _) | (with_reducible refine Below.drew ?_) | (with_reducible refine below_new ?_ (Nat.le_refl _) _) | (with_reducible refine Below.setCell ?_ ?_ _) | (with_reducible refine below_go ?_ (by assumption) (Nat.le_refl _)) | (simp; done) | (simp; omega) | omega))
    clear hW z4 hb1
    refine wp_region_wild 9 6 ([{ i := 6, d := 21, R := isVal (.agg #[.int .u64 (d0 r), .int .u64 (d1 r), .int .u64 (d2 r), .int .u64 (d3 r), .bool false]), N := (fun _ => []) }, { i := 7, d := 7, R := isVar (.cells #[.int .u64 0, .int .u64 0, .int .u64 0, .int .u64 0, .bool false] 75), N := newB }, { i := 8, d := 8, R := isVar (.cells #[.int .u64 0, .int .u64 0, .int .u64 0, .int .u64 0, .bool false] 75), N := newB }] : List Wd) [false, false, false, false, false, false, true, true, true] rfl (by kernel_rfl) (by kernel_rfl) (fun _ _ _ _ _ h => h) (by kernel_rfl) ?_ ?_
    · intro x hx v w1 w2 hR hb
      simp only [List.mem_cons, List.not_mem_nil, or_false] at hx
      rcases hx with rfl | rfl | rfl
      all_goals (dsimp only at hR ⊢; exact hR.below hb)
    apply Exists.intro
    refine ⟨fun S hS hne => ?_, ?_, ?_, ?_⟩
    · simp only [List.take_succ_cons, List.take_zero, List.map_cons, List.map_nil]
      delta CS
      repeat (first | with_reducible refine mask_skip ?_ | ((with_reducible refine mask_keep ?_); go_big_quiet_step (first | (go_at_call 46; exact extS_call hS (HOB.out _)) | (go_at_call 49; exact extS_call hS (HY.out _)))))
      exact mask_nil rfl
    · skip
      intro x hx he
      simp only [List.mem_cons, List.not_mem_nil, or_false] at hx
      rcases hx with rfl | rfl | rfl
      all_goals (dsimp only at he; first | (exact absurd he (by decide)) | clear he)
      intro o ho
      simp only [List.getElem?_cons_succ, List.getElem?_cons_zero, Option.some.injEq] at ho
      subst ho
      intro vs w' hbw hdeps
      simp only [putsF, List.foldl_cons, List.foldl_nil]
      simp only [List.forall_mem_cons, List.not_mem_nil, false_implies, implies_true, and_true] at hdeps
      obtain ⟨dp0, dp1, dp2⟩ := hdeps
      clear dp0 dp1 dp2
      refine ⟨(.agg #[.int .u64 (d0 r), .int .u64 (d1 r), .int .u64 (d2 r), .int .u64 (d3 r), .bool false]), fun u => ?_⟩
      go_simp
    · skip
      simp only [List.forall_mem_cons, List.not_mem_nil, false_implies, implies_true, and_true]
      refine ⟨?_, ?_, ?_⟩
      all_goals
        intro o ho
        simp only [List.getElem?_cons_succ, List.getElem?_cons_zero, Option.some.injEq] at ho
        subst ho
        intro vs w' hbw hdeps
        simp only [putsF, List.foldl_cons, List.foldl_nil]
        refine ⟨by first | rfl | go_simp, ?_⟩
        first | with_reducible refine wild_plain ?_ | with_reducible refine wild_link ?_
        clear hdeps
        go_simp
      · exact wildUpon_value ⟨⟨rfl, trivial⟩, Below.refl _ _, fun b hb => by cases hb⟩
      · exact wild_var
      · exact wild_var
    · skip
      intro vs w' hbw hr hap hlk
      simp only [List.forall_mem_cons, List.not_mem_nil, false_implies, implies_true, and_true] at hr hap
      obtain ⟨hh6, ⟨hh7, n7⟩, ⟨hh8, n8⟩⟩ := hr
      obtain ⟨e6, t6⟩ := hh6
      obtain ⟨p7, e7, o7⟩ := hh7
      rw [e7] at n7
      obtain ⟨p8, e8, o8⟩ := hh8
      rw [e8] at n8
      clear hlk
      try simp only [e6, e7, e8] at hap
      try simp only [newB_ptr, newB_row, newB_win, newB_win2, List.mem_cons, forall_eq_or_imp, or_false, List.mem_singleton, forall_eq, List.not_mem_nil, false_implies, implies_true, not_false_eq_true, and_true, true_and] at n7 n8 hap
      try simp only [ne_eq, not_true_eq_false, false_implies, true_and, and_true, Nat.reduceEqDiff, not_false_eq_true, forall_const] at hap
      simp only [putsF, List.foldl_cons, List.foldl_nil, e6, e7, e8, List.drop_succ_cons, List.drop_zero]
      clear e6 e7 e8
      obtain ⟨x0, x1, x2, x3, x4, f8⟩ := wide_of o8
      obtain ⟨y0, y1, y2, y3, y4, f7⟩ := wide_of o7
      have n78 : ¬ p7 = p8 := hap.1
      have n87 : ¬ p8 = p7 := hap.2
      have nA7 : ¬ w1.heap.size = p7 := by omega
      have nA8 : ¬ w1.heap.size = p8 := by omega
      clear o7 o8 hap t6
      have cA := (hbw.cell (p := ⟨w1.heap.size, 4, none⟩) hl1).trans c4
      have hB7 : Below w.heap.size w w' := hBW.trans (hbw.mono hBW.size)
      have hsz := hBW.size
      clear hbw hBW c0 c1 c2 c3 c4
      go_upto_region 5 with (fail)
      refine wp_name fun W2 hW2 => ?_
      have v0 : W2.cell? ⟨p8, 0, none⟩ = some (.int .u64 (d0 r)) := by rw [hW2.out]; go_simp
      have v1 : W2.cell? ⟨p8, 1, none⟩ = some (.int .u64 (d1 r)) := by rw [hW2.out]; go_simp
      have v2 : W2.cell? ⟨p8, 2, none⟩ = some (.int .u64 (d2 r)) := by rw [hW2.out]; go_simp
      have v3 : W2.cell? ⟨p8, 3, none⟩ = some (.int .u64 (d3 r)) := by rw [hW2.out]; go_simp
      have v4 : W2.cell? ⟨p8, 4, none⟩ = some (.bool false) := by rw [hW2.out]; go_simp
      have vf : ∀ o, W2.frozen? ⟨p8, o, none⟩ = false := fun o => by rw [hW2.out]; go_simp
      have vA : W2.cell? ⟨w1.heap.size, 4, none⟩ = some (.bool sa) := by rw [hW2.out]; go_simp
      have hBW2 : Below w.heap.size w W2 := by rw [hW2.out]; (repeat' (first | (with_reducible exact Below.refl _ _) | (with_reducible assumption) | (with_reducible refine below_drewN ?_ _) | (with_reducible refine Below.drew ?_) | (with_reducible refine below_new ?_ (Nat.le_refl _) _) | (with_reducible refine Below.setCell ?_ ?_ _) | (with_reducible refine below_go ?_ (by assumption) (Nat.le_refl _)) | (simp; done) | (simp; omega) | omega))
      have hp8 : w.heap.size ≤ p8 := by omega
      clear hW2 x0 x1 x2 x3 x4 y0 y1 y2 y3 y4 f7 f8 cA hB7 n7 n8
      go_wp2_with fail
      refine (HRM.out _).mono ?_
      rintro e w4 ⟨rfl, hb4⟩
      go_wp2
      go_ret2
      exact ⟨rfl, by (repeat' (first | (with_reducible exact Below.refl _ _) | (with_reducible assumption) | (with_reducible refine below_drewN ?_ _) | (with_reducible refine Below.drew ?_) | (with_reducible refine below_new ?_ (Nat.le_refl _) _) | (with_reducible refine Below.setCell ?_ ?_ _) | (with_reducible refine below_go ?_ (by assumption) (Nat.le_refl _)) | (simp; done) | (simp; omega) | omega))⟩

end Go.Proofs.Ytcamegfnhbbaeaa

namespace Go.Proofs.Ytcamegfnhbbaeaa
open Go.RowKit
set_option linter.unusedVariables false
set_option linter.unusedSimpArgs false
attribute [local go_sem] ite_max ite_min vite_max vite_min ext_cell ext_frozen extS_cell extS_frozen



theorem neg_quo_of (M c n r : Int) (hc : 0 < c) (hn : M / c = n) (hr : M % c = r) : (r = 0 → (-M) / c = -n) ∧ (r ≠ 0 → (-M) / c = -(n + 1)) := by
  have h := neg_quo M c hc
  rw [hn, hr] at h
  constructor
  · intro h0
    rw [h, if_pos h0]
  · intro h0
    rw [h, if_neg h0]
    omega





end Go.Proofs.Ytcamegfnhbbaeaa
