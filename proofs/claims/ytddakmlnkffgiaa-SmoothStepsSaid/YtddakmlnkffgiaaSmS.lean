/- Layer 10: SmoothShifts, the walk. -/
import Derived.Test.YtddakmlnkffgiaaSmR2
import Derived.Test.YtddakmlnkffgiaaWild
namespace Go.Proofs.Ytddakmlnkffgiaa
open Go.RowKit
set_option linter.unusedVariables false
set_option linter.unusedSimpArgs false
attribute [local go_sem] ite_max ite_min vite_max vite_min ext_cell ext_frozen extS_cell extS_frozen

/-- a window of its own -/
def isWin (zs : List Int) (n : Nat) (v : Value) (w : World) : Prop := ∃ g k, v = .agg #[.slice (some ⟨g, 0, none⟩) n k] ∧ OnW w zs n g k
theorem isWin.below {zs : List Int} {n : Nat} {v : Value} {w w' : World} (h : isWin zs n v w) (hb : Below w.heap.size w w') : isWin zs n v w' := by
  obtain ⟨g, k, rfl, o⟩ := h
  exact ⟨g, k, rfl, o.below hb⟩
theorem lawplace_is (n : Int) (r : Bool) (w : World) (h : plB n = r) : Calls Try.prog 46 #[.int .i64 n] w fun e w' => e = .returned (.bool r) ∧ w = w' := by
  rw [← h]
  exact lawplace_any n w
theorem shR_back (zs : List Int) (n : Nat) (d : Int) (hr : rightW zs n = true) : sameK (shR (shW zs n d) n (-d)) zs n = true := by
  have h1 : ∀ i, i < n → (shW (shW zs n d) n (-d))[i]?.getD 0 = zs[i]?.getD 0 := fun i hi => by
    rw [shW_get _ _ _ i hi, shW_get _ _ _ i hi]
    omega
  have h2 : rightW (shW (shW zs n d) n (-d)) n = true := rightW_mk ⟨(rightW_yes hr).1, (rightW_yes hr).2.1⟩ fun i hi => by
    rw [h1 i hi]
    exact (rightW_yes hr).2.2 i hi
  rw [shR_yes h2]
  exact sameK_all h1
theorem sum_push_shift (zs : List Int) (n : Nat) (pos d : Int) (hn : 1 ≤ n) : sumK ((pos + d) :: shW zs n d) n = sumK (pos :: zs) n + (n : Int) * d := by
  refine sumK_shift n fun i hi => ?_
  cases i with
  | zero => simp
  | succ i => simpa using shW_get zs n d i (by omega)

set_option maxRecDepth 100000 in
set_option maxHeartbeats 4000000 in
theorem shifts_yes (zs : List Int) (b off n cap : Nat) (pos d : Int) (w : World) (h : AtW w zs n b off cap) (hd : -2147483648 ≤ d ∧ d ≤ 2147483647) (hr : rightW zs n = true) (hp : plB pos = true) :
    Calls Try.prog 14 #[.agg #[.slice (some ⟨b, off, none⟩) n cap], .int .i64 pos, .int .i32 d] w fun e w' => e = .returned (.bool true) ∧ Below w.heap.size w w' := by
  have H := Lib.hid h
  have HR := Lib.hid hr
  have HP := Lib.hid hp
  have hgl := h.gl
  have hposb := plB_yes hp
  have hnb : 1 ≤ n ∧ n ≤ 16 := ⟨(rightW_yes hr).1, (rightW_yes hr).2.1⟩
  have HF : Hid (farB d = true) := Lib.hid (decide_eq_true (by omega))
  clear h hr hp
  go_enter Try.func14, Try.ntmps14
  go_wp2_with fail
  refine (awake10_at _).mono ?_
  rintro e w1 ⟨rfl, hb1⟩
  obtain ⟨hb1c, hb1f⟩ := bcell hb1
  have hb1z := hb1.size
  have hb1c0 := fun o => hb1c (w.heap.size) o (by first | (simp; done) | (simp; omega) | (simp at *; omega) | omega)
  have hb1f0 := fun o => hb1f (w.heap.size) o (by first | (simp; done) | (simp; omega) | (simp at *; omega) | omega)
  have hb1l0 := below_lt (b := w.heap.size) hb1 (by first | (simp; done) | (simp; omega) | (simp at *; omega) | omega)
  go_wp2_with fail
  refine (sm_right_a zs b off n cap true _ (H.out.below ?bb) HR.out).mono ?_
  case bb => (repeat' (first | (with_reducible exact Below.refl _ _) | (with_reducible assumption) | (with_reducible refine below_drewN ?_ _) | (with_reducible refine Below.drew ?_) | (with_reducible refine below_new ?_ (Nat.le_refl _) _) | (with_reducible refine Below.setCell ?_ ?_ _) | (with_reducible refine below_go ?_ (by assumption) (Nat.le_refl _)) | (simp; done) | (simp; omega) | omega))
  rintro e w2 ⟨rfl, hb2⟩
  obtain ⟨hb2c, hb2f⟩ := bcell hb2
  have hb2z := hb2.size
  have hb2c0 := fun o => hb2c (w.heap.size) o (by first | (simp; done) | (simp; omega) | (simp at *; omega) | omega)
  have hb2f0 := fun o => hb2f (w.heap.size) o (by first | (simp; done) | (simp; omega) | (simp at *; omega) | omega)
  have hb2l0 := below_lt (b := w.heap.size) hb2 (by first | (simp; done) | (simp; omega) | (simp at *; omega) | omega)
  go_wp2_with fail
  refine (lawplace_any pos _).mono ?_
  rw [HP.out]
  rintro e w2' ⟨rfl, rfl⟩
  go_wp2_with fail
  refine (sm_shift_in zs b off n cap d _ (H.out.below ?bb) HR.out HF.out).mono ?_
  case bb => (repeat' (first | (with_reducible exact Below.refl _ _) | (with_reducible assumption) | (with_reducible refine below_drewN ?_ _) | (with_reducible refine Below.drew ?_) | (with_reducible refine below_new ?_ (Nat.le_refl _) _) | (with_reducible refine Below.setCell ?_ ?_ _) | (with_reducible refine below_go ?_ (by assumption) (Nat.le_refl _)) | (simp; done) | (simp; omega) | omega))
  rintro e w4 ⟨g4, k4, rfl, hg4, hb4, HO4⟩
  obtain ⟨hb4c, hb4f⟩ := bcell hb4
  have hb4z := hb4.size
  have hb4c0 := fun o => hb4c (w.heap.size) o (by first | (simp; done) | (simp; omega) | (simp at *; omega) | omega)
  have hb4f0 := fun o => hb4f (w.heap.size) o (by first | (simp; done) | (simp; omega) | (simp at *; omega) | omega)
  have hb4l0 := below_lt (b := w.heap.size) hb4 (by first | (simp; done) | (simp; omega) | (simp at *; omega) | omega)
  have hB4 : Below w.heap.size w w4 := by (repeat' (first | (with_reducible exact Below.refl _ _) | (with_reducible assumption) | (with_reducible refine below_drewN ?_ _) | (with_reducible refine Below.drew ?_) | (with_reducible refine below_new ?_ (Nat.le_refl _) _) | (with_reducible refine Below.setCell ?_ ?_ _) | (with_reducible refine below_go ?_ (by assumption) (Nat.le_refl _)) | (simp; done) | (simp; omega) | omega))
  go_wp2_with fail
  cases hsm : sameK (shR zs n d) zs n
  · have HSM := Lib.hid hsm
    have hq : rightW (shW zs n d) n = true := by
      cases hq : rightW (shW zs n d) n
      · rw [shR_no hq, sameK_all (fun _ _ => rfl)] at hsm
        cases hsm
      · rfl
    have HQ := Lib.hid hq
    rw [shR_yes hq] at HO4 HSM
    clear hsm hq
    refine (lawsame_a (shW zs n d) zs g4 0 b off n k4 cap false _ (HO4.out.toAt.below ?b1) (H.out.below ?b2) HSM.out).mono ?_
    case b1 => (repeat' (first | (with_reducible exact Below.refl _ _) | (with_reducible assumption) | (with_reducible refine below_drewN ?_ _) | (with_reducible refine Below.drew ?_) | (with_reducible refine below_new ?_ (Nat.le_refl _) _) | (with_reducible refine Below.setCell ?_ ?_ _) | (with_reducible refine below_go ?_ (by assumption) (Nat.le_refl _)) | (simp; done) | (simp; omega) | omega))
    case b2 => (repeat' (first | (with_reducible exact Below.refl _ _) | (with_reducible assumption) | (with_reducible refine below_drewN ?_ _) | (with_reducible refine Below.drew ?_) | (with_reducible refine below_new ?_ (Nat.le_refl _) _) | (with_reducible refine Below.setCell ?_ ?_ _) | (with_reducible refine below_go ?_ (by assumption) (Nat.le_refl _)) | (simp; done) | (simp; omega) | omega))
    rintro e w5 ⟨rfl, hb5⟩
    have hz5 : w4.heap.size + 1 ≤ w5.heap.size := by have := hb5.size; simpa using this
    have hz0 : w.heap.size < w4.heap.size := by
      have h1 := hb1.size
      have h2 := hb2.size
      have h4 := hb4.size
      simp at h1
      omega
    have cA : w5.cell? ⟨w4.heap.size, 0, none⟩ = some (.slice (some ⟨g4, 0, none⟩) n k4) := by
      rw [hb5.cell (p := ⟨w4.heap.size, 0, none⟩) (by simp)]
      go_simp
    have c0 : w5.cell? ⟨w.heap.size, 0, none⟩ = some (.slice (some ⟨b, off, none⟩) n cap) := by
      rw [hb5.cell (p := ⟨w.heap.size, 0, none⟩) (by simp; omega)]
      go_simp
    have HO5 : Hid (OnW w5 (shW zs n d) n g4 k4) := Lib.hid (HO4.out.below (by (repeat' (first | (with_reducible exact Below.refl _ _) | (with_reducible assumption) | (with_reducible refine below_drewN ?_ _) | (with_reducible refine Below.drew ?_) | (with_reducible refine below_new ?_ (Nat.le_refl _) _) | (with_reducible refine Below.setCell ?_ ?_ _) | (with_reducible refine below_go ?_ (by assumption) (Nat.le_refl _)) | (simp; done) | (simp; omega) | omega))))
    have H5 : Hid (AtW w5 zs n b off cap) := Lib.hid (H.out.below (by (repeat' (first | (with_reducible exact Below.refl _ _) | (with_reducible assumption) | (with_reducible refine below_drewN ?_ _) | (with_reducible refine Below.drew ?_) | (with_reducible refine below_new ?_ (Nat.le_refl _) _) | (with_reducible refine Below.setCell ?_ ?_ _) | (with_reducible refine below_go ?_ (by assumption) (Nat.le_refl _)) | (simp; done) | (simp; omega) | omega))))
    have hB5 : Below w.heap.size w w5 := by (repeat' (first | (with_reducible exact Below.refl _ _) | (with_reducible assumption) | (with_reducible refine below_drewN ?_ _) | (with_reducible refine Below.drew ?_) | (with_reducible refine below_new ?_ (Nat.le_refl _) _) | (with_reducible refine Below.setCell ?_ ?_ _) | (with_reducible refine below_go ?_ (by assumption) (Nat.le_refl _)) | (simp; done) | (simp; omega) | omega))
    have hl0 : w.heap.size < w5.heap.size := by omega
    have hlA : w4.heap.size < w5.heap.size := by omega
    have hnI : (1 : Int) ≤ (n : Int) ∧ (n : Int) ≤ 16 := by omega
    obtain ⟨vz, hvz⟩ : ∃ vz, (if plB (pos + d) = true then (pos + d) :: shW zs n d else shW zs n d) = vz := ⟨_, rfl⟩
    have HVS := Lib.hid hvz
    clear hb1 hb1c hb1f hb1z hb1c0 hb1f0 hb1l0 hb2 hb2c hb2f hb2z hb2c0 hb2f0 hb2l0 hb4 hb4c hb4f hb4z hb4c0 hb4f0 hb4l0 hb5 HO4 hvz
    go_wp2_with fail
    refine wp_region_wild 11 1000 ([{ i := 2, d := 30, R := isWin (pos :: zs) n, N := newB }, { i := 8, d := 36, R := isWin vz n, N := newB }, { i := 9, d := 8, R := isVar (.cells #[.slice none 0 0] 71), N := newB }, { i := 10, d := 9, R := isVar (.cells #[.slice none 0 0] 71), N := newB }] : List Wd) [false, false, true, false, false, false, false, false, true, true, true] rfl (by kernel_rfl) (by kernel_rfl) (fun _ _ _ _ _ h => h) (by kernel_rfl) ?_ ?_
    · intro x hx v w1 w2 hR hb
      simp only [List.mem_cons, List.not_mem_nil, or_false] at hx
      rcases hx with rfl | rfl | rfl | rfl
      all_goals (dsimp only at hR ⊢; exact hR.below hb)
    apply Exists.intro
    refine ⟨fun S hS hne => ?_, ?_, ?_, ?_⟩
    · simp only [List.take_succ_cons, List.take_zero, List.map_cons, List.map_nil]
      delta CS
      repeat (first | with_reducible refine mask_skip ?_ | ((with_reducible refine mask_keep ?_); go_big_quiet_step (fail)))
      exact mask_nil rfl
    · intro x hx he
      simp only [List.mem_cons, List.not_mem_nil, or_false] at hx
      rcases hx with rfl | rfl | rfl | rfl
      all_goals (dsimp only at he; exact absurd he (by decide))
    · skip
      simp only [List.forall_mem_cons, List.not_mem_nil, false_implies, implies_true, and_true]
      refine ⟨?_, ?_, ?_, ?_⟩
      all_goals
        intro o ho
        simp only [List.getElem?_cons_succ, List.getElem?_cons_zero, Option.some.injEq] at ho
        subst ho
        intro vs w' hbw hdeps
        simp only [putsF, List.foldl_cons, List.foldl_nil]
        refine ⟨by first | rfl | go_simp, ?_⟩
        first | with_reducible refine wild_plain ?_ | with_reducible refine wild_link ?_
        clear hdeps
        go_simp
      · apply wildUpon_enter
        refine (sm_push_a zs b off n cap pos _ (H5.out.below hbw) HR.out HP.out).mono ?_
        rintro e w6 ⟨g', k', rfl, hg, hb, o⟩
        exact ⟨_, rfl, ⟨g', k', rfl, o⟩, hb, by simpa [newB_win] using ⟨hg, o.gl⟩⟩
      · apply wildUpon_enter
        cases hpd : plB (pos + d)
        · have hv := HVS.out
          rw [hpd] at hv
          simp at hv
          subst hv
          refine (sm_push_w_no (shW zs n d) g4 n k4 (pos + d) _ (HO5.out.below hbw) (by omega) (by rw [hpd, Bool.and_false])).mono ?_
          rintro e w6 ⟨g', k', rfl, hg, hb, o⟩
          exact ⟨_, rfl, ⟨g', k', rfl, o⟩, hb, by simpa [newB_win] using ⟨hg, o.gl⟩⟩
        · have hv := HVS.out
          rw [hpd] at hv
          simp at hv
          subst hv
          refine (sm_push_w (shW zs n d) g4 n k4 (pos + d) _ (HO5.out.below hbw) HQ.out hpd).mono ?_
          rintro e w6 ⟨g', k', rfl, hg, hb, o⟩
          exact ⟨_, rfl, ⟨g', k', rfl, o⟩, hb, by simpa [newB_win] using ⟨hg, o.gl⟩⟩
      · exact wild_var
      · exact wild_var
    · skip
      intro vs w' hbw hr hap hlk
      simp only [List.forall_mem_cons, List.not_mem_nil, false_implies, implies_true, and_true] at hr hap
      obtain ⟨⟨hh2, n2⟩, ⟨hh8, n8⟩, ⟨hh9, n9⟩, ⟨hh10, n10⟩⟩ := hr
      obtain ⟨g2, k2, e2, o2⟩ := hh2
      rw [e2] at n2
      obtain ⟨g8, k8, e8, o8⟩ := hh8
      rw [e8] at n8
      obtain ⟨p9, e9, o9⟩ := hh9
      rw [e9] at n9
      obtain ⟨p10, e10, o10⟩ := hh10
      rw [e10] at n10
      clear hlk
      simp only [e2, e8, e9, e10] at hap
      simp only [newB_ptr, newB_row, newB_win, newB_win2, List.mem_cons, forall_eq_or_imp, or_false, List.mem_singleton, forall_eq, List.not_mem_nil, false_implies, implies_true, not_false_eq_true, and_true, true_and] at n2 n8 n9 n10 hap
      simp only [ne_eq, not_true_eq_false, false_implies, true_and, and_true, Nat.reduceEqDiff, not_false_eq_true, forall_const] at hap
      simp only [putsF, List.foldl_cons, List.foldl_nil, e2, e8, e9, e10, List.drop_succ_cons, List.drop_zero]
      clear e2 e8 e9 e10
      have c9 := heap_cell 0 _ o9 rfl
      have c10 := heap_cell 0 _ o10 rfl
      have f9 : w'.frozen? ⟨p9, 0, none⟩ = false := heap_free 0 o9
      have f10 : w'.frozen? ⟨p10, 0, none⟩ = false := heap_free 0 o10
      have cA' := (hbw.cell (p := ⟨w4.heap.size, 0, none⟩) hlA).trans cA
      have c0' := (hbw.cell (p := ⟨w.heap.size, 0, none⟩) hl0).trans c0
      have hw5' := hbw.size
      have hB' : Below w.heap.size w w' := hB5.trans (hbw.mono hB5.size)
      have HA6 : Hid (OnW w' (shW zs n d) n g4 k4) := Lib.hid (HO5.out.below hbw)
      have HS6 : Hid (AtW w' zs n b off cap) := Lib.hid (H5.out.below hbw)
      have hg4l : g4 < w5.heap.size := HO5.out.gl
      have H2 := Lib.hid o2
      have H8 := Lib.hid o8
      obtain ⟨⟨q1, q2, q3⟩, ⟨q4, q5, q6⟩, ⟨q7, q8, q9⟩, q10, q11, q12⟩ := hap
      have hp9A : ¬ w4.heap.size = p9 := by omega
      have hp10A : ¬ w4.heap.size = p10 := by omega
      have hp90 : ¬ w.heap.size = p9 := by omega
      have hp100 : ¬ w.heap.size = p10 := by omega
      clear o9 o10 o2 o8 cA c0 hB5 hbw HO5 H5
      go_wp2_with fail
      refine wp_name fun W2 hW2 => ?_
      have e2 : W2.heap.size = w'.heap.size := by rw [hW2.out]; simp [World.setCell]
      have d9 : W2.cell? ⟨p9, 0, none⟩ = some (.slice (some ⟨g2, 0, none⟩) n k2) := by rw [hW2.out]; go_simp
      have d10 : W2.cell? ⟨p10, 0, none⟩ = some (.slice (some ⟨g8, 0, none⟩) n k8) := by rw [hW2.out]; go_simp
      have dA : W2.cell? ⟨w4.heap.size, 0, none⟩ = some (.slice (some ⟨g4, 0, none⟩) n k4) := by rw [hW2.out]; go_simp
      have d0 : W2.cell? ⟨w.heap.size, 0, none⟩ = some (.slice (some ⟨b, off, none⟩) n cap) := by rw [hW2.out]; go_simp
      have hBW : Below w.heap.size w W2 := by rw [hW2.out]; exact (hB'.setCell (by show w.heap.size ≤ p9; omega) _).setCell (by show w.heap.size ≤ p10; omega) _
      have HU : Hid (OnW W2 (pos :: zs) n g2 k2) := Lib.hid (by rw [hW2.out]; exact (H2.out.store (by show g2 ≠ p9; omega) _).store (by show g2 ≠ p10; omega) _)
      have HV : Hid (OnW W2 vz n g8 k8) := Lib.hid (by rw [hW2.out]; exact (H8.out.store (by show g8 ≠ p9; omega) _).store (by show g8 ≠ p10; omega) _)
      have HT : Hid (OnW W2 (shW zs n d) n g4 k4) := Lib.hid (by rw [hW2.out]; exact (HA6.out.store (by show g4 ≠ p9; omega) _).store (by show g4 ≠ p10; omega) _)
      have HZ : Hid (AtW W2 zs n b off cap) := Lib.hid (by rw [hW2.out]; exact (HS6.out.store (by show b ≠ p9; omega) _).store (by show b ≠ p10; omega) _)
      have hl9 : p9 < W2.heap.size := by omega
      have hl10 : p10 < W2.heap.size := by omega
      have hlA2 : w4.heap.size < W2.heap.size := by omega
      have hl02 : w.heap.size < W2.heap.size := by omega
      clear hW2 H2 H8 HA6 HS6 c9 c10 f9 f10 cA' c0' hB' q1 q2 q3 q4 q5 q6 q7 q8 q9 q10 q11 q12 hp9A hp10A hp90 hp100 hl0 hlA n2 n8 n9 n10 hz5 hz0 hg4l hw5' e2
      obtain ⟨xS, hxS⟩ : ∃ x, sumK zs n = x := ⟨_, rfl⟩
      obtain ⟨xT, hxT⟩ : ∃ x, sumK (shW zs n d) n = x := ⟨_, rfl⟩
      obtain ⟨xU, hxU⟩ : ∃ x, sumK (pos :: zs) n = x := ⟨_, rfl⟩
      obtain ⟨D, hD⟩ : ∃ D, (n : Int) * d = D := ⟨_, rfl⟩
      have hDb := mul_ge16 n d 2147483648 hnb.2 (by omega) (by omega) (by omega)
      rw [hD] at hDb
      have hTS := sumK_shift n (shW_get zs n d)
      rw [hxT, hxS, hD] at hTS
      have hbS := sumK_bd zs n n (rightW_yes HR.out).2.2 (Nat.le_refl _)
      have HRU := Lib.hid (rightW_push zs n pos HR.out HP.out)
      have hbU := sumK_bd _ n n (rightW_yes HRU.out).2.2 (Nat.le_refl _)
      rw [hxS] at hbS
      rw [hxU] at hbU
      have hTS2 : xT - xS = D := by omega
      have hxTb : -70368744177664 ≤ xT ∧ xT ≤ 70368744177664 := by omega
      have hxSb : -35184372088832 ≤ xS ∧ xS ≤ 35184372088832 := by omega
      have hxUb : -35184372088832 ≤ xU ∧ xU ≤ 35184372088832 := by omega
      have hDw : IntKind.i64.wrap D = D := by rw [IntKind.wrap_i64]; omega
      have HXS := Lib.hid hxS
      have HXT := Lib.hid hxT
      have HXU := Lib.hid hxU
      have HBACK := Lib.hid (shR_back zs n d HR.out)
      have HFN : Hid (farB (-d) = true) := Lib.hid (decide_eq_true (by omega))
      have hnw : IntKind.i64.wrap (-d) = -d := by rw [IntKind.wrap_i64]; omega
      clear hTS hbS hbU hxS hxT hxU
      cases hpd : plB (pos + d)
      · have HPD := Lib.hid hpd
        clear hpd HVS
        refine wp_region_wild 37 1000 ([{ i := 35, d := 75, R := isWin (shR (shW zs n d) n (-d)) n, N := newB }] : List Wd) [false, false, false, false, false, false, false, false, false, false, false, false, false, false, false, false, false, false, false, false, false, false, false, false, false, false, false, false, false, false, false, false, false, false, false, true, false] rfl (by kernel_rfl) (by kernel_rfl) (fun _ _ _ _ _ h => h) (by kernel_rfl) ?_ ?_
        · intro x hx v w1 w2 hR hb
          simp only [List.mem_cons, List.not_mem_nil, or_false] at hx
          rcases hx with rfl
          all_goals (dsimp only at hR ⊢; exact hR.below hb)
        apply Exists.intro
        refine ⟨fun S hS hne => ?_, ?_, ?_, ?_⟩
        · simp only [List.take_succ_cons, List.take_zero, List.map_cons, List.map_nil]
          delta CS
          repeat (first | with_reducible refine mask_skip ?_ | ((with_reducible refine mask_keep ?_); go_big_quiet_step (first | (go_at_call 44; (with_reducible refine extS_call hS (sm_out_w (shW zs n d) g4 n k4 xT _ (HT.out.below (extS_below _)) HQ.out HXT.out))) | (go_at_call 44; (with_reducible refine extS_call hS (sm_out_a zs b off n cap xS _ (HZ.out.below (extS_below _)) HR.out HXS.out))) | (go_at_call 46; exact extS_same (lawplace_is (pos + d) false _ HPD.out)))))
          exact mask_nil rfl
        · intro x hx he
          simp only [List.mem_cons, List.not_mem_nil, or_false] at hx
          rcases hx with rfl
          all_goals (dsimp only at he; exact absurd he (by decide))
        · skip
          simp only [List.forall_mem_cons, List.not_mem_nil, false_implies, implies_true, and_true]
          skip
          all_goals
            intro o ho
            simp only [List.getElem?_cons_succ, List.getElem?_cons_zero, Option.some.injEq] at ho
            subst ho
            intro vs w' hbw hdeps
            simp only [putsF, List.foldl_cons, List.foldl_nil]
            refine ⟨by first | rfl | go_simp, ?_⟩
            first | with_reducible refine wild_plain ?_ | with_reducible refine wild_link ?_
            clear hdeps
            go_simp
          apply wildUpon_enter
          refine (sm_shift_in (shW zs n d) g4 0 n k4 (-d) _ (HT.out.toAt.below hbw) HQ.out HFN.out).mono ?_
          rintro e w6 ⟨g', k', rfl, hg, hb, o⟩
          exact ⟨_, rfl, ⟨g', k', rfl, o.out⟩, hb, by simpa [newB_win] using ⟨hg, o.out.gl⟩⟩
        · skip
          intro vs w' hbw hr hap hlk
          simp only [List.forall_mem_cons, List.not_mem_nil, false_implies, implies_true, and_true] at hr hap
          obtain ⟨hh35, n35⟩ := hr
          obtain ⟨g3, k3, e35, o3⟩ := hh35
          rw [e35] at n35
          clear hlk
          simp only [newB_ptr, newB_row, newB_win, newB_win2, List.mem_cons, forall_eq_or_imp, or_false, List.mem_singleton, forall_eq, List.not_mem_nil, false_implies, implies_true, not_false_eq_true, and_true, true_and] at n35
          simp only [putsF, List.foldl_cons, List.foldl_nil, e35, List.drop_succ_cons, List.drop_zero]
          clear e35
          go_wp2_with fail
          refine (lawsame_a (shR (shW zs n d) n (-d)) zs g3 0 b off n k3 cap true _ o3.toAt (HZ.out.below hbw) HBACK.out).mono ?_
          rintro e w7 ⟨rfl, hb7⟩
          go_wp2
          go_ret
          exact ⟨rfl, (hBW.trans (hbw.mono hBW.size)).trans (hb7.mono (Nat.le_trans hBW.size hbw.size))⟩
      · have hv := HVS.out
        rw [hpd] at hv
        simp at hv
        subst hv
        have HRV := Lib.hid (rightW_push (shW zs n d) n (pos + d) HQ.out hpd)
        obtain ⟨xV, hxV⟩ : ∃ x, sumK ((pos + d) :: shW zs n d) n = x := ⟨_, rfl⟩
        have hVU := sum_push_shift zs n pos d hnb.1
        rw [hxV, HXU.out, hD] at hVU
        have hVU2 : xV - xU = D := by omega
        have hxVb : -70368744177664 ≤ xV ∧ xV ≤ 70368744177664 := by omega
        have HXV := Lib.hid hxV
        have HPD := Lib.hid hpd
        clear hpd HVS hVU hxV
        refine wp_region_wild 37 1000 ([{ i := 35, d := 75, R := isWin (shR (shW zs n d) n (-d)) n, N := newB }] : List Wd) [false, false, false, false, false, false, false, false, false, false, false, false, false, false, false, false, false, false, false, false, false, false, false, false, false, false, false, false, false, false, false, false, false, false, false, true, false] rfl (by kernel_rfl) (by kernel_rfl) (fun _ _ _ _ _ h => h) (by kernel_rfl) ?_ ?_
        · intro x hx v w1 w2 hR hb
          simp only [List.mem_cons, List.not_mem_nil, or_false] at hx
          rcases hx with rfl
          all_goals (dsimp only at hR ⊢; exact hR.below hb)
        apply Exists.intro
        refine ⟨fun S hS hne => ?_, ?_, ?_, ?_⟩
        · simp only [List.take_succ_cons, List.take_zero, List.map_cons, List.map_nil]
          delta CS
          repeat (first | with_reducible refine mask_skip ?_ | ((with_reducible refine mask_keep ?_); go_big_quiet_step (first | (go_at_call 44; (with_reducible refine extS_call hS (sm_out_w ((pos + d) :: shW zs n d) g8 n k8 xV _ (HV.out.below (extS_below _)) HRV.out HXV.out))) | (go_at_call 44; (with_reducible refine extS_call hS (sm_out_w (pos :: zs) g2 n k2 xU _ (HU.out.below (extS_below _)) HRU.out HXU.out))) | (go_at_call 44; (with_reducible refine extS_call hS (sm_out_w (shW zs n d) g4 n k4 xT _ (HT.out.below (extS_below _)) HQ.out HXT.out))) | (go_at_call 44; (with_reducible refine extS_call hS (sm_out_a zs b off n cap xS _ (HZ.out.below (extS_below _)) HR.out HXS.out))) | (go_at_call 46; exact extS_same (lawplace_is (pos + d) true _ HPD.out)))))
          exact mask_nil rfl
        · intro x hx he
          simp only [List.mem_cons, List.not_mem_nil, or_false] at hx
          rcases hx with rfl
          all_goals (dsimp only at he; exact absurd he (by decide))
        · skip
          simp only [List.forall_mem_cons, List.not_mem_nil, false_implies, implies_true, and_true]
          skip
          all_goals
            intro o ho
            simp only [List.getElem?_cons_succ, List.getElem?_cons_zero, Option.some.injEq] at ho
            subst ho
            intro vs w' hbw hdeps
            simp only [putsF, List.foldl_cons, List.foldl_nil]
            refine ⟨by first | rfl | go_simp, ?_⟩
            first | with_reducible refine wild_plain ?_ | with_reducible refine wild_link ?_
            clear hdeps
            go_simp
          apply wildUpon_enter
          refine (sm_shift_in (shW zs n d) g4 0 n k4 (-d) _ (HT.out.toAt.below hbw) HQ.out HFN.out).mono ?_
          rintro e w6 ⟨g', k', rfl, hg, hb, o⟩
          exact ⟨_, rfl, ⟨g', k', rfl, o.out⟩, hb, by simpa [newB_win] using ⟨hg, o.out.gl⟩⟩
        · skip
          intro vs w' hbw hr hap hlk
          simp only [List.forall_mem_cons, List.not_mem_nil, false_implies, implies_true, and_true] at hr hap
          obtain ⟨hh35, n35⟩ := hr
          obtain ⟨g3, k3, e35, o3⟩ := hh35
          rw [e35] at n35
          clear hlk
          simp only [newB_ptr, newB_row, newB_win, newB_win2, List.mem_cons, forall_eq_or_imp, or_false, List.mem_singleton, forall_eq, List.not_mem_nil, false_implies, implies_true, not_false_eq_true, and_true, true_and] at n35
          simp only [putsF, List.foldl_cons, List.foldl_nil, e35, List.drop_succ_cons, List.drop_zero]
          clear e35
          go_wp2_with fail
          refine (lawsame_a (shR (shW zs n d) n (-d)) zs g3 0 b off n k3 cap true _ o3.toAt (HZ.out.below hbw) HBACK.out).mono ?_
          rintro e w7 ⟨rfl, hb7⟩
          go_wp2
          go_ret
          exact ⟨rfl, (hBW.trans (hbw.mono hBW.size)).trans (hb7.mono (Nat.le_trans hBW.size hbw.size))⟩
  · have HSM := Lib.hid hsm
    clear hsm
    refine (lawsame_a (shR zs n d) zs g4 0 b off n k4 cap true _ (HO4.out.toAt.below ?b1) (H.out.below ?b2) HSM.out).mono ?_
    case b1 => (repeat' (first | (with_reducible exact Below.refl _ _) | (with_reducible assumption) | (with_reducible refine below_drewN ?_ _) | (with_reducible refine Below.drew ?_) | (with_reducible refine below_new ?_ (Nat.le_refl _) _) | (with_reducible refine Below.setCell ?_ ?_ _) | (with_reducible refine below_go ?_ (by assumption) (Nat.le_refl _)) | (simp; done) | (simp; omega) | omega))
    case b2 => (repeat' (first | (with_reducible exact Below.refl _ _) | (with_reducible assumption) | (with_reducible refine below_drewN ?_ _) | (with_reducible refine Below.drew ?_) | (with_reducible refine below_new ?_ (Nat.le_refl _) _) | (with_reducible refine Below.setCell ?_ ?_ _) | (with_reducible refine below_go ?_ (by assumption) (Nat.le_refl _)) | (simp; done) | (simp; omega) | omega))
    rintro e w5 ⟨rfl, hb5⟩
    go_wp2
    go_ret
    exact ⟨rfl, by (repeat' (first | (with_reducible exact Below.refl _ _) | (with_reducible assumption) | (with_reducible refine below_drewN ?_ _) | (with_reducible refine Below.drew ?_) | (with_reducible refine below_new ?_ (Nat.le_refl _) _) | (with_reducible refine Below.setCell ?_ ?_ _) | (with_reducible refine below_go ?_ (by assumption) (Nat.le_refl _)) | (simp; done) | (simp; omega) | omega))⟩

end Go.Proofs.Ytddakmlnkffgiaa
