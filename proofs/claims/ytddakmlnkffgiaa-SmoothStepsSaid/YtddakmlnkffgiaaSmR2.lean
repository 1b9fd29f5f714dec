/- Contracts of layer 10's statements: are two windows the same, wherever they lie? -/
import Derived.Test.YtddakmlnkffgiaaSmR
namespace Go.Proofs.Ytddakmlnkffgiaa
open Go.RowKit
set_option linter.unusedVariables false
set_option linter.unusedSimpArgs false
attribute [local go_sem] ite_max ite_min vite_max vite_min ext_cell ext_frozen

set_option maxRecDepth 100000 in
set_option maxHeartbeats 2000000 in
theorem lawsame_a (zs ys : List Int) (g og h oh n k l : Nat) (r : Bool) (w : World) (o1 : AtW w zs n g og k) (o2 : AtW w ys n h oh l) (hr : sameK zs ys n = r) :
    Calls Try.prog 48 #[.agg #[.slice (some ⟨g, og, none⟩) n k], .agg #[.slice (some ⟨h, oh, none⟩) n l]] w fun e w' => e = .returned (.bool r) ∧ Below w.heap.size w w' := by
  have HR := Lib.hid hr
  have HO1 := Lib.hid o1
  have HO2 := Lib.hid o2
  have n1 := o1.nk
  have n2 := o1.km
  have n3 := o2.nk
  have n4 := o2.km
  clear hr o1 o2
  go_enter Try.func48, Try.ntmps48
  go_wp2_with fail
  go_loopw [5] (fun u w' => ∃ i : Nat, i ≤ n ∧ Hid (sameK zs ys i = true) ∧ u = .int .i64 (i : Int) ∧ Below w.heap.size w w' ∧ w.heap.size + 1 < w'.heap.size ∧
    w'.cell? ⟨w.heap.size, 0, none⟩ = some (.slice (some ⟨g, og, none⟩) n k) ∧ w'.cell? ⟨w.heap.size + 1, 0, none⟩ = some (.slice (some ⟨h, oh, none⟩) n l)) (fun u _ => n - (intOf u).toNat)
  case atStart =>
    refine ⟨0, by omega, Lib.hid rfl, rfl, by (repeat' (first | (with_reducible exact Below.refl _ _) | (with_reducible assumption) | (with_reducible refine below_drewN ?_ _) | (with_reducible refine Below.drew ?_) | (with_reducible refine below_new ?_ (Nat.le_refl _) _) | (with_reducible refine Below.setCell ?_ ?_ _) | (with_reducible refine below_go ?_ (by assumption) (Nat.le_refl _)) | (simp; done) | (simp; omega) | omega)), by simp, by go_simp, by go_simp⟩
  case round =>
    obtain ⟨i, hi, HI, rfl, hbr, hsz, c1, c2⟩ := hrel
    by_cases hlt : i < n
    · obtain ⟨z, hz⟩ : ∃ z, zs[i]?.getD 0 = z := ⟨_, rfl⟩
      obtain ⟨y, hy⟩ : ∃ y, ys[i]?.getD 0 = y := ⟨_, rfl⟩
      have hc1 : wr.cell? ⟨g, og + i, none⟩ = some (.int .i64 z) := by rw [hbr.cell (p := ⟨g, og + i, none⟩) HO1.out.gl, HO1.out.cs i hlt, hz]
      have hc2 : wr.cell? ⟨h, oh + i, none⟩ = some (.int .i64 y) := by rw [hbr.cell (p := ⟨h, oh + i, none⟩) HO2.out.gl, HO2.out.cs i hlt, hy]
      have hi0 : (0 : Int) ≤ (i : Int) := by omega
      have hin : (i : Int) < (n : Int) := by omega
      have hs : sameK zs ys (i + 1) = !(z != y) := by
        show (sameK zs ys i && !(zs[i]?.getD 0 != ys[i]?.getD 0)) = _
        rw [HI.out, hz, hy]
        rfl
      cases hq : (z != y)
      · rw [hq] at hs
        have HS := Lib.hid hs
        clear hs hz hy
        go_wp2_with fail
        go_region
        all_goals go_wp2
        all_goals go_roundw
        case rel => exact ⟨i + 1, by omega, HS, by go_num, hbr.drew, hsz, c1, c2⟩
        case measure => simp [intOf]; omega
      · rw [hq] at hs
        have HS := Lib.hid (sameK_mono zs ys (i + 1) n (by omega) hs)
        clear hs hz hy
        go_wp2_with fail
        go_region
        all_goals go_wp2
        all_goals go_ret
        all_goals (rw [← HR.out, HS.out]; exact ⟨rfl, by (repeat' (first | (with_reducible exact Below.refl _ _) | (with_reducible assumption) | (with_reducible refine below_drewN ?_ _) | (with_reducible refine Below.drew ?_) | (with_reducible refine below_new ?_ (Nat.le_refl _) _) | (with_reducible refine Below.setCell ?_ ?_ _) | (with_reducible refine below_go ?_ (by assumption) (Nat.le_refl _)) | (simp; done) | (simp; omega) | omega))⟩)
    · obtain rfl : i = n := by omega
      go_wp2
      go_ret
      rw [← HR.out, HI.out]
      exact ⟨rfl, by (repeat' (first | (with_reducible exact Below.refl _ _) | (with_reducible assumption) | (with_reducible refine below_drewN ?_ _) | (with_reducible refine Below.drew ?_) | (with_reducible refine below_new ?_ (Nat.le_refl _) _) | (with_reducible refine Below.setCell ?_ ?_ _) | (with_reducible refine below_go ?_ (by assumption) (Nat.le_refl _)) | (simp; done) | (simp; omega) | omega))⟩

/-- the same on all the first n -/
theorem sameK_all {zs ys : List Int} {n : Nat} (h : ∀ i, i < n → zs[i]?.getD 0 = ys[i]?.getD 0) : sameK zs ys n = true := by
  induction n with
  | zero => rfl
  | succ n ih =>
    show (sameK zs ys n && !(zs[n]?.getD 0 != ys[n]?.getD 0)) = true
    rw [ih (fun i hi => h i (by omega)), h n (by omega)]
    simp
theorem sameK_get {zs ys : List Int} {n : Nat} (h : sameK zs ys n = true) (i : Nat) (hi : i < n) : zs[i]?.getD 0 = ys[i]?.getD 0 := by
  induction n with
  | zero => omega
  | succ n ih =>
    have h' : (sameK zs ys n && !(zs[n]?.getD 0 != ys[n]?.getD 0)) = true := h
    simp only [Bool.and_eq_true, Bool.not_eq_true', bne_eq_false_iff_eq] at h'
    by_cases c : i = n
    · subst c
      exact h'.2
    · exact ih h'.1 (by omega)
theorem sumK_shift {zs ys : List Int} {d : Int} (n : Nat) (h : ∀ i, i < n → ys[i]?.getD 0 = zs[i]?.getD 0 + d) : sumK ys n = sumK zs n + (n : Int) * d := by
  induction n with
  | zero => simp [sumK]
  | succ n ih =>
    have e : ((n + 1 : Nat) : Int) = (n : Int) + 1 := by omega
    show sumK ys n + ys[n]?.getD 0 = sumK zs n + zs[n]?.getD 0 + _
    rw [ih (fun i hi => h i (by omega)), h n (by omega), e, Int.add_mul, Int.one_mul]
    omega

end Go.Proofs.Ytddakmlnkffgiaa
