/- Contracts of layer 10's statements: are two windows the same? -/
import Derived.Test.YtddakmlnkffgiaaSmG
namespace Go.Proofs.Ytddakmlnkffgiaa
open Go.RowKit
set_option linter.unusedVariables false
set_option linter.unusedSimpArgs false
attribute [local go_sem] ite_max ite_min vite_max vite_min ext_cell ext_frozen

/-- are the first k numbers the same? -/
def sameK (zs ys : List Int) : Nat → Bool
  | 0 => true
  | k + 1 => sameK zs ys k && !(zs[k]?.getD 0 != ys[k]?.getD 0)
theorem sameK_mono (zs ys : List Int) (k m : Nat) (h : k ≤ m) (hk : sameK zs ys k = false) : sameK zs ys m = false := by
  induction m with
  | zero =>
    obtain rfl : k = 0 := by omega
    exact hk
  | succ m ih =>
    by_cases c : k = m + 1
    · subst c
      exact hk
    · show (sameK zs ys m && _) = false
      rw [ih (by omega)]
      rfl

set_option maxRecDepth 100000 in
set_option maxHeartbeats 2000000 in
theorem lawsame_at (zs ys : List Int) (g h n k l : Nat) (r : Bool) (w : World) (o1 : OnW w zs n g k) (o2 : OnW w ys n h l) (hr : sameK zs ys n = r) :
    Calls Try.prog 48 #[.agg #[.slice (some ⟨g, 0, none⟩) n k], .agg #[.slice (some ⟨h, 0, none⟩) n l]] w fun e w' => e = .returned (.bool r) ∧ Below w.heap.size w w' := by
  have HR := Lib.hid hr
  have HO1 := Lib.hid o1
  have HO2 := Lib.hid o2
  have n1 := o1.nk
  have n2 := o1.km
  have n3 := o2.nk
  have n4 := o2.km
  clear hr o1 o2
  go_enter Try.func48, Try.ntmps48
  go_wp2_with fail
  go_loopw [5] (fun u w' => ∃ i : Nat, i ≤ n ∧ Hid (sameK zs ys i = true) ∧ u = .int .i64 (i : Int) ∧ Below w.heap.size w w' ∧ w.heap.size + 1 < w'.heap.size ∧
    w'.cell? ⟨w.heap.size, 0, none⟩ = some (.slice (some ⟨g, 0, none⟩) n k) ∧ w'.cell? ⟨w.heap.size + 1, 0, none⟩ = some (.slice (some ⟨h, 0, none⟩) n l)) (fun u _ => n - (intOf u).toNat)
  case atStart =>
    refine ⟨0, by omega, Lib.hid rfl, rfl, by (repeat' (first | (with_reducible exact Below.refl _ _) | (with_reducible assumption) | (with_reducible refine below_drewN ?_ _) | (with_reducible refine Below.drew ?_) | (with_reducible refine below_new ?_ (Nat.le_refl _) _) | (with_reducible refine Below.setCell ?_ ?_ _) | (with_reducible refine below_go ?_ (by assumption) (Nat.le_refl _)) | (simp; done) | (simp; omega) | omega)), by simp, by go_simp, by go_simp⟩
  case round =>
    obtain ⟨i, hi, HI, rfl, hbr, hsz, c1, c2⟩ := hrel
    by_cases hlt : i < n
    · obtain ⟨z, hz⟩ : ∃ z, zs[i]?.getD 0 = z := ⟨_, rfl⟩
      obtain ⟨y, hy⟩ : ∃ y, ys[i]?.getD 0 = y := ⟨_, rfl⟩
      have hc1 : wr.cell? ⟨g, i, none⟩ = some (.int .i64 z) := by rw [hbr.cell (p := ⟨g, i, none⟩) HO1.out.gl, HO1.out.cs i hlt, hz]
      have hc2 : wr.cell? ⟨h, i, none⟩ = some (.int .i64 y) := by rw [hbr.cell (p := ⟨h, i, none⟩) HO2.out.gl, HO2.out.cs i hlt, hy]
      have hi0 : (0 : Int) ≤ (i : Int) := by omega
      have hin : (i : Int) < (n : Int) := by omega
      have hs : sameK zs ys (i + 1) = !(z != y) := by
        show (sameK zs ys i && !(zs[i]?.getD 0 != ys[i]?.getD 0)) = _
        rw [HI.out, hz, hy]
        rfl
      cases hq : (z != y)
      · rw [hq] at hs
        have HS := Lib.hid hs
        clear hs hz hy
        go_wp2_with fail
        go_region
        all_goals go_wp2
        all_goals go_roundw
        case rel => exact ⟨i + 1, by omega, HS, by go_num, hbr.drew, hsz, c1, c2⟩
        case measure => simp [intOf]; omega
      · rw [hq] at hs
        have HS := Lib.hid (sameK_mono zs ys (i + 1) n (by omega) hs)
        clear hs hz hy
        go_wp2_with fail
        go_region
        all_goals go_wp2
        all_goals go_ret
        all_goals (rw [← HR.out, HS.out]; exact ⟨rfl, by (repeat' (first | (with_reducible exact Below.refl _ _) | (with_reducible assumption) | (with_reducible refine below_drewN ?_ _) | (with_reducible refine Below.drew ?_) | (with_reducible refine below_new ?_ (Nat.le_refl _) _) | (with_reducible refine Below.setCell ?_ ?_ _) | (with_reducible refine below_go ?_ (by assumption) (Nat.le_refl _)) | (simp; done) | (simp; omega) | omega))⟩)
    · obtain rfl : i = n := by omega
      go_wp2
      go_ret
      rw [← HR.out, HI.out]
      exact ⟨rfl, by (repeat' (first | (with_reducible exact Below.refl _ _) | (with_reducible assumption) | (with_reducible refine below_drewN ?_ _) | (with_reducible refine Below.drew ?_) | (with_reducible refine below_new ?_ (Nat.le_refl _) _) | (with_reducible refine Below.setCell ?_ ?_ _) | (with_reducible refine below_go ?_ (by assumption) (Nat.le_refl _)) | (simp; done) | (simp; omega) | omega))⟩

end Go.Proofs.Ytddakmlnkffgiaa
