/- Contracts of layer 10's statements: is it a window? -/
import Derived.Test.YtddakmlnkffgiaaSmR2
namespace Go.Proofs.Ytddakmlnkffgiaa
open Go.RowKit
set_option linter.unusedVariables false
set_option linter.unusedSimpArgs false
attribute [local go_sem] ite_max ite_min vite_max vite_min ext_cell ext_frozen

theorem lawplace_r (n : Int) (r : Bool) (w : World) (h : plB n = r) : Calls Try.prog 46 #[.int .i64 n] w fun e w' => e = .returned (.bool r) ∧ w = w' := by
  rw [← h]
  exact lawplace_any n w

set_option maxHeartbeats 1000000 in
theorem lawright_nil (a : Option Addr) (k : Nat) (w : World) : Calls Try.prog 49 #[.agg #[.slice a 0 k]] w fun e w' => e = .returned (.bool false) ∧ Below w.heap.size w w' := by
  go_enter Try.func49, Try.ntmps49
  go_wp2
  go_ret
  exact ⟨rfl, by (repeat' (first | (with_reducible exact Below.refl _ _) | (with_reducible assumption) | (with_reducible refine below_drewN ?_ _) | (with_reducible refine Below.drew ?_) | (with_reducible refine below_new ?_ (Nat.le_refl _) _) | (with_reducible refine Below.setCell ?_ ?_ _) | (with_reducible refine below_go ?_ (by assumption) (Nat.le_refl _)) | (simp; done) | (simp; omega) | omega))⟩

theorem rightW_long {zs : List Int} {n : Nat} (h : ¬ n ≤ 16) : rightW zs n = false := by
  unfold rightW
  rw [decide_eq_false (fun hh => h hh.2)]
  rfl
theorem rightW_no {zs : List Int} {n : Nat} (i : Nat) (hi : i < n) (h : plB (zs[i]?.getD 0) = false) : rightW zs n = false := by
  cases hr : rightW zs n
  · rfl
  · have := (rightW_yes hr).2.2 i hi
    have h2 : plB (zs[i]?.getD 0) = true := decide_eq_true this
    rw [h] at h2
    cases h2
theorem rightW_of {zs : List Int} {n : Nat} (hn : 1 ≤ n ∧ n ≤ 16) (h : ∀ i, i < n → plB (zs[i]?.getD 0) = true) : rightW zs n = true :=
  rightW_mk hn fun i hi => plB_yes (h i hi)

set_option maxRecDepth 100000 in
set_option maxHeartbeats 2000000 in
theorem lawright_a (zs : List Int) (b off n k : Nat) (r : Bool) (w : World) (h : AtW w zs n b off k) (hr : rightW zs n = r) (hpos : 1 ≤ n) :
    Calls Try.prog 49 #[.agg #[.slice (some ⟨b, off, none⟩) n k]] w fun e w' => e = .returned (.bool r) ∧ Below w.heap.size w w' := by
  have H := Lib.hid h
  have HR := Lib.hid hr
  have hgl := h.gl
  have n1 := h.nk
  have n2 := h.km
  clear h hr
  by_cases h16 : n ≤ 16
  · have hnI : (1 : Int) ≤ (n : Int) ∧ (n : Int) ≤ 16 := by omega
    go_enter Try.func49, Try.ntmps49
    go_wp2_with fail
    go_loopw [3] (fun u w' => ∃ i : Nat, i ≤ n ∧ u = .int .i64 (i : Int) ∧ Hid (∀ j, j < i → plB (zs[j]?.getD 0) = true) ∧ Below w.heap.size w w' ∧ w.heap.size < w'.heap.size ∧
      w'.cell? ⟨w.heap.size, 0, none⟩ = some (.slice (some ⟨b, off, none⟩) n k)) (fun u _ => n - (intOf u).toNat)
    case atStart => exact ⟨0, by omega, rfl, Lib.hid (fun j hj => by omega), by (repeat' (first | (with_reducible exact Below.refl _ _) | (with_reducible assumption) | (with_reducible refine below_drewN ?_ _) | (with_reducible refine Below.drew ?_) | (with_reducible refine below_new ?_ (Nat.le_refl _) _) | (with_reducible refine Below.setCell ?_ ?_ _) | (with_reducible refine below_go ?_ (by assumption) (Nat.le_refl _)) | (simp; done) | (simp; omega) | omega)), by simp, by go_simp⟩
    case round =>
      obtain ⟨i, hi, rfl, HA, hbr, hsz, c1⟩ := hrel
      by_cases hlt : i < n
      · obtain ⟨z, hz⟩ : ∃ z, zs[i]?.getD 0 = z := ⟨_, rfl⟩
        have hcz := (H.out.below hbr).cs i hlt
        rw [hz] at hcz
        have hiI : (0 : Int) ≤ (i : Int) ∧ (i : Int) < (n : Int) := by omega
        have HZ := Lib.hid hz
        clear hz
        cases hp : plB z
        · have HP := Lib.hid hp
          have HF := Lib.hid (rightW_no i hlt (by rw [HZ.out]; exact hp) : rightW zs n = false)
          clear hp
          go_wp2_with fail
          refine (lawplace_r z false _ HP.out).mono ?_
          rintro e w' ⟨rfl, rfl⟩
          go_wp2
          go_ret
          rw [← HR.out, HF.out]
          exact ⟨rfl, by (repeat' (first | (with_reducible exact Below.refl _ _) | (with_reducible assumption) | (with_reducible refine below_drewN ?_ _) | (with_reducible refine Below.drew ?_) | (with_reducible refine below_new ?_ (Nat.le_refl _) _) | (with_reducible refine Below.setCell ?_ ?_ _) | (with_reducible refine below_go ?_ (by assumption) (Nat.le_refl _)) | (simp; done) | (simp; omega) | omega))⟩
        · have HP := Lib.hid hp
          have HN : Hid (∀ j, j < i + 1 → plB (zs[j]?.getD 0) = true) := Lib.hid (fun j hj => by
            by_cases c : j < i
            · exact HA.out j c
            · obtain rfl : j = i := by omega
              rw [HZ.out]
              exact hp)
          clear hp
          go_wp2_with fail
          refine (lawplace_r z true _ HP.out).mono ?_
          rintro e w' ⟨rfl, rfl⟩
          go_wp2
          go_roundw
          case rel => exact ⟨i + 1, by omega, by go_num, HN, by (repeat' (first | (with_reducible exact Below.refl _ _) | (with_reducible assumption) | (with_reducible refine below_drewN ?_ _) | (with_reducible refine Below.drew ?_) | (with_reducible refine below_new ?_ (Nat.le_refl _) _) | (with_reducible refine Below.setCell ?_ ?_ _) | (with_reducible refine below_go ?_ (by assumption) (Nat.le_refl _)) | (simp; done) | (simp; omega) | omega)), hsz, c1⟩
          case measure => simp [intOf]; omega
      · obtain rfl : i = n := by omega
        have HF := Lib.hid (rightW_of ⟨hpos, h16⟩ HA.out)
        go_wp2
        go_ret
        rw [← HR.out, HF.out]
        exact ⟨rfl, by (repeat' (first | (with_reducible exact Below.refl _ _) | (with_reducible assumption) | (with_reducible refine below_drewN ?_ _) | (with_reducible refine Below.drew ?_) | (with_reducible refine below_new ?_ (Nat.le_refl _) _) | (with_reducible refine Below.setCell ?_ ?_ _) | (with_reducible refine below_go ?_ (by assumption) (Nat.le_refl _)) | (simp; done) | (simp; omega) | omega))⟩
  · have HF := Lib.hid (rightW_long (zs := zs) h16)
    have hnI : (1 : Int) ≤ (n : Int) ∧ ¬ (n : Int) ≤ 16 := by omega
    have hnI2 : (16 : Int) < (n : Int) := by omega
    go_enter Try.func49, Try.ntmps49
    go_wp2
    go_ret
    rw [← HR.out, HF.out]
    exact ⟨rfl, by (repeat' (first | (with_reducible exact Below.refl _ _) | (with_reducible assumption) | (with_reducible refine below_drewN ?_ _) | (with_reducible refine Below.drew ?_) | (with_reducible refine below_new ?_ (Nat.le_refl _) _) | (with_reducible refine Below.setCell ?_ ?_ _) | (with_reducible refine below_go ?_ (by assumption) (Nat.le_refl _)) | (simp; done) | (simp; omega) | omega))⟩

end Go.Proofs.Ytddakmlnkffgiaa
