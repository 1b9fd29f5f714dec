/- Merged: The plain table of an axis' states. No program in sight. Contracts of layer 11: what leads from one state to another. Contracts of layer 11, for all states and all that happens; the reference's table. -/
import Derived.Test.YthhfnageadckkaaGreatM01
set_option linter.unusedVariables false
set_option linter.unusedSimpArgs false
set_option maxHeartbeats 4000000
namespace Go.Proofs.YthhfnageadckkaaGreat

def stT : Int → Int → Int
 | 0, 1 => 1 | 0, 11 => 7
 | 1, 2 => 0 | 1, 3 => 2 | 1, 5 => 4 | 1, 6 => 5 | 1, 7 => 6 | 1, 8 => 3 | 1, 11 => 7
 | 2, 2 => 0 | 2, 4 => 1 | 2, 8 => 3 | 2, 11 => 7
 | 3, 2 => 0 | 3, 9 => 1 | 3, 11 => 7
 | 4, 2 => 0 | 4, 5 => 4 | 4, 6 => 5 | 4, 7 => 6 | 4, 8 => 3 | 4, 10 => 1 | 4, 11 => 7
 | 5, 2 => 0 | 5, 5 => 4 | 5, 6 => 5 | 5, 7 => 6 | 5, 8 => 3 | 5, 10 => 1 | 5, 11 => 7
 | 6, 2 => 0 | 6, 5 => 4 | 6, 6 => 5 | 6, 7 => 6 | 6, 8 => 3 | 6, 10 => 1 | 6, 11 => 7
 | 7, 2 => 0 | 7, 11 => 7 | 7, 12 => 1
 | _, _ => 9
def stIn (s e : Int) : Bool := decide (0 ≤ s) && decide (s ≤ 7) && decide (1 ≤ e) && decide (e ≤ 12)
def stV (s e : Int) : Int := if stIn s e then (if stT s e = 9 then s else stT s e) else s
def stB (s e : Int) : Bool := stIn s e && (stT s e != 9)

theorem stIn_no (s e : Int) (h : s < 0 ∨ 7 < s ∨ e < 1 ∨ 12 < e) : stIn s e = false := by
 cases h' : stIn s e
 ·rfl
 ·simp only [stIn, Bool.and_eq_true, decide_eq_true_eq] at h'; omega
theorem stV_no (s e : Int) (h : s < 0 ∨ 7 < s ∨ e < 1 ∨ 12 < e) : stV s e = s := by simp [stV, stIn_no s e h]
theorem stB_no (s e : Int) (h : s < 0 ∨ 7 < s ∨ e < 1 ∨ 12 < e) : stB s e = false := by simp [stB, stIn_no s e h]

def movesB (s : Int) : Bool := (s == 2) || (s == 4) || (s == 5) || (s == 6)
def takesB (s : Int) : Bool := (s == 1) || (s == 4) || (s == 5) || (s == 6)

theorem st_all (P : Int → Int → Prop) (h : ∀ (s e : Nat), s ≤ 7 → 1 ≤ e → e ≤ 12 → P s e) (s e : Int) (hs : 0 ≤ s ∧ s ≤ 7) (he : 1 ≤ e ∧ e ≤ 12) : P s e := by
 have := h s.toNat e.toNat (by omega) (by omega) (by omega)
 rwa [Int.toNat_of_nonneg hs.1, Int.toNat_of_nonneg (by omega)] at this

end Go.Proofs.YthhfnageadckkaaGreat

namespace Go.Proofs.YthhfnageadckkaaGreat
open Go.RowKit

theorem known_yes (s : Int) (w : World) (h : 0 ≤ s ∧ s ≤ 7) : Calls Tryz.prog 35 #[.int .i64 s] w fun e w' => e = .returned (.bool true) ∧ w = w' := by
 go_enter Tryz.func35, Tryz.ntmps35
 go_wp2
 go_ret
 exact ⟨rfl, rfl⟩
theorem known_no (s : Int) (w : World) (h : s < 0 ∨ 7 < s) : Calls Tryz.prog 35 #[.int .i64 s] w fun e w' => e = .returned (.bool false) ∧ w = w' := by
 rcases h with h | h
 ·go_enter Tryz.func35, Tryz.ntmps35
  go_wp2
  go_ret
  exact ⟨rfl, rfl⟩
 ·have h0 : 0 ≤ s := by omega
  have hd : decide (s ≤ 7) = false := by simp; omega
  go_enter Tryz.func35, Tryz.ntmps35
  go_wp2
  go_ret
  exact ⟨rfl, rfl⟩

theorem moves_any (s : Int) (w : World) : Calls Tryz.prog 75 #[.int .i64 s] w fun e w' => e = .returned (.bool (movesB s)) ∧ w = w' := by
 by_cases h2 : s = 2
 ·subst h2
  go_enter Tryz.func75, Tryz.ntmps75
  go_wp2
  go_ret
  exact ⟨rfl, rfl⟩
 by_cases h4 : s = 4
 ·subst h4
  go_enter Tryz.func75, Tryz.ntmps75
  go_wp2
  go_ret
  exact ⟨rfl, rfl⟩
 by_cases h5 : s = 5
 ·subst h5
  go_enter Tryz.func75, Tryz.ntmps75
  go_wp2
  go_ret
  exact ⟨rfl, rfl⟩
 by_cases h6 : s = 6
 ·subst h6
  go_enter Tryz.func75, Tryz.ntmps75
  go_wp2
  go_ret
  exact ⟨rfl, rfl⟩
 have e2 : (s == 2) = false := by simpa using h2
 have e4 : (s == 4) = false := by simpa using h4
 have e5 : (s == 5) = false := by simpa using h5
 have e6 : (s == 6) = false := by simpa using h6
 have hm : movesB s = false := by simp [movesB, e2, e4, e5, e6]
 have HM := Lib.hid hm
 clear hm h2 h4 h5 h6
 go_enter Tryz.func75, Tryz.ntmps75
 go_wp2
 go_ret
 rw [HM.out]
 exact ⟨rfl, rfl⟩

theorem takes_any (s : Int) (w : World) : Calls Tryz.prog 36 #[.int .i64 s] w fun e w' => e = .returned (.bool (takesB s)) ∧ w = w' := by
 by_cases h1 : s = 1
 ·subst h1
  go_enter Tryz.func36, Tryz.ntmps36
  go_wp2_with (first | (go_at_call 75; refine (moves_any _ _).mono ?_; rintro e w' ⟨rfl, rfl⟩))
  go_ret
  exact ⟨rfl, rfl⟩
 by_cases h2 : s = 2
 ·subst h2
  have hm : movesB 2 = true := rfl
  have HM := Lib.hid hm
  clear hm
  go_enter Tryz.func36, Tryz.ntmps36
  go_wp2_with (first | (go_at_call 75; refine (moves_any _ _).mono ?_; rw [HM.out]; rintro e w' ⟨rfl, rfl⟩))
  go_ret
  exact ⟨rfl, rfl⟩
 have e1 : (s == 1) = false := by simpa using h1
 have e2 : (s == 2) = false := by simpa using h2
 have e3 : (s != 2) = true := by simpa using h2
 have ht : takesB s = movesB s := by simp [takesB, movesB, e1, e2]
 have HT := Lib.hid ht
 clear ht h1 h2
 cases hm : movesB s
 all_goals
  have HM := Lib.hid hm
  clear hm
  go_enter Tryz.func36, Tryz.ntmps36
  go_wp2_with (first | (go_at_call 75; refine (moves_any _ _).mono ?_; rw [HM.out]; rintro e w' ⟨rfl, rfl⟩))
  go_ret
  rw [HT.out, HM.out]
  exact ⟨rfl, rfl⟩

theorem next_0 (e : Nat) (w : World) (h1 : 1 ≤ e) (h2 : e ≤ 12) : Calls Tryz.prog 13 #[.int .i64 0, .int .i64 e] w fun e' w' => e' = .returned (.tuple #[.int .i64 (stV 0 e), .bool (stB 0 e)]) ∧ w = w' := by
 have h : e = 1 ∨ e = 2 ∨ e = 3 ∨ e = 4 ∨ e = 5 ∨ e = 6 ∨ e = 7 ∨ e = 8 ∨ e = 9 ∨ e = 10 ∨ e = 11 ∨ e = 12 := by omega
 rcases h with rfl | rfl | rfl | rfl | rfl | rfl | rfl | rfl | rfl | rfl | rfl | rfl
 all_goals
  clear h1 h2
  go_enter Tryz.func13, Tryz.ntmps13
  go_wp2_with (first | (go_at_call 35; refine (known_yes _ _ (by omega)).mono ?_; rintro e w' ⟨rfl, rfl⟩) | (go_at_call 36; refine (takes_any _ _).mono ?_; rintro e w' ⟨rfl, rfl⟩))
  go_ret2
  exact ⟨rfl, rfl⟩
theorem next_1 (e : Nat) (w : World) (h1 : 1 ≤ e) (h2 : e ≤ 12) : Calls Tryz.prog 13 #[.int .i64 1, .int .i64 e] w fun e' w' => e' = .returned (.tuple #[.int .i64 (stV 1 e), .bool (stB 1 e)]) ∧ w = w' := by
 have h : e = 1 ∨ e = 2 ∨ e = 3 ∨ e = 4 ∨ e = 5 ∨ e = 6 ∨ e = 7 ∨ e = 8 ∨ e = 9 ∨ e = 10 ∨ e = 11 ∨ e = 12 := by omega
 rcases h with rfl | rfl | rfl | rfl | rfl | rfl | rfl | rfl | rfl | rfl | rfl | rfl
 all_goals
  clear h1 h2
  go_enter Tryz.func13, Tryz.ntmps13
  go_wp2_with (first | (go_at_call 35; refine (known_yes _ _ (by omega)).mono ?_; rintro e w' ⟨rfl, rfl⟩) | (go_at_call 36; refine (takes_any _ _).mono ?_; rintro e w' ⟨rfl, rfl⟩))
  go_ret2
  exact ⟨rfl, rfl⟩
theorem next_2 (e : Nat) (w : World) (h1 : 1 ≤ e) (h2 : e ≤ 12) : Calls Tryz.prog 13 #[.int .i64 2, .int .i64 e] w fun e' w' => e' = .returned (.tuple #[.int .i64 (stV 2 e), .bool (stB 2 e)]) ∧ w = w' := by
 have h : e = 1 ∨ e = 2 ∨ e = 3 ∨ e = 4 ∨ e = 5 ∨ e = 6 ∨ e = 7 ∨ e = 8 ∨ e = 9 ∨ e = 10 ∨ e = 11 ∨ e = 12 := by omega
 rcases h with rfl | rfl | rfl | rfl | rfl | rfl | rfl | rfl | rfl | rfl | rfl | rfl
 all_goals
  clear h1 h2
  go_enter Tryz.func13, Tryz.ntmps13
  go_wp2_with (first | (go_at_call 35; refine (known_yes _ _ (by omega)).mono ?_; rintro e w' ⟨rfl, rfl⟩) | (go_at_call 36; refine (takes_any _ _).mono ?_; rintro e w' ⟨rfl, rfl⟩))
  go_ret2
  exact ⟨rfl, rfl⟩
theorem next_3 (e : Nat) (w : World) (h1 : 1 ≤ e) (h2 : e ≤ 12) : Calls Tryz.prog 13 #[.int .i64 3, .int .i64 e] w fun e' w' => e' = .returned (.tuple #[.int .i64 (stV 3 e), .bool (stB 3 e)]) ∧ w = w' := by
 have h : e = 1 ∨ e = 2 ∨ e = 3 ∨ e = 4 ∨ e = 5 ∨ e = 6 ∨ e = 7 ∨ e = 8 ∨ e = 9 ∨ e = 10 ∨ e = 11 ∨ e = 12 := by omega
 rcases h with rfl | rfl | rfl | rfl | rfl | rfl | rfl | rfl | rfl | rfl | rfl | rfl
 all_goals
  clear h1 h2
  go_enter Tryz.func13, Tryz.ntmps13
  go_wp2_with (first | (go_at_call 35; refine (known_yes _ _ (by omega)).mono ?_; rintro e w' ⟨rfl, rfl⟩) | (go_at_call 36; refine (takes_any _ _).mono ?_; rintro e w' ⟨rfl, rfl⟩))
  go_ret2
  exact ⟨rfl, rfl⟩
theorem next_4 (e : Nat) (w : World) (h1 : 1 ≤ e) (h2 : e ≤ 12) : Calls Tryz.prog 13 #[.int .i64 4, .int .i64 e] w fun e' w' => e' = .returned (.tuple #[.int .i64 (stV 4 e), .bool (stB 4 e)]) ∧ w = w' := by
 have h : e = 1 ∨ e = 2 ∨ e = 3 ∨ e = 4 ∨ e = 5 ∨ e = 6 ∨ e = 7 ∨ e = 8 ∨ e = 9 ∨ e = 10 ∨ e = 11 ∨ e = 12 := by omega
 rcases h with rfl | rfl | rfl | rfl | rfl | rfl | rfl | rfl | rfl | rfl | rfl | rfl
 all_goals
  clear h1 h2
  go_enter Tryz.func13, Tryz.ntmps13
  go_wp2_with (first | (go_at_call 35; refine (known_yes _ _ (by omega)).mono ?_; rintro e w' ⟨rfl, rfl⟩) | (go_at_call 36; refine (takes_any _ _).mono ?_; rintro e w' ⟨rfl, rfl⟩))
  go_ret2
  exact ⟨rfl, rfl⟩
theorem next_5 (e : Nat) (w : World) (h1 : 1 ≤ e) (h2 : e ≤ 12) : Calls Tryz.prog 13 #[.int .i64 5, .int .i64 e] w fun e' w' => e' = .returned (.tuple #[.int .i64 (stV 5 e), .bool (stB 5 e)]) ∧ w = w' := by
 have h : e = 1 ∨ e = 2 ∨ e = 3 ∨ e = 4 ∨ e = 5 ∨ e = 6 ∨ e = 7 ∨ e = 8 ∨ e = 9 ∨ e = 10 ∨ e = 11 ∨ e = 12 := by omega
 rcases h with rfl | rfl | rfl | rfl | rfl | rfl | rfl | rfl | rfl | rfl | rfl | rfl
 all_goals
  clear h1 h2
  go_enter Tryz.func13, Tryz.ntmps13
  go_wp2_with (first | (go_at_call 35; refine (known_yes _ _ (by omega)).mono ?_; rintro e w' ⟨rfl, rfl⟩) | (go_at_call 36; refine (takes_any _ _).mono ?_; rintro e w' ⟨rfl, rfl⟩))
  go_ret2
  exact ⟨rfl, rfl⟩
theorem next_6 (e : Nat) (w : World) (h1 : 1 ≤ e) (h2 : e ≤ 12) : Calls Tryz.prog 13 #[.int .i64 6, .int .i64 e] w fun e' w' => e' = .returned (.tuple #[.int .i64 (stV 6 e), .bool (stB 6 e)]) ∧ w = w' := by
 have h : e = 1 ∨ e = 2 ∨ e = 3 ∨ e = 4 ∨ e = 5 ∨ e = 6 ∨ e = 7 ∨ e = 8 ∨ e = 9 ∨ e = 10 ∨ e = 11 ∨ e = 12 := by omega
 rcases h with rfl | rfl | rfl | rfl | rfl | rfl | rfl | rfl | rfl | rfl | rfl | rfl
 all_goals
  clear h1 h2
  go_enter Tryz.func13, Tryz.ntmps13
  go_wp2_with (first | (go_at_call 35; refine (known_yes _ _ (by omega)).mono ?_; rintro e w' ⟨rfl, rfl⟩) | (go_at_call 36; refine (takes_any _ _).mono ?_; rintro e w' ⟨rfl, rfl⟩))
  go_ret2
  exact ⟨rfl, rfl⟩
theorem next_7 (e : Nat) (w : World) (h1 : 1 ≤ e) (h2 : e ≤ 12) : Calls Tryz.prog 13 #[.int .i64 7, .int .i64 e] w fun e' w' => e' = .returned (.tuple #[.int .i64 (stV 7 e), .bool (stB 7 e)]) ∧ w = w' := by
 have h : e = 1 ∨ e = 2 ∨ e = 3 ∨ e = 4 ∨ e = 5 ∨ e = 6 ∨ e = 7 ∨ e = 8 ∨ e = 9 ∨ e = 10 ∨ e = 11 ∨ e = 12 := by omega
 rcases h with rfl | rfl | rfl | rfl | rfl | rfl | rfl | rfl | rfl | rfl | rfl | rfl
 all_goals
  clear h1 h2
  go_enter Tryz.func13, Tryz.ntmps13
  go_wp2_with (first | (go_at_call 35; refine (known_yes _ _ (by omega)).mono ?_; rintro e w' ⟨rfl, rfl⟩) | (go_at_call 36; refine (takes_any _ _).mono ?_; rintro e w' ⟨rfl, rfl⟩))
  go_ret2
  exact ⟨rfl, rfl⟩


theorem next_out (s e : Int) (w : World) (h : s < 0 ∨ 7 < s ∨ e < 1 ∨ 12 < e) : Calls Tryz.prog 13 #[.int .i64 s, .int .i64 e] w fun e' w' => e' = .returned (.tuple #[.int .i64 s, .bool false]) ∧ w = w' := by
 by_cases hs : 0 ≤ s ∧ s ≤ 7
 ·have he : e < 1 ∨ 12 < e := by omega
  clear h
  rcases he with he | he
  all_goals
   go_enter Tryz.func13, Tryz.ntmps13
   go_wp2_with (first | (go_at_call 35; refine (known_yes _ _ (by omega)).mono ?_; rintro e w' ⟨rfl, rfl⟩))
   go_ret2
   exact ⟨rfl, rfl⟩
 ·clear h
  go_enter Tryz.func13, Tryz.ntmps13
  go_wp2_with (first | (go_at_call 35; refine (known_no _ _ (by omega)).mono ?_; rintro e w' ⟨rfl, rfl⟩))
  go_ret2
  exact ⟨rfl, rfl⟩

theorem next_any (s e : Int) (w : World) : Calls Tryz.prog 13 #[.int .i64 s, .int .i64 e] w fun e' w' => e' = .returned (.tuple #[.int .i64 (stV s e), .bool (stB s e)]) ∧ w = w' := by
 by_cases h : s < 0 ∨ 7 < s ∨ e < 1 ∨ 12 < e
 ·rw [stV_no s e h, stB_no s e h]
  exact next_out s e w h
 ·refine st_all (fun s e => Calls Tryz.prog 13 #[.int .i64 s, .int .i64 e] w fun e' w' => e' = .returned (.tuple #[.int .i64 (stV s e), .bool (stB s e)]) ∧ w = w') (fun s e hs h1 h2 => ?_) s e (by omega) (by omega)
  have h : s = 0 ∨ s = 1 ∨ s = 2 ∨ s = 3 ∨ s = 4 ∨ s = 5 ∨ s = 6 ∨ s = 7 := by omega
  rcases h with rfl | rfl | rfl | rfl | rfl | rfl | rfl | rfl
  ·exact next_0 e w h1 h2
  ·exact next_1 e w h1 h2
  ·exact next_2 e w h1 h2
  ·exact next_3 e w h1 h2
  ·exact next_4 e w h1 h2
  ·exact next_5 e w h1 h2
  ·exact next_6 e w h1 h2
  ·exact next_7 e w h1 h2

end Go.Proofs.YthhfnageadckkaaGreat
