/- Contracts of layer 11: what leads from one state to another. -/
import Derived.Test.YtddakmlnkffgiaaBase
import Derived.Test.YtddakmlnkffgiaaPState
namespace Go.Proofs.Ytddakmlnkffgiaa
open Go.RowKit

set_option maxHeartbeats 400000 in
theorem known_yes (s : Int) (w : World) (h : 0 ≤ s ∧ s ≤ 7) : Calls Try.prog 52 #[.int .i64 s] w fun e w' => e = .returned (.bool true) ∧ w = w' := by
  go_enter Try.func52, Try.ntmps52
  go_wp2
  go_ret
  exact ⟨rfl, rfl⟩
set_option maxHeartbeats 400000 in
theorem known_no (s : Int) (w : World) (h : s < 0 ∨ 7 < s) : Calls Try.prog 52 #[.int .i64 s] w fun e w' => e = .returned (.bool false) ∧ w = w' := by
  rcases h with h | h
  · go_enter Try.func52, Try.ntmps52
    go_wp2
    go_ret
    exact ⟨rfl, rfl⟩
  · have h0 : 0 ≤ s := by omega
    have hd : decide (s ≤ 7) = false := by simp; omega
    go_enter Try.func52, Try.ntmps52
    go_wp2
    go_ret
    exact ⟨rfl, rfl⟩

set_option maxHeartbeats 1000000 in
theorem moves_any (s : Int) (w : World) : Calls Try.prog 18 #[.int .i64 s] w fun e w' => e = .returned (.bool (movesB s)) ∧ w = w' := by
  by_cases h2 : s = 2
  · subst h2
    go_enter Try.func18, Try.ntmps18
    go_wp2
    go_ret
    exact ⟨rfl, rfl⟩
  by_cases h4 : s = 4
  · subst h4
    go_enter Try.func18, Try.ntmps18
    go_wp2
    go_ret
    exact ⟨rfl, rfl⟩
  by_cases h5 : s = 5
  · subst h5
    go_enter Try.func18, Try.ntmps18
    go_wp2
    go_ret
    exact ⟨rfl, rfl⟩
  by_cases h6 : s = 6
  · subst h6
    go_enter Try.func18, Try.ntmps18
    go_wp2
    go_ret
    exact ⟨rfl, rfl⟩
  have e2 : (s == 2) = false := by simpa using h2
  have e4 : (s == 4) = false := by simpa using h4
  have e5 : (s == 5) = false := by simpa using h5
  have e6 : (s == 6) = false := by simpa using h6
  have hm : movesB s = false := by simp [movesB, e2, e4, e5, e6]
  have HM := Lib.hid hm
  clear hm h2 h4 h5 h6
  go_enter Try.func18, Try.ntmps18
  go_wp2
  go_ret
  rw [HM.out]
  exact ⟨rfl, rfl⟩

set_option maxHeartbeats 1000000 in
theorem takes_any (s : Int) (w : World) : Calls Try.prog 19 #[.int .i64 s] w fun e w' => e = .returned (.bool (takesB s)) ∧ w = w' := by
  by_cases h1 : s = 1
  · subst h1
    go_enter Try.func19, Try.ntmps19
    go_wp2_with (first | (go_at_call 18; refine (moves_any _ _).mono ?_; rintro e w' ⟨rfl, rfl⟩))
    go_ret
    exact ⟨rfl, rfl⟩
  by_cases h2 : s = 2
  · subst h2
    have hm : movesB 2 = true := rfl
    have HM := Lib.hid hm
    clear hm
    go_enter Try.func19, Try.ntmps19
    go_wp2_with (first | (go_at_call 18; refine (moves_any _ _).mono ?_; rw [HM.out]; rintro e w' ⟨rfl, rfl⟩))
    go_ret
    exact ⟨rfl, rfl⟩
  have e1 : (s == 1) = false := by simpa using h1
  have e2 : (s == 2) = false := by simpa using h2
  have e3 : (s != 2) = true := by simpa using h2
  have ht : takesB s = movesB s := by simp [takesB, movesB, e1, e2]
  have HT := Lib.hid ht
  clear ht h1 h2
  cases hm : movesB s
  all_goals
    have HM := Lib.hid hm
    clear hm
    go_enter Try.func19, Try.ntmps19
    go_wp2_with (first | (go_at_call 18; refine (moves_any _ _).mono ?_; rw [HM.out]; rintro e w' ⟨rfl, rfl⟩))
    go_ret
    rw [HT.out, HM.out]
    exact ⟨rfl, rfl⟩

set_option maxHeartbeats 4000000 in
theorem next_0 (e : Nat) (w : World) (h1 : 1 ≤ e) (h2 : e ≤ 12) : Calls Try.prog 16 #[.int .i64 0, .int .i64 e] w fun e' w' => e' = .returned (.tuple #[.int .i64 (stV 0 e), .bool (stB 0 e)]) ∧ w = w' := by
  have h : e = 1 ∨ e = 2 ∨ e = 3 ∨ e = 4 ∨ e = 5 ∨ e = 6 ∨ e = 7 ∨ e = 8 ∨ e = 9 ∨ e = 10 ∨ e = 11 ∨ e = 12 := by omega
  rcases h with rfl | rfl | rfl | rfl | rfl | rfl | rfl | rfl | rfl | rfl | rfl | rfl
  all_goals
    clear h1 h2
    go_enter Try.func16, Try.ntmps16
    go_wp2_with (first | (go_at_call 52; refine (known_yes _ _ (by omega)).mono ?_; rintro e w' ⟨rfl, rfl⟩) | (go_at_call 19; refine (takes_any _ _).mono ?_; rintro e w' ⟨rfl, rfl⟩))
    go_ret2
    exact ⟨rfl, rfl⟩
set_option maxHeartbeats 4000000 in
theorem next_1 (e : Nat) (w : World) (h1 : 1 ≤ e) (h2 : e ≤ 12) : Calls Try.prog 16 #[.int .i64 1, .int .i64 e] w fun e' w' => e' = .returned (.tuple #[.int .i64 (stV 1 e), .bool (stB 1 e)]) ∧ w = w' := by
  have h : e = 1 ∨ e = 2 ∨ e = 3 ∨ e = 4 ∨ e = 5 ∨ e = 6 ∨ e = 7 ∨ e = 8 ∨ e = 9 ∨ e = 10 ∨ e = 11 ∨ e = 12 := by omega
  rcases h with rfl | rfl | rfl | rfl | rfl | rfl | rfl | rfl | rfl | rfl | rfl | rfl
  all_goals
    clear h1 h2
    go_enter Try.func16, Try.ntmps16
    go_wp2_with (first | (go_at_call 52; refine (known_yes _ _ (by omega)).mono ?_; rintro e w' ⟨rfl, rfl⟩) | (go_at_call 19; refine (takes_any _ _).mono ?_; rintro e w' ⟨rfl, rfl⟩))
    go_ret2
    exact ⟨rfl, rfl⟩
set_option maxHeartbeats 4000000 in
theorem next_2 (e : Nat) (w : World) (h1 : 1 ≤ e) (h2 : e ≤ 12) : Calls Try.prog 16 #[.int .i64 2, .int .i64 e] w fun e' w' => e' = .returned (.tuple #[.int .i64 (stV 2 e), .bool (stB 2 e)]) ∧ w = w' := by
  have h : e = 1 ∨ e = 2 ∨ e = 3 ∨ e = 4 ∨ e = 5 ∨ e = 6 ∨ e = 7 ∨ e = 8 ∨ e = 9 ∨ e = 10 ∨ e = 11 ∨ e = 12 := by omega
  rcases h with rfl | rfl | rfl | rfl | rfl | rfl | rfl | rfl | rfl | rfl | rfl | rfl
  all_goals
    clear h1 h2
    go_enter Try.func16, Try.ntmps16
    go_wp2_with (first | (go_at_call 52; refine (known_yes _ _ (by omega)).mono ?_; rintro e w' ⟨rfl, rfl⟩) | (go_at_call 19; refine (takes_any _ _).mono ?_; rintro e w' ⟨rfl, rfl⟩))
    go_ret2
    exact ⟨rfl, rfl⟩
set_option maxHeartbeats 4000000 in
theorem next_3 (e : Nat) (w : World) (h1 : 1 ≤ e) (h2 : e ≤ 12) : Calls Try.prog 16 #[.int .i64 3, .int .i64 e] w fun e' w' => e' = .returned (.tuple #[.int .i64 (stV 3 e), .bool (stB 3 e)]) ∧ w = w' := by
  have h : e = 1 ∨ e = 2 ∨ e = 3 ∨ e = 4 ∨ e = 5 ∨ e = 6 ∨ e = 7 ∨ e = 8 ∨ e = 9 ∨ e = 10 ∨ e = 11 ∨ e = 12 := by omega
  rcases h with rfl | rfl | rfl | rfl | rfl | rfl | rfl | rfl | rfl | rfl | rfl | rfl
  all_goals
    clear h1 h2
    go_enter Try.func16, Try.ntmps16
    go_wp2_with (first | (go_at_call 52; refine (known_yes _ _ (by omega)).mono ?_; rintro e w' ⟨rfl, rfl⟩) | (go_at_call 19; refine (takes_any _ _).mono ?_; rintro e w' ⟨rfl, rfl⟩))
    go_ret2
    exact ⟨rfl, rfl⟩
set_option maxHeartbeats 4000000 in
theorem next_4 (e : Nat) (w : World) (h1 : 1 ≤ e) (h2 : e ≤ 12) : Calls Try.prog 16 #[.int .i64 4, .int .i64 e] w fun e' w' => e' = .returned (.tuple #[.int .i64 (stV 4 e), .bool (stB 4 e)]) ∧ w = w' := by
  have h : e = 1 ∨ e = 2 ∨ e = 3 ∨ e = 4 ∨ e = 5 ∨ e = 6 ∨ e = 7 ∨ e = 8 ∨ e = 9 ∨ e = 10 ∨ e = 11 ∨ e = 12 := by omega
  rcases h with rfl | rfl | rfl | rfl | rfl | rfl | rfl | rfl | rfl | rfl | rfl | rfl
  all_goals
    clear h1 h2
    go_enter Try.func16, Try.ntmps16
    go_wp2_with (first | (go_at_call 52; refine (known_yes _ _ (by omega)).mono ?_; rintro e w' ⟨rfl, rfl⟩) | (go_at_call 19; refine (takes_any _ _).mono ?_; rintro e w' ⟨rfl, rfl⟩))
    go_ret2
    exact ⟨rfl, rfl⟩
set_option maxHeartbeats 4000000 in
theorem next_5 (e : Nat) (w : World) (h1 : 1 ≤ e) (h2 : e ≤ 12) : Calls Try.prog 16 #[.int .i64 5, .int .i64 e] w fun e' w' => e' = .returned (.tuple #[.int .i64 (stV 5 e), .bool (stB 5 e)]) ∧ w = w' := by
  have h : e = 1 ∨ e = 2 ∨ e = 3 ∨ e = 4 ∨ e = 5 ∨ e = 6 ∨ e = 7 ∨ e = 8 ∨ e = 9 ∨ e = 10 ∨ e = 11 ∨ e = 12 := by omega
  rcases h with rfl | rfl | rfl | rfl | rfl | rfl | rfl | rfl | rfl | rfl | rfl | rfl
  all_goals
    clear h1 h2
    go_enter Try.func16, Try.ntmps16
    go_wp2_with (first | (go_at_call 52; refine (known_yes _ _ (by omega)).mono ?_; rintro e w' ⟨rfl, rfl⟩) | (go_at_call 19; refine (takes_any _ _).mono ?_; rintro e w' ⟨rfl, rfl⟩))
    go_ret2
    exact ⟨rfl, rfl⟩
set_option maxHeartbeats 4000000 in
theorem next_6 (e : Nat) (w : World) (h1 : 1 ≤ e) (h2 : e ≤ 12) : Calls Try.prog 16 #[.int .i64 6, .int .i64 e] w fun e' w' => e' = .returned (.tuple #[.int .i64 (stV 6 e), .bool (stB 6 e)]) ∧ w = w' := by
  have h : e = 1 ∨ e = 2 ∨ e = 3 ∨ e = 4 ∨ e = 5 ∨ e = 6 ∨ e = 7 ∨ e = 8 ∨ e = 9 ∨ e = 10 ∨ e = 11 ∨ e = 12 := by omega
  rcases h with rfl | rfl | rfl | rfl | rfl | rfl | rfl | rfl | rfl | rfl | rfl | rfl
  all_goals
    clear h1 h2
    go_enter Try.func16, Try.ntmps16
    go_wp2_with (first | (go_at_call 52; refine (known_yes _ _ (by omega)).mono ?_; rintro e w' ⟨rfl, rfl⟩) | (go_at_call 19; refine (takes_any _ _).mono ?_; rintro e w' ⟨rfl, rfl⟩))
    go_ret2
    exact ⟨rfl, rfl⟩
set_option maxHeartbeats 4000000 in
theorem next_7 (e : Nat) (w : World) (h1 : 1 ≤ e) (h2 : e ≤ 12) : Calls Try.prog 16 #[.int .i64 7, .int .i64 e] w fun e' w' => e' = .returned (.tuple #[.int .i64 (stV 7 e), .bool (stB 7 e)]) ∧ w = w' := by
  have h : e = 1 ∨ e = 2 ∨ e = 3 ∨ e = 4 ∨ e = 5 ∨ e = 6 ∨ e = 7 ∨ e = 8 ∨ e = 9 ∨ e = 10 ∨ e = 11 ∨ e = 12 := by omega
  rcases h with rfl | rfl | rfl | rfl | rfl | rfl | rfl | rfl | rfl | rfl | rfl | rfl
  all_goals
    clear h1 h2
    go_enter Try.func16, Try.ntmps16
    go_wp2_with (first | (go_at_call 52; refine (known_yes _ _ (by omega)).mono ?_; rintro e w' ⟨rfl, rfl⟩) | (go_at_call 19; refine (takes_any _ _).mono ?_; rintro e w' ⟨rfl, rfl⟩))
    go_ret2
    exact ⟨rfl, rfl⟩

end Go.Proofs.Ytddakmlnkffgiaa
