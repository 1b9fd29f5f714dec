/- Contracts of layer 11, for all states and all that happens; the reference's table. -/
import Derived.Test.YtddakmlnkffgiaaStateA
namespace Go.Proofs.Ytddakmlnkffgiaa
open Go.RowKit

set_option maxHeartbeats 1000000 in
theorem next_out (s e : Int) (w : World) (h : s < 0 ∨ 7 < s ∨ e < 1 ∨ 12 < e) : Calls Try.prog 16 #[.int .i64 s, .int .i64 e] w fun e' w' => e' = .returned (.tuple #[.int .i64 s, .bool false]) ∧ w = w' := by
  by_cases hs : 0 ≤ s ∧ s ≤ 7
  · have he : e < 1 ∨ 12 < e := by omega
    clear h
    rcases he with he | he
    all_goals
      go_enter Try.func16, Try.ntmps16
      go_wp2_with (first | (go_at_call 52; refine (known_yes _ _ (by omega)).mono ?_; rintro e w' ⟨rfl, rfl⟩))
      go_ret2
      exact ⟨rfl, rfl⟩
  · clear h
    go_enter Try.func16, Try.ntmps16
    go_wp2_with (first | (go_at_call 52; refine (known_no _ _ (by omega)).mono ?_; rintro e w' ⟨rfl, rfl⟩))
    go_ret2
    exact ⟨rfl, rfl⟩

theorem next_any (s e : Int) (w : World) : Calls Try.prog 16 #[.int .i64 s, .int .i64 e] w fun e' w' => e' = .returned (.tuple #[.int .i64 (stV s e), .bool (stB s e)]) ∧ w = w' := by
  by_cases h : s < 0 ∨ 7 < s ∨ e < 1 ∨ 12 < e
  · rw [stV_no s e h, stB_no s e h]
    exact next_out s e w h
  · refine st_all (fun s e => Calls Try.prog 16 #[.int .i64 s, .int .i64 e] w fun e' w' => e' = .returned (.tuple #[.int .i64 (stV s e), .bool (stB s e)]) ∧ w = w') (fun s e hs h1 h2 => ?_) s e (by omega) (by omega)
    have h : s = 0 ∨ s = 1 ∨ s = 2 ∨ s = 3 ∨ s = 4 ∨ s = 5 ∨ s = 6 ∨ s = 7 := by omega
    rcases h with rfl | rfl | rfl | rfl | rfl | rfl | rfl | rfl
    · exact next_0 e w h1 h2
    · exact next_1 e w h1 h2
    · exact next_2 e w h1 h2
    · exact next_3 e w h1 h2
    · exact next_4 e w h1 h2
    · exact next_5 e w h1 h2
    · exact next_6 e w h1 h2
    · exact next_7 e w h1 h2

end Go.Proofs.Ytddakmlnkffgiaa
