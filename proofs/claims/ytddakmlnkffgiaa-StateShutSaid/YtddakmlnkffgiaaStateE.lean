/- Layer 11: nothing but a reset, or that power is taken away, leads out of an error; commands lead only from where they are taken; an error leads to the one state: StateShut returns true. Conditions: none. -/
import Derived.Test.YtddakmlnkffgiaaStateD
namespace Go.Proofs.Ytddakmlnkffgiaa
open Go.ChangeShapes Go.WideShapes Go.ChangeAt Go.RowKit

set_option maxHeartbeats 4000000 in
theorem shut_0 (e : Nat) (w : World) (h1 : 1 ≤ e) (h2 : e ≤ 12) : Calls Try.prog 4 #[.int .i64 0, .int .i64 e] w fun e' w' => e' = .returned (.bool true) ∧ w = w' := by
  have h : e = 1 ∨ e = 2 ∨ e = 3 ∨ e = 4 ∨ e = 5 ∨ e = 6 ∨ e = 7 ∨ e = 8 ∨ e = 9 ∨ e = 10 ∨ e = 11 ∨ e = 12 := by omega
  rcases h with rfl | rfl | rfl | rfl | rfl | rfl | rfl | rfl | rfl | rfl | rfl | rfl
  all_goals
    clear h1 h2
    go_enter Try.func4, Try.ntmps4
    go_wp2_with (first | (go_at_call 15; refine (awake11 _).mono ?_; rintro e w' ⟨rfl, rfl⟩) | (go_at_call 16; refine (next_at _ _ _ _ rfl rfl _).mono ?_; rintro e w' ⟨rfl, rfl⟩) | (go_at_call 19; refine (takes_at _ _ rfl _).mono ?_; rintro e w' ⟨rfl, rfl⟩))
    go_ret
    exact ⟨rfl, rfl⟩
set_option maxHeartbeats 4000000 in
theorem shut_1 (e : Nat) (w : World) (h1 : 1 ≤ e) (h2 : e ≤ 12) : Calls Try.prog 4 #[.int .i64 1, .int .i64 e] w fun e' w' => e' = .returned (.bool true) ∧ w = w' := by
  have h : e = 1 ∨ e = 2 ∨ e = 3 ∨ e = 4 ∨ e = 5 ∨ e = 6 ∨ e = 7 ∨ e = 8 ∨ e = 9 ∨ e = 10 ∨ e = 11 ∨ e = 12 := by omega
  rcases h with rfl | rfl | rfl | rfl | rfl | rfl | rfl | rfl | rfl | rfl | rfl | rfl
  all_goals
    clear h1 h2
    go_enter Try.func4, Try.ntmps4
    go_wp2_with (first | (go_at_call 15; refine (awake11 _).mono ?_; rintro e w' ⟨rfl, rfl⟩) | (go_at_call 16; refine (next_at _ _ _ _ rfl rfl _).mono ?_; rintro e w' ⟨rfl, rfl⟩) | (go_at_call 19; refine (takes_at _ _ rfl _).mono ?_; rintro e w' ⟨rfl, rfl⟩))
    go_ret
    exact ⟨rfl, rfl⟩
set_option maxHeartbeats 4000000 in
theorem shut_2 (e : Nat) (w : World) (h1 : 1 ≤ e) (h2 : e ≤ 12) : Calls Try.prog 4 #[.int .i64 2, .int .i64 e] w fun e' w' => e' = .returned (.bool true) ∧ w = w' := by
  have h : e = 1 ∨ e = 2 ∨ e = 3 ∨ e = 4 ∨ e = 5 ∨ e = 6 ∨ e = 7 ∨ e = 8 ∨ e = 9 ∨ e = 10 ∨ e = 11 ∨ e = 12 := by omega
  rcases h with rfl | rfl | rfl | rfl | rfl | rfl | rfl | rfl | rfl | rfl | rfl | rfl
  all_goals
    clear h1 h2
    go_enter Try.func4, Try.ntmps4
    go_wp2_with (first | (go_at_call 15; refine (awake11 _).mono ?_; rintro e w' ⟨rfl, rfl⟩) | (go_at_call 16; refine (next_at _ _ _ _ rfl rfl _).mono ?_; rintro e w' ⟨rfl, rfl⟩) | (go_at_call 19; refine (takes_at _ _ rfl _).mono ?_; rintro e w' ⟨rfl, rfl⟩))
    go_ret
    exact ⟨rfl, rfl⟩
set_option maxHeartbeats 4000000 in
theorem shut_3 (e : Nat) (w : World) (h1 : 1 ≤ e) (h2 : e ≤ 12) : Calls Try.prog 4 #[.int .i64 3, .int .i64 e] w fun e' w' => e' = .returned (.bool true) ∧ w = w' := by
  have h : e = 1 ∨ e = 2 ∨ e = 3 ∨ e = 4 ∨ e = 5 ∨ e = 6 ∨ e = 7 ∨ e = 8 ∨ e = 9 ∨ e = 10 ∨ e = 11 ∨ e = 12 := by omega
  rcases h with rfl | rfl | rfl | rfl | rfl | rfl | rfl | rfl | rfl | rfl | rfl | rfl
  all_goals
    clear h1 h2
    go_enter Try.func4, Try.ntmps4
    go_wp2_with (first | (go_at_call 15; refine (awake11 _).mono ?_; rintro e w' ⟨rfl, rfl⟩) | (go_at_call 16; refine (next_at _ _ _ _ rfl rfl _).mono ?_; rintro e w' ⟨rfl, rfl⟩) | (go_at_call 19; refine (takes_at _ _ rfl _).mono ?_; rintro e w' ⟨rfl, rfl⟩))
    go_ret
    exact ⟨rfl, rfl⟩
set_option maxHeartbeats 4000000 in
theorem shut_4 (e : Nat) (w : World) (h1 : 1 ≤ e) (h2 : e ≤ 12) : Calls Try.prog 4 #[.int .i64 4, .int .i64 e] w fun e' w' => e' = .returned (.bool true) ∧ w = w' := by
  have h : e = 1 ∨ e = 2 ∨ e = 3 ∨ e = 4 ∨ e = 5 ∨ e = 6 ∨ e = 7 ∨ e = 8 ∨ e = 9 ∨ e = 10 ∨ e = 11 ∨ e = 12 := by omega
  rcases h with rfl | rfl | rfl | rfl | rfl | rfl | rfl | rfl | rfl | rfl | rfl | rfl
  all_goals
    clear h1 h2
    go_enter Try.func4, Try.ntmps4
    go_wp2_with (first | (go_at_call 15; refine (awake11 _).mono ?_; rintro e w' ⟨rfl, rfl⟩) | (go_at_call 16; refine (next_at _ _ _ _ rfl rfl _).mono ?_; rintro e w' ⟨rfl, rfl⟩) | (go_at_call 19; refine (takes_at _ _ rfl _).mono ?_; rintro e w' ⟨rfl, rfl⟩))
    go_ret
    exact ⟨rfl, rfl⟩
set_option maxHeartbeats 4000000 in
theorem shut_5 (e : Nat) (w : World) (h1 : 1 ≤ e) (h2 : e ≤ 12) : Calls Try.prog 4 #[.int .i64 5, .int .i64 e] w fun e' w' => e' = .returned (.bool true) ∧ w = w' := by
  have h : e = 1 ∨ e = 2 ∨ e = 3 ∨ e = 4 ∨ e = 5 ∨ e = 6 ∨ e = 7 ∨ e = 8 ∨ e = 9 ∨ e = 10 ∨ e = 11 ∨ e = 12 := by omega
  rcases h with rfl | rfl | rfl | rfl | rfl | rfl | rfl | rfl | rfl | rfl | rfl | rfl
  all_goals
    clear h1 h2
    go_enter Try.func4, Try.ntmps4
    go_wp2_with (first | (go_at_call 15; refine (awake11 _).mono ?_; rintro e w' ⟨rfl, rfl⟩) | (go_at_call 16; refine (next_at _ _ _ _ rfl rfl _).mono ?_; rintro e w' ⟨rfl, rfl⟩) | (go_at_call 19; refine (takes_at _ _ rfl _).mono ?_; rintro e w' ⟨rfl, rfl⟩))
    go_ret
    exact ⟨rfl, rfl⟩
set_option maxHeartbeats 4000000 in
theorem shut_6 (e : Nat) (w : World) (h1 : 1 ≤ e) (h2 : e ≤ 12) : Calls Try.prog 4 #[.int .i64 6, .int .i64 e] w fun e' w' => e' = .returned (.bool true) ∧ w = w' := by
  have h : e = 1 ∨ e = 2 ∨ e = 3 ∨ e = 4 ∨ e = 5 ∨ e = 6 ∨ e = 7 ∨ e = 8 ∨ e = 9 ∨ e = 10 ∨ e = 11 ∨ e = 12 := by omega
  rcases h with rfl | rfl | rfl | rfl | rfl | rfl | rfl | rfl | rfl | rfl | rfl | rfl
  all_goals
    clear h1 h2
    go_enter Try.func4, Try.ntmps4
    go_wp2_with (first | (go_at_call 15; refine (awake11 _).mono ?_; rintro e w' ⟨rfl, rfl⟩) | (go_at_call 16; refine (next_at _ _ _ _ rfl rfl _).mono ?_; rintro e w' ⟨rfl, rfl⟩) | (go_at_call 19; refine (takes_at _ _ rfl _).mono ?_; rintro e w' ⟨rfl, rfl⟩))
    go_ret
    exact ⟨rfl, rfl⟩
set_option maxHeartbeats 4000000 in
theorem shut_7 (e : Nat) (w : World) (h1 : 1 ≤ e) (h2 : e ≤ 12) : Calls Try.prog 4 #[.int .i64 7, .int .i64 e] w fun e' w' => e' = .returned (.bool true) ∧ w = w' := by
  have h : e = 1 ∨ e = 2 ∨ e = 3 ∨ e = 4 ∨ e = 5 ∨ e = 6 ∨ e = 7 ∨ e = 8 ∨ e = 9 ∨ e = 10 ∨ e = 11 ∨ e = 12 := by omega
  rcases h with rfl | rfl | rfl | rfl | rfl | rfl | rfl | rfl | rfl | rfl | rfl | rfl
  all_goals
    clear h1 h2
    go_enter Try.func4, Try.ntmps4
    go_wp2_with (first | (go_at_call 15; refine (awake11 _).mono ?_; rintro e w' ⟨rfl, rfl⟩) | (go_at_call 16; refine (next_at _ _ _ _ rfl rfl _).mono ?_; rintro e w' ⟨rfl, rfl⟩) | (go_at_call 19; refine (takes_at _ _ rfl _).mono ?_; rintro e w' ⟨rfl, rfl⟩))
    go_ret
    exact ⟨rfl, rfl⟩

set_option maxHeartbeats 2000000 in
theorem shut_out (s e : Int) (w : World) (h : s < 0 ∨ 7 < s ∨ e < 1 ∨ 12 < e) : Calls Try.prog 4 #[.int .i64 s, .int .i64 e] w fun e' w' => e' = .returned (.bool true) ∧ w = w' := by
  have H := Lib.hid h
  clear h
  by_cases h1 : s < 0
  · go_enter Try.func4, Try.ntmps4
    go_wp2_with (first | (go_at_call 15; refine (awake11 _).mono ?_; rintro e w' ⟨rfl, rfl⟩) | (go_at_call 16; refine (next_out _ _ _ H.out).mono ?_; rintro e w' ⟨rfl, rfl⟩))
    go_ret
    exact ⟨rfl, rfl⟩
  have d1 : decide (s < 0) = false := by simp; omega
  by_cases h2 : 7 < s
  · go_enter Try.func4, Try.ntmps4
    go_wp2_with (first | (go_at_call 15; refine (awake11 _).mono ?_; rintro e w' ⟨rfl, rfl⟩) | (go_at_call 16; refine (next_out _ _ _ H.out).mono ?_; rintro e w' ⟨rfl, rfl⟩))
    go_ret
    exact ⟨rfl, rfl⟩
  have d2 : decide (7 < s) = false := by simp; omega
  have he : e < 1 ∨ 12 < e := by have := H.out; omega
  have e11 : (e == 11) = false := by simp; omega
  have e12 : (e != 12) = true := by simp; omega
  have e2 : (e != 2) = true := by simp; omega
  have d0 : decide (0 ≤ s) = true := by simp; omega
  have d7 : decide (s ≤ 7) = true := by simp; omega
  by_cases h7 : s = 7
  all_goals
    rcases he with he | he
    · have h5 : decide (5 ≤ e) = false := by simp; omega
      first | subst h7 | have h7 : (s == 7) = false := by simpa using h7
      go_enter Try.func4, Try.ntmps4
      go_wp2_with (first | (go_at_call 15; refine (awake11 _).mono ?_; rintro e w' ⟨rfl, rfl⟩) | (go_at_call 16; refine (next_out _ _ _ H.out).mono ?_; rintro e w' ⟨rfl, rfl⟩))
      go_ret
      exact ⟨rfl, rfl⟩
    · have h5 : decide (5 ≤ e) = true := by simp; omega
      have h6 : decide (e ≤ 7) = false := by simp; omega
      first | subst h7 | have h7 : (s == 7) = false := by simpa using h7
      go_enter Try.func4, Try.ntmps4
      go_wp2_with (first | (go_at_call 15; refine (awake11 _).mono ?_; rintro e w' ⟨rfl, rfl⟩) | (go_at_call 16; refine (next_out _ _ _ H.out).mono ?_; rintro e w' ⟨rfl, rfl⟩))
      go_ret
      exact ⟨rfl, rfl⟩

theorem walk_StateShut (s e : Int) (_ : (Lit.int .i64 s).wf = true) (_ : (Lit.int .i64 e).wf = true) (w : World) :
    Calls Try.prog 4 #[.int .i64 s, .int .i64 e] w fun e w' => e = .returned (.bool true) ∧ Below w.heap.size w w' := by
  have h : Calls Try.prog 4 #[.int .i64 s, .int .i64 e] w fun e w' => e = .returned (.bool true) ∧ w = w' := by
    by_cases h : s < 0 ∨ 7 < s ∨ e < 1 ∨ 12 < e
    · exact shut_out s e w h
    · refine st_all (fun s e => Calls Try.prog 4 #[.int .i64 s, .int .i64 e] w fun e' w' => e' = .returned (.bool true) ∧ w = w') (fun s e hs h1 h2 => ?_) s e (by omega) (by omega)
      have h : s = 0 ∨ s = 1 ∨ s = 2 ∨ s = 3 ∨ s = 4 ∨ s = 5 ∨ s = 6 ∨ s = 7 := by omega
      rcases h with rfl | rfl | rfl | rfl | rfl | rfl | rfl | rfl
      · exact shut_0 e w h1 h2
      · exact shut_1 e w h1 h2
      · exact shut_2 e w h1 h2
      · exact shut_3 e w h1 h2
      · exact shut_4 e w h1 h2
      · exact shut_5 e w h1 h2
      · exact shut_6 e w h1 h2
      · exact shut_7 e w h1 h2
  exact h.mono fun e w' ⟨he, hw⟩ => ⟨he, hw ▸ Below.refl _ _⟩

set_option maxRecDepth 100000 in
theorem lifted_StateShut (os : Os) (started : os.Started) (H : Type) (enc : TypeId × Value → H) :
    ReturnsInHanded {} Try.checked os 4 .any (Rows.stateShutSpec.pre6 enc Try.prog Try.f4 Rows.stateShutRow.domain false) (Rows.stateShutSpec.post enc Try.prog Try.f4 false true false false) := by
  refine returnsInHanded_of_change (C := Try.checked) own started (by kernel_rfl) Try.func4
    (ChangeSpec.witness6 (enc := enc) (C := Try.checked) false ⟨#[], #[.int .i64 0, .int .i64 0], []⟩ 8 (by kernel_rfl) (by kernel_rfl) (by kernel_rfl) (by kernel_rfl)) ?_
  intro W base args ds gs before hval0 hW hcnd _
  have hval : ∀ (j : Nat) t v, Try.f4.params[j]? = some t → args[j]? = some v → Value.okWide Try.prog W .any base t v := hval0
  have hW' := hW
  obtain ⟨p, q, hA0, hV, rfl, hfz, hnd⟩ := hW'
  have hA : DataW.TrodAll enc Try.prog W 0 (fun _ => true) true Try.f4.params.toList args.toList ds p := hA0
  rw [Try.params4] at hA hval
  obtain ⟨v0, vs0, d0, ds0, p0, q0, hargs, rfl, rfl, h0, r0⟩ := trodAll_cons hA
  obtain ⟨v1, vs1, d1, ds1, p1, q1, rfl, rfl, rfl, h1, r1⟩ := trodAll_cons r0
  obtain ⟨rfl, rfl, rfl⟩ := trodAll_nil r1
  obtain rfl : args = #[v0, v1] := by cases args; simp_all
  obtain ⟨rfl, rfl⟩ := trodVars_none hV
  obtain ⟨a0, rfl, rfl, rfl, w0⟩ := open_int Try.underlying3 (hval 0 3 v0 rfl rfl) h0
  obtain ⟨a1, rfl, rfl, rfl, w1⟩ := open_int Try.underlying3 (hval 1 3 v1 rfl rfl) h1
  refine (walk_StateShut a0 a1 w0 w1 W).mono fun e W' ⟨he, hb⟩ => ⟨_, he, ?_⟩
  exact law_post_any laid_out Try.underlying4 hW rfl ⟨rfl, rfl, rfl⟩ rfl (by kernel_rfl) hb

theorem over_StateShut : Rows.stateShutRow.holds Try.pinned (OpenSpec.ofChange Rows.stateShutSpec) :=
  OpenClaim.holds_of_wide 4 Try.f4 rfl rfl rfl rfl rfl rfl rfl ⟨rfl, rfl, rfl, rfl, rfl⟩ rfl rfl rfl rfl rfl (by kernel_rfl) Try.func4 (by kernel_rfl)
    (of_decide_eq_true (by kernel_rfl)) (by unfold Func.isWrapper; first | (rw [if_pos (by decide +kernel)]; kernel_rfl) | (rw [if_neg (by decide +kernel)]; exact ⟨rfl, rfl⟩))
    (fun os started H enc _ => lifted_StateShut os started H enc)

/-- the statement -/
theorem StateShut_holds : Rows.StateShutSaid := over_StateShut
#print axioms StateShut_holds

end Go.Proofs.Ytddakmlnkffgiaa
