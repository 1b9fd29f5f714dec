/- Layer 11: from any state, whatever happens leads where the table says, or nowhere: StateEdges returns true; likewise StateShut: what leads out of an error, and what commands lead to. Conditions: none. -/
import Derived.Test.YtddakmlnkffgiaaStateC
import Derived.Test.YtddakmlnkffgiaaFrame
namespace Go.Proofs.Ytddakmlnkffgiaa
open Go.ChangeShapes Go.WideShapes Go.ChangeAt Go.RowKit

theorem next_at (s e : Int) (a : Int) (b : Bool) (ha : stV s e = a) (hb : stB s e = b) (w : World) : Calls Try.prog 16 #[.int .i64 s, .int .i64 e] w fun e' w' => e' = .returned (.tuple #[.int .i64 a, .bool b]) ∧ w = w' := by
  subst ha hb
  exact next_any s e w
theorem moves_at (s : Int) (b : Bool) (hb : movesB s = b) (w : World) : Calls Try.prog 18 #[.int .i64 s] w fun e w' => e = .returned (.bool b) ∧ w = w' := by
  subst hb
  exact moves_any s w
theorem takes_at (s : Int) (b : Bool) (hb : takesB s = b) (w : World) : Calls Try.prog 19 #[.int .i64 s] w fun e w' => e = .returned (.bool b) ∧ w = w' := by
  subst hb
  exact takes_any s w

set_option maxHeartbeats 1000000 in
theorem awake11 (w : World) : Calls Try.prog 15 #[] w fun e w' => e = .returned (.bool true) ∧ w = w' := by
  go_enter Try.func15, Try.ntmps15
  go_wp2_with fail
  refine (next_at 3 5 3 false rfl rfl _).mono ?_
  rintro e w' ⟨rfl, rfl⟩
  go_wp2_with fail
  refine (next_at 1 5 4 true rfl rfl _).mono ?_
  rintro e w' ⟨rfl, rfl⟩
  go_wp2_with fail
  refine (moves_at 6 true rfl _).mono ?_
  rintro e w' ⟨rfl, rfl⟩
  go_wp2
  go_ret
  exact ⟨rfl, rfl⟩

set_option maxHeartbeats 2000000 in
theorem walk_StateEdges (s e : Int) (_ : (Lit.int .i64 s).wf = true) (_ : (Lit.int .i64 e).wf = true) (w : World) :
    Calls Try.prog 3 #[.int .i64 s, .int .i64 e] w fun e w' => e = .returned (.bool true) ∧ Below w.heap.size w w' := by
  have key : ∀ m t : Bool, movesB s = m → takesB s = t → (s = 1 ∧ m = false ∧ t = true) ∨ (s = 2 ∧ m = true ∧ t = false) ∨ (s = 4 ∧ m = true ∧ t = true) ∨ (s = 5 ∧ m = true ∧ t = true) ∨ (s = 6 ∧ m = true ∧ t = true) ∨ ((s == 1) = false ∧ (s == 2) = false ∧ (s == 4) = false ∧ (s == 5) = false ∧ (s == 6) = false ∧ m = false ∧ t = false) := by
    rintro m t rfl rfl
    by_cases h1 : s = 1
    · subst h1; simp [movesB, takesB]
    by_cases h2 : s = 2
    · subst h2; simp [movesB, takesB]
    by_cases h4 : s = 4
    · subst h4; simp [movesB, takesB]
    by_cases h5 : s = 5
    · subst h5; simp [movesB, takesB]
    by_cases h6 : s = 6
    · subst h6; simp [movesB, takesB]
    simp [movesB, takesB, h1, h2, h4, h5, h6]
  obtain ⟨m, hm⟩ : ∃ m, movesB s = m := ⟨_, rfl⟩
  obtain ⟨t, ht⟩ : ∃ t, takesB s = t := ⟨_, rfl⟩
  have hk := key m t hm ht
  have HM := Lib.hid hm
  have HT := Lib.hid ht
  clear key hm ht
  rcases hk with ⟨rfl, rfl, rfl⟩ | ⟨rfl, rfl, rfl⟩ | ⟨rfl, rfl, rfl⟩ | ⟨rfl, rfl, rfl⟩ | ⟨rfl, rfl, rfl⟩ | ⟨h1, h2, h4, h5, h6, rfl, rfl⟩
  all_goals
    go_enter Try.func3, Try.ntmps3
    go_wp2_with (first | (go_at_call 15; refine (awake11 _).mono ?_; rintro e w' ⟨rfl, rfl⟩) | (go_at_call 16; refine (next_any _ _ _).mono ?_; rintro e w' ⟨rfl, rfl⟩) | (go_at_call 17; refine (rnext_any _ _ _).mono ?_; rintro e w' ⟨rfl, rfl⟩) | (go_at_call 18; refine (moves_at _ _ HM.out _).mono ?_; rintro e w' ⟨rfl, rfl⟩) | (go_at_call 19; refine (takes_at _ _ HT.out _).mono ?_; rintro e w' ⟨rfl, rfl⟩))
    go_ret
    exact ⟨rfl, Below.refl _ _⟩

set_option maxRecDepth 100000 in
theorem lifted_StateEdges (os : Os) (started : os.Started) (H : Type) (enc : TypeId × Value → H) :
    ReturnsInHanded {} Try.checked os 3 .any (Rows.stateEdgesSpec.pre6 enc Try.prog Try.f3 Rows.stateEdgesRow.domain false) (Rows.stateEdgesSpec.post enc Try.prog Try.f3 false true false false) := by
  refine returnsInHanded_of_change (C := Try.checked) own started (by kernel_rfl) Try.func3
    (ChangeSpec.witness6 (enc := enc) (C := Try.checked) false ⟨#[], #[.int .i64 0, .int .i64 0], []⟩ 8 (by kernel_rfl) (by kernel_rfl) (by kernel_rfl) (by kernel_rfl)) ?_
  intro W base args ds gs before hval0 hW hcnd _
  have hval : ∀ (j : Nat) t v, Try.f3.params[j]? = some t → args[j]? = some v → Value.okWide Try.prog W .any base t v := hval0
  have hW' := hW
  obtain ⟨p, q, hA0, hV, rfl, hfz, hnd⟩ := hW'
  have hA : DataW.TrodAll enc Try.prog W 0 (fun _ => true) true Try.f3.params.toList args.toList ds p := hA0
  rw [Try.params3] at hA hval
  obtain ⟨v0, vs0, d0, ds0, p0, q0, hargs, rfl, rfl, h0, r0⟩ := trodAll_cons hA
  obtain ⟨v1, vs1, d1, ds1, p1, q1, rfl, rfl, rfl, h1, r1⟩ := trodAll_cons r0
  obtain ⟨rfl, rfl, rfl⟩ := trodAll_nil r1
  obtain rfl : args = #[v0, v1] := by cases args; simp_all
  obtain ⟨rfl, rfl⟩ := trodVars_none hV
  obtain ⟨a0, rfl, rfl, rfl, w0⟩ := open_int Try.underlying3 (hval 0 3 v0 rfl rfl) h0
  obtain ⟨a1, rfl, rfl, rfl, w1⟩ := open_int Try.underlying3 (hval 1 3 v1 rfl rfl) h1
  refine (walk_StateEdges a0 a1 w0 w1 W).mono fun e W' ⟨he, hb⟩ => ⟨_, he, ?_⟩
  exact law_post_any laid_out Try.underlying4 hW rfl ⟨rfl, rfl, rfl⟩ rfl (by kernel_rfl) hb

theorem over_StateEdges : Rows.stateEdgesRow.holds Try.pinned (OpenSpec.ofChange Rows.stateEdgesSpec) :=
  OpenClaim.holds_of_wide 3 Try.f3 rfl rfl rfl rfl rfl rfl rfl ⟨rfl, rfl, rfl, rfl, rfl⟩ rfl rfl rfl rfl rfl (by kernel_rfl) Try.func3 (by kernel_rfl)
    (of_decide_eq_true (by kernel_rfl)) (by unfold Func.isWrapper; first | (rw [if_pos (by decide +kernel)]; kernel_rfl) | (rw [if_neg (by decide +kernel)]; exact ⟨rfl, rfl⟩))
    (fun os started H enc _ => lifted_StateEdges os started H enc)

/-- the statement -/
theorem StateEdges_holds : Rows.StateEdgesSaid := over_StateEdges
#print axioms StateEdges_holds

end Go.Proofs.Ytddakmlnkffgiaa
