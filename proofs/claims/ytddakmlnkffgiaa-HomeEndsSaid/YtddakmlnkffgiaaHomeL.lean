/- Layer 13: whatever the switches show, cycle by cycle, a search stays right, turns once at most, stays over once it is, wants no more than its speeds, and has found its place only if the switch showed in one cycle and not in a later one: HomeEnds returns true. Conditions: none. -/
import Derived.Test.YtddakmlnkffgiaaHomeK
namespace Go.Proofs.Ytddakmlnkffgiaa
open Go.ChangeShapes Go.WideShapes Go.ChangeAt Go.RowKit
set_option linter.unusedVariables false
set_option linter.unusedSimpArgs false

set_option maxRecDepth 100000 in
set_option maxHeartbeats 1000000 in
theorem ends_no (fast creep : Int) (v : Value) (w : World) (hN : Hid (homeB 0 fast creep = false)) :
    Calls Try.prog 7 #[.int .i64 fast, .int .i64 creep, v] w fun e w' => e = .returned (.bool true) ∧ Below w.heap.size w w' := by
  go_enter Try.func7, Try.ntmps7
  go_wp2_with fail
  refine (awake13 _).mono ?_
  rintro e w1 ⟨rfl, hb1⟩
  go_wp2_with fail
  refine (hnew_no _ _ _ hN.out).mono ?_
  rintro e w2 ⟨rfl, hb2⟩
  go_wp2
  go_ret
  exact ⟨rfl, by (repeat' (first | (with_reducible exact Below.refl _ _) | (with_reducible assumption) | (with_reducible refine below_drewN ?_ _) | (with_reducible refine Below.drew ?_) | (with_reducible refine below_new ?_ (Nat.le_refl _) _) | (with_reducible refine Below.setCell ?_ ?_ _) | (with_reducible refine below_go ?_ (by assumption) (Nat.le_refl _)) | (simp; done) | (simp; omega) | omega))⟩

set_option maxRecDepth 100000 in
set_option maxHeartbeats 1000000 in
theorem ends_nil (fast creep : Int) (a : Option Addr) (cap : Nat) (w : World) (hN : Hid (homeB 0 fast creep = true)) (hf : -1048576 ≤ fast ∧ fast ≤ 1048576) :
    Calls Try.prog 7 #[.int .i64 fast, .int .i64 creep, .slice a 0 cap] w fun e w' => e = .returned (.bool true) ∧ Below w.heap.size w w' := by
  obtain ⟨S, hS⟩ : ∃ S, max fast (-fast) = S := ⟨_, rfl⟩
  rcases (show 0 < fast ∨ fast ≤ 0 by omega) with hp | hp
  all_goals
    clear hS S
    go_enter Try.func7, Try.ntmps7
    go_wp2_with fail
    refine (awake13 _).mono ?_
    rintro e w1 ⟨rfl, hb1⟩
    go_wp2_with fail
    refine (hnew_yes _ _ _ hN.out).mono ?_
    rintro e w2 ⟨rfl, hb2⟩
    go_wp2_with fail
    all_goals
      have hB0 : Below w.heap.size w (w2.alloc (Obj.cells #[Value.int IntKind.i64 0, Value.int IntKind.i64 fast, Value.int IntKind.i64 creep, Value.bool false] 30)) := by (repeat' (first | (with_reducible exact Below.refl _ _) | (with_reducible assumption) | (with_reducible refine below_drewN ?_ _) | (with_reducible refine Below.drew ?_) | (with_reducible refine below_new ?_ (Nat.le_refl _) _) | (with_reducible refine Below.setCell ?_ ?_ _) | (with_reducible refine below_go ?_ (by assumption) (Nat.le_refl _)) | (simp; done) | (simp; omega) | omega))
      go_loopw [13] (fun u w' => u = .int .i64 0 ∧ Below w.heap.size w w') (fun _ _ => 0)
      case atStart => exact ⟨rfl, hB0⟩
      case round =>
        obtain ⟨rfl, hbr⟩ := hrel
        go_wp2
        go_ret
        exact ⟨rfl, hbr⟩

theorem walk_HomeEnds (fast creep : Int) (v : Value) (zs : List CycleS) (w : World) (h1 : (Lit.int .i64 fast).wf = true) (h2 : (Lit.int .i64 creep).wf = true) (h : SliceAt 4 CycleS.cells (fun _ => True) w v zs) :
    Calls Try.prog 7 #[.int .i64 fast, .int .i64 creep, v] w fun e w' => e = .returned (.bool true) ∧ Below w.heap.size w w' := by
  cases hN : homeB 0 fast creep
  · exact ends_no fast creep v w hN
  · have hy := homeB_yes hN
    obtain ⟨a, cap, rfl, hl, hc, _, hm⟩ := h
    by_cases hz : zs = []
    · subst hz
      exact ends_nil fast creep a cap w hN (by omega)
    · obtain ⟨b, off, rfl, hb, hcell⟩ := hm hz
      by_cases hp : 0 < fast
      · exact ends_up fast creep b off cap zs w hN _ rfl hb hl hc hp (show Hid _ from by show _ = _; omega) hcell
      · exact ends_down fast creep b off cap zs w hN _ rfl hb hl hc (by omega) (show Hid _ from by show _ = _; omega) hcell

theorem cycle_of {H : Type} {enc : TypeId × Value → H} {w : World} {cs : List Value} (h : Rd enc Try.prog w 40 cs) : ∃ x : CycleS, cs = x.cells ∧ True := by
  obtain ⟨a, b, c, d, rfl⟩ := rd_cycle h
  exact ⟨⟨a, b, c, d⟩, rfl, trivial⟩

set_option maxRecDepth 100000 in
theorem lifted_HomeEnds (os : Os) (started : os.Started) (H : Type) (enc : TypeId × Value → H) :
    ReturnsInHanded {} Try.checked os 7 .any (Rows.homeEndsSpec.pre6 enc Try.prog Try.f7 Rows.homeEndsRow.domain false) (Rows.homeEndsSpec.post enc Try.prog Try.f7 false true false false) := by
  refine returnsInHanded_of_change (C := Try.checked) own started (by kernel_rfl) Try.func7
    (ChangeSpec.witness6 (enc := enc) (C := Try.checked) false ⟨#[], #[.int .i64 0, .int .i64 0, .slice none 0 0], []⟩ 8 (by kernel_rfl) (by kernel_rfl) (by kernel_rfl) (by kernel_rfl)) ?_
  intro W base args ds gs before hval0 hW hcnd _
  have hval : ∀ (j : Nat) t v, Try.f7.params[j]? = some t → args[j]? = some v → Value.okWide Try.prog W .any base t v := hval0
  have hW' := hW
  obtain ⟨p, q, hA0, hV, rfl, hfz, hnd⟩ := hW'
  have hA : DataW.TrodAll enc Try.prog W 0 (fun _ => true) true Try.f7.params.toList args.toList ds p := hA0
  rw [Try.params7] at hA hval
  obtain ⟨v0, vs0, d0, ds0, p0, q0, hargs, rfl, rfl, h0, r0⟩ := trodAll_cons hA
  obtain ⟨v1, vs1, d1, ds1, p1, q1, rfl, rfl, rfl, h1, r1⟩ := trodAll_cons r0
  obtain ⟨v2, vs2, d2, ds2, p2, q2, rfl, rfl, rfl, h2, r2⟩ := trodAll_cons r1
  obtain ⟨rfl, rfl, rfl⟩ := trodAll_nil r2
  obtain rfl : args = #[v0, v1, v2] := by cases args; simp_all
  obtain ⟨rfl, rfl⟩ := trodVars_none hV
  obtain ⟨a0, rfl, rfl, rfl, w0⟩ := open_int Try.underlying2 (hval 0 2 v0 rfl rfl) h0
  obtain ⟨a1, rfl, rfl, rfl, w1⟩ := open_int Try.underlying2 (hval 1 2 v1 rfl rfl) h1
  obtain ⟨s2, l2, c2, rfl⟩ := okWide_slice Try.underlying38 (hval 2 38 v2 rfl rfl)
  have r2 : Rd enc Try.prog W 38 [.slice s2 l2 c2] := by simpa [Value.cells] using rd_of h2
  obtain ⟨a2, w2⟩ := rd_slice_at CycleS.cells (fun _ => True) Try.underlying38 cells_cycle (by decide) (fun cs h => cycle_of h) r2
  refine (walk_HomeEnds a0 a1 _ a2 W w0 w1 w2).mono fun e W' ⟨he, hb⟩ => ⟨_, he, ?_⟩
  exact law_post_any laid_out Try.underlying4 hW rfl ⟨rfl, rfl, rfl⟩ rfl (by kernel_rfl) hb

theorem over_HomeEnds : Rows.homeEndsRow.holds Try.pinned (OpenSpec.ofChange Rows.homeEndsSpec) :=
  OpenClaim.holds_of_wide 7 Try.f7 rfl rfl rfl rfl rfl rfl rfl ⟨rfl, rfl, rfl, rfl, rfl⟩ rfl rfl rfl rfl rfl (by kernel_rfl) Try.func7 (by kernel_rfl)
    (of_decide_eq_true (by kernel_rfl)) (by unfold Func.isWrapper; first | (rw [if_pos (by decide +kernel)]; kernel_rfl) | (rw [if_neg (by decide +kernel)]; exact ⟨rfl, rfl⟩))
    (fun os started H enc _ => lifted_HomeEnds os started H enc)

/-- the statement -/
theorem HomeEnds_holds : Rows.HomeEndsSaid := over_HomeEnds
#print axioms HomeEnds_holds

end Go.Proofs.Ytddakmlnkffgiaa
