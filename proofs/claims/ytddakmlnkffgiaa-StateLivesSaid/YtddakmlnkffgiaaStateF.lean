/- Layer 11: whatever happens, one thing behind the other, an axis is in one of its states, and once it moves it was switched on ahead of it: StateLives returns true. Conditions: none. -/
import Derived.Test.YtddakmlnkffgiaaStateD
namespace Go.Proofs.Ytddakmlnkffgiaa
open Go.ChangeShapes Go.WideShapes Go.ChangeAt Go.RowKit
set_option linter.unusedVariables false

/-- is the axis switched on, behind what happened? -/
def onB (on ok : Bool) (e : Int) : Bool := if ok && (e == 12) then true else if ok && (e == 2) then false else if ok && (e == 1) then true else on
/-- all that is kept from one thing to the next -/
def liveB (s : Int) (on : Bool) : Bool := decide (0 ≤ s) && decide (s ≤ 7) && ((s == 0) || (s == 7) || on)

theorem live_step (s e : Int) (on : Bool) (h : liveB s on = true) : liveB (stV s e) (onB on (stB s e) e) = true := by
  by_cases c : s < 0 ∨ 7 < s ∨ e < 1 ∨ 12 < e
  · rw [stV_no s e c, stB_no s e c]
    simpa [onB] using h
  · revert h
    refine st_all (fun s e => liveB s on = true → liveB (stV s e) (onB on (stB s e) e) = true) (fun s e hs h1 h2 => ?_) s e (by omega) (by omega)
    have h : s = 0 ∨ s = 1 ∨ s = 2 ∨ s = 3 ∨ s = 4 ∨ s = 5 ∨ s = 6 ∨ s = 7 := by omega
    have h3 : e = 1 ∨ e = 2 ∨ e = 3 ∨ e = 4 ∨ e = 5 ∨ e = 6 ∨ e = 7 ∨ e = 8 ∨ e = 9 ∨ e = 10 ∨ e = 11 ∨ e = 12 := by omega
    clear hs h1 h2 c
    rcases h with rfl | rfl | rfl | rfl | rfl | rfl | rfl | rfl
    all_goals rcases h3 with rfl | rfl | rfl | rfl | rfl | rfl | rfl | rfl | rfl | rfl | rfl | rfl
    all_goals cases on <;> decide
theorem live_facts (s : Int) (on : Bool) (h : liveB s on = true) : 0 ≤ s ∧ s ≤ 7 ∧ (movesB s = true → on = true) := by
  simp only [liveB, Bool.and_eq_true, Bool.or_eq_true, decide_eq_true_eq, beq_iff_eq] at h
  refine ⟨h.1.1, h.1.2, fun hm => ?_⟩
  rcases h.2 with (rfl | rfl) | h
  · simp [movesB] at hm
  · simp [movesB] at hm
  · exact h

set_option maxHeartbeats 4000000 in
set_option maxRecDepth 100000 in
theorem lives_some (b off cap : Nat) (zs : List Int) (w : World) (hn : zs.length ≤ cap) (hcap : cap ≤ 9223372036854775807) (hc : ∀ i, i < zs.length → w.cell? ⟨b, off + i, none⟩ = some (.int .i64 (zs[i]?.getD 0))) :
    Calls Try.prog 5 #[.slice (some ⟨b, off, none⟩) zs.length cap] w fun e w' => e = .returned (.bool true) ∧ w = w' := by
  obtain ⟨n, hlen⟩ : ∃ n, zs.length = n := ⟨_, rfl⟩
  rw [hlen] at hn hc ⊢
  have HC := Lib.hid hc
  clear hc
  go_enter Try.func5, Try.ntmps5
  go_wp2_with (first | (go_at_call 15; refine (awake11 _).mono ?_; rintro e w' ⟨rfl, rfl⟩))
  go_loop [3, 4, 5] (fun x y z => ∃ (s : Int) (on : Bool) (k : Nat), k ≤ n ∧ k ≤ 300 ∧ Hid (liveB s on = true) ∧ x = .int .i64 s ∧ y = .bool on ∧ z = .int .i64 k) (fun _ _ z => n - (intOf z).toNat)
  case atStart => exact ⟨0, false, 0, by omega, by omega, show Hid _ from rfl, rfl, rfl, rfl⟩
  case round =>
    obtain ⟨s, on, k, hk, hk3, HL, rfl, rfl, rfl⟩ := hrel
    have hmeet : ∀ (s' : Int) (on' : Bool), Hid (liveB s' on' = true) → k < n → k < 300 → ∃ (s : Int) (on : Bool) (q : Nat), q ≤ n ∧ q ≤ 300 ∧ Hid (liveB s on = true) ∧ Value.int .i64 s' = .int .i64 s ∧ Value.bool on' = .bool on ∧ Value.int .i64 (k + 1 : Nat) = .int .i64 (q : Nat) :=
      fun s' on' h h1 h2 => ⟨s', on', k + 1, by omega, by omega, h, rfl, rfl, rfl⟩
    clear hmeet
    by_cases hlt : k < n
    · by_cases h300 : k < 300
      · have hcell := HC.out k hlt
        obtain ⟨x, hx⟩ : ∃ x, zs[k]?.getD 0 = x := ⟨_, rfl⟩
        rw [hx] at hcell
        obtain ⟨t, ht⟩ : ∃ t, stV s x = t := ⟨_, rfl⟩
        obtain ⟨ok, hok⟩ : ∃ ok, stB s x = ok := ⟨_, rfl⟩
        have hstep := live_step s x on HL.out
        rw [ht, hok] at hstep
        obtain ⟨on', hon'⟩ : ∃ on', onB on ok x = on' := ⟨_, rfl⟩
        rw [hon'] at hstep
        have hf := live_facts t on' hstep
        obtain ⟨m, hm⟩ : ∃ m, movesB t = m := ⟨_, rfl⟩
        rw [hm] at hf
        have ht0 := hf.1
        have ht7 := hf.2.1
        have hmo := hf.2.2
        have HT := Lib.hid ht
        have HOK := Lib.hid hok
        have HON := Lib.hid hon'
        have HM := Lib.hid hm
        have HS := Lib.hid hstep
        have hd1 : decide (t < 0) = false := by simp; omega
        have hd2 : decide (7 < t) = false := by simp; omega
        clear ht hok hon' hm hstep hf hx HL
        have hcase : (ok = false ∧ on' = on) ∨ (ok = true ∧ (x == 1) = true ∧ (x == 2) = false ∧ (x == 12) = false ∧ on' = true) ∨ (ok = true ∧ (x == 1) = false ∧ (x == 2) = true ∧ (x == 12) = false ∧ on' = false) ∨ (ok = true ∧ (x == 1) = false ∧ (x == 2) = false ∧ (x == 12) = true ∧ on' = true) ∨ (ok = true ∧ (x == 1) = false ∧ (x == 2) = false ∧ (x == 12) = false ∧ on' = on) := by
          have := HON.out
          subst this
          cases ok
          · exact .inl ⟨rfl, by simp [onB]⟩
          · right
            by_cases c1 : x = 1
            · subst c1; exact .inl ⟨rfl, rfl, rfl, rfl, rfl⟩
            by_cases c2 : x = 2
            · subst c2; exact .inr (.inl ⟨rfl, rfl, rfl, rfl, rfl⟩)
            by_cases c3 : x = 12
            · subst c3; exact .inr (.inr (.inl ⟨rfl, rfl, rfl, rfl, rfl⟩))
            · exact .inr (.inr (.inr ⟨rfl, by simpa using c1, by simpa using c2, by simpa using c3, by simp [onB, c1, c2, c3]⟩))
        clear HON
        rcases hcase with ⟨rfl, rfl⟩ | ⟨rfl, c1, c2, c3, rfl⟩ | ⟨rfl, c1, c2, c3, rfl⟩ | ⟨rfl, c1, c2, c3, rfl⟩ | ⟨rfl, c1, c2, c3, rfl⟩
        all_goals
          cases m
          · clear hmo
            go_wp2_with (first | (go_at_call 16; refine (next_at _ _ _ _ HT.out HOK.out _).mono ?_; rintro e w' ⟨rfl, rfl⟩) | (go_at_call 18; refine (moves_at _ _ HM.out _).mono ?_; rintro e w' ⟨rfl, rfl⟩))
            go_round
            case rel => exact ⟨_, _, k + 1, by omega, by omega, HS, rfl, rfl, by go_num⟩
            case measure => simp [intOf]; omega
          · first
              | exact absurd (hmo rfl) (by decide)
              | (have hmo := hmo rfl
                 first | subst hmo | clear hmo
                 go_wp2_with (first | (go_at_call 16; refine (next_at _ _ _ _ HT.out HOK.out _).mono ?_; rintro e w' ⟨rfl, rfl⟩) | (go_at_call 18; refine (moves_at _ _ HM.out _).mono ?_; rintro e w' ⟨rfl, rfl⟩))
                 go_round
                 case rel => exact ⟨_, _, k + 1, by omega, by omega, HS, rfl, rfl, by go_num⟩
                 case measure => simp [intOf]; omega)
      · go_wp2
        go_ret
        exact ⟨rfl, rfl⟩
    · go_wp2
      go_ret
      exact ⟨rfl, rfl⟩

set_option maxHeartbeats 1000000 in
theorem lives_none (a : Option Addr) (cap : Nat) (w : World) :
    Calls Try.prog 5 #[.slice a 0 cap] w fun e w' => e = .returned (.bool true) ∧ w = w' := by
  go_enter Try.func5, Try.ntmps5
  go_wp2_with (first | (go_at_call 15; refine (awake11 _).mono ?_; rintro e w' ⟨rfl, rfl⟩))
  go_loop [5] (fun z => z = .int .i64 0) (fun _ => 0)
  case atStart => exact rfl
  case round =>
    subst hrel
    go_wp2
    go_ret
    exact ⟨rfl, rfl⟩

theorem walk_lives (v : Value) (zs : List Int) (w : World) (h : IntsAt .i64 w v zs) :
    Calls Try.prog 5 #[v] w fun e w' => e = .returned (.bool true) ∧ Below w.heap.size w w' := by
  obtain ⟨a, cap, rfl, hl, hc, hw, hm⟩ := h
  by_cases hz : zs = []
  · subst hz
    exact (lives_none a cap w).mono fun e w' ⟨he, hw⟩ => ⟨he, hw ▸ Below.refl _ _⟩
  · obtain ⟨b, off, rfl, hcell⟩ := hm hz
    exact (lives_some b off cap zs w hl hc hcell).mono fun e w' ⟨he, hw⟩ => ⟨he, hw ▸ Below.refl _ _⟩

set_option maxRecDepth 100000 in
theorem lifted_StateLives (os : Os) (started : os.Started) (H : Type) (enc : TypeId × Value → H) :
    ReturnsInHanded {} Try.checked os 5 .any (Rows.stateLivesSpec.pre6 enc Try.prog Try.f5 Rows.stateLivesRow.domain false) (Rows.stateLivesSpec.post enc Try.prog Try.f5 false true false false) := by
  refine returnsInHanded_of_change (C := Try.checked) own started (by kernel_rfl) Try.func5
    (ChangeSpec.witness6 (enc := enc) (C := Try.checked) false ⟨#[], #[.slice none 0 0], []⟩ 8 (by kernel_rfl) (by kernel_rfl) (by kernel_rfl) (by kernel_rfl)) ?_
  intro W base args ds gs before hval0 hW hcnd _
  have hval : ∀ (j : Nat) t v, Try.f5.params[j]? = some t → args[j]? = some v → Value.okWide Try.prog W .any base t v := hval0
  have hW' := hW
  obtain ⟨p, q, hA0, hV, rfl, hfz, hnd⟩ := hW'
  have hA : DataW.TrodAll enc Try.prog W 0 (fun _ => true) true Try.f5.params.toList args.toList ds p := hA0
  rw [Try.params5] at hA hval
  obtain ⟨v0, vs0, d0, ds0, p0, q0, hargs, rfl, rfl, h0, r0⟩ := trodAll_cons hA
  obtain ⟨rfl, rfl, rfl⟩ := trodAll_nil r0
  obtain rfl : args = #[v0] := by cases args; simp_all
  obtain ⟨rfl, rfl⟩ := trodVars_none hV
  obtain ⟨a0, w0⟩ := open_ints_at Try.underlying27 Try.underlying3 (by kernel_rfl) (hval 0 27 v0 rfl rfl) h0
  refine (walk_lives v0 a0 W w0).mono fun e W' ⟨he, hb⟩ => ⟨_, he, ?_⟩
  exact law_post_any laid_out Try.underlying4 hW rfl ⟨rfl, rfl, rfl⟩ rfl (by kernel_rfl) hb

theorem over_StateLives : Rows.stateLivesRow.holds Try.pinned (OpenSpec.ofChange Rows.stateLivesSpec) :=
  OpenClaim.holds_of_wide 5 Try.f5 rfl rfl rfl rfl rfl rfl rfl ⟨rfl, rfl, rfl, rfl, rfl⟩ rfl rfl rfl rfl rfl (by kernel_rfl) Try.func5 (by kernel_rfl)
    (of_decide_eq_true (by kernel_rfl)) (by unfold Func.isWrapper; first | (rw [if_pos (by decide +kernel)]; kernel_rfl) | (rw [if_neg (by decide +kernel)]; exact ⟨rfl, rfl⟩))
    (fun os started H enc _ => lifted_StateLives os started H enc)

/-- the statement -/
theorem StateLives_holds : Rows.StateLivesSaid := over_StateLives
#print axioms StateLives_holds

end Go.Proofs.Ytddakmlnkffgiaa
