/- Contracts of layer 21: operations of numbers and truths. -/
import Derived.Test.YtcamegfnhbbaeaaM04
import Derived.Test.YtcamegfnhbbaeaaRefI
namespace Go.Proofs.Ytcamegfnhbbaeaa
open Go.RowKit
set_option linter.unusedVariables false
set_option linter.unusedSimpArgs false
attribute [local go_sem] ite_max ite_min vite_max vite_min ext_cell ext_frozen

/-- a truth as a number -/
def tvI (b : Bool) : Int := bif b then 1 else 0
/-- an operation of one -/
def op1 (op a : Int) (tr : Bool) : Int × Bool × Int :=
  if op = 6 ∧ tr = false then (fitV (0 - a), false, bif fitB (0 - a) then 0 else 2) else if op = 7 ∧ tr = true then (1 - a, true, 0) else (0, false, -1)
/-- of two truths -/
def opT (op a b : Int) : Int × Bool × Int :=
  if op = 13 then (tvI (a == b), true, 0) else if op = 14 ∨ op = 20 then (tvI (a != b), true, 0) else if op = 19 then (tvI ((a == 1) && (b == 1)), true, 0) else if op = 21 then (tvI ((a == 1) || (b == 1)), true, 0) else (0, false, -1)
/-- of a quotient's error, the fault -/
def fltE (e : Int) : Int := if e = 3 then 1 else if e = 0 then 0 else 2
/-- of two numbers: reckoned -/
def opK (op a b : Int) : Int × Bool × Int :=
  if op = 8 then (fitV (a + b), false, bif fitB (a + b) then 0 else 2) else if op = 9 then (fitV (a - b), false, bif fitB (a - b) then 0 else 2) else if op = 10 then (fitV (a * b), false, bif fitB (a * b) then 0 else 2)
  else if op = 11 then (divV a b, false, fltE (divE a b)) else (modV a b, false, fltE (modE b))
/-- compared -/
def opC (op a b : Int) : Int × Bool × Int :=
  (tvI (if op = 13 then a == b else if op = 14 then a != b else if op = 15 then decide (a < b) else if op = 16 then decide (b < a) else if op = 17 then decide (a ≤ b) else decide (b ≤ a)), true, 0)
def opV (r : Int × Bool × Int) : Value := .tuple #[.int .i64 r.1, .bool r.2.1, .int .i64 r.2.2]

theorem fitV_no0 {x : Int} (h : fitB x = false) : fitV x = 0 := by unfold fitV; rw [h]; rfl

set_option maxHeartbeats 1000000 in
theorem ftruth_any (b : Bool) (w : World) : Calls Try.prog 37 #[.bool b] w fun e w' => e = .returned (.int .i64 (tvI b)) ∧ w = w' := by
  cases b
  all_goals
    go_enter Try.func37, Try.ntmps37
    go_wp2
    go_ret
    exact ⟨rfl, rfl⟩

set_option maxHeartbeats 1000000 in
theorem rone_any (b : Bool) (w : World) : Calls Try.prog 20 #[.bool b] w fun e w' => e = .returned (.int .i64 (tvI b)) ∧ w = w' := by
  cases b
  all_goals
    go_enter Try.func20, Try.ntmps20
    go_wp2
    go_ret
    exact ⟨rfl, rfl⟩

set_option maxHeartbeats 2000000 in
theorem ofone_any (op a : Int) (tr : Bool) (w : World) (ha : -9223372036854775808 ≤ a ∧ a ≤ 9223372036854775807) (ht : tr = true → 0 ≤ a ∧ a ≤ 1) :
    Calls Try.prog 16 #[.int .i64 op, .int .i64 a, .bool tr] w fun e w' => e = .returned (opV (op1 op a tr)) ∧ w = w' := by
  by_cases h6 : op = 6
  · subst h6
    cases tr
    · have hs := fun w => qsub_any 0 a w (by omega) ha
      cases hf : fitB (0 - a)
      · rw [hf, fitV_no0 hf] at hs
        have e1 : opV (op1 6 a false) = .tuple #[.int .i64 0, .bool false, .int .i64 2] := by unfold op1 opV; rw [if_pos ⟨rfl, rfl⟩, hf, fitV_no0 hf]; rfl
        rw [e1]
        have HS := Lib.hid hs
        clear hs hf e1
        go_enter Try.func16, Try.ntmps16
        go_wp2_with fail
        refine (HS.out _).mono ?_
        rintro e w1 ⟨rfl, rfl⟩
        go_wp2
        go_ret3
        exact ⟨rfl, rfl⟩
      · rw [hf] at hs
        have e1 : opV (op1 6 a false) = .tuple #[.int .i64 (fitV (0 - a)), .bool false, .int .i64 0] := by unfold op1 opV; rw [if_pos ⟨rfl, rfl⟩, hf]; rfl
        rw [e1]
        generalize fitV (0 - a) = x at *
        have HS := Lib.hid hs
        clear hs hf e1
        go_enter Try.func16, Try.ntmps16
        go_wp2_with fail
        refine (HS.out _).mono ?_
        rintro e w1 ⟨rfl, rfl⟩
        go_wp2
        go_ret3
        exact ⟨rfl, rfl⟩
    · have e1 : opV (op1 6 a true) = .tuple #[.int .i64 0, .bool false, .int .i64 (-1)] := by unfold op1 opV; simp
      rw [e1]
      clear e1
      go_enter Try.func16, Try.ntmps16
      go_wp2
      go_ret3
      exact ⟨rfl, rfl⟩
  · have q6 : (op == 6) = false := by simpa using h6
    by_cases h7 : op = 7
    · subst h7
      cases tr
      · have e1 : opV (op1 7 a false) = .tuple #[.int .i64 0, .bool false, .int .i64 (-1)] := by unfold op1 opV; simp
        rw [e1]
        clear e1 q6 h6
        go_enter Try.func16, Try.ntmps16
        go_wp2
        go_ret3
        exact ⟨rfl, rfl⟩
      · have e1 : opV (op1 7 a true) = .tuple #[.int .i64 (1 - a), .bool true, .int .i64 0] := by unfold op1 opV; simp
        rw [e1]
        have := ht rfl
        clear e1 q6 h6
        go_enter Try.func16, Try.ntmps16
        go_wp2
        go_ret3
        exact ⟨rfl, rfl⟩
    · have q7 : (op == 7) = false := by simpa using h7
      have e1 : opV (op1 op a tr) = .tuple #[.int .i64 0, .bool false, .int .i64 (-1)] := by unfold op1 opV; simp [h6, h7]
      rw [e1]
      clear e1 h6 h7 ht
      go_enter Try.func16, Try.ntmps16
      go_wp2
      go_ret3
      exact ⟨rfl, rfl⟩

theorem opT_other (op a b : Int) (h : op ≠ 13 ∧ op ≠ 14 ∧ op ≠ 19 ∧ op ≠ 20 ∧ op ≠ 21) : opT op a b = (0, false, -1) := by unfold opT; simp [h]

set_option maxHeartbeats 4000000 in
theorem oftruths_any (op a b : Int) (w : World) (ha : a = 0 ∨ a = 1) (hb : b = 0 ∨ b = 1) :
    Calls Try.prog 17 #[.int .i64 op, .int .i64 a, .int .i64 b] w fun e w' => e = .returned (opV (opT op a b)) ∧ w = w' := by
  by_cases h : op ≠ 13 ∧ op ≠ 14 ∧ op ≠ 19 ∧ op ≠ 20 ∧ op ≠ 21
  · rw [opT_other op a b h]
    obtain ⟨h1, h2, h3, h4, h5⟩ := h
    have q1 : (op == 13) = false := by simpa using h1
    have q2 : (op == 14) = false := by simpa using h2
    have q3 : (op == 19) = false := by simpa using h3
    have q4 : (op == 20) = false := by simpa using h4
    have q5 : (op == 21) = false := by simpa using h5
    clear h1 h2 h3 h4 h5 ha hb
    go_enter Try.func17, Try.ntmps17
    go_wp2
    go_ret3
    exact ⟨rfl, rfl⟩
  · have hc : op = 13 ∨ op = 14 ∨ op = 19 ∨ op = 20 ∨ op = 21 := by omega
    clear h
    rcases hc with rfl | rfl | rfl | rfl | rfl
    all_goals rcases ha with rfl | rfl
    all_goals rcases hb with rfl | rfl
    all_goals
      go_enter Try.func17, Try.ntmps17
      go_wp2_with (first | (go_at_call 37; refine (ftruth_any _ _).mono ?_; rintro e w' ⟨rfl, rfl⟩))
      go_ret3
      exact ⟨rfl, rfl⟩

set_option maxHeartbeats 4000000 in
theorem compared_any (op a b : Int) (w : World) (ho : 13 ≤ op ∧ op ≤ 18) :
    Calls Try.prog 19 #[.int .i64 op, .int .i64 a, .int .i64 b] w fun e w' => e = .returned (opV (opC op a b)) ∧ w = w' := by
  rcases (by omega : op = 13 ∨ op = 14 ∨ op = 15 ∨ op = 16 ∨ op = 17 ∨ op = 18) with rfl | rfl | rfl | rfl | rfl | rfl
  all_goals
    clear ho
    go_enter Try.func19, Try.ntmps19
    go_wp2_with (first | (go_at_call 37; refine (ftruth_any _ _).mono ?_; rintro e w' ⟨rfl, rfl⟩))
    go_ret3
    exact ⟨rfl, rfl⟩

theorem divE_cases (a b : Int) : divE a b = 0 ∨ (divE a b = 2 ∧ divV a b = 0) ∨ (divE a b = 3 ∧ divV a b = 0) := by
  unfold divV
  unfold divE
  by_cases h1 : b = 0
  · simp [h1]
  · by_cases h2 : a = -9223372036854775808 ∧ b = -1
    · simp [h1, h2]
    · simp [h1, h2]
theorem modE_cases (a b : Int) : modE b = 0 ∨ (modE b = 2 ∧ modV a b = 0) ∨ (modE b = 3 ∧ modV a b = 0) := by
  unfold modV modE
  by_cases h1 : b = 0
  · simp [h1]
  · simp [h1]

set_option maxHeartbeats 4000000 in
theorem reckoned_any (op a b : Int) (w : World) (ho : 8 ≤ op ∧ op ≤ 12) (ha : -9223372036854775808 ≤ a ∧ a ≤ 9223372036854775807) (hb : -9223372036854775808 ≤ b ∧ b ≤ 9223372036854775807) :
    Calls Try.prog 18 #[.int .i64 op, .int .i64 a, .int .i64 b] w fun e w' => e = .returned (opV (opK op a b)) ∧ w = w' := by
  rcases (by omega : op = 8 ∨ op = 9 ∨ op = 10 ∨ op = 11 ∨ op = 12) with rfl | rfl | rfl | rfl | rfl
  · have hs := fun w => qadd_any a b w ha hb
    rw [show opK 8 a b = (fitV (a + b), false, bif fitB (a + b) then 0 else 2) from rfl]
    cases hf : fitB (a + b)
    · rw [hf, fitV_no0 hf] at hs
      rw [fitV_no0 hf]
      have HS := Lib.hid hs
      clear hs hf ho
      go_enter Try.func18, Try.ntmps18
      go_wp2_with fail
      refine (HS.out _).mono ?_
      rintro e w1 ⟨rfl, rfl⟩
      go_wp2
      go_ret3
      exact ⟨rfl, rfl⟩
    · rw [hf] at hs
      generalize fitV (a + b) = x at *
      have HS := Lib.hid hs
      clear hs hf ho
      go_enter Try.func18, Try.ntmps18
      go_wp2_with fail
      refine (HS.out _).mono ?_
      rintro e w1 ⟨rfl, rfl⟩
      go_wp2
      go_ret3
      exact ⟨rfl, rfl⟩
  · have hs := fun w => qsub_any a b w ha hb
    rw [show opK 9 a b = (fitV (a - b), false, bif fitB (a - b) then 0 else 2) from rfl]
    cases hf : fitB (a - b)
    · rw [hf, fitV_no0 hf] at hs
      rw [fitV_no0 hf]
      have HS := Lib.hid hs
      clear hs hf ho
      go_enter Try.func18, Try.ntmps18
      go_wp2_with fail
      refine (HS.out _).mono ?_
      rintro e w1 ⟨rfl, rfl⟩
      go_wp2
      go_ret3
      exact ⟨rfl, rfl⟩
    · rw [hf] at hs
      generalize fitV (a - b) = x at *
      have HS := Lib.hid hs
      clear hs hf ho
      go_enter Try.func18, Try.ntmps18
      go_wp2_with fail
      refine (HS.out _).mono ?_
      rintro e w1 ⟨rfl, rfl⟩
      go_wp2
      go_ret3
      exact ⟨rfl, rfl⟩
  · have hs := fun w => qmul_any a b w ha hb
    rw [show opK 10 a b = (fitV (a * b), false, bif fitB (a * b) then 0 else 2) from rfl]
    cases hf : fitB (a * b)
    · rw [hf, fitV_no0 hf] at hs
      rw [fitV_no0 hf]
      have HS := Lib.hid hs
      clear hs hf ho
      go_enter Try.func18, Try.ntmps18
      go_wp2_with fail
      refine (HS.out _).mono ?_
      rintro e w1 ⟨rfl, rfl⟩
      go_wp2
      go_ret3
      exact ⟨rfl, rfl⟩
    · rw [hf] at hs
      generalize fitV (a * b) = x at *
      have HS := Lib.hid hs
      clear hs hf ho
      go_enter Try.func18, Try.ntmps18
      go_wp2_with fail
      refine (HS.out _).mono ?_
      rintro e w1 ⟨rfl, rfl⟩
      go_wp2
      go_ret3
      exact ⟨rfl, rfl⟩
  · have hs := fun w => qdiv_any a b w ha hb
    rw [show opK 11 a b = (divV a b, false, fltE (divE a b)) from rfl]
    have hz : divE a b = 0 ∨ (divE a b = 2 ∧ divV a b = 0) ∨ (divE a b = 3 ∧ divV a b = 0) := divE_cases a b
    generalize divV a b = x at *
    generalize divE a b = y at *
    rcases hz with rfl | ⟨rfl, rfl⟩ | ⟨rfl, rfl⟩
    all_goals
      have HS := Lib.hid hs
      clear hs ho
      go_enter Try.func18, Try.ntmps18
      go_wp2_with fail
      refine (HS.out _).mono ?_
      rintro e w1 ⟨rfl, rfl⟩
      go_wp2
      go_ret3
      exact ⟨rfl, rfl⟩
  · have hs := fun w => qmod_any a b w ha hb
    rw [show opK 12 a b = (modV a b, false, fltE (modE b)) from rfl]
    have hz : modE b = 0 ∨ (modE b = 2 ∧ modV a b = 0) ∨ (modE b = 3 ∧ modV a b = 0) := modE_cases a b
    generalize modV a b = x at *
    generalize modE b = y at *
    rcases hz with rfl | ⟨rfl, rfl⟩ | ⟨rfl, rfl⟩
    all_goals
      have HS := Lib.hid hs
      clear hs ho
      go_enter Try.func18, Try.ntmps18
      go_wp2_with fail
      refine (HS.out _).mono ?_
      rintro e w1 ⟨rfl, rfl⟩
      go_wp2
      go_ret3
      exact ⟨rfl, rfl⟩

end Go.Proofs.Ytcamegfnhbbaeaa
