/- Merged: Contracts of layer 21: operations of numbers and truths. Contracts of layer 21: an operation's result. Contracts of layer 21, the reference: an operation's result. -/
import Derived.Test.YtcamegfnhbbaeaaM04
import Derived.Test.YtcamegfnhbbaeaaRefI
import Derived.Test.YtcamegfnhbbaeaaLie
import Derived.BigQuiet
namespace Go.Proofs.Ytcamegfnhbbaeaa
open Go.RowKit
set_option linter.unusedVariables false
set_option linter.unusedSimpArgs false
attribute [local go_sem] ite_max ite_min vite_max vite_min ext_cell ext_frozen

/-- a truth as a number -/
def tvI (b : Bool) : Int := bif b then 1 else 0
/-- an operation of one -/
def op1 (op a : Int) (tr : Bool) : Int × Bool × Int :=
  if op = 6 ∧ tr = false then (fitV (0 - a), false, bif fitB (0 - a) then 0 else 2) else if op = 7 ∧ tr = true then (1 - a, true, 0) else (0, false, -1)
/-- of two truths -/
def opT (op a b : Int) : Int × Bool × Int :=
  if op = 13 then (tvI (a == b), true, 0) else if op = 14 ∨ op = 20 then (tvI (a != b), true, 0) else if op = 19 then (tvI ((a == 1) && (b == 1)), true, 0) else if op = 21 then (tvI ((a == 1) || (b == 1)), true, 0) else (0, false, -1)
/-- of a quotient's error, the fault -/
def fltE (e : Int) : Int := if e = 3 then 1 else if e = 0 then 0 else 2
/-- of two numbers: reckoned -/
def opK (op a b : Int) : Int × Bool × Int :=
  if op = 8 then (fitV (a + b), false, bif fitB (a + b) then 0 else 2) else if op = 9 then (fitV (a - b), false, bif fitB (a - b) then 0 else 2) else if op = 10 then (fitV (a * b), false, bif fitB (a * b) then 0 else 2)
  else if op = 11 then (divV a b, false, fltE (divE a b)) else (modV a b, false, fltE (modE b))
/-- compared -/
def opC (op a b : Int) : Int × Bool × Int :=
  (tvI (if op = 13 then a == b else if op = 14 then a != b else if op = 15 then decide (a < b) else if op = 16 then decide (b < a) else if op = 17 then decide (a ≤ b) else decide (b ≤ a)), true, 0)
def opV (r : Int × Bool × Int) : Value := .tuple #[.int .i64 r.1, .bool r.2.1, .int .i64 r.2.2]

theorem fitV_no0 {x : Int} (h : fitB x = false) : fitV x = 0 := by unfold fitV; rw [h]; rfl

set_option maxHeartbeats 1000000 in
theorem ftruth_any (b : Bool) (w : World) : Calls Try.prog 37 #[.bool b] w fun e w' => e = .returned (.int .i64 (tvI b)) ∧ w = w' := by
  cases b
  all_goals
    go_enter Try.func37, Try.ntmps37
    go_wp2
    go_ret
    exact ⟨rfl, rfl⟩

set_option maxHeartbeats 1000000 in
theorem rone_any (b : Bool) (w : World) : Calls Try.prog 20 #[.bool b] w fun e w' => e = .returned (.int .i64 (tvI b)) ∧ w = w' := by
  cases b
  all_goals
    go_enter Try.func20, Try.ntmps20
    go_wp2
    go_ret
    exact ⟨rfl, rfl⟩

set_option maxHeartbeats 2000000 in
theorem ofone_any (op a : Int) (tr : Bool) (w : World) (ha : -9223372036854775808 ≤ a ∧ a ≤ 9223372036854775807) (ht : tr = true → 0 ≤ a ∧ a ≤ 1) :
    Calls Try.prog 16 #[.int .i64 op, .int .i64 a, .bool tr] w fun e w' => e = .returned (opV (op1 op a tr)) ∧ w = w' := by
  by_cases h6 : op = 6
  · subst h6
    cases tr
    · have hs := fun w => qsub_any 0 a w (by omega) ha
      cases hf : fitB (0 - a)
      · rw [hf, fitV_no0 hf] at hs
        have e1 : opV (op1 6 a false) = .tuple #[.int .i64 0, .bool false, .int .i64 2] := by unfold op1 opV; rw [if_pos ⟨rfl, rfl⟩, hf, fitV_no0 hf]; rfl
        rw [e1]
        have HS := Lib.hid hs
        clear hs hf e1
        go_enter Try.func16, Try.ntmps16
        go_wp2_with fail
        refine (HS.out _).mono ?_
        rintro e w1 ⟨rfl, rfl⟩
        go_wp2
        go_ret3
        exact ⟨rfl, rfl⟩
      · rw [hf] at hs
        have e1 : opV (op1 6 a false) = .tuple #[.int .i64 (fitV (0 - a)), .bool false, .int .i64 0] := by unfold op1 opV; rw [if_pos ⟨rfl, rfl⟩, hf]; rfl
        rw [e1]
        generalize fitV (0 - a) = x at *
        have HS := Lib.hid hs
        clear hs hf e1
        go_enter Try.func16, Try.ntmps16
        go_wp2_with fail
        refine (HS.out _).mono ?_
        rintro e w1 ⟨rfl, rfl⟩
        go_wp2
        go_ret3
        exact ⟨rfl, rfl⟩
    · have e1 : opV (op1 6 a true) = .tuple #[.int .i64 0, .bool false, .int .i64 (-1)] := by unfold op1 opV; simp
      rw [e1]
      clear e1
      go_enter Try.func16, Try.ntmps16
      go_wp2
      go_ret3
      exact ⟨rfl, rfl⟩
  · have q6 : (op == 6) = false := by simpa using h6
    by_cases h7 : op = 7
    · subst h7
      cases tr
      · have e1 : opV (op1 7 a false) = .tuple #[.int .i64 0, .bool false, .int .i64 (-1)] := by unfold op1 opV; simp
        rw [e1]
        clear e1 q6 h6
        go_enter Try.func16, Try.ntmps16
        go_wp2
        go_ret3
        exact ⟨rfl, rfl⟩
      · have e1 : opV (op1 7 a true) = .tuple #[.int .i64 (1 - a), .bool true, .int .i64 0] := by unfold op1 opV; simp
        rw [e1]
        have := ht rfl
        clear e1 q6 h6
        go_enter Try.func16, Try.ntmps16
        go_wp2
        go_ret3
        exact ⟨rfl, rfl⟩
    · have q7 : (op == 7) = false := by simpa using h7
      have e1 : opV (op1 op a tr) = .tuple #[.int .i64 0, .bool false, .int .i64 (-1)] := by unfold op1 opV; simp [h6, h7]
      rw [e1]
      clear e1 h6 h7 ht
      go_enter Try.func16, Try.ntmps16
      go_wp2
      go_ret3
      exact ⟨rfl, rfl⟩

theorem opT_other (op a b : Int) (h : op ≠ 13 ∧ op ≠ 14 ∧ op ≠ 19 ∧ op ≠ 20 ∧ op ≠ 21) : opT op a b = (0, false, -1) := by unfold opT; simp [h]

set_option maxHeartbeats 4000000 in
theorem oftruths_any (op a b : Int) (w : World) (ha : a = 0 ∨ a = 1) (hb : b = 0 ∨ b = 1) :
    Calls Try.prog 17 #[.int .i64 op, .int .i64 a, .int .i64 b] w fun e w' => e = .returned (opV (opT op a b)) ∧ w = w' := by
  by_cases h : op ≠ 13 ∧ op ≠ 14 ∧ op ≠ 19 ∧ op ≠ 20 ∧ op ≠ 21
  · rw [opT_other op a b h]
    obtain ⟨h1, h2, h3, h4, h5⟩ := h
    have q1 : (op == 13) = false := by simpa using h1
    have q2 : (op == 14) = false := by simpa using h2
    have q3 : (op == 19) = false := by simpa using h3
    have q4 : (op == 20) = false := by simpa using h4
    have q5 : (op == 21) = false := by simpa using h5
    clear h1 h2 h3 h4 h5 ha hb
    go_enter Try.func17, Try.ntmps17
    go_wp2
    go_ret3
    exact ⟨rfl, rfl⟩
  · have hc : op = 13 ∨ op = 14 ∨ op = 19 ∨ op = 20 ∨ op = 21 := by omega
    clear h
    rcases hc with rfl | rfl | rfl | rfl | rfl
    all_goals rcases ha with rfl | rfl
    all_goals rcases hb with rfl | rfl
    all_goals
      go_enter Try.func17, Try.ntmps17
      go_wp2_with (first | (go_at_call 37; refine (ftruth_any _ _).mono ?_; rintro e w' ⟨rfl, rfl⟩))
      go_ret3
      exact ⟨rfl, rfl⟩

set_option maxHeartbeats 4000000 in
theorem compared_any (op a b : Int) (w : World) (ho : 13 ≤ op ∧ op ≤ 18) :
    Calls Try.prog 19 #[.int .i64 op, .int .i64 a, .int .i64 b] w fun e w' => e = .returned (opV (opC op a b)) ∧ w = w' := by
  rcases (by omega : op = 13 ∨ op = 14 ∨ op = 15 ∨ op = 16 ∨ op = 17 ∨ op = 18) with rfl | rfl | rfl | rfl | rfl | rfl
  all_goals
    clear ho
    go_enter Try.func19, Try.ntmps19
    go_wp2_with (first | (go_at_call 37; refine (ftruth_any _ _).mono ?_; rintro e w' ⟨rfl, rfl⟩))
    go_ret3
    exact ⟨rfl, rfl⟩

theorem divE_cases (a b : Int) : divE a b = 0 ∨ (divE a b = 2 ∧ divV a b = 0) ∨ (divE a b = 3 ∧ divV a b = 0) := by
  unfold divV
  unfold divE
  by_cases h1 : b = 0
  · simp [h1]
  · by_cases h2 : a = -9223372036854775808 ∧ b = -1
    · simp [h1, h2]
    · simp [h1, h2]
theorem modE_cases (a b : Int) : modE b = 0 ∨ (modE b = 2 ∧ modV a b = 0) ∨ (modE b = 3 ∧ modV a b = 0) := by
  unfold modV modE
  by_cases h1 : b = 0
  · simp [h1]
  · simp [h1]

set_option maxHeartbeats 4000000 in
theorem reckoned_any (op a b : Int) (w : World) (ho : 8 ≤ op ∧ op ≤ 12) (ha : -9223372036854775808 ≤ a ∧ a ≤ 9223372036854775807) (hb : -9223372036854775808 ≤ b ∧ b ≤ 9223372036854775807) :
    Calls Try.prog 18 #[.int .i64 op, .int .i64 a, .int .i64 b] w fun e w' => e = .returned (opV (opK op a b)) ∧ w = w' := by
  rcases (by omega : op = 8 ∨ op = 9 ∨ op = 10 ∨ op = 11 ∨ op = 12) with rfl | rfl | rfl | rfl | rfl
  · have hs := fun w => qadd_any a b w ha hb
    rw [show opK 8 a b = (fitV (a + b), false, bif fitB (a + b) then 0 else 2) from rfl]
    cases hf : fitB (a + b)
    · rw [hf, fitV_no0 hf] at hs
      rw [fitV_no0 hf]
      have HS := Lib.hid hs
      clear hs hf ho
      go_enter Try.func18, Try.ntmps18
      go_wp2_with fail
      refine (HS.out _).mono ?_
      rintro e w1 ⟨rfl, rfl⟩
      go_wp2
      go_ret3
      exact ⟨rfl, rfl⟩
    · rw [hf] at hs
      generalize fitV (a + b) = x at *
      have HS := Lib.hid hs
      clear hs hf ho
      go_enter Try.func18, Try.ntmps18
      go_wp2_with fail
      refine (HS.out _).mono ?_
      rintro e w1 ⟨rfl, rfl⟩
      go_wp2
      go_ret3
      exact ⟨rfl, rfl⟩
  · have hs := fun w => qsub_any a b w ha hb
    rw [show opK 9 a b = (fitV (a - b), false, bif fitB (a - b) then 0 else 2) from rfl]
    cases hf : fitB (a - b)
    · rw [hf, fitV_no0 hf] at hs
      rw [fitV_no0 hf]
      have HS := Lib.hid hs
      clear hs hf ho
      go_enter Try.func18, Try.ntmps18
      go_wp2_with fail
      refine (HS.out _).mono ?_
      rintro e w1 ⟨rfl, rfl⟩
      go_wp2
      go_ret3
      exact ⟨rfl, rfl⟩
    · rw [hf] at hs
      generalize fitV (a - b) = x at *
      have HS := Lib.hid hs
      clear hs hf ho
      go_enter Try.func18, Try.ntmps18
      go_wp2_with fail
      refine (HS.out _).mono ?_
      rintro e w1 ⟨rfl, rfl⟩
      go_wp2
      go_ret3
      exact ⟨rfl, rfl⟩
  · have hs := fun w => qmul_any a b w ha hb
    rw [show opK 10 a b = (fitV (a * b), false, bif fitB (a * b) then 0 else 2) from rfl]
    cases hf : fitB (a * b)
    · rw [hf, fitV_no0 hf] at hs
      rw [fitV_no0 hf]
      have HS := Lib.hid hs
      clear hs hf ho
      go_enter Try.func18, Try.ntmps18
      go_wp2_with fail
      refine (HS.out _).mono ?_
      rintro e w1 ⟨rfl, rfl⟩
      go_wp2
      go_ret3
      exact ⟨rfl, rfl⟩
    · rw [hf] at hs
      generalize fitV (a * b) = x at *
      have HS := Lib.hid hs
      clear hs hf ho
      go_enter Try.func18, Try.ntmps18
      go_wp2_with fail
      refine (HS.out _).mono ?_
      rintro e w1 ⟨rfl, rfl⟩
      go_wp2
      go_ret3
      exact ⟨rfl, rfl⟩
  · have hs := fun w => qdiv_any a b w ha hb
    rw [show opK 11 a b = (divV a b, false, fltE (divE a b)) from rfl]
    have hz : divE a b = 0 ∨ (divE a b = 2 ∧ divV a b = 0) ∨ (divE a b = 3 ∧ divV a b = 0) := divE_cases a b
    generalize divV a b = x at *
    generalize divE a b = y at *
    rcases hz with rfl | ⟨rfl, rfl⟩ | ⟨rfl, rfl⟩
    all_goals
      have HS := Lib.hid hs
      clear hs ho
      go_enter Try.func18, Try.ntmps18
      go_wp2_with fail
      refine (HS.out _).mono ?_
      rintro e w1 ⟨rfl, rfl⟩
      go_wp2
      go_ret3
      exact ⟨rfl, rfl⟩
  · have hs := fun w => qmod_any a b w ha hb
    rw [show opK 12 a b = (modV a b, false, fltE (modE b)) from rfl]
    have hz : modE b = 0 ∨ (modE b = 2 ∧ modV a b = 0) ∨ (modE b = 3 ∧ modV a b = 0) := modE_cases a b
    generalize modV a b = x at *
    generalize modE b = y at *
    rcases hz with rfl | ⟨rfl, rfl⟩ | ⟨rfl, rfl⟩
    all_goals
      have HS := Lib.hid hs
      clear hs ho
      go_enter Try.func18, Try.ntmps18
      go_wp2_with fail
      refine (HS.out _).mono ?_
      rintro e w1 ⟨rfl, rfl⟩
      go_wp2
      go_ret3
      exact ⟨rfl, rfl⟩

end Go.Proofs.Ytcamegfnhbbaeaa

namespace Go.Proofs.Ytcamegfnhbbaeaa
open Go.RowKit
set_option linter.unusedVariables false
set_option linter.unusedSimpArgs false
attribute [local go_sem] ite_max ite_min vite_max vite_min ext_cell ext_frozen

def intsF (xs : List Int) : List Value := xs.map fun x => .int .i64 x
theorem Lies.numF {w : World} {B n : Nat} {A : Option Addr} {xs : List Int} (h : Lies w B 1 A n (intsF xs)) (k : Nat) (hk : k < n) :
    ∃ b off x, A = some ⟨b, off, none⟩ ∧ b < B ∧ xs[k]? = some x ∧ w.cell? ⟨b, off + k, none⟩ = some (.int .i64 x) := by
  obtain ⟨b, off, e, hb, hc⟩ := h.2 (by omega)
  have hl : xs.length = n := by
    have := h.1
    rw [intsF, List.length_map] at this
    omega
  refine ⟨b, off, xs[k], e, hb, List.getElem?_eq_getElem (by omega), hc k _ ?_⟩
  rw [intsF, List.getElem?_map, List.getElem?_eq_getElem (by omega)]
  rfl
theorem Lies.numsF {w : World} {B n : Nat} {A : Option Addr} {xs : List Int} (h : Lies w B 1 A n (intsF xs)) : xs.length = n := by
  have := h.1
  rw [intsF, List.length_map] at this
  omega
def badT (z : Int) : Bool := !(z == 0 || z == 1)
theorem badT_no {z : Int} (h : badT z = false) : z = 0 ∨ z = 1 := by
  unfold badT at h
  have h2 : ¬ z = 0 → z = 1 := by simpa using h
  omega
def opF (op : Int) (zs : List Int) (tr : Bool) : Int × Bool × Int :=
  if (tr && zs.any badT) = true then (0, false, -1) else match zs with
  | [a] => op1 op a tr
  | [a, b] => if tr = true then opT op a b else if 8 ≤ op ∧ op ≤ 12 then opK op a b else if 13 ≤ op ∧ op ≤ 18 then opC op a b else (0, false, -1)
  | _ => (0, false, -1)
theorem opF_bad {op : Int} {zs : List Int} {k : Nat} {z : Int} (h : zs[k]? = some z) (hb : badT z = true) : opF op zs true = (0, false, -1) := by
  unfold opF
  rw [if_pos]
  rw [Bool.true_and, List.any_eq_true]
  exact ⟨z, List.mem_of_getElem? h, hb⟩
theorem opF_one {op a : Int} {tr : Bool} (h : tr = true → badT a = false) : opF op [a] tr = op1 op a tr := by
  unfold opF
  cases tr
  · rfl
  · simp [h rfl]
theorem opF_two {op a b : Int} : opF op [a, b] false = if 8 ≤ op ∧ op ≤ 12 then opK op a b else if 13 ≤ op ∧ op ≤ 18 then opC op a b else (0, false, -1) := by
  unfold opF
  simp
theorem opF_twoT {op a b : Int} (h1 : badT a = false) (h2 : badT b = false) : opF op [a, b] true = opT op a b := by
  unfold opF
  simp [h1, h2]
theorem opF_else {op : Int} {zs : List Int} {tr : Bool} (h1 : zs.length ≠ 1) (h2 : zs.length ≠ 2) : opF op zs tr = (0, false, -1) := by
  unfold opF
  match zs, h1, h2 with
  | [], _, _ => simp
  | [a], h, _ => exact absurd rfl h
  | [a, b], _, h => exact absurd rfl h
  | a :: b :: c :: l, _, _ => simp
theorem opV_none : opV (0, false, -1) = .tuple #[.int .i64 0, .bool false, .int .i64 (-1)] := rfl

set_option maxRecDepth 100000 in
set_option maxHeartbeats 4000000 in
theorem fop_any (op : Int) (zs : List Int) (tr : Bool) (A : Option Addr) (n c : Nat) (w : World) (h : Lies w w.heap.size 1 A n (intsF zs)) (hn : n ≤ c) (hc : c ≤ 9223372036854775807) (hz : ∀ z ∈ zs, -9223372036854775808 ≤ z ∧ z ≤ 9223372036854775807) :
    Calls Try.prog 7 #[.int .i64 op, .slice A n c, .bool tr] w fun e w' => e = .returned (opV (opF op zs tr)) ∧ Below w.heap.size w w' := by
  have HX := Lib.hid h
  have HL := Lib.hid h.numsF
  have HZ := Lib.hid hz
  obtain ⟨R, hR⟩ : ∃ R, opF op zs tr = R := ⟨_, rfl⟩
  rw [hR]
  have HR := Lib.hid hR
  clear h hz hR
  go_enter Try.func7, Try.ntmps7
  go_wp2_with fail
  go_loopw [13] (fun u wr => ∃ k : Nat, k ≤ n ∧ u = .int .i64 k ∧ Hid (tr = true → ∀ i z, i < k → zs[i]? = some z → badT z = false) ∧ wr = w) (fun u _ => n - (intOf u).toNat)
  case atStart => exact ⟨0, by omega, rfl, Lib.hid (fun _ i z hi => absurd hi (by omega)), rfl⟩
  case round =>
    obtain ⟨k, hk, rfl, HK, rfl⟩ := hrel
    by_cases hlt : k < n
    · obtain ⟨b, off, x, rfl, hb, hxk, hcell⟩ := HX.out.numF k hlt
      have hk0 : (0 : Int) ≤ (k : Int) := by omega
      have hkn : (k : Int) < (n : Int) := by omega
      have HXK := Lib.hid hxk
      cases tr
      · clear hxk
        go_wp2
        go_roundw
        case rel => exact ⟨k + 1, by omega, by go_num, Lib.hid (fun h => by cases h), trivial⟩
        case measure => simp [intOf]; omega
      · cases hbd : badT x
        · have hx2 := badT_no hbd
          have HNX : Hid (∀ i z, i < k + 1 → zs[i]? = some z → badT z = false) := Lib.hid (fun i z hi hz => by
            rcases Nat.lt_or_ge i k with h1 | h1
            · exact HK.out rfl i z h1 hz
            · obtain rfl : i = k := by omega
              rw [HXK.out] at hz
              obtain rfl := Option.some.inj hz
              exact hbd)
          clear hxk hbd
          rcases hx2 with rfl | rfl
          · go_wp2
            go_roundw
            case rel => exact ⟨k + 1, by omega, by go_num, Lib.hid (fun _ => HNX.out), trivial⟩
            case measure => simp [intOf]; omega
          · go_wp2
            go_roundw
            case rel => exact ⟨k + 1, by omega, by go_num, Lib.hid (fun _ => HNX.out), trivial⟩
            case measure => simp [intOf]; omega
        · have hr : R = (0, false, -1) := by rw [← HR.out]; exact opF_bad hxk hbd
          subst hr
          have hx0 : (x == 0) = false ∧ (x == 1) = false := by
            unfold badT at hbd
            simpa using hbd
          obtain ⟨q0, q1⟩ := hx0
          have n0 : ¬ x = 0 := by simpa using q0
          have n1 : ¬ x = 1 := by simpa using q1
          have b0 : (x != 0) = true := by simpa using n0
          have b1 : (x != 1) = true := by simpa using n1
          clear hxk hbd HR
          go_wp2
          go_ret3
          exact ⟨rfl, Below.refl _ _⟩
    · obtain rfl : n = k := by omega
      clear hlt hk
      rcases (show n = 1 ∨ n = 2 ∨ (n ≠ 1 ∧ n ≠ 2) by omega) with h1 | h1 | ⟨h1, h2⟩
      · subst h1
        obtain ⟨b, off, a, rfl, hb, hxk, hcell⟩ := HX.out.numF 0 (by omega)
        obtain rfl : zs = [a] := by
          have := HL.out
          match zs, this with
          | [y], _ => simpa using hxk
        have hg : tr = true → badT a = false := fun h => HK.out h 0 a (by omega) hxk
        have ha := HZ.out a (by simp)
        have hr : op1 op a tr = R := by rw [← HR.out]; exact (opF_one hg).symm
        have hcon := fun w => ofone_any op a tr w ha (fun h => by have := badT_no (hg h); omega)
        rw [hr] at hcon
        obtain ⟨r1, r2, r3⟩ := R
        simp only [opV] at hcon
        have HC := Lib.hid hcon
        simp only [Nat.add_zero] at hcell
        clear hg ha hr hcon hxk HR HZ HK HL HX
        go_wp2_with fail
        refine (HC.out _).mono ?_
        rintro e w1 ⟨rfl, rfl⟩
        go_wp2
        go_ret3
        exact ⟨rfl, Below.refl _ _⟩
      · subst h1
        obtain ⟨b, off, a, rfl, hb, hxk, hcell⟩ := HX.out.numF 0 (by omega)
        obtain ⟨b', off', a', e', hb', hxk', hcell'⟩ := HX.out.numF 1 (by omega)
        injection e' with e'
        injection e' with e1 e2
        subst e1 e2
        obtain rfl : zs = [a, a'] := by
          have := HL.out
          match zs, this with
          | [y, z], _ => simp at hxk hxk'; rw [hxk, hxk']
        have ha := HZ.out a (by simp)
        have ha' := HZ.out a' (by simp)
        simp only [Nat.add_zero] at hcell
        cases tr
        · rcases (show (8 ≤ op ∧ op ≤ 12) ∨ (13 ≤ op ∧ op ≤ 18) ∨ (op < 8 ∨ 18 < op) by omega) with ho | ho | ho
          · have hr : opK op a a' = R := by rw [← HR.out, opF_two, if_pos ho]
            have hcon := fun w => reckoned_any op a a' w ho ha ha'
            rw [hr] at hcon
            obtain ⟨r1, r2, r3⟩ := R
            simp only [opV] at hcon
            have HC := Lib.hid hcon
            obtain ⟨ho1, ho2⟩ := ho
            clear ha ha' hr hcon hxk hxk' HR HZ HK HL HX
            go_wp2_with fail
            go_quiet (first | (go_at_call 18; exact quiet_left (HC.out _)))
            go_wp2
            go_ret3
            exact ⟨rfl, by (repeat' (first | (with_reducible exact Below.refl _ _) | (with_reducible assumption) | (with_reducible refine below_drewN ?_ _) | (with_reducible refine Below.drew ?_) | (with_reducible refine below_new ?_ (Nat.le_refl _) _) | (with_reducible refine Below.setCell ?_ ?_ _) | (with_reducible refine below_go ?_ (by assumption) (Nat.le_refl _)) | (simp; done) | (simp; omega) | omega))⟩
          · have hr : opC op a a' = R := by rw [← HR.out, opF_two, if_neg (by omega), if_pos ho]
            have hcon := fun w => compared_any op a a' w ho
            rw [hr] at hcon
            obtain ⟨r1, r2, r3⟩ := R
            simp only [opV] at hcon
            have HC := Lib.hid hcon
            obtain ⟨ho1, ho2⟩ := ho
            have ho3 : (12 : Int) < op := by omega
            clear ha ha' hr hcon hxk hxk' HR HZ HK HL HX
            go_wp2_with fail
            go_quiet (first | (go_at_call 19; exact quiet_left (HC.out _)))
            go_wp2
            go_ret3
            exact ⟨rfl, by (repeat' (first | (with_reducible exact Below.refl _ _) | (with_reducible assumption) | (with_reducible refine below_drewN ?_ _) | (with_reducible refine Below.drew ?_) | (with_reducible refine below_new ?_ (Nat.le_refl _) _) | (with_reducible refine Below.setCell ?_ ?_ _) | (with_reducible refine below_go ?_ (by assumption) (Nat.le_refl _)) | (simp; done) | (simp; omega) | omega))⟩
          · have hr : R = (0, false, -1) := by rw [← HR.out, opF_two, if_neg (by omega), if_neg (by omega)]
            subst hr
            clear ha ha' hxk hxk' HR HZ HK HL HX
            rcases ho with ho | ho
            · have ho2 : op < 13 := by omega
              go_wp2
              go_ret3
              exact ⟨rfl, Below.refl _ _⟩
            · have ho2 : 12 < op := by omega
              go_wp2
              go_ret3
              exact ⟨rfl, Below.refl _ _⟩
        · have hg := HK.out rfl 0 a (by omega) hxk
          have hg' := HK.out rfl 1 a' (by omega) hxk'
          have hr : opT op a a' = R := by rw [← HR.out]; exact (opF_twoT hg hg').symm
          have hcon := fun w => oftruths_any op a a' w (badT_no hg) (badT_no hg')
          rw [hr] at hcon
          obtain ⟨r1, r2, r3⟩ := R
          simp only [opV] at hcon
          have HC := Lib.hid hcon
          clear ha ha' hr hcon hxk hxk' HR HZ HK HL HX hg hg'
          go_wp2_with fail
          go_quiet (first | (go_at_call 17; exact quiet_left (HC.out _)))
          go_wp2
          go_ret3
          exact ⟨rfl, by (repeat' (first | (with_reducible exact Below.refl _ _) | (with_reducible assumption) | (with_reducible refine below_drewN ?_ _) | (with_reducible refine Below.drew ?_) | (with_reducible refine below_new ?_ (Nat.le_refl _) _) | (with_reducible refine Below.setCell ?_ ?_ _) | (with_reducible refine below_go ?_ (by assumption) (Nat.le_refl _)) | (simp; done) | (simp; omega) | omega))⟩
      · have hr : R = (0, false, -1) := by rw [← HR.out]; exact opF_else (by rw [HL.out]; exact h1) (by rw [HL.out]; exact h2)
        subst hr
        have q1 : ((n : Int) == 1) = false := by simp; omega
        have q2 : ((n : Int) == 2) = false := by simp; omega
        clear HR HZ HK HL HX
        go_wp2
        go_ret3
        exact ⟨rfl, Below.refl _ _⟩

end Go.Proofs.Ytcamegfnhbbaeaa

namespace Go.Proofs.Ytcamegfnhbbaeaa
open Go.RowKit
set_option linter.unusedVariables false
set_option linter.unusedSimpArgs false
attribute [local go_sem] ite_max ite_min vite_max vite_min ext_cell ext_frozen

theorem badT_yes {z : Int} (h : badT z = true) : z < 0 ∨ 1 < z := by
  unfold badT at h
  have h2 : ¬ z = 0 ∧ ¬ z = 1 := by simpa using h
  omega

theorem idx6_0 (x0 x1 x2 x3 x4 x5 : Value) (w : World) : (Instr.index 46 (.agg #[x0, x1, x2, x3, x4, x5]) (.int .i64 0)).run Try.prog w = .ok x0 w := by kernel_rfl
theorem idx6_1 (x0 x1 x2 x3 x4 x5 : Value) (w : World) : (Instr.index 46 (.agg #[x0, x1, x2, x3, x4, x5]) (.int .i64 1)).run Try.prog w = .ok x1 w := by kernel_rfl
theorem idx6_2 (x0 x1 x2 x3 x4 x5 : Value) (w : World) : (Instr.index 46 (.agg #[x0, x1, x2, x3, x4, x5]) (.int .i64 2)).run Try.prog w = .ok x2 w := by kernel_rfl
theorem idx6_3 (x0 x1 x2 x3 x4 x5 : Value) (w : World) : (Instr.index 46 (.agg #[x0, x1, x2, x3, x4, x5]) (.int .i64 3)).run Try.prog w = .ok x3 w := by kernel_rfl
theorem idx6_4 (x0 x1 x2 x3 x4 x5 : Value) (w : World) : (Instr.index 46 (.agg #[x0, x1, x2, x3, x4, x5]) (.int .i64 4)).run Try.prog w = .ok x4 w := by kernel_rfl
theorem idx6_5 (x0 x1 x2 x3 x4 x5 : Value) (w : World) : (Instr.index 46 (.agg #[x0, x1, x2, x3, x4, x5]) (.int .i64 5)).run Try.prog w = .ok x5 w := by kernel_rfl

set_option maxRecDepth 100000 in
set_option maxHeartbeats 4000000 in
theorem rop_any (op : Int) (zs : List Int) (tr : Bool) (A : Option Addr) (n c : Nat) (w : World) (h : Lies w w.heap.size 1 A n (intsF zs)) (hn : n ≤ c) (hc : c ≤ 9223372036854775807) (hz : ∀ z ∈ zs, -9223372036854775808 ≤ z ∧ z ≤ 9223372036854775807) :
    Calls Try.prog 8 #[.int .i64 op, .slice A n c, .bool tr] w fun e w' => e = .returned (opV (opF op zs tr)) ∧ Below w.heap.size w w' := by
  have HX := Lib.hid h
  have HL := Lib.hid h.numsF
  have HZ := Lib.hid hz
  obtain ⟨R, hR⟩ : ∃ R, opF op zs tr = R := ⟨_, rfl⟩
  rw [hR]
  have HR := Lib.hid hR
  clear h hz hR
  go_enter Try.func8, Try.ntmps8
  go_wp2_with fail
  go_loopw [9] (fun u wr => ∃ k : Nat, k ≤ n ∧ u = .int .i64 k ∧ Hid (tr = true → ∀ i z, i < k → zs[i]? = some z → badT z = false) ∧ wr = w) (fun u _ => n - (intOf u).toNat)
  case atStart => exact ⟨0, by omega, rfl, Lib.hid (fun _ i z hi => absurd hi (by omega)), rfl⟩
  case round =>
    obtain ⟨k, hk, rfl, HK, rfl⟩ := hrel
    by_cases hlt : k < n
    · obtain ⟨b, off, x, rfl, hb, hxk, hcell⟩ := HX.out.numF k hlt
      have hk0 : (0 : Int) ≤ (k : Int) := by omega
      have hkn : (k : Int) < (n : Int) := by omega
      have HXK := Lib.hid hxk
      cases tr
      · clear hxk
        go_wp2
        go_roundw
        case rel => exact ⟨k + 1, by omega, by go_num, Lib.hid (fun h => by cases h), trivial⟩
        case measure => simp [intOf]; omega
      · cases hbd : badT x
        · have hx2 := badT_no hbd
          have HNX : Hid (∀ i z, i < k + 1 → zs[i]? = some z → badT z = false) := Lib.hid (fun i z hi hz => by
            rcases Nat.lt_or_ge i k with h1 | h1
            · exact HK.out rfl i z h1 hz
            · obtain rfl : i = k := by omega
              rw [HXK.out] at hz
              obtain rfl := Option.some.inj hz
              exact hbd)
          clear hxk hbd
          rcases hx2 with rfl | rfl
          · go_wp2
            go_roundw
            case rel => exact ⟨k + 1, by omega, by go_num, Lib.hid (fun _ => HNX.out), trivial⟩
            case measure => simp [intOf]; omega
          · go_wp2
            go_roundw
            case rel => exact ⟨k + 1, by omega, by go_num, Lib.hid (fun _ => HNX.out), trivial⟩
            case measure => simp [intOf]; omega
        · have hr : R = (0, false, -1) := by rw [← HR.out]; exact opF_bad hxk hbd
          subst hr
          have hx0 := badT_yes hbd
          clear hxk hbd HR
          rcases hx0 with hx0 | hx0
          · go_wp2
            go_ret3
            exact ⟨rfl, Below.refl _ _⟩
          · have hx1 : (0 : Int) ≤ x := by omega
            go_wp2
            go_ret3
            exact ⟨rfl, Below.refl _ _⟩
    · obtain rfl : n = k := by omega
      clear hlt hk
      rcases (show n = 1 ∨ n = 2 ∨ (n ≠ 1 ∧ n ≠ 2) by omega) with h1 | h1 | ⟨h1, h2⟩
      · subst h1
        obtain ⟨b, off, a, rfl, hb, hxk, hcell⟩ := HX.out.numF 0 (by omega)
        obtain rfl : zs = [a] := by
          have := HL.out
          match zs, this with
          | [y], _ => simpa using hxk
        have hg : tr = true → badT a = false := fun h => HK.out h 0 a (by omega) hxk
        have ha := HZ.out a (by simp)
        have hr : R = op1 op a tr := by rw [← HR.out]; exact opF_one hg
        simp only [Nat.add_zero] at hcell
        clear hxk HR HZ HK HL HX
        cases tr
        · by_cases h6 : op = 6
          · subst h6
            have hs := fun w => rsub_at 0 a (0 - a) w (by omega) ha rfl
            have e1 : op1 6 a false = (fitV (0 - a), false, bif fitB (0 - a) then 0 else 2) := by unfold op1; rw [if_pos ⟨rfl, rfl⟩]
            rw [e1] at hr
            cases hf : fitB (0 - a)
            · rw [hf, fitV_no0 hf] at hs
              rw [hf, fitV_no0 hf] at hr
              simp only [cond_false] at hr
              subst hr
              have HS := Lib.hid hs
              clear hs hf e1 hg
              go_wp2_with fail
              refine (HS.out _).mono ?_
              rintro e w1 ⟨rfl, hb1⟩
              go_wp2
              go_ret3
              exact ⟨rfl, hb1⟩
            · rw [hf] at hs hr
              simp only [cond_true] at hr
              generalize fitV (0 - a) = x at *
              subst hr
              have HS := Lib.hid hs
              clear hs hf e1 hg
              go_wp2_with fail
              refine (HS.out _).mono ?_
              rintro e w1 ⟨rfl, hb1⟩
              go_wp2
              go_ret3
              exact ⟨rfl, hb1⟩
          · have q6 : (op == 6) = false := by simpa using h6
            have q6b : (op != 6) = true := by simpa using h6
            have e1 : R = (0, false, -1) := by rw [hr]; unfold op1; simp [h6]
            clear hr
            subst e1
            clear hg h6
            go_wp2
            go_ret3
            exact ⟨rfl, Below.refl _ _⟩
        · by_cases h7 : op = 7
          · subst h7
            rcases badT_no (hg rfl) with rfl | rfl
            · subst hr
              clear hg
              go_wp2_with (first | (go_at_call 20; refine (rone_any _ _).mono ?_; rintro e w' ⟨rfl, rfl⟩))
              go_ret3
              exact ⟨rfl, Below.refl _ _⟩
            · subst hr
              clear hg
              go_wp2_with (first | (go_at_call 20; refine (rone_any _ _).mono ?_; rintro e w' ⟨rfl, rfl⟩))
              go_ret3
              exact ⟨rfl, Below.refl _ _⟩
          · have q7 : (op == 7) = false := by simpa using h7
            have e1 : R = (0, false, -1) := by rw [hr]; unfold op1; simp [h7]
            clear hr
            subst e1
            clear hg h7
            go_wp2
            go_ret3
            exact ⟨rfl, Below.refl _ _⟩
      · subst h1
        obtain ⟨b, off, a, rfl, hb, hxk, hcell⟩ := HX.out.numF 0 (by omega)
        obtain ⟨b', off', a', e', hb', hxk', hcell'⟩ := HX.out.numF 1 (by omega)
        injection e' with e'
        injection e' with e1 e2
        subst e1 e2
        obtain rfl : zs = [a, a'] := by
          have := HL.out
          match zs, this with
          | [y, z], _ => simp at hxk hxk'; rw [hxk, hxk']
        have ha := HZ.out a (by simp)
        have ha' := HZ.out a' (by simp)
        simp only [Nat.add_zero] at hcell
        cases tr
        · have hall := opF_two (op := op) (a := a) (b := a')
          rw [HR.out] at hall
          rcases (show op = 8 ∨ op = 9 ∨ op = 10 ∨ op = 11 ∨ op = 12 ∨ (13 ≤ op ∧ op ≤ 18) ∨ op < 8 ∨ 21 < op ∨ (19 ≤ op ∧ op ≤ 21) by omega) with rfl | rfl | rfl | rfl | rfl | ho | ho | ho | ho
          · have hs := fun w => radd_at a a' (a + a') w ha ha' rfl
            have hr : R = (fitV (a + a'), false, bif fitB (a + a') then 0 else 2) := by rw [← HR.out]; rfl
            cases hf : fitB (a + a')
            · rw [hf, fitV_no0 hf] at hs
              rw [hf, fitV_no0 hf] at hr
              simp only [cond_false] at hr
              subst hr
              have HS := Lib.hid hs
              clear hs hf HR HZ HK HL HX hxk hxk' ha ha'
              go_wp2_with fail
              go_quiet (fail)
              go_wp2_with fail
              refine (HS.out _).mono ?_
              rintro e w1 ⟨rfl, hb1⟩
              go_wp2
              go_ret3
              exact ⟨rfl, by (repeat' (first | (with_reducible exact Below.refl _ _) | (with_reducible assumption) | (with_reducible refine below_drewN ?_ _) | (with_reducible refine Below.drew ?_) | (with_reducible refine below_new ?_ (Nat.le_refl _) _) | (with_reducible refine Below.setCell ?_ ?_ _) | (with_reducible refine below_go ?_ (by assumption) (Nat.le_refl _)) | (simp; done) | (simp; omega) | omega))⟩
            · rw [hf] at hs hr
              simp only [cond_true] at hr
              obtain ⟨x, hx⟩ : ∃ x, fitV (a + a') = x := ⟨_, rfl⟩
              rw [hx] at hs hr
              subst hr
              have HS := Lib.hid hs
              clear hs hf hx HR HZ HK HL HX hxk hxk' ha ha'
              go_wp2_with fail
              go_quiet (fail)
              go_wp2_with fail
              refine (HS.out _).mono ?_
              rintro e w1 ⟨rfl, hb1⟩
              go_wp2
              go_ret3
              exact ⟨rfl, by (repeat' (first | (with_reducible exact Below.refl _ _) | (with_reducible assumption) | (with_reducible refine below_drewN ?_ _) | (with_reducible refine Below.drew ?_) | (with_reducible refine below_new ?_ (Nat.le_refl _) _) | (with_reducible refine Below.setCell ?_ ?_ _) | (with_reducible refine below_go ?_ (by assumption) (Nat.le_refl _)) | (simp; done) | (simp; omega) | omega))⟩
          · have hs := fun w => rsub_at a a' (a - a') w ha ha' rfl
            have hr : R = (fitV (a - a'), false, bif fitB (a - a') then 0 else 2) := by rw [← HR.out]; rfl
            cases hf : fitB (a - a')
            · rw [hf, fitV_no0 hf] at hs
              rw [hf, fitV_no0 hf] at hr
              simp only [cond_false] at hr
              subst hr
              have HS := Lib.hid hs
              clear hs hf HR HZ HK HL HX hxk hxk' ha ha'
              go_wp2_with fail
              go_quiet (fail)
              go_wp2_with fail
              refine (HS.out _).mono ?_
              rintro e w1 ⟨rfl, hb1⟩
              go_wp2
              go_ret3
              exact ⟨rfl, by (repeat' (first | (with_reducible exact Below.refl _ _) | (with_reducible assumption) | (with_reducible refine below_drewN ?_ _) | (with_reducible refine Below.drew ?_) | (with_reducible refine below_new ?_ (Nat.le_refl _) _) | (with_reducible refine Below.setCell ?_ ?_ _) | (with_reducible refine below_go ?_ (by assumption) (Nat.le_refl _)) | (simp; done) | (simp; omega) | omega))⟩
            · rw [hf] at hs hr
              simp only [cond_true] at hr
              obtain ⟨x, hx⟩ : ∃ x, fitV (a - a') = x := ⟨_, rfl⟩
              rw [hx] at hs hr
              subst hr
              have HS := Lib.hid hs
              clear hs hf hx HR HZ HK HL HX hxk hxk' ha ha'
              go_wp2_with fail
              go_quiet (fail)
              go_wp2_with fail
              refine (HS.out _).mono ?_
              rintro e w1 ⟨rfl, hb1⟩
              go_wp2
              go_ret3
              exact ⟨rfl, by (repeat' (first | (with_reducible exact Below.refl _ _) | (with_reducible assumption) | (with_reducible refine below_drewN ?_ _) | (with_reducible refine Below.drew ?_) | (with_reducible refine below_new ?_ (Nat.le_refl _) _) | (with_reducible refine Below.setCell ?_ ?_ _) | (with_reducible refine below_go ?_ (by assumption) (Nat.le_refl _)) | (simp; done) | (simp; omega) | omega))⟩
          · have hs := fun w => rmul_at a a' w ha ha'
            have hr : R = (fitV (a * a'), false, bif fitB (a * a') then 0 else 2) := by rw [← HR.out]; rfl
            cases hf : fitB (a * a')
            · rw [hf, fitV_no0 hf] at hs
              rw [hf, fitV_no0 hf] at hr
              simp only [cond_false] at hr
              subst hr
              have HS := Lib.hid hs
              clear hs hf HR HZ HK HL HX hxk hxk' ha ha'
              go_wp2_with fail
              go_quiet (fail)
              go_wp2_with fail
              refine (HS.out _).mono ?_
              rintro e w1 ⟨rfl, hb1⟩
              go_wp2
              go_ret3
              exact ⟨rfl, by (repeat' (first | (with_reducible exact Below.refl _ _) | (with_reducible assumption) | (with_reducible refine below_drewN ?_ _) | (with_reducible refine Below.drew ?_) | (with_reducible refine below_new ?_ (Nat.le_refl _) _) | (with_reducible refine Below.setCell ?_ ?_ _) | (with_reducible refine below_go ?_ (by assumption) (Nat.le_refl _)) | (simp; done) | (simp; omega) | omega))⟩
            · rw [hf] at hs hr
              simp only [cond_true] at hr
              obtain ⟨x, hx⟩ : ∃ x, fitV (a * a') = x := ⟨_, rfl⟩
              rw [hx] at hs hr
              subst hr
              have HS := Lib.hid hs
              clear hs hf hx HR HZ HK HL HX hxk hxk' ha ha'
              go_wp2_with fail
              go_quiet (fail)
              go_wp2_with fail
              refine (HS.out _).mono ?_
              rintro e w1 ⟨rfl, hb1⟩
              go_wp2
              go_ret3
              exact ⟨rfl, by (repeat' (first | (with_reducible exact Below.refl _ _) | (with_reducible assumption) | (with_reducible refine below_drewN ?_ _) | (with_reducible refine Below.drew ?_) | (with_reducible refine below_new ?_ (Nat.le_refl _) _) | (with_reducible refine Below.setCell ?_ ?_ _) | (with_reducible refine below_go ?_ (by assumption) (Nat.le_refl _)) | (simp; done) | (simp; omega) | omega))⟩
          · have hs := fun w => rdiv_at a a' w ha ha'
            have hr : R = (divV a a', false, fltE (divE a a')) := by rw [← HR.out]; rfl
            have hzz := divE_cases a a'
            obtain ⟨x, hx⟩ : ∃ x, divV a a' = x := ⟨_, rfl⟩
            obtain ⟨y, hy⟩ : ∃ y, divE a a' = y := ⟨_, rfl⟩
            rw [hx, hy] at hs hr hzz
            clear hx hy HR HZ HK HL HX hxk hxk' ha ha'
            rcases hzz with rfl | ⟨rfl, rfl⟩ | ⟨rfl, rfl⟩
            all_goals
              subst hr
              have HS := Lib.hid hs
              clear hs
              go_wp2_with fail
              go_quiet (fail)
              go_wp2_with fail
              refine (HS.out _).mono ?_
              rintro e w1 ⟨rfl, hb1⟩
              go_wp2
              go_ret3
              exact ⟨rfl, by (repeat' (first | (with_reducible exact Below.refl _ _) | (with_reducible assumption) | (with_reducible refine below_drewN ?_ _) | (with_reducible refine Below.drew ?_) | (with_reducible refine below_new ?_ (Nat.le_refl _) _) | (with_reducible refine Below.setCell ?_ ?_ _) | (with_reducible refine below_go ?_ (by assumption) (Nat.le_refl _)) | (simp; done) | (simp; omega) | omega))⟩
          · have hs := fun w => rmod_at a a' w ha ha'
            have hr : R = (modV a a', false, fltE (modE a')) := by rw [← HR.out]; rfl
            have hzz := modE_cases a a'
            obtain ⟨x, hx⟩ : ∃ x, modV a a' = x := ⟨_, rfl⟩
            obtain ⟨y, hy⟩ : ∃ y, modE a' = y := ⟨_, rfl⟩
            rw [hx, hy] at hs hr hzz
            clear hx hy HR HZ HK HL HX hxk hxk' ha ha'
            rcases hzz with rfl | ⟨rfl, rfl⟩ | ⟨rfl, rfl⟩
            all_goals
              subst hr
              have HS := Lib.hid hs
              clear hs
              go_wp2_with fail
              go_quiet (fail)
              go_wp2_with fail
              refine (HS.out _).mono ?_
              rintro e w1 ⟨rfl, hb1⟩
              go_wp2
              go_ret3
              exact ⟨rfl, by (repeat' (first | (with_reducible exact Below.refl _ _) | (with_reducible assumption) | (with_reducible refine below_drewN ?_ _) | (with_reducible refine Below.drew ?_) | (with_reducible refine below_new ?_ (Nat.le_refl _) _) | (with_reducible refine Below.setCell ?_ ?_ _) | (with_reducible refine below_go ?_ (by assumption) (Nat.le_refl _)) | (simp; done) | (simp; omega) | omega))⟩
          · have hr : R = opC op a a' := by rw [hall, if_neg (by omega), if_pos ho]
            clear hall HR HZ HK HL HX hxk hxk' ha ha'
            subst hr
            rcases (by omega : op = 13 ∨ op = 14 ∨ op = 15 ∨ op = 16 ∨ op = 17 ∨ op = 18) with rfl | rfl | rfl | rfl | rfl | rfl
            all_goals
              have ix0 := idx6_0
              have ix1 := idx6_1
              have ix2 := idx6_2
              have ix3 := idx6_3
              have ix4 := idx6_4
              have ix5 := idx6_5
              clear ho
              go_wp2_with fail
              go_quiet (fail)
              go_wp2_with (first | (go_at_call 20; refine (rone_any _ _).mono ?_; rintro e w' ⟨rfl, rfl⟩))
              go_ret3
              exact ⟨rfl, by (repeat' (first | (with_reducible exact Below.refl _ _) | (with_reducible assumption) | (with_reducible refine below_drewN ?_ _) | (with_reducible refine Below.drew ?_) | (with_reducible refine below_new ?_ (Nat.le_refl _) _) | (with_reducible refine Below.setCell ?_ ?_ _) | (with_reducible refine below_go ?_ (by assumption) (Nat.le_refl _)) | (simp; done) | (simp; omega) | omega))⟩
          · have hr : R = (0, false, -1) := by rw [hall, if_neg (by omega), if_neg (by omega)]
            clear hall HR HZ HK HL HX hxk hxk' ha ha'
            subst hr
            go_wp2
            go_ret3
            exact ⟨rfl, Below.refl _ _⟩
          · have hr : R = (0, false, -1) := by rw [hall, if_neg (by omega), if_neg (by omega)]
            clear hall HR HZ HK HL HX hxk hxk' ha ha'
            subst hr
            have ho2 : 8 ≤ op := by omega
            go_wp2
            go_ret3
            exact ⟨rfl, Below.refl _ _⟩
          · have hr : R = (0, false, -1) := by rw [hall, if_neg (by omega), if_neg (by omega)]
            clear hall HR HZ HK HL HX hxk hxk' ha ha'
            subst hr
            obtain ⟨ho1, ho2⟩ := ho
            have ho3 : 8 ≤ op := by omega
            have ho4 : 18 < op := by omega
            go_wp2_with fail
            go_quiet (fail)
            go_wp2
            go_ret3
            exact ⟨rfl, by (repeat' (first | (with_reducible exact Below.refl _ _) | (with_reducible assumption) | (with_reducible refine below_drewN ?_ _) | (with_reducible refine Below.drew ?_) | (with_reducible refine below_new ?_ (Nat.le_refl _) _) | (with_reducible refine Below.setCell ?_ ?_ _) | (with_reducible refine below_go ?_ (by assumption) (Nat.le_refl _)) | (simp; done) | (simp; omega) | omega))⟩
        · have hg := HK.out rfl 0 a (by omega) hxk
          have hg' := HK.out rfl 1 a' (by omega) hxk'
          have hr : R = opT op a a' := by rw [← HR.out]; exact opF_twoT hg hg'
          clear HR HZ HK HL HX hxk hxk' ha ha'
          by_cases hc5 : op = 13 ∨ op = 14 ∨ op = 19 ∨ op = 20 ∨ op = 21
          · rcases hc5 with rfl | rfl | rfl | rfl | rfl
            all_goals rcases badT_no hg with rfl | rfl
            all_goals rcases badT_no hg' with rfl | rfl
            all_goals
              subst hr
              clear hg hg'
              go_wp2_with fail
              go_quiet (fail)
              go_wp2_with (first | (go_at_call 20; refine (rone_any _ _).mono ?_; rintro e w' ⟨rfl, rfl⟩))
              go_ret3
              exact ⟨rfl, by (repeat' (first | (with_reducible exact Below.refl _ _) | (with_reducible assumption) | (with_reducible refine below_drewN ?_ _) | (with_reducible refine Below.drew ?_) | (with_reducible refine below_new ?_ (Nat.le_refl _) _) | (with_reducible refine Below.setCell ?_ ?_ _) | (with_reducible refine below_go ?_ (by assumption) (Nat.le_refl _)) | (simp; done) | (simp; omega) | omega))⟩
          · rw [opT_other op a a' (by omega)] at hr
            subst hr
            have q1 : (op == 13) = false := by simp; omega
            have q2 : (op == 14) = false := by simp; omega
            have q3 : (op == 19) = false := by simp; omega
            have q4 : (op == 20) = false := by simp; omega
            have q5 : (op == 21) = false := by simp; omega
            clear hg hg' hc5
            rcases (show op < 8 ∨ 21 < op ∨ (8 ≤ op ∧ op ≤ 21) by omega) with ho | ho | ⟨ho1, ho2⟩
            · go_wp2
              go_ret3
              exact ⟨rfl, Below.refl _ _⟩
            · have ho2 : 8 ≤ op := by omega
              go_wp2
              go_ret3
              exact ⟨rfl, Below.refl _ _⟩
            · go_wp2_with fail
              go_quiet (fail)
              go_wp2
              go_ret3
              exact ⟨rfl, by (repeat' (first | (with_reducible exact Below.refl _ _) | (with_reducible assumption) | (with_reducible refine below_drewN ?_ _) | (with_reducible refine Below.drew ?_) | (with_reducible refine below_new ?_ (Nat.le_refl _) _) | (with_reducible refine Below.setCell ?_ ?_ _) | (with_reducible refine below_go ?_ (by assumption) (Nat.le_refl _)) | (simp; done) | (simp; omega) | omega))⟩
      · have hr : R = (0, false, -1) := by rw [← HR.out]; exact opF_else (by rw [HL.out]; exact h1) (by rw [HL.out]; exact h2)
        subst hr
        have q1 : ((n : Int) == 1) = false := by simp; omega
        have q2 : ((n : Int) == 2) = false := by simp; omega
        have q3 : ((n : Int) != 2) = true := by simp; omega
        clear HR HZ HK HL HX
        go_wp2
        go_ret3
        exact ⟨rfl, Below.refl _ _⟩

end Go.Proofs.Ytcamegfnhbbaeaa
