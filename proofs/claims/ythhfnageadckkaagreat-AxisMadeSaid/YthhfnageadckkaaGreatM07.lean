/- Merged: Contracts of layer 13: searches for the home place. Contracts of layer 13: a new search, and a cycle of a search. Contracts of layer 13: a cycle of a search. Contracts of layer 13: the reference's search. Contracts of layer 13, put together: a cycle of a search, and the reference's. Layer 13: HomeSteps. -/
import Derived.Test.YthhfnageadckkaaGreatM01
import Derived.Test.YthhfnageadckkaaGreatM02
set_option linter.unusedVariables false
set_option linter.unusedSimpArgs false
set_option maxHeartbeats 2000000
namespace Go.Proofs.YthhfnageadckkaaGreat
open Go.RowKit

def homeB (p f c : Int) : Bool := decide (0 ≤ p ∧ p ≤ 5 ∧ (0 < f ∧ 1 ≤ c ∧ c ≤ f ∧ f ≤ 1048576 ∨ f < 0 ∧ c ≤ -1 ∧ f ≤ c ∧ -1048576 ≤ f))
theorem homeB_yes {p f c : Int} (h : homeB p f c = true) : 0 ≤ p ∧ p ≤ 5 ∧ (0 < f ∧ 1 ≤ c ∧ c ≤ f ∧ f ≤ 1048576 ∨ f < 0 ∧ c ≤ -1 ∧ f ≤ c ∧ -1048576 ≤ f) := of_decide_eq_true h
theorem homeB_mk {p f c : Int} (h : 0 ≤ p ∧ p ≤ 5 ∧ (0 < f ∧ 1 ≤ c ∧ c ≤ f ∧ f ≤ 1048576 ∨ f < 0 ∧ c ≤ -1 ∧ f ≤ c ∧ -1048576 ≤ f)) : homeB p f c = true := decide_eq_true h
def overB (p f c : Int) : Bool := !homeB p f c || (p == 4) || (p == 5)
def aheadB (v : Int) (plus minus : Bool) : Bool := (decide (0 < v) && plus) || (decide (v < 0) && minus)

set_option maxRecDepth 100000 in
theorem hright_any (p f c : Int) (t : Bool) (w : World) :
  Calls Tryz.prog 29 #[.agg #[.int .i64 p, .int .i64 f, .int .i64 c, .bool t]] w fun e w' => e = .returned (.bool (homeB p f c)) ∧ Below w.heap.size w w' := by
 go_enter Tryz.func29, Tryz.ntmps29
 go_wp2
 all_goals go_ret
 all_goals
  refine ⟨congrArg (fun b => Ending.returned (.bool b)) ?_, by exact belowBy⟩
  rw [Bool.eq_iff_iff]
  simp only [homeB, decide_eq_true_eq, Bool.false_eq_true, true_iff, false_iff]
  omega

set_option maxRecDepth 100000 in
theorem hover_any (p f c : Int) (t : Bool) (w : World) :
  Calls Tryz.prog 112 #[.agg #[.int .i64 p, .int .i64 f, .int .i64 c, .bool t]] w fun e w' => e = .returned (.bool (overB p f c)) ∧ Below w.heap.size w w' := by
 obtain ⟨r, hr⟩ : ∃ r, homeB p f c = r := ⟨_, rfl⟩
 have HR := Lib.hid hr
 clear hr
 cases r
 all_goals
  go_enter Tryz.func112, Tryz.ntmps112
  go_wp2_with fail
  refine (hright_any _ _ _ _ _).mono ?_
  rw [HR.out]
  rintro e w1 ⟨rfl, hb⟩
  obtain ⟨hc, hf⟩ := bcell hb
  go_wp2
 all_goals go_ret
 all_goals
  refine ⟨congrArg (fun b => Ending.returned (.bool b)) ?_, by exact belowBy⟩
  simp [overB, HR.out, *]

theorem aheadB_up {v : Int} (h : 0 < v) (x y : Bool) : aheadB v x y = x := by
 simp [aheadB, h, show ¬ v < 0 by omega]
theorem aheadB_down {v : Int} (h : v < 0) (x y : Bool) : aheadB v x y = y := by
 simp [aheadB, h, show ¬ 0 < v by omega]
theorem aheadB_no (x y : Bool) : aheadB 0 x y = false := by simp [aheadB]

theorem ahead_any (v : Int) (x y : Bool) (w : World) :
  Calls Tryz.prog 113 #[.int .i64 v, .bool x, .bool y] w fun e w' => e = .returned (.bool (aheadB v x y)) ∧ w = w' := by
 by_cases h1 : 0 < v
 ·rw [aheadB_up h1]
  have h2 : decide (v < 0) = false := by simp; omega
  cases x
  all_goals
   go_enter Tryz.func113, Tryz.ntmps113
   go_wp2
   go_ret
   exact ⟨rfl, rfl⟩
 ·by_cases h2 : v < 0
  ·rw [aheadB_down h2]
   have h3 : decide (0 < v) = false := by simp; omega
   go_enter Tryz.func113, Tryz.ntmps113
   go_wp2
   go_ret
   exact ⟨rfl, rfl⟩
  ·obtain rfl : v = 0 := by omega
   rw [aheadB_no]
   clear h1 h2
   go_enter Tryz.func113, Tryz.ntmps113
   go_wp2
   go_ret
   exact ⟨rfl, rfl⟩


structure HomeS where
 p : Int
 f : Int
 c : Int
 t : Bool

def stepH (h : HomeS) (sw plus minus still : Bool) : HomeS × Int :=
 if overB h.p h.f h.c then (h, 0)
 else if h.p = 0 then (if sw then ({ h with p := 1 }, 0) else if !aheadB h.f plus minus then (h, h.f) else if h.t then ({ h with p := 5 }, 0) else (⟨h.p, -h.f, -h.c, true⟩, 0))
 else if h.p = 1 then (if still then ({ h with p := 2 }, 0) else (h, 0))
 else if h.p = 2 then (if !sw then ({ h with p := 3 }, 0) else if aheadB (-h.c) plus minus then ({ h with p := 5 }, 0) else (h, -h.c))
 else (if still then ({ h with p := 4 }, 0) else (h, 0))

set_option maxRecDepth 100000 in
theorem hnew_any (f c : Int) (w : World) :
  Calls Tryz.prog 40 #[.int .i64 f, .int .i64 c] w fun e w' => (e = if homeB 0 f c then .returned (.tuple #[.agg #[.int .i64 0, .int .i64 f, .int .i64 c, .bool false], .int .i64 0]) else .returned (.tuple #[.agg #[.int .i64 0, .int .i64 0, .int .i64 0, .bool false], .int .i64 1])) ∧ Below w.heap.size w w' := by
 obtain ⟨r, hr⟩ : ∃ r, homeB 0 f c = r := ⟨_, rfl⟩
 have HR := Lib.hid hr
 clear hr
 cases r
 ·rw [HR.out]
  go_enter Tryz.func40, Tryz.ntmps40
  go_wp2_with fail
  refine (hright_any _ _ _ _ _).mono ?_
  rw [HR.out]
  rintro e w1 ⟨rfl, hb⟩
  obtain ⟨hbc, hbf⟩ := bcell hb
  have hbz := hb.size
  have hbc0 := fun o => hbc (w.heap.size) o (by first | (simp; done) | (simp; omega) | omega)
  have hbf0 := fun o => hbf (w.heap.size) o (by first | (simp; done) | (simp; omega) | omega)
  have hbc1 := fun o => hbc (w.heap.size + 1) o (by first | (simp; done) | (simp; omega) | omega)
  have hbf1 := fun o => hbf (w.heap.size + 1) o (by first | (simp; done) | (simp; omega) | omega)
  go_wp2

  exact bodyPost_ret (v := .tuple #[.agg #[.int .i64 0, .int .i64 0, .int .i64 0, .bool false], .int .i64 1]) (by simp [results, Tryz.results40, go_sem, hbc0]) rfl ⟨rfl, by exact belowBy⟩
 ·rw [HR.out]
  go_enter Tryz.func40, Tryz.ntmps40
  go_wp2_with fail
  refine (hright_any _ _ _ _ _).mono ?_
  rw [HR.out]
  rintro e w1 ⟨rfl, hb⟩
  obtain ⟨hbc, hbf⟩ := bcell hb
  have hbz := hb.size
  have hbc0 := fun o => hbc (w.heap.size) o (by first | (simp; done) | (simp; omega) | omega)
  have hbf0 := fun o => hbf (w.heap.size) o (by first | (simp; done) | (simp; omega) | omega)
  have hbc1 := fun o => hbc (w.heap.size + 1) o (by first | (simp; done) | (simp; omega) | omega)
  have hbf1 := fun o => hbf (w.heap.size + 1) o (by first | (simp; done) | (simp; omega) | omega)
  go_wp2

  exact bodyPost_ret (v := .tuple #[.agg #[.int .i64 0, .int .i64 f, .int .i64 c, .bool false], .int .i64 0]) (by simp [results, Tryz.results40, go_sem, hbc0]) rfl ⟨rfl, by exact belowBy⟩


theorem over_at (p f c : Int) (t : Bool) (w : World) (b : Bool) (h : overB p f c = b) :
  Calls Tryz.prog 112 #[.agg #[.int .i64 p, .int .i64 f, .int .i64 c, .bool t]] w fun e w' => e = .returned (.bool b) ∧ Below w.heap.size w w' := by
 subst h
 exact hover_any p f c t w
theorem ahead_at (v : Int) (x y b : Bool) (w : World) (h : aheadB v x y = b) :
  Calls Tryz.prog 113 #[.int .i64 v, .bool x, .bool y] w fun e w' => e = .returned (.bool b) ∧ w = w' := by
 subst h
 exact ahead_any v x y w
set_option maxRecDepth 100000 in
theorem hstep_over (f c : Int) (p : Int) (t sw plus minus still : Bool) (w : World) (HO : Hid (overB p f c = true)) :
  Calls Tryz.prog 96 #[.agg #[.int .i64 p, .int .i64 f, .int .i64 c, .bool t], .bool sw, .bool plus, .bool minus, .bool still] w fun e w' => e = .returned (.tuple #[.agg #[.int .i64 p, .int .i64 (f), .int .i64 (c), .bool t], .int .i64 (0)]) ∧ Below w.heap.size w w' := by
 go_enter Tryz.func96, Tryz.ntmps96
 go_wp2_with fail
 refine (over_at _ _ _ _ _ true HO.out).mono ?_
 rintro e w1 ⟨rfl, hb⟩
 obtain ⟨hbc, hbf⟩ := bcell hb
 have hbz := hb.size
 have hbc0 := fun o => hbc (w.heap.size) o (by first | (simp; done) | (simp; omega) | omega)
 have hbf0 := fun o => hbf (w.heap.size) o (by first | (simp; done) | (simp; omega) | omega)
 have hbc1 := fun o => hbc (w.heap.size + 1) o (by first | (simp; done) | (simp; omega) | omega)
 have hbf1 := fun o => hbf (w.heap.size + 1) o (by first | (simp; done) | (simp; omega) | omega)
 go_wp2
 exact bodyPost_ret (v := .tuple #[.agg #[.int .i64 p, .int .i64 (f), .int .i64 (c), .bool t], .int .i64 (0)]) (by simp [results, Tryz.results96, go_sem, hbc0, hbc1]) rfl ⟨rfl, by exact belowBy⟩

set_option maxRecDepth 100000 in
theorem hstep_00 (f c : Int) (t plus minus still : Bool) (w : World) (HO : Hid (overB 0 f c = false)) :
  Calls Tryz.prog 96 #[.agg #[.int .i64 0, .int .i64 f, .int .i64 c, .bool t], .bool true, .bool plus, .bool minus, .bool still] w fun e w' => e = .returned (.tuple #[.agg #[.int .i64 1, .int .i64 (f), .int .i64 (c), .bool t], .int .i64 (0)]) ∧ Below w.heap.size w w' := by
 go_enter Tryz.func96, Tryz.ntmps96
 go_wp2_with fail
 refine (over_at _ _ _ _ _ false HO.out).mono ?_
 rintro e w1 ⟨rfl, hb⟩
 obtain ⟨hbc, hbf⟩ := bcell hb
 have hbz := hb.size
 have hbc0 := fun o => hbc (w.heap.size) o (by first | (simp; done) | (simp; omega) | omega)
 have hbf0 := fun o => hbf (w.heap.size) o (by first | (simp; done) | (simp; omega) | omega)
 have hbc1 := fun o => hbc (w.heap.size + 1) o (by first | (simp; done) | (simp; omega) | omega)
 have hbf1 := fun o => hbf (w.heap.size + 1) o (by first | (simp; done) | (simp; omega) | omega)
 go_wp2
 exact bodyPost_ret (v := .tuple #[.agg #[.int .i64 1, .int .i64 (f), .int .i64 (c), .bool t], .int .i64 (0)]) (by simp [results, Tryz.results96, go_sem, hbc0, hbc1]) rfl ⟨rfl, by exact belowBy⟩

set_option maxRecDepth 100000 in
theorem hstep_01 (f c : Int) (t plus minus still : Bool) (w : World) (HO : Hid (overB 0 f c = false)) (HA : Hid (aheadB f plus minus = false)) :
  Calls Tryz.prog 96 #[.agg #[.int .i64 0, .int .i64 f, .int .i64 c, .bool t], .bool false, .bool plus, .bool minus, .bool still] w fun e w' => e = .returned (.tuple #[.agg #[.int .i64 0, .int .i64 (f), .int .i64 (c), .bool t], .int .i64 (f)]) ∧ Below w.heap.size w w' := by
 go_enter Tryz.func96, Tryz.ntmps96
 go_wp2_with fail
 refine (over_at _ _ _ _ _ false HO.out).mono ?_
 rintro e w1 ⟨rfl, hb⟩
 obtain ⟨hbc, hbf⟩ := bcell hb
 have hbz := hb.size
 have hbc0 := fun o => hbc (w.heap.size) o (by first | (simp; done) | (simp; omega) | omega)
 have hbf0 := fun o => hbf (w.heap.size) o (by first | (simp; done) | (simp; omega) | omega)
 have hbc1 := fun o => hbc (w.heap.size + 1) o (by first | (simp; done) | (simp; omega) | omega)
 have hbf1 := fun o => hbf (w.heap.size + 1) o (by first | (simp; done) | (simp; omega) | omega)
 go_wp2_with (first | (go_at_call 113; refine (ahead_at _ _ _ _ _ HA.out).mono ?_; rintro e w' ⟨rfl, rfl⟩))
 go_region
 go_wp2
 exact bodyPost_ret (v := .tuple #[.agg #[.int .i64 0, .int .i64 (f), .int .i64 (c), .bool t], .int .i64 (f)]) (by simp [results, Tryz.results96, go_sem, hbc0, hbc1]) rfl ⟨rfl, by exact belowBy⟩

set_option maxRecDepth 100000 in
theorem hstep_02 (f c : Int) (plus minus still : Bool) (w : World) (HO : Hid (overB 0 f c = false)) (HA : Hid (aheadB f plus minus = true)) :
  Calls Tryz.prog 96 #[.agg #[.int .i64 0, .int .i64 f, .int .i64 c, .bool true], .bool false, .bool plus, .bool minus, .bool still] w fun e w' => e = .returned (.tuple #[.agg #[.int .i64 5, .int .i64 (f), .int .i64 (c), .bool true], .int .i64 (0)]) ∧ Below w.heap.size w w' := by
 go_enter Tryz.func96, Tryz.ntmps96
 go_wp2_with fail
 refine (over_at _ _ _ _ _ false HO.out).mono ?_
 rintro e w1 ⟨rfl, hb⟩
 obtain ⟨hbc, hbf⟩ := bcell hb
 have hbz := hb.size
 have hbc0 := fun o => hbc (w.heap.size) o (by first | (simp; done) | (simp; omega) | omega)
 have hbf0 := fun o => hbf (w.heap.size) o (by first | (simp; done) | (simp; omega) | omega)
 have hbc1 := fun o => hbc (w.heap.size + 1) o (by first | (simp; done) | (simp; omega) | omega)
 have hbf1 := fun o => hbf (w.heap.size + 1) o (by first | (simp; done) | (simp; omega) | omega)
 go_wp2_with (first | (go_at_call 113; refine (ahead_at _ _ _ _ _ HA.out).mono ?_; rintro e w' ⟨rfl, rfl⟩))
 exact bodyPost_ret (v := .tuple #[.agg #[.int .i64 5, .int .i64 (f), .int .i64 (c), .bool true], .int .i64 (0)]) (by simp [results, Tryz.results96, go_sem, hbc0, hbc1]) rfl ⟨rfl, by exact belowBy⟩

set_option maxRecDepth 100000 in
theorem hstep_03 (f c : Int) (plus minus still : Bool) (w : World) (HO : Hid (overB 0 f c = false)) (HA : Hid (aheadB f plus minus = true)) (hf : -1048576 ≤ f ∧ f ≤ 1048576) (hc : -1048576 ≤ c ∧ c ≤ 1048576) :
  Calls Tryz.prog 96 #[.agg #[.int .i64 0, .int .i64 f, .int .i64 c, .bool false], .bool false, .bool plus, .bool minus, .bool still] w fun e w' => e = .returned (.tuple #[.agg #[.int .i64 0, .int .i64 (-f), .int .i64 (-c), .bool true], .int .i64 (0)]) ∧ Below w.heap.size w w' := by
 go_enter Tryz.func96, Tryz.ntmps96
 go_wp2_with fail
 refine (over_at _ _ _ _ _ false HO.out).mono ?_
 rintro e w1 ⟨rfl, hb⟩
 obtain ⟨hbc, hbf⟩ := bcell hb
 have hbz := hb.size
 have hbc0 := fun o => hbc (w.heap.size) o (by first | (simp; done) | (simp; omega) | omega)
 have hbf0 := fun o => hbf (w.heap.size) o (by first | (simp; done) | (simp; omega) | omega)
 have hbc1 := fun o => hbc (w.heap.size + 1) o (by first | (simp; done) | (simp; omega) | omega)
 have hbf1 := fun o => hbf (w.heap.size + 1) o (by first | (simp; done) | (simp; omega) | omega)
 go_wp2_with (first | (go_at_call 113; refine (ahead_at _ _ _ _ _ HA.out).mono ?_; rintro e w' ⟨rfl, rfl⟩))
 exact bodyPost_ret (v := .tuple #[.agg #[.int .i64 0, .int .i64 (-f), .int .i64 (-c), .bool true], .int .i64 (0)]) (by simp [results, Tryz.results96, go_sem, hbc0, hbc1]) rfl ⟨rfl, by exact belowBy⟩

set_option maxRecDepth 100000 in
theorem hstep_10 (f c : Int) (t sw plus minus : Bool) (w : World) (HO : Hid (overB 1 f c = false)) :
  Calls Tryz.prog 96 #[.agg #[.int .i64 1, .int .i64 f, .int .i64 c, .bool t], .bool sw, .bool plus, .bool minus, .bool true] w fun e w' => e = .returned (.tuple #[.agg #[.int .i64 2, .int .i64 (f), .int .i64 (c), .bool t], .int .i64 (0)]) ∧ Below w.heap.size w w' := by
 go_enter Tryz.func96, Tryz.ntmps96
 go_wp2_with fail
 refine (over_at _ _ _ _ _ false HO.out).mono ?_
 rintro e w1 ⟨rfl, hb⟩
 obtain ⟨hbc, hbf⟩ := bcell hb
 have hbz := hb.size
 have hbc0 := fun o => hbc (w.heap.size) o (by first | (simp; done) | (simp; omega) | omega)
 have hbf0 := fun o => hbf (w.heap.size) o (by first | (simp; done) | (simp; omega) | omega)
 have hbc1 := fun o => hbc (w.heap.size + 1) o (by first | (simp; done) | (simp; omega) | omega)
 have hbf1 := fun o => hbf (w.heap.size + 1) o (by first | (simp; done) | (simp; omega) | omega)
 go_wp2
 exact bodyPost_ret (v := .tuple #[.agg #[.int .i64 2, .int .i64 (f), .int .i64 (c), .bool t], .int .i64 (0)]) (by simp [results, Tryz.results96, go_sem, hbc0, hbc1]) rfl ⟨rfl, by exact belowBy⟩

set_option maxRecDepth 100000 in
theorem hstep_11 (f c : Int) (t sw plus minus : Bool) (w : World) (HO : Hid (overB 1 f c = false)) :
  Calls Tryz.prog 96 #[.agg #[.int .i64 1, .int .i64 f, .int .i64 c, .bool t], .bool sw, .bool plus, .bool minus, .bool false] w fun e w' => e = .returned (.tuple #[.agg #[.int .i64 1, .int .i64 (f), .int .i64 (c), .bool t], .int .i64 (0)]) ∧ Below w.heap.size w w' := by
 go_enter Tryz.func96, Tryz.ntmps96
 go_wp2_with fail
 refine (over_at _ _ _ _ _ false HO.out).mono ?_
 rintro e w1 ⟨rfl, hb⟩
 obtain ⟨hbc, hbf⟩ := bcell hb
 have hbz := hb.size
 have hbc0 := fun o => hbc (w.heap.size) o (by first | (simp; done) | (simp; omega) | omega)
 have hbf0 := fun o => hbf (w.heap.size) o (by first | (simp; done) | (simp; omega) | omega)
 have hbc1 := fun o => hbc (w.heap.size + 1) o (by first | (simp; done) | (simp; omega) | omega)
 have hbf1 := fun o => hbf (w.heap.size + 1) o (by first | (simp; done) | (simp; omega) | omega)
 go_wp2
 exact bodyPost_ret (v := .tuple #[.agg #[.int .i64 1, .int .i64 (f), .int .i64 (c), .bool t], .int .i64 (0)]) (by simp [results, Tryz.results96, go_sem, hbc0, hbc1]) rfl ⟨rfl, by exact belowBy⟩

set_option maxRecDepth 100000 in
theorem hstep_20 (f c : Int) (t plus minus still : Bool) (w : World) (HO : Hid (overB 2 f c = false)) :
  Calls Tryz.prog 96 #[.agg #[.int .i64 2, .int .i64 f, .int .i64 c, .bool t], .bool false, .bool plus, .bool minus, .bool still] w fun e w' => e = .returned (.tuple #[.agg #[.int .i64 3, .int .i64 (f), .int .i64 (c), .bool t], .int .i64 (0)]) ∧ Below w.heap.size w w' := by
 go_enter Tryz.func96, Tryz.ntmps96
 go_wp2_with fail
 refine (over_at _ _ _ _ _ false HO.out).mono ?_
 rintro e w1 ⟨rfl, hb⟩
 obtain ⟨hbc, hbf⟩ := bcell hb
 have hbz := hb.size
 have hbc0 := fun o => hbc (w.heap.size) o (by first | (simp; done) | (simp; omega) | omega)
 have hbf0 := fun o => hbf (w.heap.size) o (by first | (simp; done) | (simp; omega) | omega)
 have hbc1 := fun o => hbc (w.heap.size + 1) o (by first | (simp; done) | (simp; omega) | omega)
 have hbf1 := fun o => hbf (w.heap.size + 1) o (by first | (simp; done) | (simp; omega) | omega)
 go_wp2
 exact bodyPost_ret (v := .tuple #[.agg #[.int .i64 3, .int .i64 (f), .int .i64 (c), .bool t], .int .i64 (0)]) (by simp [results, Tryz.results96, go_sem, hbc0, hbc1]) rfl ⟨rfl, by exact belowBy⟩

set_option maxRecDepth 100000 in
theorem hstep_21 (f c : Int) (t plus minus still : Bool) (w : World) (HO : Hid (overB 2 f c = false)) (HA : Hid (aheadB (-c) plus minus = true)) (hf : -1048576 ≤ f ∧ f ≤ 1048576) (hc : -1048576 ≤ c ∧ c ≤ 1048576) :
  Calls Tryz.prog 96 #[.agg #[.int .i64 2, .int .i64 f, .int .i64 c, .bool t], .bool true, .bool plus, .bool minus, .bool still] w fun e w' => e = .returned (.tuple #[.agg #[.int .i64 5, .int .i64 (f), .int .i64 (c), .bool t], .int .i64 (0)]) ∧ Below w.heap.size w w' := by
 go_enter Tryz.func96, Tryz.ntmps96
 go_wp2_with fail
 refine (over_at _ _ _ _ _ false HO.out).mono ?_
 rintro e w1 ⟨rfl, hb⟩
 obtain ⟨hbc, hbf⟩ := bcell hb
 have hbz := hb.size
 have hbc0 := fun o => hbc (w.heap.size) o (by first | (simp; done) | (simp; omega) | omega)
 have hbf0 := fun o => hbf (w.heap.size) o (by first | (simp; done) | (simp; omega) | omega)
 have hbc1 := fun o => hbc (w.heap.size + 1) o (by first | (simp; done) | (simp; omega) | omega)
 have hbf1 := fun o => hbf (w.heap.size + 1) o (by first | (simp; done) | (simp; omega) | omega)
 go_wp2_with (first | (go_at_call 113; refine (ahead_at _ _ _ _ _ HA.out).mono ?_; rintro e w' ⟨rfl, rfl⟩))
 exact bodyPost_ret (v := .tuple #[.agg #[.int .i64 5, .int .i64 (f), .int .i64 (c), .bool t], .int .i64 (0)]) (by simp [results, Tryz.results96, go_sem, hbc0, hbc1]) rfl ⟨rfl, by exact belowBy⟩

set_option maxRecDepth 100000 in
theorem hstep_22 (f c : Int) (t plus minus still : Bool) (w : World) (HO : Hid (overB 2 f c = false)) (HA : Hid (aheadB (-c) plus minus = false)) (hf : -1048576 ≤ f ∧ f ≤ 1048576) (hc : -1048576 ≤ c ∧ c ≤ 1048576) :
  Calls Tryz.prog 96 #[.agg #[.int .i64 2, .int .i64 f, .int .i64 c, .bool t], .bool true, .bool plus, .bool minus, .bool still] w fun e w' => e = .returned (.tuple #[.agg #[.int .i64 2, .int .i64 (f), .int .i64 (c), .bool t], .int .i64 (-c)]) ∧ Below w.heap.size w w' := by
 go_enter Tryz.func96, Tryz.ntmps96
 go_wp2_with fail
 refine (over_at _ _ _ _ _ false HO.out).mono ?_
 rintro e w1 ⟨rfl, hb⟩
 obtain ⟨hbc, hbf⟩ := bcell hb
 have hbz := hb.size
 have hbc0 := fun o => hbc (w.heap.size) o (by first | (simp; done) | (simp; omega) | omega)
 have hbf0 := fun o => hbf (w.heap.size) o (by first | (simp; done) | (simp; omega) | omega)
 have hbc1 := fun o => hbc (w.heap.size + 1) o (by first | (simp; done) | (simp; omega) | omega)
 have hbf1 := fun o => hbf (w.heap.size + 1) o (by first | (simp; done) | (simp; omega) | omega)
 go_wp2_with (first | (go_at_call 113; refine (ahead_at _ _ _ _ _ HA.out).mono ?_; rintro e w' ⟨rfl, rfl⟩))
 go_region
 go_wp2
 exact bodyPost_ret (v := .tuple #[.agg #[.int .i64 2, .int .i64 (f), .int .i64 (c), .bool t], .int .i64 (-c)]) (by simp [results, Tryz.results96, go_sem, hbc0, hbc1]) rfl ⟨rfl, by exact belowBy⟩

set_option maxRecDepth 100000 in
theorem hstep_30 (f c : Int) (t sw plus minus : Bool) (w : World) (HO : Hid (overB 3 f c = false)) :
  Calls Tryz.prog 96 #[.agg #[.int .i64 3, .int .i64 f, .int .i64 c, .bool t], .bool sw, .bool plus, .bool minus, .bool true] w fun e w' => e = .returned (.tuple #[.agg #[.int .i64 4, .int .i64 (f), .int .i64 (c), .bool t], .int .i64 (0)]) ∧ Below w.heap.size w w' := by
 go_enter Tryz.func96, Tryz.ntmps96
 go_wp2_with fail
 refine (over_at _ _ _ _ _ false HO.out).mono ?_
 rintro e w1 ⟨rfl, hb⟩
 obtain ⟨hbc, hbf⟩ := bcell hb
 have hbz := hb.size
 have hbc0 := fun o => hbc (w.heap.size) o (by first | (simp; done) | (simp; omega) | omega)
 have hbf0 := fun o => hbf (w.heap.size) o (by first | (simp; done) | (simp; omega) | omega)
 have hbc1 := fun o => hbc (w.heap.size + 1) o (by first | (simp; done) | (simp; omega) | omega)
 have hbf1 := fun o => hbf (w.heap.size + 1) o (by first | (simp; done) | (simp; omega) | omega)
 go_wp2
 exact bodyPost_ret (v := .tuple #[.agg #[.int .i64 4, .int .i64 (f), .int .i64 (c), .bool t], .int .i64 (0)]) (by simp [results, Tryz.results96, go_sem, hbc0, hbc1]) rfl ⟨rfl, by exact belowBy⟩

set_option maxRecDepth 100000 in
theorem hstep_31 (f c : Int) (t sw plus minus : Bool) (w : World) (HO : Hid (overB 3 f c = false)) :
  Calls Tryz.prog 96 #[.agg #[.int .i64 3, .int .i64 f, .int .i64 c, .bool t], .bool sw, .bool plus, .bool minus, .bool false] w fun e w' => e = .returned (.tuple #[.agg #[.int .i64 3, .int .i64 (f), .int .i64 (c), .bool t], .int .i64 (0)]) ∧ Below w.heap.size w w' := by
 go_enter Tryz.func96, Tryz.ntmps96
 go_wp2_with fail
 refine (over_at _ _ _ _ _ false HO.out).mono ?_
 rintro e w1 ⟨rfl, hb⟩
 obtain ⟨hbc, hbf⟩ := bcell hb
 have hbz := hb.size
 have hbc0 := fun o => hbc (w.heap.size) o (by first | (simp; done) | (simp; omega) | omega)
 have hbf0 := fun o => hbf (w.heap.size) o (by first | (simp; done) | (simp; omega) | omega)
 have hbc1 := fun o => hbc (w.heap.size + 1) o (by first | (simp; done) | (simp; omega) | omega)
 have hbf1 := fun o => hbf (w.heap.size + 1) o (by first | (simp; done) | (simp; omega) | omega)
 go_wp2
 exact bodyPost_ret (v := .tuple #[.agg #[.int .i64 3, .int .i64 (f), .int .i64 (c), .bool t], .int .i64 (0)]) (by simp [results, Tryz.results96, go_sem, hbc0, hbc1]) rfl ⟨rfl, by exact belowBy⟩


set_option maxRecDepth 100000 in
theorem rright_any (p f c : Int) (t : Bool) (w : World) :
  Calls Tryz.prog 42 #[.agg #[.int .i64 p, .int .i64 f, .int .i64 c, .bool t]] w fun e w' => e = .returned (.bool (homeB p f c)) ∧ Below w.heap.size w w' := by
 go_enter Tryz.func42, Tryz.ntmps42
 go_wp2_with fail
 go_quiet (fail)
 go_wp2
 all_goals go_ret
 all_goals
  refine ⟨congrArg (fun b => Ending.returned (.bool b)) ?_, by exact belowBy⟩
  rw [Bool.eq_iff_iff]
  simp only [homeB, decide_eq_true_eq, Bool.false_eq_true, true_iff, false_iff]
  try simp only [beq_iff_eq] at *
  omega






theorem stepH_over {h : HomeS} (ho : overB h.p h.f h.c = true) (a b c d : Bool) : stepH h a b c d = (h, 0) := by simp [stepH, ho]

def stepV (r : HomeS × Int) : Value := .tuple #[.agg #[.int .i64 r.1.p, .int .i64 r.1.f, .int .i64 r.1.c, .bool r.1.t], .int .i64 r.2]

theorem hstep_any (p f c : Int) (t sw plus minus still : Bool) (w : World) :
  Calls Tryz.prog 96 #[.agg #[.int .i64 p, .int .i64 f, .int .i64 c, .bool t], .bool sw, .bool plus, .bool minus, .bool still] w fun e w' => e = .returned (stepV (stepH ⟨p, f, c, t⟩ sw plus minus still)) ∧ Below w.heap.size w w' := by
 cases ho : overB p f c
 ·have hb : homeB p f c = true := by
   cases h : homeB p f c
   ·simp [overB, h] at ho
   ·rfl
  have hy := homeB_yes hb
  have hf : -1048576 ≤ f ∧ f ≤ 1048576 := by omega
  have hc : -1048576 ≤ c ∧ c ≤ 1048576 := by omega
  have hp : p = 0 ∨ p = 1 ∨ p = 2 ∨ p = 3 := by
   simp only [overB, hb, Bool.not_true, Bool.false_or, Bool.or_eq_false_iff, beq_eq_false_iff_ne] at ho
   omega
  rcases hp with rfl | rfl | rfl | rfl
  ·cases sw
   ·cases ha : aheadB f plus minus
    ·rw [show stepH ⟨0, f, c, t⟩ false plus minus still = (⟨0, f, c, t⟩, f) by simp [stepH, ho, ha]]
     exact hstep_01 f c t plus minus still w ho ha
    ·cases t
     ·rw [show stepH ⟨0, f, c, false⟩ false plus minus still = (⟨0, -f, -c, true⟩, 0) by simp [stepH, ho, ha]]
      exact hstep_03 f c plus minus still w ho ha hf hc
     ·rw [show stepH ⟨0, f, c, true⟩ false plus minus still = (⟨5, f, c, true⟩, 0) by simp [stepH, ho, ha]]
      exact hstep_02 f c plus minus still w ho ha
   ·rw [show stepH ⟨0, f, c, t⟩ true plus minus still = (⟨1, f, c, t⟩, 0) by simp [stepH, ho]]
    exact hstep_00 f c t plus minus still w ho
  ·cases still
   ·rw [show stepH ⟨1, f, c, t⟩ sw plus minus false = (⟨1, f, c, t⟩, 0) by simp [stepH, ho]]
    exact hstep_11 f c t sw plus minus w ho
   ·rw [show stepH ⟨1, f, c, t⟩ sw plus minus true = (⟨2, f, c, t⟩, 0) by simp [stepH, ho]]
    exact hstep_10 f c t sw plus minus w ho
  ·cases sw
   ·rw [show stepH ⟨2, f, c, t⟩ false plus minus still = (⟨3, f, c, t⟩, 0) by simp [stepH, ho]]
    exact hstep_20 f c t plus minus still w ho
   ·cases ha : aheadB (-c) plus minus
    ·rw [show stepH ⟨2, f, c, t⟩ true plus minus still = (⟨2, f, c, t⟩, -c) by simp [stepH, ho, ha]]
     exact hstep_22 f c t plus minus still w ho ha hf hc
    ·rw [show stepH ⟨2, f, c, t⟩ true plus minus still = (⟨5, f, c, t⟩, 0) by simp [stepH, ho, ha]]
     exact hstep_21 f c t plus minus still w ho ha hf hc
  ·cases still
   ·rw [show stepH ⟨3, f, c, t⟩ sw plus minus false = (⟨3, f, c, t⟩, 0) by simp [stepH, ho]]
    exact hstep_31 f c t sw plus minus w ho
   ·rw [show stepH ⟨3, f, c, t⟩ sw plus minus true = (⟨4, f, c, t⟩, 0) by simp [stepH, ho]]
    exact hstep_30 f c t sw plus minus w ho
 ·rw [stepH_over (h := ⟨p, f, c, t⟩) ho]
  exact hstep_over f c p t sw plus minus still w ho



end Go.Proofs.YthhfnageadckkaaGreat

namespace Go.Proofs.YthhfnageadckkaaGreat
open Go.ChangeShapes Go.WideShapes Go.ChangeAt Go.RowKit

theorem hstep_at (p f c : Int) (t sw plus minus still : Bool) (w : World) (p' f' c' : Int) (t' : Bool) (v : Int) (h : stepH ⟨p, f, c, t⟩ sw plus minus still = (⟨p', f', c', t'⟩, v)) :
  Calls Tryz.prog 96 #[.agg #[.int .i64 p, .int .i64 f, .int .i64 c, .bool t], .bool sw, .bool plus, .bool minus, .bool still] w fun e w' => e = .returned (.tuple #[.agg #[.int .i64 p', .int .i64 f', .int .i64 c', .bool t'], .int .i64 v]) ∧ Below w.heap.size w w' := by
 have := hstep_any p f c t sw plus minus still w
 rw [h] at this
 exact this

theorem rhright_at (p f c : Int) (t : Bool) (w : World) (b : Bool) (h : homeB p f c = b) :
  Calls Tryz.prog 42 #[.agg #[.int .i64 p, .int .i64 f, .int .i64 c, .bool t]] w fun e w' => e = .returned (.bool b) ∧ Below w.heap.size w w' := by
 subst h
 exact rright_any p f c t w

theorem hnew_yes (f c : Int) (w : World) (h : homeB 0 f c = true) :
  Calls Tryz.prog 40 #[.int .i64 f, .int .i64 c] w fun e w' => e = .returned (.tuple #[.agg #[.int .i64 0, .int .i64 f, .int .i64 c, .bool false], .int .i64 0]) ∧ Below w.heap.size w w' := by
 have := hnew_any f c w
 rw [h] at this
 exact this

theorem hnew_no (f c : Int) (w : World) (h : homeB 0 f c = false) :
  Calls Tryz.prog 40 #[.int .i64 f, .int .i64 c] w fun e w' => e = .returned (.tuple #[.agg #[.int .i64 0, .int .i64 0, .int .i64 0, .bool false], .int .i64 1]) ∧ Below w.heap.size w w' := by
 have := hnew_any f c w
 rw [h] at this
 exact this



end Go.Proofs.YthhfnageadckkaaGreat
