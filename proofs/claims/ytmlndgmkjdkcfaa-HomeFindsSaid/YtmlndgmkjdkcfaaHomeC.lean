/- Contracts of layer 13: a cycle of a search. -/
import Derived.Test.YtmlndgmkjdkcfaaHomeB
namespace Go.Proofs.Ytmlndgmkjdkcfaa
open Go.RowKit
set_option linter.unusedVariables false
set_option linter.unusedSimpArgs false

theorem over_at (p f c : Int) (t : Bool) (w : World) (b : Bool) (h : overB p f c = b) :
    Calls Try.prog 42 #[.agg #[.int .i64 p, .int .i64 f, .int .i64 c, .bool t]] w fun e w' => e = .returned (.bool b) ∧ Below w.heap.size w w' := by
  subst h
  exact hover_any p f c t w
theorem ahead_at (v : Int) (x y b : Bool) (w : World) (h : aheadB v x y = b) :
    Calls Try.prog 67 #[.int .i64 v, .bool x, .bool y] w fun e w' => e = .returned (.bool b) ∧ w = w' := by
  subst h
  exact ahead_any v x y w
theorem overB_no {p f c : Int} (h : homeB p f c = true) (hp : p ≠ 4 ∧ p ≠ 5) : overB p f c = false := by
  simp [overB, h, hp.1, hp.2]

set_option maxRecDepth 100000 in
set_option maxHeartbeats 1000000 in
theorem hstep_over (f c : Int) (p : Int) (t sw plus minus still : Bool) (w : World) (HO : Hid (overB p f c = true)) :
    Calls Try.prog 43 #[.agg #[.int .i64 p, .int .i64 f, .int .i64 c, .bool t], .bool sw, .bool plus, .bool minus, .bool still] w fun e w' => e = .returned (.tuple #[.agg #[.int .i64 p, .int .i64 (f), .int .i64 (c), .bool t], .int .i64 (0)]) ∧ Below w.heap.size w w' := by
  go_enter Try.func43, Try.ntmps43
  go_wp2_with fail
  refine (over_at _ _ _ _ _ true HO.out).mono ?_
  rintro e w1 ⟨rfl, hb⟩
  obtain ⟨hbc, hbf⟩ := bcell hb
  have hbz := hb.size
  have hbc0 := fun o => hbc (w.heap.size) o (by first | (simp; done) | (simp; omega) | omega)
  have hbf0 := fun o => hbf (w.heap.size) o (by first | (simp; done) | (simp; omega) | omega)
  have hbc1 := fun o => hbc (w.heap.size + 1) o (by first | (simp; done) | (simp; omega) | omega)
  have hbf1 := fun o => hbf (w.heap.size + 1) o (by first | (simp; done) | (simp; omega) | omega)
  go_wp2
  exact bodyPost_ret (v := .tuple #[.agg #[.int .i64 p, .int .i64 (f), .int .i64 (c), .bool t], .int .i64 (0)]) (by simp [results, Try.results43, go_sem, hbc0, hbc1]) rfl ⟨rfl, by (repeat' (first | (with_reducible exact Below.refl _ _) | (with_reducible assumption) | (with_reducible refine below_drewN ?_ _) | (with_reducible refine Below.drew ?_) | (with_reducible refine below_new ?_ (Nat.le_refl _) _) | (with_reducible refine Below.setCell ?_ ?_ _) | (with_reducible refine below_go ?_ (by assumption) (Nat.le_refl _)) | (simp; done) | (simp; omega) | omega))⟩

set_option maxRecDepth 100000 in
set_option maxHeartbeats 1000000 in
theorem hstep_00 (f c : Int) (t plus minus still : Bool) (w : World) (HO : Hid (overB 0 f c = false)) :
    Calls Try.prog 43 #[.agg #[.int .i64 0, .int .i64 f, .int .i64 c, .bool t], .bool true, .bool plus, .bool minus, .bool still] w fun e w' => e = .returned (.tuple #[.agg #[.int .i64 1, .int .i64 (f), .int .i64 (c), .bool t], .int .i64 (0)]) ∧ Below w.heap.size w w' := by
  go_enter Try.func43, Try.ntmps43
  go_wp2_with fail
  refine (over_at _ _ _ _ _ false HO.out).mono ?_
  rintro e w1 ⟨rfl, hb⟩
  obtain ⟨hbc, hbf⟩ := bcell hb
  have hbz := hb.size
  have hbc0 := fun o => hbc (w.heap.size) o (by first | (simp; done) | (simp; omega) | omega)
  have hbf0 := fun o => hbf (w.heap.size) o (by first | (simp; done) | (simp; omega) | omega)
  have hbc1 := fun o => hbc (w.heap.size + 1) o (by first | (simp; done) | (simp; omega) | omega)
  have hbf1 := fun o => hbf (w.heap.size + 1) o (by first | (simp; done) | (simp; omega) | omega)
  go_wp2
  exact bodyPost_ret (v := .tuple #[.agg #[.int .i64 1, .int .i64 (f), .int .i64 (c), .bool t], .int .i64 (0)]) (by simp [results, Try.results43, go_sem, hbc0, hbc1]) rfl ⟨rfl, by (repeat' (first | (with_reducible exact Below.refl _ _) | (with_reducible assumption) | (with_reducible refine below_drewN ?_ _) | (with_reducible refine Below.drew ?_) | (with_reducible refine below_new ?_ (Nat.le_refl _) _) | (with_reducible refine Below.setCell ?_ ?_ _) | (with_reducible refine below_go ?_ (by assumption) (Nat.le_refl _)) | (simp; done) | (simp; omega) | omega))⟩

set_option maxRecDepth 100000 in
set_option maxHeartbeats 1000000 in
theorem hstep_01 (f c : Int) (t plus minus still : Bool) (w : World) (HO : Hid (overB 0 f c = false)) (HA : Hid (aheadB f plus minus = false)) :
    Calls Try.prog 43 #[.agg #[.int .i64 0, .int .i64 f, .int .i64 c, .bool t], .bool false, .bool plus, .bool minus, .bool still] w fun e w' => e = .returned (.tuple #[.agg #[.int .i64 0, .int .i64 (f), .int .i64 (c), .bool t], .int .i64 (f)]) ∧ Below w.heap.size w w' := by
  go_enter Try.func43, Try.ntmps43
  go_wp2_with fail
  refine (over_at _ _ _ _ _ false HO.out).mono ?_
  rintro e w1 ⟨rfl, hb⟩
  obtain ⟨hbc, hbf⟩ := bcell hb
  have hbz := hb.size
  have hbc0 := fun o => hbc (w.heap.size) o (by first | (simp; done) | (simp; omega) | omega)
  have hbf0 := fun o => hbf (w.heap.size) o (by first | (simp; done) | (simp; omega) | omega)
  have hbc1 := fun o => hbc (w.heap.size + 1) o (by first | (simp; done) | (simp; omega) | omega)
  have hbf1 := fun o => hbf (w.heap.size + 1) o (by first | (simp; done) | (simp; omega) | omega)
  go_wp2_with (first | (go_at_call 67; refine (ahead_at _ _ _ _ _ HA.out).mono ?_; rintro e w' ⟨rfl, rfl⟩))
  go_region
  go_wp2
  exact bodyPost_ret (v := .tuple #[.agg #[.int .i64 0, .int .i64 (f), .int .i64 (c), .bool t], .int .i64 (f)]) (by simp [results, Try.results43, go_sem, hbc0, hbc1]) rfl ⟨rfl, by (repeat' (first | (with_reducible exact Below.refl _ _) | (with_reducible assumption) | (with_reducible refine below_drewN ?_ _) | (with_reducible refine Below.drew ?_) | (with_reducible refine below_new ?_ (Nat.le_refl _) _) | (with_reducible refine Below.setCell ?_ ?_ _) | (with_reducible refine below_go ?_ (by assumption) (Nat.le_refl _)) | (simp; done) | (simp; omega) | omega))⟩

set_option maxRecDepth 100000 in
set_option maxHeartbeats 1000000 in
theorem hstep_02 (f c : Int) (plus minus still : Bool) (w : World) (HO : Hid (overB 0 f c = false)) (HA : Hid (aheadB f plus minus = true)) :
    Calls Try.prog 43 #[.agg #[.int .i64 0, .int .i64 f, .int .i64 c, .bool true], .bool false, .bool plus, .bool minus, .bool still] w fun e w' => e = .returned (.tuple #[.agg #[.int .i64 5, .int .i64 (f), .int .i64 (c), .bool true], .int .i64 (0)]) ∧ Below w.heap.size w w' := by
  go_enter Try.func43, Try.ntmps43
  go_wp2_with fail
  refine (over_at _ _ _ _ _ false HO.out).mono ?_
  rintro e w1 ⟨rfl, hb⟩
  obtain ⟨hbc, hbf⟩ := bcell hb
  have hbz := hb.size
  have hbc0 := fun o => hbc (w.heap.size) o (by first | (simp; done) | (simp; omega) | omega)
  have hbf0 := fun o => hbf (w.heap.size) o (by first | (simp; done) | (simp; omega) | omega)
  have hbc1 := fun o => hbc (w.heap.size + 1) o (by first | (simp; done) | (simp; omega) | omega)
  have hbf1 := fun o => hbf (w.heap.size + 1) o (by first | (simp; done) | (simp; omega) | omega)
  go_wp2_with (first | (go_at_call 67; refine (ahead_at _ _ _ _ _ HA.out).mono ?_; rintro e w' ⟨rfl, rfl⟩))
  exact bodyPost_ret (v := .tuple #[.agg #[.int .i64 5, .int .i64 (f), .int .i64 (c), .bool true], .int .i64 (0)]) (by simp [results, Try.results43, go_sem, hbc0, hbc1]) rfl ⟨rfl, by (repeat' (first | (with_reducible exact Below.refl _ _) | (with_reducible assumption) | (with_reducible refine below_drewN ?_ _) | (with_reducible refine Below.drew ?_) | (with_reducible refine below_new ?_ (Nat.le_refl _) _) | (with_reducible refine Below.setCell ?_ ?_ _) | (with_reducible refine below_go ?_ (by assumption) (Nat.le_refl _)) | (simp; done) | (simp; omega) | omega))⟩

set_option maxRecDepth 100000 in
set_option maxHeartbeats 1000000 in
theorem hstep_03 (f c : Int) (plus minus still : Bool) (w : World) (HO : Hid (overB 0 f c = false)) (HA : Hid (aheadB f plus minus = true)) (hf : -1048576 ≤ f ∧ f ≤ 1048576) (hc : -1048576 ≤ c ∧ c ≤ 1048576) :
    Calls Try.prog 43 #[.agg #[.int .i64 0, .int .i64 f, .int .i64 c, .bool false], .bool false, .bool plus, .bool minus, .bool still] w fun e w' => e = .returned (.tuple #[.agg #[.int .i64 0, .int .i64 (-f), .int .i64 (-c), .bool true], .int .i64 (0)]) ∧ Below w.heap.size w w' := by
  go_enter Try.func43, Try.ntmps43
  go_wp2_with fail
  refine (over_at _ _ _ _ _ false HO.out).mono ?_
  rintro e w1 ⟨rfl, hb⟩
  obtain ⟨hbc, hbf⟩ := bcell hb
  have hbz := hb.size
  have hbc0 := fun o => hbc (w.heap.size) o (by first | (simp; done) | (simp; omega) | omega)
  have hbf0 := fun o => hbf (w.heap.size) o (by first | (simp; done) | (simp; omega) | omega)
  have hbc1 := fun o => hbc (w.heap.size + 1) o (by first | (simp; done) | (simp; omega) | omega)
  have hbf1 := fun o => hbf (w.heap.size + 1) o (by first | (simp; done) | (simp; omega) | omega)
  go_wp2_with (first | (go_at_call 67; refine (ahead_at _ _ _ _ _ HA.out).mono ?_; rintro e w' ⟨rfl, rfl⟩))
  exact bodyPost_ret (v := .tuple #[.agg #[.int .i64 0, .int .i64 (-f), .int .i64 (-c), .bool true], .int .i64 (0)]) (by simp [results, Try.results43, go_sem, hbc0, hbc1]) rfl ⟨rfl, by (repeat' (first | (with_reducible exact Below.refl _ _) | (with_reducible assumption) | (with_reducible refine below_drewN ?_ _) | (with_reducible refine Below.drew ?_) | (with_reducible refine below_new ?_ (Nat.le_refl _) _) | (with_reducible refine Below.setCell ?_ ?_ _) | (with_reducible refine below_go ?_ (by assumption) (Nat.le_refl _)) | (simp; done) | (simp; omega) | omega))⟩

set_option maxRecDepth 100000 in
set_option maxHeartbeats 1000000 in
theorem hstep_10 (f c : Int) (t sw plus minus : Bool) (w : World) (HO : Hid (overB 1 f c = false)) :
    Calls Try.prog 43 #[.agg #[.int .i64 1, .int .i64 f, .int .i64 c, .bool t], .bool sw, .bool plus, .bool minus, .bool true] w fun e w' => e = .returned (.tuple #[.agg #[.int .i64 2, .int .i64 (f), .int .i64 (c), .bool t], .int .i64 (0)]) ∧ Below w.heap.size w w' := by
  go_enter Try.func43, Try.ntmps43
  go_wp2_with fail
  refine (over_at _ _ _ _ _ false HO.out).mono ?_
  rintro e w1 ⟨rfl, hb⟩
  obtain ⟨hbc, hbf⟩ := bcell hb
  have hbz := hb.size
  have hbc0 := fun o => hbc (w.heap.size) o (by first | (simp; done) | (simp; omega) | omega)
  have hbf0 := fun o => hbf (w.heap.size) o (by first | (simp; done) | (simp; omega) | omega)
  have hbc1 := fun o => hbc (w.heap.size + 1) o (by first | (simp; done) | (simp; omega) | omega)
  have hbf1 := fun o => hbf (w.heap.size + 1) o (by first | (simp; done) | (simp; omega) | omega)
  go_wp2
  exact bodyPost_ret (v := .tuple #[.agg #[.int .i64 2, .int .i64 (f), .int .i64 (c), .bool t], .int .i64 (0)]) (by simp [results, Try.results43, go_sem, hbc0, hbc1]) rfl ⟨rfl, by (repeat' (first | (with_reducible exact Below.refl _ _) | (with_reducible assumption) | (with_reducible refine below_drewN ?_ _) | (with_reducible refine Below.drew ?_) | (with_reducible refine below_new ?_ (Nat.le_refl _) _) | (with_reducible refine Below.setCell ?_ ?_ _) | (with_reducible refine below_go ?_ (by assumption) (Nat.le_refl _)) | (simp; done) | (simp; omega) | omega))⟩

set_option maxRecDepth 100000 in
set_option maxHeartbeats 1000000 in
theorem hstep_11 (f c : Int) (t sw plus minus : Bool) (w : World) (HO : Hid (overB 1 f c = false)) :
    Calls Try.prog 43 #[.agg #[.int .i64 1, .int .i64 f, .int .i64 c, .bool t], .bool sw, .bool plus, .bool minus, .bool false] w fun e w' => e = .returned (.tuple #[.agg #[.int .i64 1, .int .i64 (f), .int .i64 (c), .bool t], .int .i64 (0)]) ∧ Below w.heap.size w w' := by
  go_enter Try.func43, Try.ntmps43
  go_wp2_with fail
  refine (over_at _ _ _ _ _ false HO.out).mono ?_
  rintro e w1 ⟨rfl, hb⟩
  obtain ⟨hbc, hbf⟩ := bcell hb
  have hbz := hb.size
  have hbc0 := fun o => hbc (w.heap.size) o (by first | (simp; done) | (simp; omega) | omega)
  have hbf0 := fun o => hbf (w.heap.size) o (by first | (simp; done) | (simp; omega) | omega)
  have hbc1 := fun o => hbc (w.heap.size + 1) o (by first | (simp; done) | (simp; omega) | omega)
  have hbf1 := fun o => hbf (w.heap.size + 1) o (by first | (simp; done) | (simp; omega) | omega)
  go_wp2
  exact bodyPost_ret (v := .tuple #[.agg #[.int .i64 1, .int .i64 (f), .int .i64 (c), .bool t], .int .i64 (0)]) (by simp [results, Try.results43, go_sem, hbc0, hbc1]) rfl ⟨rfl, by (repeat' (first | (with_reducible exact Below.refl _ _) | (with_reducible assumption) | (with_reducible refine below_drewN ?_ _) | (with_reducible refine Below.drew ?_) | (with_reducible refine below_new ?_ (Nat.le_refl _) _) | (with_reducible refine Below.setCell ?_ ?_ _) | (with_reducible refine below_go ?_ (by assumption) (Nat.le_refl _)) | (simp; done) | (simp; omega) | omega))⟩

set_option maxRecDepth 100000 in
set_option maxHeartbeats 1000000 in
theorem hstep_20 (f c : Int) (t plus minus still : Bool) (w : World) (HO : Hid (overB 2 f c = false)) :
    Calls Try.prog 43 #[.agg #[.int .i64 2, .int .i64 f, .int .i64 c, .bool t], .bool false, .bool plus, .bool minus, .bool still] w fun e w' => e = .returned (.tuple #[.agg #[.int .i64 3, .int .i64 (f), .int .i64 (c), .bool t], .int .i64 (0)]) ∧ Below w.heap.size w w' := by
  go_enter Try.func43, Try.ntmps43
  go_wp2_with fail
  refine (over_at _ _ _ _ _ false HO.out).mono ?_
  rintro e w1 ⟨rfl, hb⟩
  obtain ⟨hbc, hbf⟩ := bcell hb
  have hbz := hb.size
  have hbc0 := fun o => hbc (w.heap.size) o (by first | (simp; done) | (simp; omega) | omega)
  have hbf0 := fun o => hbf (w.heap.size) o (by first | (simp; done) | (simp; omega) | omega)
  have hbc1 := fun o => hbc (w.heap.size + 1) o (by first | (simp; done) | (simp; omega) | omega)
  have hbf1 := fun o => hbf (w.heap.size + 1) o (by first | (simp; done) | (simp; omega) | omega)
  go_wp2
  exact bodyPost_ret (v := .tuple #[.agg #[.int .i64 3, .int .i64 (f), .int .i64 (c), .bool t], .int .i64 (0)]) (by simp [results, Try.results43, go_sem, hbc0, hbc1]) rfl ⟨rfl, by (repeat' (first | (with_reducible exact Below.refl _ _) | (with_reducible assumption) | (with_reducible refine below_drewN ?_ _) | (with_reducible refine Below.drew ?_) | (with_reducible refine below_new ?_ (Nat.le_refl _) _) | (with_reducible refine Below.setCell ?_ ?_ _) | (with_reducible refine below_go ?_ (by assumption) (Nat.le_refl _)) | (simp; done) | (simp; omega) | omega))⟩

set_option maxRecDepth 100000 in
set_option maxHeartbeats 1000000 in
theorem hstep_21 (f c : Int) (t plus minus still : Bool) (w : World) (HO : Hid (overB 2 f c = false)) (HA : Hid (aheadB (-c) plus minus = true)) (hf : -1048576 ≤ f ∧ f ≤ 1048576) (hc : -1048576 ≤ c ∧ c ≤ 1048576) :
    Calls Try.prog 43 #[.agg #[.int .i64 2, .int .i64 f, .int .i64 c, .bool t], .bool true, .bool plus, .bool minus, .bool still] w fun e w' => e = .returned (.tuple #[.agg #[.int .i64 5, .int .i64 (f), .int .i64 (c), .bool t], .int .i64 (0)]) ∧ Below w.heap.size w w' := by
  go_enter Try.func43, Try.ntmps43
  go_wp2_with fail
  refine (over_at _ _ _ _ _ false HO.out).mono ?_
  rintro e w1 ⟨rfl, hb⟩
  obtain ⟨hbc, hbf⟩ := bcell hb
  have hbz := hb.size
  have hbc0 := fun o => hbc (w.heap.size) o (by first | (simp; done) | (simp; omega) | omega)
  have hbf0 := fun o => hbf (w.heap.size) o (by first | (simp; done) | (simp; omega) | omega)
  have hbc1 := fun o => hbc (w.heap.size + 1) o (by first | (simp; done) | (simp; omega) | omega)
  have hbf1 := fun o => hbf (w.heap.size + 1) o (by first | (simp; done) | (simp; omega) | omega)
  go_wp2_with (first | (go_at_call 67; refine (ahead_at _ _ _ _ _ HA.out).mono ?_; rintro e w' ⟨rfl, rfl⟩))
  exact bodyPost_ret (v := .tuple #[.agg #[.int .i64 5, .int .i64 (f), .int .i64 (c), .bool t], .int .i64 (0)]) (by simp [results, Try.results43, go_sem, hbc0, hbc1]) rfl ⟨rfl, by (repeat' (first | (with_reducible exact Below.refl _ _) | (with_reducible assumption) | (with_reducible refine below_drewN ?_ _) | (with_reducible refine Below.drew ?_) | (with_reducible refine below_new ?_ (Nat.le_refl _) _) | (with_reducible refine Below.setCell ?_ ?_ _) | (with_reducible refine below_go ?_ (by assumption) (Nat.le_refl _)) | (simp; done) | (simp; omega) | omega))⟩

set_option maxRecDepth 100000 in
set_option maxHeartbeats 1000000 in
theorem hstep_22 (f c : Int) (t plus minus still : Bool) (w : World) (HO : Hid (overB 2 f c = false)) (HA : Hid (aheadB (-c) plus minus = false)) (hf : -1048576 ≤ f ∧ f ≤ 1048576) (hc : -1048576 ≤ c ∧ c ≤ 1048576) :
    Calls Try.prog 43 #[.agg #[.int .i64 2, .int .i64 f, .int .i64 c, .bool t], .bool true, .bool plus, .bool minus, .bool still] w fun e w' => e = .returned (.tuple #[.agg #[.int .i64 2, .int .i64 (f), .int .i64 (c), .bool t], .int .i64 (-c)]) ∧ Below w.heap.size w w' := by
  go_enter Try.func43, Try.ntmps43
  go_wp2_with fail
  refine (over_at _ _ _ _ _ false HO.out).mono ?_
  rintro e w1 ⟨rfl, hb⟩
  obtain ⟨hbc, hbf⟩ := bcell hb
  have hbz := hb.size
  have hbc0 := fun o => hbc (w.heap.size) o (by first | (simp; done) | (simp; omega) | omega)
  have hbf0 := fun o => hbf (w.heap.size) o (by first | (simp; done) | (simp; omega) | omega)
  have hbc1 := fun o => hbc (w.heap.size + 1) o (by first | (simp; done) | (simp; omega) | omega)
  have hbf1 := fun o => hbf (w.heap.size + 1) o (by first | (simp; done) | (simp; omega) | omega)
  go_wp2_with (first | (go_at_call 67; refine (ahead_at _ _ _ _ _ HA.out).mono ?_; rintro e w' ⟨rfl, rfl⟩))
  go_region
  go_wp2
  exact bodyPost_ret (v := .tuple #[.agg #[.int .i64 2, .int .i64 (f), .int .i64 (c), .bool t], .int .i64 (-c)]) (by simp [results, Try.results43, go_sem, hbc0, hbc1]) rfl ⟨rfl, by (repeat' (first | (with_reducible exact Below.refl _ _) | (with_reducible assumption) | (with_reducible refine below_drewN ?_ _) | (with_reducible refine Below.drew ?_) | (with_reducible refine below_new ?_ (Nat.le_refl _) _) | (with_reducible refine Below.setCell ?_ ?_ _) | (with_reducible refine below_go ?_ (by assumption) (Nat.le_refl _)) | (simp; done) | (simp; omega) | omega))⟩

set_option maxRecDepth 100000 in
set_option maxHeartbeats 1000000 in
theorem hstep_30 (f c : Int) (t sw plus minus : Bool) (w : World) (HO : Hid (overB 3 f c = false)) :
    Calls Try.prog 43 #[.agg #[.int .i64 3, .int .i64 f, .int .i64 c, .bool t], .bool sw, .bool plus, .bool minus, .bool true] w fun e w' => e = .returned (.tuple #[.agg #[.int .i64 4, .int .i64 (f), .int .i64 (c), .bool t], .int .i64 (0)]) ∧ Below w.heap.size w w' := by
  go_enter Try.func43, Try.ntmps43
  go_wp2_with fail
  refine (over_at _ _ _ _ _ false HO.out).mono ?_
  rintro e w1 ⟨rfl, hb⟩
  obtain ⟨hbc, hbf⟩ := bcell hb
  have hbz := hb.size
  have hbc0 := fun o => hbc (w.heap.size) o (by first | (simp; done) | (simp; omega) | omega)
  have hbf0 := fun o => hbf (w.heap.size) o (by first | (simp; done) | (simp; omega) | omega)
  have hbc1 := fun o => hbc (w.heap.size + 1) o (by first | (simp; done) | (simp; omega) | omega)
  have hbf1 := fun o => hbf (w.heap.size + 1) o (by first | (simp; done) | (simp; omega) | omega)
  go_wp2
  exact bodyPost_ret (v := .tuple #[.agg #[.int .i64 4, .int .i64 (f), .int .i64 (c), .bool t], .int .i64 (0)]) (by simp [results, Try.results43, go_sem, hbc0, hbc1]) rfl ⟨rfl, by (repeat' (first | (with_reducible exact Below.refl _ _) | (with_reducible assumption) | (with_reducible refine below_drewN ?_ _) | (with_reducible refine Below.drew ?_) | (with_reducible refine below_new ?_ (Nat.le_refl _) _) | (with_reducible refine Below.setCell ?_ ?_ _) | (with_reducible refine below_go ?_ (by assumption) (Nat.le_refl _)) | (simp; done) | (simp; omega) | omega))⟩

set_option maxRecDepth 100000 in
set_option maxHeartbeats 1000000 in
theorem hstep_31 (f c : Int) (t sw plus minus : Bool) (w : World) (HO : Hid (overB 3 f c = false)) :
    Calls Try.prog 43 #[.agg #[.int .i64 3, .int .i64 f, .int .i64 c, .bool t], .bool sw, .bool plus, .bool minus, .bool false] w fun e w' => e = .returned (.tuple #[.agg #[.int .i64 3, .int .i64 (f), .int .i64 (c), .bool t], .int .i64 (0)]) ∧ Below w.heap.size w w' := by
  go_enter Try.func43, Try.ntmps43
  go_wp2_with fail
  refine (over_at _ _ _ _ _ false HO.out).mono ?_
  rintro e w1 ⟨rfl, hb⟩
  obtain ⟨hbc, hbf⟩ := bcell hb
  have hbz := hb.size
  have hbc0 := fun o => hbc (w.heap.size) o (by first | (simp; done) | (simp; omega) | omega)
  have hbf0 := fun o => hbf (w.heap.size) o (by first | (simp; done) | (simp; omega) | omega)
  have hbc1 := fun o => hbc (w.heap.size + 1) o (by first | (simp; done) | (simp; omega) | omega)
  have hbf1 := fun o => hbf (w.heap.size + 1) o (by first | (simp; done) | (simp; omega) | omega)
  go_wp2
  exact bodyPost_ret (v := .tuple #[.agg #[.int .i64 3, .int .i64 (f), .int .i64 (c), .bool t], .int .i64 (0)]) (by simp [results, Try.results43, go_sem, hbc0, hbc1]) rfl ⟨rfl, by (repeat' (first | (with_reducible exact Below.refl _ _) | (with_reducible assumption) | (with_reducible refine below_drewN ?_ _) | (with_reducible refine Below.drew ?_) | (with_reducible refine below_new ?_ (Nat.le_refl _) _) | (with_reducible refine Below.setCell ?_ ?_ _) | (with_reducible refine below_go ?_ (by assumption) (Nat.le_refl _)) | (simp; done) | (simp; omega) | omega))⟩

end Go.Proofs.Ytmlndgmkjdkcfaa
