/- Contracts of layer 13: the reference's search. -/
import Derived.Test.YtddakmlnkffgiaaHomeC
namespace Go.Proofs.Ytddakmlnkffgiaa
open Go.RowKit
set_option linter.unusedVariables false
set_option linter.unusedSimpArgs false

set_option maxRecDepth 100000 in
set_option maxHeartbeats 2000000 in
theorem rright_any (p f c : Int) (t : Bool) (w : World) :
    Calls Try.prog 22 #[.agg #[.int .i64 p, .int .i64 f, .int .i64 c, .bool t]] w fun e w' => e = .returned (.bool (homeB p f c)) ∧ Below w.heap.size w w' := by
  go_enter Try.func22, Try.ntmps22
  go_wp2_with fail
  go_quiet (fail)
  go_wp2
  all_goals go_ret
  all_goals
    refine ⟨congrArg (fun b => Ending.returned (.bool b)) ?_, by (repeat' (first | (with_reducible exact Below.refl _ _) | (with_reducible assumption) | (with_reducible refine below_drewN ?_ _) | (with_reducible refine Below.drew ?_) | (with_reducible refine below_new ?_ (Nat.le_refl _) _) | (with_reducible refine Below.setCell ?_ ?_ _) | (with_reducible refine below_go ?_ (by assumption) (Nat.le_refl _)) | (simp; done) | (simp; omega) | omega))⟩
    rw [Bool.eq_iff_iff]
    simp only [homeB, decide_eq_true_eq, Bool.false_eq_true, true_iff, false_iff]
    try simp only [beq_iff_eq] at *
    omega

set_option maxRecDepth 100000 in
set_option maxHeartbeats 2000000 in
theorem rstep_up_0 (f c : Int) (t sw plus minus still : Bool) (w : World) (hf : 0 < f ∧ f ≤ 1048576) (hc : 0 < c ∧ c ≤ 1048576) (HO : Hid (homeB 0 f c = true)) :
    Calls Try.prog 26 #[.agg #[.int .i64 0, .int .i64 f, .int .i64 c, .bool t], .bool sw, .bool plus, .bool minus, .bool still] w fun e w' => e = .returned (.tuple #[.agg #[.int .i64 (stepH ⟨0, f, c, t⟩ sw plus minus still).1.p, .int .i64 (stepH ⟨0, f, c, t⟩ sw plus minus still).1.f, .int .i64 (stepH ⟨0, f, c, t⟩ sw plus minus still).1.c, .bool (stepH ⟨0, f, c, t⟩ sw plus minus still).1.t], .int .i64 (stepH ⟨0, f, c, t⟩ sw plus minus still).2]) ∧ Below w.heap.size w w' := by
  go_enter Try.func26, Try.ntmps26
  go_wp2
  all_goals
    have h1 := fun x y => aheadB_up hf.1 x y
    have h2 := fun x y => aheadB_down (show -c < 0 by omega) x y
    have h3 := HO.out
    have h4 : stepH ⟨0, f, c, t⟩ sw plus minus still = stepH ⟨0, f, c, t⟩ sw plus minus still := rfl
    conv at h4 => rhs; simp [stepH, overB, h1, h2, h3, *]
    rw [h4]
    refine bodyPost_ret (v := .tuple #[.agg #[_, _, _, _], _]) ?_ rfl ⟨rfl, by (repeat' (first | (with_reducible exact Below.refl _ _) | (with_reducible assumption) | (with_reducible refine below_drewN ?_ _) | (with_reducible refine Below.drew ?_) | (with_reducible refine below_new ?_ (Nat.le_refl _) _) | (with_reducible refine Below.setCell ?_ ?_ _) | (with_reducible refine below_go ?_ (by assumption) (Nat.le_refl _)) | (simp; done) | (simp; omega) | omega))⟩
    simp [results, Try.results26, go_sem]
set_option maxRecDepth 100000 in
set_option maxHeartbeats 2000000 in
theorem rstep_up_1 (f c : Int) (t sw plus minus still : Bool) (w : World) (hf : 0 < f ∧ f ≤ 1048576) (hc : 0 < c ∧ c ≤ 1048576) (HO : Hid (homeB 1 f c = true)) :
    Calls Try.prog 26 #[.agg #[.int .i64 1, .int .i64 f, .int .i64 c, .bool t], .bool sw, .bool plus, .bool minus, .bool still] w fun e w' => e = .returned (.tuple #[.agg #[.int .i64 (stepH ⟨1, f, c, t⟩ sw plus minus still).1.p, .int .i64 (stepH ⟨1, f, c, t⟩ sw plus minus still).1.f, .int .i64 (stepH ⟨1, f, c, t⟩ sw plus minus still).1.c, .bool (stepH ⟨1, f, c, t⟩ sw plus minus still).1.t], .int .i64 (stepH ⟨1, f, c, t⟩ sw plus minus still).2]) ∧ Below w.heap.size w w' := by
  go_enter Try.func26, Try.ntmps26
  go_wp2
  all_goals
    have h1 := fun x y => aheadB_up hf.1 x y
    have h2 := fun x y => aheadB_down (show -c < 0 by omega) x y
    have h3 := HO.out
    have h4 : stepH ⟨1, f, c, t⟩ sw plus minus still = stepH ⟨1, f, c, t⟩ sw plus minus still := rfl
    conv at h4 => rhs; simp [stepH, overB, h1, h2, h3, *]
    rw [h4]
    refine bodyPost_ret (v := .tuple #[.agg #[_, _, _, _], _]) ?_ rfl ⟨rfl, by (repeat' (first | (with_reducible exact Below.refl _ _) | (with_reducible assumption) | (with_reducible refine below_drewN ?_ _) | (with_reducible refine Below.drew ?_) | (with_reducible refine below_new ?_ (Nat.le_refl _) _) | (with_reducible refine Below.setCell ?_ ?_ _) | (with_reducible refine below_go ?_ (by assumption) (Nat.le_refl _)) | (simp; done) | (simp; omega) | omega))⟩
    simp [results, Try.results26, go_sem]
set_option maxRecDepth 100000 in
set_option maxHeartbeats 2000000 in
theorem rstep_up_2 (f c : Int) (t sw plus minus still : Bool) (w : World) (hf : 0 < f ∧ f ≤ 1048576) (hc : 0 < c ∧ c ≤ 1048576) (HO : Hid (homeB 2 f c = true)) :
    Calls Try.prog 26 #[.agg #[.int .i64 2, .int .i64 f, .int .i64 c, .bool t], .bool sw, .bool plus, .bool minus, .bool still] w fun e w' => e = .returned (.tuple #[.agg #[.int .i64 (stepH ⟨2, f, c, t⟩ sw plus minus still).1.p, .int .i64 (stepH ⟨2, f, c, t⟩ sw plus minus still).1.f, .int .i64 (stepH ⟨2, f, c, t⟩ sw plus minus still).1.c, .bool (stepH ⟨2, f, c, t⟩ sw plus minus still).1.t], .int .i64 (stepH ⟨2, f, c, t⟩ sw plus minus still).2]) ∧ Below w.heap.size w w' := by
  go_enter Try.func26, Try.ntmps26
  go_wp2
  all_goals
    have h1 := fun x y => aheadB_up hf.1 x y
    have h2 := fun x y => aheadB_down (show -c < 0 by omega) x y
    have h3 := HO.out
    have h4 : stepH ⟨2, f, c, t⟩ sw plus minus still = stepH ⟨2, f, c, t⟩ sw plus minus still := rfl
    conv at h4 => rhs; simp [stepH, overB, h1, h2, h3, *]
    rw [h4]
    refine bodyPost_ret (v := .tuple #[.agg #[_, _, _, _], _]) ?_ rfl ⟨rfl, by (repeat' (first | (with_reducible exact Below.refl _ _) | (with_reducible assumption) | (with_reducible refine below_drewN ?_ _) | (with_reducible refine Below.drew ?_) | (with_reducible refine below_new ?_ (Nat.le_refl _) _) | (with_reducible refine Below.setCell ?_ ?_ _) | (with_reducible refine below_go ?_ (by assumption) (Nat.le_refl _)) | (simp; done) | (simp; omega) | omega))⟩
    simp [results, Try.results26, go_sem]
set_option maxRecDepth 100000 in
set_option maxHeartbeats 2000000 in
theorem rstep_up_3 (f c : Int) (t sw plus minus still : Bool) (w : World) (hf : 0 < f ∧ f ≤ 1048576) (hc : 0 < c ∧ c ≤ 1048576) (HO : Hid (homeB 3 f c = true)) :
    Calls Try.prog 26 #[.agg #[.int .i64 3, .int .i64 f, .int .i64 c, .bool t], .bool sw, .bool plus, .bool minus, .bool still] w fun e w' => e = .returned (.tuple #[.agg #[.int .i64 (stepH ⟨3, f, c, t⟩ sw plus minus still).1.p, .int .i64 (stepH ⟨3, f, c, t⟩ sw plus minus still).1.f, .int .i64 (stepH ⟨3, f, c, t⟩ sw plus minus still).1.c, .bool (stepH ⟨3, f, c, t⟩ sw plus minus still).1.t], .int .i64 (stepH ⟨3, f, c, t⟩ sw plus minus still).2]) ∧ Below w.heap.size w w' := by
  go_enter Try.func26, Try.ntmps26
  go_wp2
  all_goals
    have h1 := fun x y => aheadB_up hf.1 x y
    have h2 := fun x y => aheadB_down (show -c < 0 by omega) x y
    have h3 := HO.out
    have h4 : stepH ⟨3, f, c, t⟩ sw plus minus still = stepH ⟨3, f, c, t⟩ sw plus minus still := rfl
    conv at h4 => rhs; simp [stepH, overB, h1, h2, h3, *]
    rw [h4]
    refine bodyPost_ret (v := .tuple #[.agg #[_, _, _, _], _]) ?_ rfl ⟨rfl, by (repeat' (first | (with_reducible exact Below.refl _ _) | (with_reducible assumption) | (with_reducible refine below_drewN ?_ _) | (with_reducible refine Below.drew ?_) | (with_reducible refine below_new ?_ (Nat.le_refl _) _) | (with_reducible refine Below.setCell ?_ ?_ _) | (with_reducible refine below_go ?_ (by assumption) (Nat.le_refl _)) | (simp; done) | (simp; omega) | omega))⟩
    simp [results, Try.results26, go_sem]
set_option maxRecDepth 100000 in
set_option maxHeartbeats 2000000 in
theorem rstep_up_4 (f c : Int) (t sw plus minus still : Bool) (w : World) (hf : 0 < f ∧ f ≤ 1048576) (hc : 0 < c ∧ c ≤ 1048576) (HO : Hid (homeB 4 f c = true)) :
    Calls Try.prog 26 #[.agg #[.int .i64 4, .int .i64 f, .int .i64 c, .bool t], .bool sw, .bool plus, .bool minus, .bool still] w fun e w' => e = .returned (.tuple #[.agg #[.int .i64 (stepH ⟨4, f, c, t⟩ sw plus minus still).1.p, .int .i64 (stepH ⟨4, f, c, t⟩ sw plus minus still).1.f, .int .i64 (stepH ⟨4, f, c, t⟩ sw plus minus still).1.c, .bool (stepH ⟨4, f, c, t⟩ sw plus minus still).1.t], .int .i64 (stepH ⟨4, f, c, t⟩ sw plus minus still).2]) ∧ Below w.heap.size w w' := by
  go_enter Try.func26, Try.ntmps26
  go_wp2
  all_goals
    have h1 := fun x y => aheadB_up hf.1 x y
    have h2 := fun x y => aheadB_down (show -c < 0 by omega) x y
    have h3 := HO.out
    have h4 : stepH ⟨4, f, c, t⟩ sw plus minus still = stepH ⟨4, f, c, t⟩ sw plus minus still := rfl
    conv at h4 => rhs; simp [stepH, overB, h1, h2, h3, *]
    rw [h4]
    refine bodyPost_ret (v := .tuple #[.agg #[_, _, _, _], _]) ?_ rfl ⟨rfl, by (repeat' (first | (with_reducible exact Below.refl _ _) | (with_reducible assumption) | (with_reducible refine below_drewN ?_ _) | (with_reducible refine Below.drew ?_) | (with_reducible refine below_new ?_ (Nat.le_refl _) _) | (with_reducible refine Below.setCell ?_ ?_ _) | (with_reducible refine below_go ?_ (by assumption) (Nat.le_refl _)) | (simp; done) | (simp; omega) | omega))⟩
    simp [results, Try.results26, go_sem]
set_option maxRecDepth 100000 in
set_option maxHeartbeats 2000000 in
theorem rstep_up_5 (f c : Int) (t sw plus minus still : Bool) (w : World) (hf : 0 < f ∧ f ≤ 1048576) (hc : 0 < c ∧ c ≤ 1048576) (HO : Hid (homeB 5 f c = true)) :
    Calls Try.prog 26 #[.agg #[.int .i64 5, .int .i64 f, .int .i64 c, .bool t], .bool sw, .bool plus, .bool minus, .bool still] w fun e w' => e = .returned (.tuple #[.agg #[.int .i64 (stepH ⟨5, f, c, t⟩ sw plus minus still).1.p, .int .i64 (stepH ⟨5, f, c, t⟩ sw plus minus still).1.f, .int .i64 (stepH ⟨5, f, c, t⟩ sw plus minus still).1.c, .bool (stepH ⟨5, f, c, t⟩ sw plus minus still).1.t], .int .i64 (stepH ⟨5, f, c, t⟩ sw plus minus still).2]) ∧ Below w.heap.size w w' := by
  go_enter Try.func26, Try.ntmps26
  go_wp2
  all_goals
    have h1 := fun x y => aheadB_up hf.1 x y
    have h2 := fun x y => aheadB_down (show -c < 0 by omega) x y
    have h3 := HO.out
    have h4 : stepH ⟨5, f, c, t⟩ sw plus minus still = stepH ⟨5, f, c, t⟩ sw plus minus still := rfl
    conv at h4 => rhs; simp [stepH, overB, h1, h2, h3, *]
    rw [h4]
    refine bodyPost_ret (v := .tuple #[.agg #[_, _, _, _], _]) ?_ rfl ⟨rfl, by (repeat' (first | (with_reducible exact Below.refl _ _) | (with_reducible assumption) | (with_reducible refine below_drewN ?_ _) | (with_reducible refine Below.drew ?_) | (with_reducible refine below_new ?_ (Nat.le_refl _) _) | (with_reducible refine Below.setCell ?_ ?_ _) | (with_reducible refine below_go ?_ (by assumption) (Nat.le_refl _)) | (simp; done) | (simp; omega) | omega))⟩
    simp [results, Try.results26, go_sem]

set_option maxRecDepth 100000 in
set_option maxHeartbeats 2000000 in
theorem rstep_dn_0 (f c : Int) (t sw plus minus still : Bool) (w : World) (hf : f < 0 ∧ -1048576 ≤ f) (hc : c < 0 ∧ -1048576 ≤ c) (HO : Hid (homeB 0 f c = true)) :
    Calls Try.prog 26 #[.agg #[.int .i64 0, .int .i64 f, .int .i64 c, .bool t], .bool sw, .bool plus, .bool minus, .bool still] w fun e w' => e = .returned (.tuple #[.agg #[.int .i64 (stepH ⟨0, f, c, t⟩ sw plus minus still).1.p, .int .i64 (stepH ⟨0, f, c, t⟩ sw plus minus still).1.f, .int .i64 (stepH ⟨0, f, c, t⟩ sw plus minus still).1.c, .bool (stepH ⟨0, f, c, t⟩ sw plus minus still).1.t], .int .i64 (stepH ⟨0, f, c, t⟩ sw plus minus still).2]) ∧ Below w.heap.size w w' := by
  go_enter Try.func26, Try.ntmps26
  go_wp2
  all_goals
    have h1 := fun x y => aheadB_down hf.1 x y
    have h2 := fun x y => aheadB_up (show 0 < -c by omega) x y
    have h3 := HO.out
    have h4 : stepH ⟨0, f, c, t⟩ sw plus minus still = stepH ⟨0, f, c, t⟩ sw plus minus still := rfl
    conv at h4 => rhs; simp [stepH, overB, h1, h2, h3, *]
    rw [h4]
    refine bodyPost_ret (v := .tuple #[.agg #[_, _, _, _], _]) ?_ rfl ⟨rfl, by (repeat' (first | (with_reducible exact Below.refl _ _) | (with_reducible assumption) | (with_reducible refine below_drewN ?_ _) | (with_reducible refine Below.drew ?_) | (with_reducible refine below_new ?_ (Nat.le_refl _) _) | (with_reducible refine Below.setCell ?_ ?_ _) | (with_reducible refine below_go ?_ (by assumption) (Nat.le_refl _)) | (simp; done) | (simp; omega) | omega))⟩
    simp [results, Try.results26, go_sem]
set_option maxRecDepth 100000 in
set_option maxHeartbeats 2000000 in
theorem rstep_dn_1 (f c : Int) (t sw plus minus still : Bool) (w : World) (hf : f < 0 ∧ -1048576 ≤ f) (hc : c < 0 ∧ -1048576 ≤ c) (HO : Hid (homeB 1 f c = true)) :
    Calls Try.prog 26 #[.agg #[.int .i64 1, .int .i64 f, .int .i64 c, .bool t], .bool sw, .bool plus, .bool minus, .bool still] w fun e w' => e = .returned (.tuple #[.agg #[.int .i64 (stepH ⟨1, f, c, t⟩ sw plus minus still).1.p, .int .i64 (stepH ⟨1, f, c, t⟩ sw plus minus still).1.f, .int .i64 (stepH ⟨1, f, c, t⟩ sw plus minus still).1.c, .bool (stepH ⟨1, f, c, t⟩ sw plus minus still).1.t], .int .i64 (stepH ⟨1, f, c, t⟩ sw plus minus still).2]) ∧ Below w.heap.size w w' := by
  go_enter Try.func26, Try.ntmps26
  go_wp2
  all_goals
    have h1 := fun x y => aheadB_down hf.1 x y
    have h2 := fun x y => aheadB_up (show 0 < -c by omega) x y
    have h3 := HO.out
    have h4 : stepH ⟨1, f, c, t⟩ sw plus minus still = stepH ⟨1, f, c, t⟩ sw plus minus still := rfl
    conv at h4 => rhs; simp [stepH, overB, h1, h2, h3, *]
    rw [h4]
    refine bodyPost_ret (v := .tuple #[.agg #[_, _, _, _], _]) ?_ rfl ⟨rfl, by (repeat' (first | (with_reducible exact Below.refl _ _) | (with_reducible assumption) | (with_reducible refine below_drewN ?_ _) | (with_reducible refine Below.drew ?_) | (with_reducible refine below_new ?_ (Nat.le_refl _) _) | (with_reducible refine Below.setCell ?_ ?_ _) | (with_reducible refine below_go ?_ (by assumption) (Nat.le_refl _)) | (simp; done) | (simp; omega) | omega))⟩
    simp [results, Try.results26, go_sem]
set_option maxRecDepth 100000 in
set_option maxHeartbeats 2000000 in
theorem rstep_dn_2 (f c : Int) (t sw plus minus still : Bool) (w : World) (hf : f < 0 ∧ -1048576 ≤ f) (hc : c < 0 ∧ -1048576 ≤ c) (HO : Hid (homeB 2 f c = true)) :
    Calls Try.prog 26 #[.agg #[.int .i64 2, .int .i64 f, .int .i64 c, .bool t], .bool sw, .bool plus, .bool minus, .bool still] w fun e w' => e = .returned (.tuple #[.agg #[.int .i64 (stepH ⟨2, f, c, t⟩ sw plus minus still).1.p, .int .i64 (stepH ⟨2, f, c, t⟩ sw plus minus still).1.f, .int .i64 (stepH ⟨2, f, c, t⟩ sw plus minus still).1.c, .bool (stepH ⟨2, f, c, t⟩ sw plus minus still).1.t], .int .i64 (stepH ⟨2, f, c, t⟩ sw plus minus still).2]) ∧ Below w.heap.size w w' := by
  go_enter Try.func26, Try.ntmps26
  go_wp2
  all_goals
    have h1 := fun x y => aheadB_down hf.1 x y
    have h2 := fun x y => aheadB_up (show 0 < -c by omega) x y
    have h3 := HO.out
    have h4 : stepH ⟨2, f, c, t⟩ sw plus minus still = stepH ⟨2, f, c, t⟩ sw plus minus still := rfl
    conv at h4 => rhs; simp [stepH, overB, h1, h2, h3, *]
    rw [h4]
    refine bodyPost_ret (v := .tuple #[.agg #[_, _, _, _], _]) ?_ rfl ⟨rfl, by (repeat' (first | (with_reducible exact Below.refl _ _) | (with_reducible assumption) | (with_reducible refine below_drewN ?_ _) | (with_reducible refine Below.drew ?_) | (with_reducible refine below_new ?_ (Nat.le_refl _) _) | (with_reducible refine Below.setCell ?_ ?_ _) | (with_reducible refine below_go ?_ (by assumption) (Nat.le_refl _)) | (simp; done) | (simp; omega) | omega))⟩
    simp [results, Try.results26, go_sem]
set_option maxRecDepth 100000 in
set_option maxHeartbeats 2000000 in
theorem rstep_dn_3 (f c : Int) (t sw plus minus still : Bool) (w : World) (hf : f < 0 ∧ -1048576 ≤ f) (hc : c < 0 ∧ -1048576 ≤ c) (HO : Hid (homeB 3 f c = true)) :
    Calls Try.prog 26 #[.agg #[.int .i64 3, .int .i64 f, .int .i64 c, .bool t], .bool sw, .bool plus, .bool minus, .bool still] w fun e w' => e = .returned (.tuple #[.agg #[.int .i64 (stepH ⟨3, f, c, t⟩ sw plus minus still).1.p, .int .i64 (stepH ⟨3, f, c, t⟩ sw plus minus still).1.f, .int .i64 (stepH ⟨3, f, c, t⟩ sw plus minus still).1.c, .bool (stepH ⟨3, f, c, t⟩ sw plus minus still).1.t], .int .i64 (stepH ⟨3, f, c, t⟩ sw plus minus still).2]) ∧ Below w.heap.size w w' := by
  go_enter Try.func26, Try.ntmps26
  go_wp2
  all_goals
    have h1 := fun x y => aheadB_down hf.1 x y
    have h2 := fun x y => aheadB_up (show 0 < -c by omega) x y
    have h3 := HO.out
    have h4 : stepH ⟨3, f, c, t⟩ sw plus minus still = stepH ⟨3, f, c, t⟩ sw plus minus still := rfl
    conv at h4 => rhs; simp [stepH, overB, h1, h2, h3, *]
    rw [h4]
    refine bodyPost_ret (v := .tuple #[.agg #[_, _, _, _], _]) ?_ rfl ⟨rfl, by (repeat' (first | (with_reducible exact Below.refl _ _) | (with_reducible assumption) | (with_reducible refine below_drewN ?_ _) | (with_reducible refine Below.drew ?_) | (with_reducible refine below_new ?_ (Nat.le_refl _) _) | (with_reducible refine Below.setCell ?_ ?_ _) | (with_reducible refine below_go ?_ (by assumption) (Nat.le_refl _)) | (simp; done) | (simp; omega) | omega))⟩
    simp [results, Try.results26, go_sem]
set_option maxRecDepth 100000 in
set_option maxHeartbeats 2000000 in
theorem rstep_dn_4 (f c : Int) (t sw plus minus still : Bool) (w : World) (hf : f < 0 ∧ -1048576 ≤ f) (hc : c < 0 ∧ -1048576 ≤ c) (HO : Hid (homeB 4 f c = true)) :
    Calls Try.prog 26 #[.agg #[.int .i64 4, .int .i64 f, .int .i64 c, .bool t], .bool sw, .bool plus, .bool minus, .bool still] w fun e w' => e = .returned (.tuple #[.agg #[.int .i64 (stepH ⟨4, f, c, t⟩ sw plus minus still).1.p, .int .i64 (stepH ⟨4, f, c, t⟩ sw plus minus still).1.f, .int .i64 (stepH ⟨4, f, c, t⟩ sw plus minus still).1.c, .bool (stepH ⟨4, f, c, t⟩ sw plus minus still).1.t], .int .i64 (stepH ⟨4, f, c, t⟩ sw plus minus still).2]) ∧ Below w.heap.size w w' := by
  go_enter Try.func26, Try.ntmps26
  go_wp2
  all_goals
    have h1 := fun x y => aheadB_down hf.1 x y
    have h2 := fun x y => aheadB_up (show 0 < -c by omega) x y
    have h3 := HO.out
    have h4 : stepH ⟨4, f, c, t⟩ sw plus minus still = stepH ⟨4, f, c, t⟩ sw plus minus still := rfl
    conv at h4 => rhs; simp [stepH, overB, h1, h2, h3, *]
    rw [h4]
    refine bodyPost_ret (v := .tuple #[.agg #[_, _, _, _], _]) ?_ rfl ⟨rfl, by (repeat' (first | (with_reducible exact Below.refl _ _) | (with_reducible assumption) | (with_reducible refine below_drewN ?_ _) | (with_reducible refine Below.drew ?_) | (with_reducible refine below_new ?_ (Nat.le_refl _) _) | (with_reducible refine Below.setCell ?_ ?_ _) | (with_reducible refine below_go ?_ (by assumption) (Nat.le_refl _)) | (simp; done) | (simp; omega) | omega))⟩
    simp [results, Try.results26, go_sem]
set_option maxRecDepth 100000 in
set_option maxHeartbeats 2000000 in
theorem rstep_dn_5 (f c : Int) (t sw plus minus still : Bool) (w : World) (hf : f < 0 ∧ -1048576 ≤ f) (hc : c < 0 ∧ -1048576 ≤ c) (HO : Hid (homeB 5 f c = true)) :
    Calls Try.prog 26 #[.agg #[.int .i64 5, .int .i64 f, .int .i64 c, .bool t], .bool sw, .bool plus, .bool minus, .bool still] w fun e w' => e = .returned (.tuple #[.agg #[.int .i64 (stepH ⟨5, f, c, t⟩ sw plus minus still).1.p, .int .i64 (stepH ⟨5, f, c, t⟩ sw plus minus still).1.f, .int .i64 (stepH ⟨5, f, c, t⟩ sw plus minus still).1.c, .bool (stepH ⟨5, f, c, t⟩ sw plus minus still).1.t], .int .i64 (stepH ⟨5, f, c, t⟩ sw plus minus still).2]) ∧ Below w.heap.size w w' := by
  go_enter Try.func26, Try.ntmps26
  go_wp2
  all_goals
    have h1 := fun x y => aheadB_down hf.1 x y
    have h2 := fun x y => aheadB_up (show 0 < -c by omega) x y
    have h3 := HO.out
    have h4 : stepH ⟨5, f, c, t⟩ sw plus minus still = stepH ⟨5, f, c, t⟩ sw plus minus still := rfl
    conv at h4 => rhs; simp [stepH, overB, h1, h2, h3, *]
    rw [h4]
    refine bodyPost_ret (v := .tuple #[.agg #[_, _, _, _], _]) ?_ rfl ⟨rfl, by (repeat' (first | (with_reducible exact Below.refl _ _) | (with_reducible assumption) | (with_reducible refine below_drewN ?_ _) | (with_reducible refine Below.drew ?_) | (with_reducible refine below_new ?_ (Nat.le_refl _) _) | (with_reducible refine Below.setCell ?_ ?_ _) | (with_reducible refine below_go ?_ (by assumption) (Nat.le_refl _)) | (simp; done) | (simp; omega) | omega))⟩
    simp [results, Try.results26, go_sem]

end Go.Proofs.Ytddakmlnkffgiaa
