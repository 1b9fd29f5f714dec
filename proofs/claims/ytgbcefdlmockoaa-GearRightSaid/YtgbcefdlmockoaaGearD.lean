/- Contracts of layer 14: where an axis should be by the reference; what is wanted of any axis. -/
import Derived.Test.YtgbcefdlmockoaaGearB
import Derived.Test.YtgbcefdlmockoaaRefI
import Derived.Test.YtgbcefdlmockoaaR9C
namespace Go.Proofs.Ytgbcefdlmockoaa
open Go.ChangeShapes Go.WideShapes Go.ChangeAt Go.RowKit
set_option linter.unusedVariables false
set_option linter.unusedSimpArgs false
attribute [local go_sem] ite_max ite_min vite_max vite_min ite_max0 vite_max0 ext_cell ext_frozen

set_option maxHeartbeats 2000000 in
theorem rplace14_any (s f m n k : Int) (w : World) (hs : -9223372036854775808 ≤ s ∧ s ≤ 9223372036854775807) (hf : -9223372036854775808 ≤ f ∧ f ≤ 9223372036854775807) (hm : -9223372036854775808 ≤ m ∧ m ≤ 9223372036854775807)
    (hn : -9223372036854775808 ≤ n ∧ n ≤ 9223372036854775807) (hk : -9223372036854775808 ≤ k ∧ k ≤ 9223372036854775807) :
    Calls Try.prog 31 #[.int .i64 s, .int .i64 f, .int .i64 m, .int .i64 n, .int .i64 k] w fun e w' => e = .returned (.tuple #[.int .i64 (plV s f m n k), .bool (plO s f m n k)]) ∧ Below w.heap.size w w' := by
  by_cases h2 : 1 ≤ k
  · have HSB := Lib.hid (fun w => rsub_at m f _ w hm hf rfl)
    cases h1 : fitB (m - f)
    · have e1 : plO s f m n k = false := by unfold plO; rw [h1]; rfl
      have e2 : plV s f m n k = 0 := by unfold plV; rw [e1]; rfl
      rw [e1, e2]
      rw [h1] at HSB
      generalize fitV (m - f) = d at *
      clear e1 e2 h1
      go_enter Try.func31, Try.ntmps31
      go_wp2_with fail
      refine (HSB.out _).mono ?_
      rintro e w1 ⟨rfl, hb1⟩
      go_wp2
      go_ret2
      exact ⟨rfl, by (repeat' (first | (with_reducible exact Below.refl _ _) | (with_reducible assumption) | (with_reducible refine below_drewN ?_ _) | (with_reducible refine Below.drew ?_) | (with_reducible refine below_new ?_ (Nat.le_refl _) _) | (with_reducible refine Below.setCell ?_ ?_ _) | (with_reducible refine below_go ?_ (by assumption) (Nat.le_refl _)) | (simp; done) | (simp; omega) | omega))⟩
    · obtain ⟨d, hd⟩ : ∃ d, fitV (m - f) = d := ⟨_, rfl⟩
      have hd2 : m - f = d := by
        rw [← hd]
        unfold fitV
        rw [h1]
        rfl
      have hdb := fitV_bd (m - f)
      rw [hd] at hdb
      rw [h1, hd] at HSB
      have hv := mdV_bd d n k
      have HMD := Lib.hid (fun w => rmuldiv_at d n k w hdb hn hk)
      by_cases h3 : mdE d n k = 0
      · have e1 : plO s f m n k = fitB (s + mdV d n k) := by unfold plO; rw [h1, hd2, decide_eq_true h2, decide_eq_true h3]; rfl
        have e2 : plV s f m n k = fitV (s + mdV d n k) := by
          unfold plV
          rw [e1, hd2]
          rfl
        rw [e1, e2]
        rw [h3] at HMD
        generalize mdV d n k = q at *
        have HAD := Lib.hid (fun w => radd_at s q _ w hs hv rfl)
        generalize fitV (s + q) = v at *
        generalize fitB (s + q) = o at *
        clear e1 e2 h1 hd h3 hd2
        go_enter Try.func31, Try.ntmps31
        go_wp2_with fail
        refine (HSB.out _).mono ?_
        rintro e w1 ⟨rfl, hb1⟩
        go_wp2_with fail
        refine (HMD.out _).mono ?_
        rintro e w2 ⟨rfl, hb2⟩
        go_wp2_with fail
        refine (HAD.out _).mono ?_
        rintro e w3 ⟨rfl, hb3⟩
        have hB2 := hb1.trans (hb2.mono hb1.size)
        have hB3 := hB2.trans (hb3.mono hB2.size)
        clear hb1 hb2 hb3 hB2
        go_wp2
        go_ret2
        exact ⟨rfl, hB3⟩
      · have e1 : plO s f m n k = false := by unfold plO; rw [h1, hd2, decide_eq_true h2, decide_eq_false h3]; rfl
        have e2 : plV s f m n k = 0 := by unfold plV; rw [e1]; rfl
        rw [e1, e2]
        generalize mdV d n k = q at *
        generalize mdE d n k = x at *
        have q0 : (x != 0) = true := by simpa using h3
        clear e1 e2 h1 hd hd2 h3 hv
        go_enter Try.func31, Try.ntmps31
        go_wp2_with fail
        refine (HSB.out _).mono ?_
        rintro e w1 ⟨rfl, hb1⟩
        go_wp2_with fail
        refine (HMD.out _).mono ?_
        rintro e w2 ⟨rfl, hb2⟩
        have hB2 := hb1.trans (hb2.mono hb1.size)
        clear hb1 hb2
        go_wp2
        go_ret2
        exact ⟨rfl, hB2⟩
  · have e1 : plO s f m n k = false := by unfold plO; rw [decide_eq_false h2]; cases fitB (m - f) <;> rfl
    have e2 : plV s f m n k = 0 := by unfold plV; rw [e1]; rfl
    rw [e1, e2]
    have h2' : k < 1 := by omega
    clear e1 e2 h2
    go_enter Try.func31, Try.ntmps31
    go_wp2
    go_ret2
    exact ⟨rfl, by (repeat' (first | (with_reducible exact Below.refl _ _) | (with_reducible assumption) | (with_reducible refine below_drewN ?_ _) | (with_reducible refine Below.drew ?_) | (with_reducible refine below_new ?_ (Nat.le_refl _) _) | (with_reducible refine Below.setCell ?_ ?_ _) | (with_reducible refine below_go ?_ (by assumption) (Nat.le_refl _)) | (simp; done) | (simp; omega) | omega))⟩

/-- may it, between two speeds? -/
def betB (x lo hi : Int) : Bool := decide (lo ≤ x ∧ x ≤ hi)
theorem betB_no1 {x lo hi : Int} (h : x < lo) : betB x lo hi = false := decide_eq_false (by omega)
theorem betB_no2 {x lo hi : Int} (h : hi < x) : betB x lo hi = false := decide_eq_false (by omega)
theorem betB_yes {x lo hi : Int} (h : lo ≤ x) (h2 : x ≤ hi) : betB x lo hi = true := decide_eq_true ⟨h, h2⟩

set_option maxRecDepth 100000 in
set_option maxHeartbeats 4000000 in
theorem gwant_any (V A D L H p v s f m n k P lo hi : Int) (O : Bool) (w : World) (hp : -9223372036854775808 ≤ p ∧ p ≤ 9223372036854775807) (hPb : -9223372036854775808 ≤ P ∧ P ≤ 9223372036854775807)
    (HPL : Hid (∀ w, Calls Try.prog 30 #[.int .i64 s, .int .i64 f, .int .i64 m, .int .i64 n, .int .i64 k] w fun e w' => e = .returned (.tuple #[.int .i64 P, .bool O]) ∧ Below w.heap.size w w'))
    (HM : Hid (∀ w, Calls Try.prog 50 #[.agg #[.int .i64 V, .int .i64 A, .int .i64 D, .int .i64 L, .int .i64 H], .agg #[.int .i64 p, .int .i64 v]] w fun e w' => e = .returned (.tuple #[.int .i64 lo, .int .i64 hi]) ∧ Below w.heap.size w w')) :
    Calls Try.prog 32 #[.agg #[.int .i64 V, .int .i64 A, .int .i64 D, .int .i64 L, .int .i64 H], .agg #[.int .i64 p, .int .i64 v], .int .i64 s, .int .i64 f, .int .i64 m, .int .i64 n, .int .i64 k] w fun e w' => e = .returned (.tuple #[.int .i64 (bif O && fitB (P - p) then P - p else 0), .bool (O && fitB (P - p) && betB (P - p) lo hi)]) ∧ Below w.heap.size w w' := by
  cases O
  · simp only [Bool.false_and, cond_false]
    go_enter Try.func32, Try.ntmps32
    go_wp2_with fail
    refine (HPL.out _).mono ?_
    rintro e w1 ⟨rfl, hb1⟩
    go_wp2
    go_ret2
    exact ⟨rfl, by (repeat' (first | (with_reducible exact Below.refl _ _) | (with_reducible assumption) | (with_reducible refine below_drewN ?_ _) | (with_reducible refine Below.drew ?_) | (with_reducible refine below_new ?_ (Nat.le_refl _) _) | (with_reducible refine Below.setCell ?_ ?_ _) | (with_reducible refine below_go ?_ (by assumption) (Nat.le_refl _)) | (simp; done) | (simp; omega) | omega))⟩
  · have HSB := Lib.hid (fun w => qsub_any P p w hPb hp)
    cases h1 : fitB (P - p)
    · simp only [Bool.and_false, Bool.false_and, cond_false]
      rw [h1] at HSB
      generalize fitV (P - p) = d at *
      clear h1
      go_enter Try.func32, Try.ntmps32
      go_wp2_with fail
      refine (HPL.out _).mono ?_
      rintro e w1 ⟨rfl, hb1⟩
      obtain ⟨hb1c, hb1f⟩ := bcell hb1
      have hb1z := hb1.size
      have hb1c0 := fun o => hb1c (w.heap.size) o (by first | (simp; done) | (simp; omega) | (simp at *; omega) | omega)
      have hb1f0 := fun o => hb1f (w.heap.size) o (by first | (simp; done) | (simp; omega) | (simp at *; omega) | omega)
      have hb1l0 := below_lt (b := w.heap.size) hb1 (by first | (simp; done) | (simp; omega) | (simp at *; omega) | omega)
      have hb1c1 := fun o => hb1c (w.heap.size + 1) o (by first | (simp; done) | (simp; omega) | (simp at *; omega) | omega)
      have hb1f1 := fun o => hb1f (w.heap.size + 1) o (by first | (simp; done) | (simp; omega) | (simp at *; omega) | omega)
      have hb1l1 := below_lt (b := w.heap.size + 1) hb1 (by first | (simp; done) | (simp; omega) | (simp at *; omega) | omega)
      go_wp2_with fail
      refine (HSB.out _).mono ?_
      rintro e w2 ⟨rfl, rfl⟩
      go_wp2
      go_ret2
      exact ⟨rfl, by (repeat' (first | (with_reducible exact Below.refl _ _) | (with_reducible assumption) | (with_reducible refine below_drewN ?_ _) | (with_reducible refine Below.drew ?_) | (with_reducible refine below_new ?_ (Nat.le_refl _) _) | (with_reducible refine Below.setCell ?_ ?_ _) | (with_reducible refine below_go ?_ (by assumption) (Nat.le_refl _)) | (simp; done) | (simp; omega) | omega))⟩
    · simp only [Bool.and_self, Bool.true_and, cond_true]
      have e3 : fitV (P - p) = P - p := by unfold fitV; rw [h1]; rfl
      rw [h1, e3] at HSB
      generalize P - p = x at *
      clear h1 e3
      rcases (by omega : x < lo ∨ (lo ≤ x ∧ hi < x) ∨ (lo ≤ x ∧ x ≤ hi)) with c1 | ⟨c1, c2⟩ | ⟨c1, c2⟩
      all_goals first | rw [betB_no1 c1] | rw [betB_no2 c2] | rw [betB_yes c1 c2]
      all_goals
        go_enter Try.func32, Try.ntmps32
        go_wp2_with fail
        refine (HPL.out _).mono ?_
        rintro e w1 ⟨rfl, hb1⟩
        obtain ⟨hb1c, hb1f⟩ := bcell hb1
        have hb1z := hb1.size
        have hb1c0 := fun o => hb1c (w.heap.size) o (by first | (simp; done) | (simp; omega) | (simp at *; omega) | omega)
        have hb1f0 := fun o => hb1f (w.heap.size) o (by first | (simp; done) | (simp; omega) | (simp at *; omega) | omega)
        have hb1l0 := below_lt (b := w.heap.size) hb1 (by first | (simp; done) | (simp; omega) | (simp at *; omega) | omega)
        have hb1c1 := fun o => hb1c (w.heap.size + 1) o (by first | (simp; done) | (simp; omega) | (simp at *; omega) | omega)
        have hb1f1 := fun o => hb1f (w.heap.size + 1) o (by first | (simp; done) | (simp; omega) | (simp at *; omega) | omega)
        have hb1l1 := below_lt (b := w.heap.size + 1) hb1 (by first | (simp; done) | (simp; omega) | (simp at *; omega) | omega)
        go_wp2_with fail
        refine (HSB.out _).mono ?_
        rintro e w2 ⟨rfl, rfl⟩
        go_wp2_with fail
        refine (HM.out _).mono ?_
        rintro e w3 ⟨rfl, hb3⟩
        go_wp2
        go_ret2
        first
          | exact ⟨rfl, by (repeat' (first | (with_reducible exact Below.refl _ _) | (with_reducible assumption) | (with_reducible refine below_drewN ?_ _) | (with_reducible refine Below.drew ?_) | (with_reducible refine below_new ?_ (Nat.le_refl _) _) | (with_reducible refine Below.setCell ?_ ?_ _) | (with_reducible refine below_go ?_ (by assumption) (Nat.le_refl _)) | (simp; done) | (simp; omega) | omega))⟩
          | exact ⟨congrArg (fun b => Ending.returned (.tuple #[.int .i64 x, .bool b])) (decide_eq_false (by omega)), by (repeat' (first | (with_reducible exact Below.refl _ _) | (with_reducible assumption) | (with_reducible refine below_drewN ?_ _) | (with_reducible refine Below.drew ?_) | (with_reducible refine below_new ?_ (Nat.le_refl _) _) | (with_reducible refine Below.setCell ?_ ?_ _) | (with_reducible refine below_go ?_ (by assumption) (Nat.le_refl _)) | (simp; done) | (simp; omega) | omega))⟩
          | exact ⟨congrArg (fun b => Ending.returned (.tuple #[.int .i64 x, .bool b])) (decide_eq_true (by omega)), by (repeat' (first | (with_reducible exact Below.refl _ _) | (with_reducible assumption) | (with_reducible refine below_drewN ?_ _) | (with_reducible refine Below.drew ?_) | (with_reducible refine below_new ?_ (Nat.le_refl _) _) | (with_reducible refine Below.setCell ?_ ?_ _) | (with_reducible refine below_go ?_ (by assumption) (Nat.le_refl _)) | (simp; done) | (simp; omega) | omega))⟩

set_option maxRecDepth 100000 in
set_option maxHeartbeats 4000000 in
theorem rwant14_0 (V A D L H p v s f m n k P lo hi : Int) (O : Bool) (w : World) (hp : -9223372036854775808 ≤ p ∧ p ≤ 9223372036854775807) (hPb : -9223372036854775808 ≤ P ∧ P ≤ 9223372036854775807)
    (HPL : Hid (∀ w, Calls Try.prog 31 #[.int .i64 s, .int .i64 f, .int .i64 m, .int .i64 n, .int .i64 k] w fun e w' => e = .returned (.tuple #[.int .i64 P, .bool O]) ∧ Below w.heap.size w w'))
    (hR : Hid (rightB ⟨V, A, D, L, H⟩ = decide (1 ≤ 0))) (hS : 0 ≠ 0 → Hid (safeB ⟨V, A, D, L, H⟩ ⟨p, v⟩ = decide (2 ≤ 0))) (hlo : Hid (if 0 = 2 then okB ⟨V, A, D, L, H⟩ ⟨p, v⟩ = true ∧ mayLo ⟨V, A, D, L, H⟩ ⟨p, v⟩ = lo ∧ mayHi ⟨V, A, D, L, H⟩ ⟨p, v⟩ = hi else lo = 0 ∧ hi = 0)) :
    Calls Try.prog 33 #[.agg #[.int .i64 V, .int .i64 A, .int .i64 D, .int .i64 L, .int .i64 H], .agg #[.int .i64 p, .int .i64 v], .int .i64 s, .int .i64 f, .int .i64 m, .int .i64 n, .int .i64 k] w fun e w' => e = .returned (.tuple #[.int .i64 (bif O && fitB (P - p) then P - p else 0), .bool (O && fitB (P - p) && betB (P - p) lo hi)]) ∧ Below w.heap.size w w' := by
  have hri := fun w => rright9_at V A D L H w _ hR.out
  simp only [show decide (1 ≤ 0) = false from rfl] at hri
  have HRI := Lib.hid hri
  clear hri
  have HSB := Lib.hid (fun w => rsub_at P p _ w hPb hp rfl)
  cases O
  · simp only [Bool.false_and, cond_false]
    generalize fitV (P - p) = d at *
    generalize fitB (P - p) = o at *
    go_enter Try.func33, Try.ntmps33
    go_wp2_with fail
    refine (HPL.out _).mono ?_
    rintro e w1 ⟨rfl, hb1⟩
    obtain ⟨hb1c, hb1f⟩ := bcell hb1
    have hb1z := hb1.size
    have hb1c0 := fun o => hb1c (w.heap.size) o (by first | (simp; done) | (simp; omega) | (simp at *; omega) | omega)
    have hb1f0 := fun o => hb1f (w.heap.size) o (by first | (simp; done) | (simp; omega) | (simp at *; omega) | omega)
    have hb1l0 := below_lt (b := w.heap.size) hb1 (by first | (simp; done) | (simp; omega) | (simp at *; omega) | omega)
    have hb1c1 := fun o => hb1c (w.heap.size + 1) o (by first | (simp; done) | (simp; omega) | (simp at *; omega) | omega)
    have hb1f1 := fun o => hb1f (w.heap.size + 1) o (by first | (simp; done) | (simp; omega) | (simp at *; omega) | omega)
    have hb1l1 := below_lt (b := w.heap.size + 1) hb1 (by first | (simp; done) | (simp; omega) | (simp at *; omega) | omega)
    go_wp2_with fail
    refine (HSB.out _).mono ?_
    rintro e w2 ⟨rfl, hb2⟩
    go_wp2
    go_ret2
    exact ⟨rfl, by (repeat' (first | (with_reducible exact Below.refl _ _) | (with_reducible assumption) | (with_reducible refine below_drewN ?_ _) | (with_reducible refine Below.drew ?_) | (with_reducible refine below_new ?_ (Nat.le_refl _) _) | (with_reducible refine Below.setCell ?_ ?_ _) | (with_reducible refine below_go ?_ (by assumption) (Nat.le_refl _)) | (simp; done) | (simp; omega) | omega))⟩
  · cases h1 : fitB (P - p)
    · simp only [Bool.and_false, Bool.false_and, cond_false]
      rw [h1] at HSB
      generalize fitV (P - p) = d at *
      clear h1
      go_enter Try.func33, Try.ntmps33
      go_wp2_with fail
      refine (HPL.out _).mono ?_
      rintro e w1 ⟨rfl, hb1⟩
      obtain ⟨hb1c, hb1f⟩ := bcell hb1
      have hb1z := hb1.size
      have hb1c0 := fun o => hb1c (w.heap.size) o (by first | (simp; done) | (simp; omega) | (simp at *; omega) | omega)
      have hb1f0 := fun o => hb1f (w.heap.size) o (by first | (simp; done) | (simp; omega) | (simp at *; omega) | omega)
      have hb1l0 := below_lt (b := w.heap.size) hb1 (by first | (simp; done) | (simp; omega) | (simp at *; omega) | omega)
      have hb1c1 := fun o => hb1c (w.heap.size + 1) o (by first | (simp; done) | (simp; omega) | (simp at *; omega) | omega)
      have hb1f1 := fun o => hb1f (w.heap.size + 1) o (by first | (simp; done) | (simp; omega) | (simp at *; omega) | omega)
      have hb1l1 := below_lt (b := w.heap.size + 1) hb1 (by first | (simp; done) | (simp; omega) | (simp at *; omega) | omega)
      go_wp2_with fail
      refine (HSB.out _).mono ?_
      rintro e w2 ⟨rfl, hb2⟩
      go_wp2
      go_ret2
      exact ⟨rfl, by (repeat' (first | (with_reducible exact Below.refl _ _) | (with_reducible assumption) | (with_reducible refine below_drewN ?_ _) | (with_reducible refine Below.drew ?_) | (with_reducible refine below_new ?_ (Nat.le_refl _) _) | (with_reducible refine Below.setCell ?_ ?_ _) | (with_reducible refine below_go ?_ (by assumption) (Nat.le_refl _)) | (simp; done) | (simp; omega) | omega))⟩
    · simp only [Bool.and_self, Bool.true_and, cond_true]
      have e3 : fitV (P - p) = P - p := by unfold fitV; rw [h1]; rfl
      rw [h1, e3] at HSB
      generalize P - p = x at *
      clear h1 e3
      rcases (by omega : x < lo ∨ (lo ≤ x ∧ hi < x) ∨ (lo ≤ x ∧ x ≤ hi)) with c1 | ⟨c1, c2⟩ | ⟨c1, c2⟩
      all_goals first | rw [betB_no1 c1] | rw [betB_no2 c2] | rw [betB_yes c1 c2]
      all_goals
        have hl := hlo.out
        simp only [Nat.reduceEqDiff, reduceIte] at hl
        obtain ⟨rfl, rfl⟩ := hl
      all_goals
        clear hR hS hlo
        go_enter Try.func33, Try.ntmps33
        go_wp2_with fail
        refine (HPL.out _).mono ?_
        rintro e w1 ⟨rfl, hb1⟩
        obtain ⟨hb1c, hb1f⟩ := bcell hb1
        have hb1z := hb1.size
        have hb1c0 := fun o => hb1c (w.heap.size) o (by first | (simp; done) | (simp; omega) | (simp at *; omega) | omega)
        have hb1f0 := fun o => hb1f (w.heap.size) o (by first | (simp; done) | (simp; omega) | (simp at *; omega) | omega)
        have hb1l0 := below_lt (b := w.heap.size) hb1 (by first | (simp; done) | (simp; omega) | (simp at *; omega) | omega)
        have hb1c1 := fun o => hb1c (w.heap.size + 1) o (by first | (simp; done) | (simp; omega) | (simp at *; omega) | omega)
        have hb1f1 := fun o => hb1f (w.heap.size + 1) o (by first | (simp; done) | (simp; omega) | (simp at *; omega) | omega)
        have hb1l1 := below_lt (b := w.heap.size + 1) hb1 (by first | (simp; done) | (simp; omega) | (simp at *; omega) | omega)
        go_wp2_with fail
        refine (HSB.out _).mono ?_
        rintro e w2 ⟨rfl, hb2⟩
        obtain ⟨hb2c, hb2f⟩ := bcell hb2
        have hb2z := hb2.size
        have hb2c0 := fun o => hb2c (w.heap.size) o (by first | (simp; done) | (simp; omega) | (simp at *; omega) | omega)
        have hb2f0 := fun o => hb2f (w.heap.size) o (by first | (simp; done) | (simp; omega) | (simp at *; omega) | omega)
        have hb2l0 := below_lt (b := w.heap.size) hb2 (by first | (simp; done) | (simp; omega) | (simp at *; omega) | omega)
        have hb2c1 := fun o => hb2c (w.heap.size + 1) o (by first | (simp; done) | (simp; omega) | (simp at *; omega) | omega)
        have hb2f1 := fun o => hb2f (w.heap.size + 1) o (by first | (simp; done) | (simp; omega) | (simp at *; omega) | omega)
        have hb2l1 := below_lt (b := w.heap.size + 1) hb2 (by first | (simp; done) | (simp; omega) | (simp at *; omega) | omega)
        go_wp2_with fail
        refine (HRI.out _).mono ?_
        rintro e w3 ⟨rfl, hb3⟩
        go_wp2
        go_ret2
        first
          | exact ⟨rfl, by (repeat' (first | (with_reducible exact Below.refl _ _) | (with_reducible assumption) | (with_reducible refine below_drewN ?_ _) | (with_reducible refine Below.drew ?_) | (with_reducible refine below_new ?_ (Nat.le_refl _) _) | (with_reducible refine Below.setCell ?_ ?_ _) | (with_reducible refine below_go ?_ (by assumption) (Nat.le_refl _)) | (simp; done) | (simp; omega) | omega))⟩
          | exact ⟨congrArg (fun b => Ending.returned (.tuple #[.int .i64 x, .bool b])) (decide_eq_false (by omega)), by (repeat' (first | (with_reducible exact Below.refl _ _) | (with_reducible assumption) | (with_reducible refine below_drewN ?_ _) | (with_reducible refine Below.drew ?_) | (with_reducible refine below_new ?_ (Nat.le_refl _) _) | (with_reducible refine Below.setCell ?_ ?_ _) | (with_reducible refine below_go ?_ (by assumption) (Nat.le_refl _)) | (simp; done) | (simp; omega) | omega))⟩
          | exact ⟨congrArg (fun b => Ending.returned (.tuple #[.int .i64 x, .bool b])) (decide_eq_true (by omega)), by (repeat' (first | (with_reducible exact Below.refl _ _) | (with_reducible assumption) | (with_reducible refine below_drewN ?_ _) | (with_reducible refine Below.drew ?_) | (with_reducible refine below_new ?_ (Nat.le_refl _) _) | (with_reducible refine Below.setCell ?_ ?_ _) | (with_reducible refine below_go ?_ (by assumption) (Nat.le_refl _)) | (simp; done) | (simp; omega) | omega))⟩

set_option maxRecDepth 100000 in
set_option maxHeartbeats 4000000 in
theorem rwant14_1 (V A D L H p v s f m n k P lo hi : Int) (O : Bool) (w : World) (hp : -9223372036854775808 ≤ p ∧ p ≤ 9223372036854775807) (hPb : -9223372036854775808 ≤ P ∧ P ≤ 9223372036854775807)
    (HPL : Hid (∀ w, Calls Try.prog 31 #[.int .i64 s, .int .i64 f, .int .i64 m, .int .i64 n, .int .i64 k] w fun e w' => e = .returned (.tuple #[.int .i64 P, .bool O]) ∧ Below w.heap.size w w'))
    (hR : Hid (rightB ⟨V, A, D, L, H⟩ = decide (1 ≤ 1))) (hS : 1 ≠ 0 → Hid (safeB ⟨V, A, D, L, H⟩ ⟨p, v⟩ = decide (2 ≤ 1))) (hlo : Hid (if 1 = 2 then okB ⟨V, A, D, L, H⟩ ⟨p, v⟩ = true ∧ mayLo ⟨V, A, D, L, H⟩ ⟨p, v⟩ = lo ∧ mayHi ⟨V, A, D, L, H⟩ ⟨p, v⟩ = hi else lo = 0 ∧ hi = 0)) :
    Calls Try.prog 33 #[.agg #[.int .i64 V, .int .i64 A, .int .i64 D, .int .i64 L, .int .i64 H], .agg #[.int .i64 p, .int .i64 v], .int .i64 s, .int .i64 f, .int .i64 m, .int .i64 n, .int .i64 k] w fun e w' => e = .returned (.tuple #[.int .i64 (bif O && fitB (P - p) then P - p else 0), .bool (O && fitB (P - p) && betB (P - p) lo hi)]) ∧ Below w.heap.size w w' := by
  have hri := fun w => rright9_at V A D L H w _ hR.out
  simp only [show decide (1 ≤ 1) = true from rfl] at hri
  have HRI := Lib.hid hri
  clear hri
  have hsf := fun w => rsafe9_at V A D L H p v w (by have := hR.out; exact this) hp _ (hS (by decide)).out
  simp only [show decide (2 ≤ 1) = false from rfl] at hsf
  have HSF := Lib.hid hsf
  clear hsf
  have HSB := Lib.hid (fun w => rsub_at P p _ w hPb hp rfl)
  cases O
  · simp only [Bool.false_and, cond_false]
    generalize fitV (P - p) = d at *
    generalize fitB (P - p) = o at *
    go_enter Try.func33, Try.ntmps33
    go_wp2_with fail
    refine (HPL.out _).mono ?_
    rintro e w1 ⟨rfl, hb1⟩
    obtain ⟨hb1c, hb1f⟩ := bcell hb1
    have hb1z := hb1.size
    have hb1c0 := fun o => hb1c (w.heap.size) o (by first | (simp; done) | (simp; omega) | (simp at *; omega) | omega)
    have hb1f0 := fun o => hb1f (w.heap.size) o (by first | (simp; done) | (simp; omega) | (simp at *; omega) | omega)
    have hb1l0 := below_lt (b := w.heap.size) hb1 (by first | (simp; done) | (simp; omega) | (simp at *; omega) | omega)
    have hb1c1 := fun o => hb1c (w.heap.size + 1) o (by first | (simp; done) | (simp; omega) | (simp at *; omega) | omega)
    have hb1f1 := fun o => hb1f (w.heap.size + 1) o (by first | (simp; done) | (simp; omega) | (simp at *; omega) | omega)
    have hb1l1 := below_lt (b := w.heap.size + 1) hb1 (by first | (simp; done) | (simp; omega) | (simp at *; omega) | omega)
    go_wp2_with fail
    refine (HSB.out _).mono ?_
    rintro e w2 ⟨rfl, hb2⟩
    go_wp2
    go_ret2
    exact ⟨rfl, by (repeat' (first | (with_reducible exact Below.refl _ _) | (with_reducible assumption) | (with_reducible refine below_drewN ?_ _) | (with_reducible refine Below.drew ?_) | (with_reducible refine below_new ?_ (Nat.le_refl _) _) | (with_reducible refine Below.setCell ?_ ?_ _) | (with_reducible refine below_go ?_ (by assumption) (Nat.le_refl _)) | (simp; done) | (simp; omega) | omega))⟩
  · cases h1 : fitB (P - p)
    · simp only [Bool.and_false, Bool.false_and, cond_false]
      rw [h1] at HSB
      generalize fitV (P - p) = d at *
      clear h1
      go_enter Try.func33, Try.ntmps33
      go_wp2_with fail
      refine (HPL.out _).mono ?_
      rintro e w1 ⟨rfl, hb1⟩
      obtain ⟨hb1c, hb1f⟩ := bcell hb1
      have hb1z := hb1.size
      have hb1c0 := fun o => hb1c (w.heap.size) o (by first | (simp; done) | (simp; omega) | (simp at *; omega) | omega)
      have hb1f0 := fun o => hb1f (w.heap.size) o (by first | (simp; done) | (simp; omega) | (simp at *; omega) | omega)
      have hb1l0 := below_lt (b := w.heap.size) hb1 (by first | (simp; done) | (simp; omega) | (simp at *; omega) | omega)
      have hb1c1 := fun o => hb1c (w.heap.size + 1) o (by first | (simp; done) | (simp; omega) | (simp at *; omega) | omega)
      have hb1f1 := fun o => hb1f (w.heap.size + 1) o (by first | (simp; done) | (simp; omega) | (simp at *; omega) | omega)
      have hb1l1 := below_lt (b := w.heap.size + 1) hb1 (by first | (simp; done) | (simp; omega) | (simp at *; omega) | omega)
      go_wp2_with fail
      refine (HSB.out _).mono ?_
      rintro e w2 ⟨rfl, hb2⟩
      go_wp2
      go_ret2
      exact ⟨rfl, by (repeat' (first | (with_reducible exact Below.refl _ _) | (with_reducible assumption) | (with_reducible refine below_drewN ?_ _) | (with_reducible refine Below.drew ?_) | (with_reducible refine below_new ?_ (Nat.le_refl _) _) | (with_reducible refine Below.setCell ?_ ?_ _) | (with_reducible refine below_go ?_ (by assumption) (Nat.le_refl _)) | (simp; done) | (simp; omega) | omega))⟩
    · simp only [Bool.and_self, Bool.true_and, cond_true]
      have e3 : fitV (P - p) = P - p := by unfold fitV; rw [h1]; rfl
      rw [h1, e3] at HSB
      generalize P - p = x at *
      clear h1 e3
      rcases (by omega : x < lo ∨ (lo ≤ x ∧ hi < x) ∨ (lo ≤ x ∧ x ≤ hi)) with c1 | ⟨c1, c2⟩ | ⟨c1, c2⟩
      all_goals first | rw [betB_no1 c1] | rw [betB_no2 c2] | rw [betB_yes c1 c2]
      all_goals
        have hl := hlo.out
        simp only [Nat.reduceEqDiff, reduceIte] at hl
        obtain ⟨rfl, rfl⟩ := hl
      all_goals
        clear hR hS hlo
        go_enter Try.func33, Try.ntmps33
        go_wp2_with fail
        refine (HPL.out _).mono ?_
        rintro e w1 ⟨rfl, hb1⟩
        obtain ⟨hb1c, hb1f⟩ := bcell hb1
        have hb1z := hb1.size
        have hb1c0 := fun o => hb1c (w.heap.size) o (by first | (simp; done) | (simp; omega) | (simp at *; omega) | omega)
        have hb1f0 := fun o => hb1f (w.heap.size) o (by first | (simp; done) | (simp; omega) | (simp at *; omega) | omega)
        have hb1l0 := below_lt (b := w.heap.size) hb1 (by first | (simp; done) | (simp; omega) | (simp at *; omega) | omega)
        have hb1c1 := fun o => hb1c (w.heap.size + 1) o (by first | (simp; done) | (simp; omega) | (simp at *; omega) | omega)
        have hb1f1 := fun o => hb1f (w.heap.size + 1) o (by first | (simp; done) | (simp; omega) | (simp at *; omega) | omega)
        have hb1l1 := below_lt (b := w.heap.size + 1) hb1 (by first | (simp; done) | (simp; omega) | (simp at *; omega) | omega)
        go_wp2_with fail
        refine (HSB.out _).mono ?_
        rintro e w2 ⟨rfl, hb2⟩
        obtain ⟨hb2c, hb2f⟩ := bcell hb2
        have hb2z := hb2.size
        have hb2c0 := fun o => hb2c (w.heap.size) o (by first | (simp; done) | (simp; omega) | (simp at *; omega) | omega)
        have hb2f0 := fun o => hb2f (w.heap.size) o (by first | (simp; done) | (simp; omega) | (simp at *; omega) | omega)
        have hb2l0 := below_lt (b := w.heap.size) hb2 (by first | (simp; done) | (simp; omega) | (simp at *; omega) | omega)
        have hb2c1 := fun o => hb2c (w.heap.size + 1) o (by first | (simp; done) | (simp; omega) | (simp at *; omega) | omega)
        have hb2f1 := fun o => hb2f (w.heap.size + 1) o (by first | (simp; done) | (simp; omega) | (simp at *; omega) | omega)
        have hb2l1 := below_lt (b := w.heap.size + 1) hb2 (by first | (simp; done) | (simp; omega) | (simp at *; omega) | omega)
        go_wp2_with fail
        refine (HRI.out _).mono ?_
        rintro e w3 ⟨rfl, hb3⟩
        obtain ⟨hb3c, hb3f⟩ := bcell hb3
        have hb3z := hb3.size
        have hb3c0 := fun o => hb3c (w.heap.size) o (by first | (simp; done) | (simp; omega) | (simp at *; omega) | omega)
        have hb3f0 := fun o => hb3f (w.heap.size) o (by first | (simp; done) | (simp; omega) | (simp at *; omega) | omega)
        have hb3l0 := below_lt (b := w.heap.size) hb3 (by first | (simp; done) | (simp; omega) | (simp at *; omega) | omega)
        have hb3c1 := fun o => hb3c (w.heap.size + 1) o (by first | (simp; done) | (simp; omega) | (simp at *; omega) | omega)
        have hb3f1 := fun o => hb3f (w.heap.size + 1) o (by first | (simp; done) | (simp; omega) | (simp at *; omega) | omega)
        have hb3l1 := below_lt (b := w.heap.size + 1) hb3 (by first | (simp; done) | (simp; omega) | (simp at *; omega) | omega)
        go_wp2_with fail
        refine (HSF.out _).mono ?_
        rintro e w4 ⟨rfl, hb4⟩
        go_wp2
        go_ret2
        first
          | exact ⟨rfl, by (repeat' (first | (with_reducible exact Below.refl _ _) | (with_reducible assumption) | (with_reducible refine below_drewN ?_ _) | (with_reducible refine Below.drew ?_) | (with_reducible refine below_new ?_ (Nat.le_refl _) _) | (with_reducible refine Below.setCell ?_ ?_ _) | (with_reducible refine below_go ?_ (by assumption) (Nat.le_refl _)) | (simp; done) | (simp; omega) | omega))⟩
          | exact ⟨congrArg (fun b => Ending.returned (.tuple #[.int .i64 x, .bool b])) (decide_eq_false (by omega)), by (repeat' (first | (with_reducible exact Below.refl _ _) | (with_reducible assumption) | (with_reducible refine below_drewN ?_ _) | (with_reducible refine Below.drew ?_) | (with_reducible refine below_new ?_ (Nat.le_refl _) _) | (with_reducible refine Below.setCell ?_ ?_ _) | (with_reducible refine below_go ?_ (by assumption) (Nat.le_refl _)) | (simp; done) | (simp; omega) | omega))⟩
          | exact ⟨congrArg (fun b => Ending.returned (.tuple #[.int .i64 x, .bool b])) (decide_eq_true (by omega)), by (repeat' (first | (with_reducible exact Below.refl _ _) | (with_reducible assumption) | (with_reducible refine below_drewN ?_ _) | (with_reducible refine Below.drew ?_) | (with_reducible refine below_new ?_ (Nat.le_refl _) _) | (with_reducible refine Below.setCell ?_ ?_ _) | (with_reducible refine below_go ?_ (by assumption) (Nat.le_refl _)) | (simp; done) | (simp; omega) | omega))⟩

set_option maxRecDepth 100000 in
set_option maxHeartbeats 4000000 in
theorem rwant14_2 (V A D L H p v s f m n k P lo hi : Int) (O : Bool) (w : World) (hp : -9223372036854775808 ≤ p ∧ p ≤ 9223372036854775807) (hPb : -9223372036854775808 ≤ P ∧ P ≤ 9223372036854775807)
    (HPL : Hid (∀ w, Calls Try.prog 31 #[.int .i64 s, .int .i64 f, .int .i64 m, .int .i64 n, .int .i64 k] w fun e w' => e = .returned (.tuple #[.int .i64 P, .bool O]) ∧ Below w.heap.size w w'))
    (hR : Hid (rightB ⟨V, A, D, L, H⟩ = decide (1 ≤ 2))) (hS : 2 ≠ 0 → Hid (safeB ⟨V, A, D, L, H⟩ ⟨p, v⟩ = decide (2 ≤ 2))) (hlo : Hid (if 2 = 2 then okB ⟨V, A, D, L, H⟩ ⟨p, v⟩ = true ∧ mayLo ⟨V, A, D, L, H⟩ ⟨p, v⟩ = lo ∧ mayHi ⟨V, A, D, L, H⟩ ⟨p, v⟩ = hi else lo = 0 ∧ hi = 0)) :
    Calls Try.prog 33 #[.agg #[.int .i64 V, .int .i64 A, .int .i64 D, .int .i64 L, .int .i64 H], .agg #[.int .i64 p, .int .i64 v], .int .i64 s, .int .i64 f, .int .i64 m, .int .i64 n, .int .i64 k] w fun e w' => e = .returned (.tuple #[.int .i64 (bif O && fitB (P - p) then P - p else 0), .bool (O && fitB (P - p) && betB (P - p) lo hi)]) ∧ Below w.heap.size w w' := by
  have hri := fun w => rright9_at V A D L H w _ hR.out
  simp only [show decide (1 ≤ 2) = true from rfl] at hri
  have HRI := Lib.hid hri
  clear hri
  have hsf := fun w => rsafe9_at V A D L H p v w (by have := hR.out; exact this) hp _ (hS (by decide)).out
  simp only [show decide (2 ≤ 2) = true from rfl] at hsf
  have HSF := Lib.hid hsf
  clear hsf
  have HMY := Lib.hid (fun w => rmay9_at V A D L H p v lo hi w (by have := hlo.out; simpa using this.1) (by have := hlo.out; simp at this; exact this.2.1) (by have := hlo.out; simp at this; exact this.2.2))
  have HSB := Lib.hid (fun w => rsub_at P p _ w hPb hp rfl)
  cases O
  · simp only [Bool.false_and, cond_false]
    generalize fitV (P - p) = d at *
    generalize fitB (P - p) = o at *
    go_enter Try.func33, Try.ntmps33
    go_wp2_with fail
    refine (HPL.out _).mono ?_
    rintro e w1 ⟨rfl, hb1⟩
    obtain ⟨hb1c, hb1f⟩ := bcell hb1
    have hb1z := hb1.size
    have hb1c0 := fun o => hb1c (w.heap.size) o (by first | (simp; done) | (simp; omega) | (simp at *; omega) | omega)
    have hb1f0 := fun o => hb1f (w.heap.size) o (by first | (simp; done) | (simp; omega) | (simp at *; omega) | omega)
    have hb1l0 := below_lt (b := w.heap.size) hb1 (by first | (simp; done) | (simp; omega) | (simp at *; omega) | omega)
    have hb1c1 := fun o => hb1c (w.heap.size + 1) o (by first | (simp; done) | (simp; omega) | (simp at *; omega) | omega)
    have hb1f1 := fun o => hb1f (w.heap.size + 1) o (by first | (simp; done) | (simp; omega) | (simp at *; omega) | omega)
    have hb1l1 := below_lt (b := w.heap.size + 1) hb1 (by first | (simp; done) | (simp; omega) | (simp at *; omega) | omega)
    go_wp2_with fail
    refine (HSB.out _).mono ?_
    rintro e w2 ⟨rfl, hb2⟩
    go_wp2
    go_ret2
    exact ⟨rfl, by (repeat' (first | (with_reducible exact Below.refl _ _) | (with_reducible assumption) | (with_reducible refine below_drewN ?_ _) | (with_reducible refine Below.drew ?_) | (with_reducible refine below_new ?_ (Nat.le_refl _) _) | (with_reducible refine Below.setCell ?_ ?_ _) | (with_reducible refine below_go ?_ (by assumption) (Nat.le_refl _)) | (simp; done) | (simp; omega) | omega))⟩
  · cases h1 : fitB (P - p)
    · simp only [Bool.and_false, Bool.false_and, cond_false]
      rw [h1] at HSB
      generalize fitV (P - p) = d at *
      clear h1
      go_enter Try.func33, Try.ntmps33
      go_wp2_with fail
      refine (HPL.out _).mono ?_
      rintro e w1 ⟨rfl, hb1⟩
      obtain ⟨hb1c, hb1f⟩ := bcell hb1
      have hb1z := hb1.size
      have hb1c0 := fun o => hb1c (w.heap.size) o (by first | (simp; done) | (simp; omega) | (simp at *; omega) | omega)
      have hb1f0 := fun o => hb1f (w.heap.size) o (by first | (simp; done) | (simp; omega) | (simp at *; omega) | omega)
      have hb1l0 := below_lt (b := w.heap.size) hb1 (by first | (simp; done) | (simp; omega) | (simp at *; omega) | omega)
      have hb1c1 := fun o => hb1c (w.heap.size + 1) o (by first | (simp; done) | (simp; omega) | (simp at *; omega) | omega)
      have hb1f1 := fun o => hb1f (w.heap.size + 1) o (by first | (simp; done) | (simp; omega) | (simp at *; omega) | omega)
      have hb1l1 := below_lt (b := w.heap.size + 1) hb1 (by first | (simp; done) | (simp; omega) | (simp at *; omega) | omega)
      go_wp2_with fail
      refine (HSB.out _).mono ?_
      rintro e w2 ⟨rfl, hb2⟩
      go_wp2
      go_ret2
      exact ⟨rfl, by (repeat' (first | (with_reducible exact Below.refl _ _) | (with_reducible assumption) | (with_reducible refine below_drewN ?_ _) | (with_reducible refine Below.drew ?_) | (with_reducible refine below_new ?_ (Nat.le_refl _) _) | (with_reducible refine Below.setCell ?_ ?_ _) | (with_reducible refine below_go ?_ (by assumption) (Nat.le_refl _)) | (simp; done) | (simp; omega) | omega))⟩
    · simp only [Bool.and_self, Bool.true_and, cond_true]
      have e3 : fitV (P - p) = P - p := by unfold fitV; rw [h1]; rfl
      rw [h1, e3] at HSB
      generalize P - p = x at *
      clear h1 e3
      rcases (by omega : x < lo ∨ (lo ≤ x ∧ hi < x) ∨ (lo ≤ x ∧ x ≤ hi)) with c1 | ⟨c1, c2⟩ | ⟨c1, c2⟩
      all_goals first | rw [betB_no1 c1] | rw [betB_no2 c2] | rw [betB_yes c1 c2]
      all_goals
        clear hR hS hlo
        go_enter Try.func33, Try.ntmps33
        go_wp2_with fail
        refine (HPL.out _).mono ?_
        rintro e w1 ⟨rfl, hb1⟩
        obtain ⟨hb1c, hb1f⟩ := bcell hb1
        have hb1z := hb1.size
        have hb1c0 := fun o => hb1c (w.heap.size) o (by first | (simp; done) | (simp; omega) | (simp at *; omega) | omega)
        have hb1f0 := fun o => hb1f (w.heap.size) o (by first | (simp; done) | (simp; omega) | (simp at *; omega) | omega)
        have hb1l0 := below_lt (b := w.heap.size) hb1 (by first | (simp; done) | (simp; omega) | (simp at *; omega) | omega)
        have hb1c1 := fun o => hb1c (w.heap.size + 1) o (by first | (simp; done) | (simp; omega) | (simp at *; omega) | omega)
        have hb1f1 := fun o => hb1f (w.heap.size + 1) o (by first | (simp; done) | (simp; omega) | (simp at *; omega) | omega)
        have hb1l1 := below_lt (b := w.heap.size + 1) hb1 (by first | (simp; done) | (simp; omega) | (simp at *; omega) | omega)
        go_wp2_with fail
        refine (HSB.out _).mono ?_
        rintro e w2 ⟨rfl, hb2⟩
        obtain ⟨hb2c, hb2f⟩ := bcell hb2
        have hb2z := hb2.size
        have hb2c0 := fun o => hb2c (w.heap.size) o (by first | (simp; done) | (simp; omega) | (simp at *; omega) | omega)
        have hb2f0 := fun o => hb2f (w.heap.size) o (by first | (simp; done) | (simp; omega) | (simp at *; omega) | omega)
        have hb2l0 := below_lt (b := w.heap.size) hb2 (by first | (simp; done) | (simp; omega) | (simp at *; omega) | omega)
        have hb2c1 := fun o => hb2c (w.heap.size + 1) o (by first | (simp; done) | (simp; omega) | (simp at *; omega) | omega)
        have hb2f1 := fun o => hb2f (w.heap.size + 1) o (by first | (simp; done) | (simp; omega) | (simp at *; omega) | omega)
        have hb2l1 := below_lt (b := w.heap.size + 1) hb2 (by first | (simp; done) | (simp; omega) | (simp at *; omega) | omega)
        go_wp2_with fail
        refine (HRI.out _).mono ?_
        rintro e w3 ⟨rfl, hb3⟩
        obtain ⟨hb3c, hb3f⟩ := bcell hb3
        have hb3z := hb3.size
        have hb3c0 := fun o => hb3c (w.heap.size) o (by first | (simp; done) | (simp; omega) | (simp at *; omega) | omega)
        have hb3f0 := fun o => hb3f (w.heap.size) o (by first | (simp; done) | (simp; omega) | (simp at *; omega) | omega)
        have hb3l0 := below_lt (b := w.heap.size) hb3 (by first | (simp; done) | (simp; omega) | (simp at *; omega) | omega)
        have hb3c1 := fun o => hb3c (w.heap.size + 1) o (by first | (simp; done) | (simp; omega) | (simp at *; omega) | omega)
        have hb3f1 := fun o => hb3f (w.heap.size + 1) o (by first | (simp; done) | (simp; omega) | (simp at *; omega) | omega)
        have hb3l1 := below_lt (b := w.heap.size + 1) hb3 (by first | (simp; done) | (simp; omega) | (simp at *; omega) | omega)
        go_wp2_with fail
        refine (HSF.out _).mono ?_
        rintro e w4 ⟨rfl, hb4⟩
        obtain ⟨hb4c, hb4f⟩ := bcell hb4
        have hb4z := hb4.size
        have hb4c0 := fun o => hb4c (w.heap.size) o (by first | (simp; done) | (simp; omega) | (simp at *; omega) | omega)
        have hb4f0 := fun o => hb4f (w.heap.size) o (by first | (simp; done) | (simp; omega) | (simp at *; omega) | omega)
        have hb4l0 := below_lt (b := w.heap.size) hb4 (by first | (simp; done) | (simp; omega) | (simp at *; omega) | omega)
        have hb4c1 := fun o => hb4c (w.heap.size + 1) o (by first | (simp; done) | (simp; omega) | (simp at *; omega) | omega)
        have hb4f1 := fun o => hb4f (w.heap.size + 1) o (by first | (simp; done) | (simp; omega) | (simp at *; omega) | omega)
        have hb4l1 := below_lt (b := w.heap.size + 1) hb4 (by first | (simp; done) | (simp; omega) | (simp at *; omega) | omega)
        go_wp2_with fail
        refine (HMY.out _).mono ?_
        rintro e w5 ⟨rfl, hb5⟩
        go_wp2
        go_ret2
        first
          | exact ⟨rfl, by (repeat' (first | (with_reducible exact Below.refl _ _) | (with_reducible assumption) | (with_reducible refine below_drewN ?_ _) | (with_reducible refine Below.drew ?_) | (with_reducible refine below_new ?_ (Nat.le_refl _) _) | (with_reducible refine Below.setCell ?_ ?_ _) | (with_reducible refine below_go ?_ (by assumption) (Nat.le_refl _)) | (simp; done) | (simp; omega) | omega))⟩
          | exact ⟨congrArg (fun b => Ending.returned (.tuple #[.int .i64 x, .bool b])) (decide_eq_false (by omega)), by (repeat' (first | (with_reducible exact Below.refl _ _) | (with_reducible assumption) | (with_reducible refine below_drewN ?_ _) | (with_reducible refine Below.drew ?_) | (with_reducible refine below_new ?_ (Nat.le_refl _) _) | (with_reducible refine Below.setCell ?_ ?_ _) | (with_reducible refine below_go ?_ (by assumption) (Nat.le_refl _)) | (simp; done) | (simp; omega) | omega))⟩
          | exact ⟨congrArg (fun b => Ending.returned (.tuple #[.int .i64 x, .bool b])) (decide_eq_true (by omega)), by (repeat' (first | (with_reducible exact Below.refl _ _) | (with_reducible assumption) | (with_reducible refine below_drewN ?_ _) | (with_reducible refine Below.drew ?_) | (with_reducible refine below_new ?_ (Nat.le_refl _) _) | (with_reducible refine Below.setCell ?_ ?_ _) | (with_reducible refine below_go ?_ (by assumption) (Nat.le_refl _)) | (simp; done) | (simp; omega) | omega))⟩

end Go.Proofs.Ytgbcefdlmockoaa
