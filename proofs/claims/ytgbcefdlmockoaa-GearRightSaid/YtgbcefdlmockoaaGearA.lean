/- Contracts of layer 14: where an axis should be; the fixed answers. -/
import Derived.Test.YtgbcefdlmockoaaQG
namespace Go.Proofs.Ytgbcefdlmockoaa
open Go.ChangeShapes Go.WideShapes Go.ChangeAt Go.RowKit
set_option linter.unusedVariables false
set_option linter.unusedSimpArgs false
attribute [local go_sem] ite_max ite_min vite_max vite_min ext_cell ext_frozen

/-- is there a place where it should be? -/
def plO (s f m n k : Int) : Bool := fitB (m - f) && decide (1 ≤ k) && decide (mdE (m - f) n k = 0) && fitB (s + mdV (m - f) n k)
/-- the place where it should be -/
def plV (s f m n k : Int) : Int := if plO s f m n k = true then s + mdV (m - f) n k else 0

theorem mdV_bd (a b c : Int) : -9223372036854775808 ≤ mdV a b c ∧ mdV a b c ≤ 9223372036854775807 := by
  unfold mdV
  by_cases h : mdE a b c = 0
  · rw [if_pos h]
    unfold mdE at h
    split at h
    · omega
    · split at h
      · omega
      · split at h
        · rename_i hf
          exact of_decide_eq_true hf
        · omega
  · rw [if_neg h]
    omega
theorem fitV_bd (x : Int) : -9223372036854775808 ≤ fitV x ∧ fitV x ≤ 9223372036854775807 := by
  unfold fitV fitB
  split
  · rename_i h
    exact of_decide_eq_true h
  · omega
theorem fitV_off {x : Int} (h : fitB x = false) : fitV x = 0 := by
  unfold fitV
  rw [h]
  rfl

set_option maxHeartbeats 2000000 in
theorem gplace_any (s f m n k : Int) (w : World) (hs : -9223372036854775808 ≤ s ∧ s ≤ 9223372036854775807) (hf : -9223372036854775808 ≤ f ∧ f ≤ 9223372036854775807) (hm : -9223372036854775808 ≤ m ∧ m ≤ 9223372036854775807)
    (hn : -9223372036854775808 ≤ n ∧ n ≤ 9223372036854775807) (hk : -9223372036854775808 ≤ k ∧ k ≤ 9223372036854775807) :
    Calls Try.prog 30 #[.int .i64 s, .int .i64 f, .int .i64 m, .int .i64 n, .int .i64 k] w fun e w' => e = .returned (.tuple #[.int .i64 (plV s f m n k), .bool (plO s f m n k)]) ∧ Below w.heap.size w w' := by
  cases h1 : fitB (m - f)
  · have e1 : plO s f m n k = false := by unfold plO; rw [h1]; rfl
    have e2 : plV s f m n k = 0 := by unfold plV; rw [e1]; rfl
    rw [e1, e2]
    have H1 := Lib.hid h1
    clear e1 e2 h1
    go_enter Try.func30, Try.ntmps30
    go_wp2_with fail
    refine (qsub_at _ _ 0 false _ hm hf (fitV_off H1.out) H1.out).mono ?_
    rintro e w1 ⟨rfl, rfl⟩
    go_wp2
    go_ret2
    exact ⟨rfl, by (repeat' (first | (with_reducible exact Below.refl _ _) | (with_reducible assumption) | (with_reducible refine below_drewN ?_ _) | (with_reducible refine Below.drew ?_) | (with_reducible refine below_new ?_ (Nat.le_refl _) _) | (with_reducible refine Below.setCell ?_ ?_ _) | (with_reducible refine below_go ?_ (by assumption) (Nat.le_refl _)) | (simp; done) | (simp; omega) | omega))⟩
  · obtain ⟨d, hd⟩ : ∃ d, fitV (m - f) = d := ⟨_, rfl⟩
    have hd2 : m - f = d := by
      rw [← hd]
      unfold fitV
      rw [h1]
      rfl
    have hdb := fitV_bd (m - f)
    rw [hd] at hdb
    by_cases h2 : 1 ≤ k
    · have hv := mdV_bd d n k
      by_cases h3 : mdE d n k = 0
      · have e1 : plO s f m n k = fitB (s + mdV d n k) := by unfold plO; rw [h1, hd2, decide_eq_true h2, decide_eq_true h3]; rfl
        have e2 : plV s f m n k = fitV (s + mdV d n k) := by
          unfold plV
          rw [e1, hd2]
          rfl
        rw [e1, e2]
        obtain ⟨q, hq⟩ : ∃ q, mdV d n k = q := ⟨_, rfl⟩
        rw [hq] at hv ⊢
        have H1 := Lib.hid h1
        have H2 := Lib.hid hd
        have H3 := Lib.hid h3
        have H4 := Lib.hid hq
        clear e1 e2 h1 hd h3 hq hd2
        go_enter Try.func30, Try.ntmps30
        go_wp2_with fail
        refine (qsub_at _ _ d true _ hm hf H2.out H1.out).mono ?_
        rintro e w1 ⟨rfl, rfl⟩
        go_wp2_with fail
        refine (qmuldiv_at _ _ _ q 0 _ hdb hn hk H4.out H3.out).mono ?_
        rintro e w1 ⟨rfl, hb1⟩
        go_wp2_with fail
        refine (qadd_any _ _ _ hs hv).mono ?_
        rintro e w2 ⟨rfl, rfl⟩
        go_wp2
        go_ret2
        exact ⟨rfl, by (repeat' (first | (with_reducible exact Below.refl _ _) | (with_reducible assumption) | (with_reducible refine below_drewN ?_ _) | (with_reducible refine Below.drew ?_) | (with_reducible refine below_new ?_ (Nat.le_refl _) _) | (with_reducible refine Below.setCell ?_ ?_ _) | (with_reducible refine below_go ?_ (by assumption) (Nat.le_refl _)) | (simp; done) | (simp; omega) | omega))⟩
      · have e1 : plO s f m n k = false := by unfold plO; rw [h1, hd2, decide_eq_true h2, decide_eq_false h3]; rfl
        have e2 : plV s f m n k = 0 := by unfold plV; rw [e1]; rfl
        rw [e1, e2]
        obtain ⟨q, hq⟩ : ∃ q, mdV d n k = q := ⟨_, rfl⟩
        obtain ⟨x, hx⟩ : ∃ x, mdE d n k = x := ⟨_, rfl⟩
        rw [hx] at h3
        have q0 : (x != 0) = true := by simpa using h3
        have H1 := Lib.hid h1
        have H2 := Lib.hid hd
        have H3 := Lib.hid hx
        have H4 := Lib.hid hq
        clear e1 e2 h1 hd hx hq hd2 h3 hv
        go_enter Try.func30, Try.ntmps30
        go_wp2_with fail
        refine (qsub_at _ _ d true _ hm hf H2.out H1.out).mono ?_
        rintro e w1 ⟨rfl, rfl⟩
        go_wp2_with fail
        refine (qmuldiv_at _ _ _ q x _ hdb hn hk H4.out H3.out).mono ?_
        rintro e w1 ⟨rfl, hb1⟩
        go_wp2
        go_ret2
        exact ⟨rfl, by (repeat' (first | (with_reducible exact Below.refl _ _) | (with_reducible assumption) | (with_reducible refine below_drewN ?_ _) | (with_reducible refine Below.drew ?_) | (with_reducible refine below_new ?_ (Nat.le_refl _) _) | (with_reducible refine Below.setCell ?_ ?_ _) | (with_reducible refine below_go ?_ (by assumption) (Nat.le_refl _)) | (simp; done) | (simp; omega) | omega))⟩
    · have e1 : plO s f m n k = false := by unfold plO; rw [h1, decide_eq_false h2]; rfl
      have e2 : plV s f m n k = 0 := by unfold plV; rw [e1]; rfl
      rw [e1, e2]
      have H1 := Lib.hid h1
      have H2 := Lib.hid hd
      clear e1 e2 h1 hd hd2
      go_enter Try.func30, Try.ntmps30
      go_wp2_with fail
      refine (qsub_at _ _ d true _ hm hf H2.out H1.out).mono ?_
      rintro e w1 ⟨rfl, rfl⟩
      go_wp2
      go_ret2
      exact ⟨rfl, by (repeat' (first | (with_reducible exact Below.refl _ _) | (with_reducible assumption) | (with_reducible refine below_drewN ?_ _) | (with_reducible refine Below.drew ?_) | (with_reducible refine below_new ?_ (Nat.le_refl _) _) | (with_reducible refine Below.setCell ?_ ?_ _) | (with_reducible refine below_go ?_ (by assumption) (Nat.le_refl _)) | (simp; done) | (simp; omega) | omega))⟩

theorem gplace_at (s f m n k v : Int) (o : Bool) (w : World) (hs : -9223372036854775808 ≤ s ∧ s ≤ 9223372036854775807) (hf : -9223372036854775808 ≤ f ∧ f ≤ 9223372036854775807) (hm : -9223372036854775808 ≤ m ∧ m ≤ 9223372036854775807)
    (hn : -9223372036854775808 ≤ n ∧ n ≤ 9223372036854775807) (hk : -9223372036854775808 ≤ k ∧ k ≤ 9223372036854775807) (hv : plV s f m n k = v) (ho : plO s f m n k = o) :
    Calls Try.prog 30 #[.int .i64 s, .int .i64 f, .int .i64 m, .int .i64 n, .int .i64 k] w fun e w' => e = .returned (.tuple #[.int .i64 v, .bool o]) ∧ Below w.heap.size w w' := by
  subst hv
  subst ho
  exact gplace_any s f m n k w hs hf hm hn hk

set_option maxHeartbeats 1000000 in
theorem awake14 (w : World) : Calls Try.prog 29 #[] w fun e w' => e = .returned (.bool true) ∧ Below w.heap.size w w' := by
  go_enter Try.func29, Try.ntmps29
  go_wp2_with fail
  refine (gplace_at _ _ _ _ _ 103 true _ (by decide) (by decide) (by decide) (by decide) (by decide) (by decide) (by decide)).mono ?_
  rintro e w1 ⟨rfl, hb1⟩
  go_wp2
  go_ret
  exact ⟨rfl, by (repeat' (first | (with_reducible exact Below.refl _ _) | (with_reducible assumption) | (with_reducible refine below_drewN ?_ _) | (with_reducible refine Below.drew ?_) | (with_reducible refine below_new ?_ (Nat.le_refl _) _) | (with_reducible refine Below.setCell ?_ ?_ _) | (with_reducible refine below_go ?_ (by assumption) (Nat.le_refl _)) | (simp; done) | (simp; omega) | omega))⟩

end Go.Proofs.Ytgbcefdlmockoaa
