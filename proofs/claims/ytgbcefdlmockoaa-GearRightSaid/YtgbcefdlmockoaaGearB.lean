/- Contracts of layer 14: what is wanted of an axis that follows another. -/
import Derived.Test.YtgbcefdlmockoaaGearA
import Derived.Test.YtgbcefdlmockoaaGenC
import Derived.Test.YtgbcefdlmockoaaPGenC
namespace Go.Proofs.Ytgbcefdlmockoaa
open Go.ChangeShapes Go.WideShapes Go.ChangeAt Go.RowKit
set_option linter.unusedVariables false
set_option linter.unusedSimpArgs false
attribute [local go_sem] ite_max ite_min vite_max vite_min ite_max0 vite_max0 ext_cell ext_frozen

/-- may it have what is wanted? (of right limits and a safe generator, P where it should be, if O) -/
def wantO (l : LimS) (g : GenS) (P : Int) (O : Bool) : Bool := O && fitB (P - g.p) && decide (mayLo l g ≤ P - g.p ∧ P - g.p ≤ mayHi l g)
def wantV (g : GenS) (P : Int) (O : Bool) : Int := if (O && fitB (P - g.p)) = true then P - g.p else 0

theorem want_bd (g : GenS) (P : Int) (O : Bool) : -9223372036854775808 ≤ wantV g P O ∧ wantV g P O ≤ 9223372036854775807 := by
  unfold wantV
  split
  · rename_i h
    simp only [Bool.and_eq_true] at h
    exact of_decide_eq_true h.2
  · omega

/-- what a step to what is wanted does -/
theorem want_step (l : LimS) (g : GenS) (P : Int) (O : Bool) (n : GenS) (hr : rightB l = true) (hs : safeB l g = true) (hP : -9223372036854775808 ≤ P ∧ P ≤ 9223372036854775807) (hn : stepG l g (wantV g P O) = n) :
    (wantO l g P O = true → O = true ∧ n.p = P) ∧ (wantO l g P O = false → O = true → n.p ≠ P) := by
  have hm := may_bd l g hr hs
  have hz := safeB_yes hs
  have hy := rightB_yes hr
  have hp : n.p = g.p + n.v := by rw [← hn]; rfl
  have hv : n.v = max (mayLo l g) (min (mayHi l g) (wantV g P O)) := by rw [← hn]; rfl
  refine ⟨fun h => ?_, fun h hO => ?_⟩
  · simp only [wantO, Bool.and_eq_true, decide_eq_true_eq] at h
    obtain ⟨⟨h1, h2⟩, h3⟩ := h
    have hw : wantV g P O = P - g.p := by unfold wantV; rw [h1, h2]; rfl
    rw [hw] at hv
    exact ⟨h1, by omega⟩
  · subst hO
    cases hf : fitB (P - g.p)
    · have hnf : ¬ (-9223372036854775808 ≤ P - g.p ∧ P - g.p ≤ 9223372036854775807) := of_decide_eq_false hf
      omega
    · have hw : wantV g P true = P - g.p := by unfold wantV; rw [hf]; rfl
      have h3 : ¬ (mayLo l g ≤ P - g.p ∧ P - g.p ≤ mayHi l g) := by
        simp only [wantO, hf, Bool.true_and] at h
        exact of_decide_eq_false h
      rw [hw] at hv
      omega

theorem gplace_bd (s f m n k : Int) : -9223372036854775808 ≤ plV s f m n k ∧ plV s f m n k ≤ 9223372036854775807 := by
  unfold plV
  split
  · rename_i h
    simp only [plO, Bool.and_eq_true] at h
    exact of_decide_eq_true h.2
  · omega

set_option maxRecDepth 100000 in
set_option maxHeartbeats 4000000 in
theorem gwant_at (V A D L H p v s f m n k P : Int) (O : Bool) (w : World) (hk0 : okB ⟨V, A, D, L, H⟩ ⟨p, v⟩ = true) (hs : -9223372036854775808 ≤ s ∧ s ≤ 9223372036854775807) (hf : -9223372036854775808 ≤ f ∧ f ≤ 9223372036854775807) (hm : -9223372036854775808 ≤ m ∧ m ≤ 9223372036854775807)
    (hn : -9223372036854775808 ≤ n ∧ n ≤ 9223372036854775807) (hk : -9223372036854775808 ≤ k ∧ k ≤ 9223372036854775807) (hV : plV s f m n k = P) (hO : plO s f m n k = O) (x : Int) (o : Bool) (hx : wantV ⟨p, v⟩ P O = x) (ho : wantO ⟨V, A, D, L, H⟩ ⟨p, v⟩ P O = o) :
    Calls Try.prog 32 #[.agg #[.int .i64 V, .int .i64 A, .int .i64 D, .int .i64 L, .int .i64 H], .agg #[.int .i64 p, .int .i64 v], .int .i64 s, .int .i64 f, .int .i64 m, .int .i64 n, .int .i64 k] w fun e w' => e = .returned (.tuple #[.int .i64 x, .bool o]) ∧ Below w.heap.size w w' := by
  have hPb := gplace_bd s f m n k
  rw [hV] at hPb
  have hy := rightB_yes (okB_yes hk0).1
  have hz := safeB_yes (okB_yes hk0).2
  simp only at hy hz
  have hpb : -1099511627776 ≤ p ∧ p ≤ 1099511627776 := by omega
  have HK := Lib.hid hk0
  have HV := Lib.hid hV
  have HO := Lib.hid hO
  have hmb := may_bd _ _ (okB_yes hk0).1 (okB_yes hk0).2
  clear hz hk0 hV hO hy
  cases O
  · have e1 : x = 0 := by rw [← hx]; rfl
    have e2 : o = false := by rw [← ho]; rfl
    subst e1
    subst e2
    clear hx ho
    go_enter Try.func32, Try.ntmps32
    go_wp2_with fail
    refine (gplace_at _ _ _ _ _ P false _ hs hf hm hn hk HV.out HO.out).mono ?_
    rintro e w1 ⟨rfl, hb1⟩
    go_wp2
    go_ret2
    exact ⟨rfl, by (repeat' (first | (with_reducible exact Below.refl _ _) | (with_reducible assumption) | (with_reducible refine below_drewN ?_ _) | (with_reducible refine Below.drew ?_) | (with_reducible refine below_new ?_ (Nat.le_refl _) _) | (with_reducible refine Below.setCell ?_ ?_ _) | (with_reducible refine below_go ?_ (by assumption) (Nat.le_refl _)) | (simp; done) | (simp; omega) | omega))⟩
  · cases h1 : fitB (P - p)
    · have e1 : x = 0 := by rw [← hx]; unfold wantV; rw [h1]; rfl
      have e2 : o = false := by rw [← ho]; unfold wantO; rw [h1]; rfl
      subst e1
      subst e2
      have H1 := Lib.hid h1
      clear hx ho h1
      go_enter Try.func32, Try.ntmps32
      go_wp2_with fail
      refine (gplace_at _ _ _ _ _ P true _ hs hf hm hn hk HV.out HO.out).mono ?_
      rintro e w1 ⟨rfl, hb1⟩
      obtain ⟨hb1c, hb1f⟩ := bcell hb1
      have hb1z := hb1.size
      have hb1c0 := fun o => hb1c (w.heap.size) o (by first | (simp; done) | (simp; omega) | (simp at *; omega) | omega)
      have hb1f0 := fun o => hb1f (w.heap.size) o (by first | (simp; done) | (simp; omega) | (simp at *; omega) | omega)
      have hb1l0 := below_lt (b := w.heap.size) hb1 (by first | (simp; done) | (simp; omega) | (simp at *; omega) | omega)
      have hb1c1 := fun o => hb1c (w.heap.size + 1) o (by first | (simp; done) | (simp; omega) | (simp at *; omega) | omega)
      have hb1f1 := fun o => hb1f (w.heap.size + 1) o (by first | (simp; done) | (simp; omega) | (simp at *; omega) | omega)
      have hb1l1 := below_lt (b := w.heap.size + 1) hb1 (by first | (simp; done) | (simp; omega) | (simp at *; omega) | omega)
      go_wp2_with fail
      refine (qsub_at _ _ 0 false _ (by omega) (by omega) (fitV_off H1.out) H1.out).mono ?_
      rintro e w2 ⟨rfl, rfl⟩
      go_wp2
      go_ret2
      exact ⟨rfl, by (repeat' (first | (with_reducible exact Below.refl _ _) | (with_reducible assumption) | (with_reducible refine below_drewN ?_ _) | (with_reducible refine Below.drew ?_) | (with_reducible refine below_new ?_ (Nat.le_refl _) _) | (with_reducible refine Below.setCell ?_ ?_ _) | (with_reducible refine below_go ?_ (by assumption) (Nat.le_refl _)) | (simp; done) | (simp; omega) | omega))⟩
    · have e1 : x = P - p := by rw [← hx]; unfold wantV; rw [h1]; rfl
      have e2 : o = decide (mayLo ⟨V, A, D, L, H⟩ ⟨p, v⟩ ≤ P - p ∧ P - p ≤ mayHi ⟨V, A, D, L, H⟩ ⟨p, v⟩) := by rw [← ho]; unfold wantO; rw [h1]; rfl
      have e3 : fitV (P - p) = x := by rw [e1]; unfold fitV; rw [h1]; rfl
      rw [← e1] at e2
      obtain ⟨lo, hlo⟩ : ∃ lo, mayLo ⟨V, A, D, L, H⟩ ⟨p, v⟩ = lo := ⟨_, rfl⟩
      obtain ⟨hi, hhi⟩ : ∃ hi, mayHi ⟨V, A, D, L, H⟩ ⟨p, v⟩ = hi := ⟨_, rfl⟩
      have hmay := fun w => gmay_yes V A D L H p v w HK.out
      rw [hlo, hhi] at hmay
      rw [hlo, hhi] at e2 hmb
      have H1 := Lib.hid h1
      have H3 := Lib.hid e3
      have HM := Lib.hid hmay
      have hsplit : (o = false ∧ x < lo) ∨ (o = false ∧ lo ≤ x ∧ hi < x) ∨ (o = true ∧ lo ≤ x ∧ x ≤ hi) := by
        by_cases c1 : lo ≤ x
        · by_cases c2 : x ≤ hi
          · exact .inr (.inr ⟨by rw [e2]; exact decide_eq_true ⟨c1, c2⟩, c1, c2⟩)
          · exact .inr (.inl ⟨by rw [e2]; exact decide_eq_false (fun h => c2 h.2), c1, by omega⟩)
        · exact .inl ⟨by rw [e2]; exact decide_eq_false (fun h => c1 h.1), by omega⟩
      clear hx ho h1 e1 e2 e3 hlo hhi hmay
      rcases hsplit with ⟨rfl, c1⟩ | ⟨rfl, c1, c2⟩ | ⟨rfl, c1, c2⟩
      all_goals
        go_enter Try.func32, Try.ntmps32
        go_wp2_with fail
        refine (gplace_at _ _ _ _ _ P true _ hs hf hm hn hk HV.out HO.out).mono ?_
        rintro e w1 ⟨rfl, hb1⟩
        obtain ⟨hb1c, hb1f⟩ := bcell hb1
        have hb1z := hb1.size
        have hb1c0 := fun o => hb1c (w.heap.size) o (by first | (simp; done) | (simp; omega) | (simp at *; omega) | omega)
        have hb1f0 := fun o => hb1f (w.heap.size) o (by first | (simp; done) | (simp; omega) | (simp at *; omega) | omega)
        have hb1l0 := below_lt (b := w.heap.size) hb1 (by first | (simp; done) | (simp; omega) | (simp at *; omega) | omega)
        have hb1c1 := fun o => hb1c (w.heap.size + 1) o (by first | (simp; done) | (simp; omega) | (simp at *; omega) | omega)
        have hb1f1 := fun o => hb1f (w.heap.size + 1) o (by first | (simp; done) | (simp; omega) | (simp at *; omega) | omega)
        have hb1l1 := below_lt (b := w.heap.size + 1) hb1 (by first | (simp; done) | (simp; omega) | (simp at *; omega) | omega)
        go_wp2_with fail
        refine (qsub_at _ _ x true _ (by omega) (by omega) H3.out H1.out).mono ?_
        rintro e w2 ⟨rfl, rfl⟩
        go_wp2_with fail
        refine (HM.out _).mono ?_
        rintro e w3 ⟨rfl, hb3⟩
        go_wp2
        go_ret2
        first
          | exact ⟨rfl, by (repeat' (first | (with_reducible exact Below.refl _ _) | (with_reducible assumption) | (with_reducible refine below_drewN ?_ _) | (with_reducible refine Below.drew ?_) | (with_reducible refine below_new ?_ (Nat.le_refl _) _) | (with_reducible refine Below.setCell ?_ ?_ _) | (with_reducible refine below_go ?_ (by assumption) (Nat.le_refl _)) | (simp; done) | (simp; omega) | omega))⟩
          | exact ⟨congrArg (fun b => Ending.returned (.tuple #[.int .i64 x, .bool b])) (decide_eq_false (by omega)), by (repeat' (first | (with_reducible exact Below.refl _ _) | (with_reducible assumption) | (with_reducible refine below_drewN ?_ _) | (with_reducible refine Below.drew ?_) | (with_reducible refine below_new ?_ (Nat.le_refl _) _) | (with_reducible refine Below.setCell ?_ ?_ _) | (with_reducible refine below_go ?_ (by assumption) (Nat.le_refl _)) | (simp; done) | (simp; omega) | omega))⟩
          | exact ⟨congrArg (fun b => Ending.returned (.tuple #[.int .i64 x, .bool b])) (decide_eq_true (by omega)), by (repeat' (first | (with_reducible exact Below.refl _ _) | (with_reducible assumption) | (with_reducible refine below_drewN ?_ _) | (with_reducible refine Below.drew ?_) | (with_reducible refine below_new ?_ (Nat.le_refl _) _) | (with_reducible refine Below.setCell ?_ ?_ _) | (with_reducible refine below_go ?_ (by assumption) (Nat.le_refl _)) | (simp; done) | (simp; omega) | omega))⟩

theorem gstep_to (V A D L H p v x p' v' : Int) (w : World) (hk : okB ⟨V, A, D, L, H⟩ ⟨p, v⟩ = true) (h : stepG ⟨V, A, D, L, H⟩ ⟨p, v⟩ x = ⟨p', v'⟩) :
    Calls Try.prog 36 #[.agg #[.int .i64 V, .int .i64 A, .int .i64 D, .int .i64 L, .int .i64 H], .agg #[.int .i64 p, .int .i64 v], .int .i64 x] w fun e w' => e = .returned (.agg #[.int .i64 p', .int .i64 v']) ∧ Below w.heap.size w w' := by
  have := gstep_yes V A D L H p v x w hk
  rw [h] at this
  exact this

end Go.Proofs.Ytgbcefdlmockoaa
