/- Layer 13: HomeSteps. -/
import Derived.Test.YtmlndgmkjdkcfaaHomeE
import Derived.Test.YtmlndgmkjdkcfaaFrame
namespace Go.Proofs.Ytmlndgmkjdkcfaa
open Go.ChangeShapes Go.WideShapes Go.ChangeAt Go.RowKit
set_option linter.unusedVariables false
set_option linter.unusedSimpArgs false

theorem hstep_at (p f c : Int) (t sw plus minus still : Bool) (w : World) (p' f' c' : Int) (t' : Bool) (v : Int) (h : stepH ⟨p, f, c, t⟩ sw plus minus still = (⟨p', f', c', t'⟩, v)) :
    Calls Try.prog 43 #[.agg #[.int .i64 p, .int .i64 f, .int .i64 c, .bool t], .bool sw, .bool plus, .bool minus, .bool still] w fun e w' => e = .returned (.tuple #[.agg #[.int .i64 p', .int .i64 f', .int .i64 c', .bool t'], .int .i64 v]) ∧ Below w.heap.size w w' := by
  have := hstep_any p f c t sw plus minus still w
  rw [h] at this
  exact this

theorem hright_at (p f c : Int) (t : Bool) (w : World) (b : Bool) (h : homeB p f c = b) :
    Calls Try.prog 66 #[.agg #[.int .i64 p, .int .i64 f, .int .i64 c, .bool t]] w fun e w' => e = .returned (.bool b) ∧ Below w.heap.size w w' := by
  subst h
  exact hright_any p f c t w



theorem hnew_yes (f c : Int) (w : World) (h : homeB 0 f c = true) :
    Calls Try.prog 41 #[.int .i64 f, .int .i64 c] w fun e w' => e = .returned (.tuple #[.agg #[.int .i64 0, .int .i64 f, .int .i64 c, .bool false], .int .i64 0]) ∧ Below w.heap.size w w' := by
  have := hnew_any f c w
  rw [h] at this
  exact this

theorem hnew_no (f c : Int) (w : World) (h : homeB 0 f c = false) :
    Calls Try.prog 41 #[.int .i64 f, .int .i64 c] w fun e w' => e = .returned (.tuple #[.agg #[.int .i64 0, .int .i64 0, .int .i64 0, .bool false], .int .i64 1]) ∧ Below w.heap.size w w' := by
  have := hnew_any f c w
  rw [h] at this
  exact this

set_option maxRecDepth 100000 in
set_option maxHeartbeats 1000000 in
theorem awake13 (w : World) : Calls Try.prog 40 #[] w fun e w' => e = .returned (.bool true) ∧ Below w.heap.size w w' := by
  go_enter Try.func40, Try.ntmps40
  go_wp2_with fail
  refine (hnew_yes 5 1 _ rfl).mono ?_
  rintro e w1 ⟨rfl, hb1⟩
  go_wp2_with fail
  refine (hstep_at 0 5 1 false false false false true _ 0 5 1 false 5 rfl).mono ?_
  rintro e w2 ⟨rfl, hb2⟩
  obtain ⟨hb2c, hb2f⟩ := bcell hb2
  have hb2z := hb2.size
  have hb2c0 := fun o => hb2c (w1.heap.size) o (by first | (simp; done) | (simp; omega) | (simp at *; omega) | omega)
  have hb2f0 := fun o => hb2f (w1.heap.size) o (by first | (simp; done) | (simp; omega) | (simp at *; omega) | omega)
  have hb2l0 := below_lt (b := w1.heap.size) hb2 (by first | (simp; done) | (simp; omega) | (simp at *; omega) | omega)
  go_wp2_with fail
  refine (hstep_at 0 5 1 false true false false false _ 1 5 1 false 0 rfl).mono ?_
  rintro e w3 ⟨rfl, hb3⟩
  obtain ⟨hb3c, hb3f⟩ := bcell hb3
  have hb3z := hb3.size
  have hb3c0 := fun o => hb3c (w1.heap.size) o (by first | (simp; done) | (simp; omega) | (simp at *; omega) | omega)
  have hb3f0 := fun o => hb3f (w1.heap.size) o (by first | (simp; done) | (simp; omega) | (simp at *; omega) | omega)
  have hb3l0 := below_lt (b := w1.heap.size) hb3 (by first | (simp; done) | (simp; omega) | (simp at *; omega) | omega)
  have hb3c1 := fun o => hb3c (w2.heap.size) o (by first | (simp; done) | (simp; omega) | (simp at *; omega) | omega)
  have hb3f1 := fun o => hb3f (w2.heap.size) o (by first | (simp; done) | (simp; omega) | (simp at *; omega) | omega)
  have hb3l1 := below_lt (b := w2.heap.size) hb3 (by first | (simp; done) | (simp; omega) | (simp at *; omega) | omega)
  go_wp2_with fail
  refine (over_at 1 5 1 false _ false rfl).mono ?_
  rintro e w4 ⟨rfl, hb4⟩
  go_wp2
  go_ret
  exact ⟨rfl, by (repeat' (first | (with_reducible exact Below.refl _ _) | (with_reducible assumption) | (with_reducible refine below_drewN ?_ _) | (with_reducible refine Below.drew ?_) | (with_reducible refine below_new ?_ (Nat.le_refl _) _) | (with_reducible refine Below.setCell ?_ ?_ _) | (with_reducible refine below_go ?_ (by assumption) (Nat.le_refl _)) | (simp; done) | (simp; omega) | omega))⟩

end Go.Proofs.Ytmlndgmkjdkcfaa
