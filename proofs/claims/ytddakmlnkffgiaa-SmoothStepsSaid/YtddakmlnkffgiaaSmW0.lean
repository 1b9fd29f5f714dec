/- Contracts of layer 10: a new window, made or not. -/
import Derived.Test.YtddakmlnkffgiaaSmV2
namespace Go.Proofs.Ytddakmlnkffgiaa
open Go.RowKit
set_option linter.unusedVariables false
set_option linter.unusedSimpArgs false

/-- may a window be made? -/
def newB1 (m pos : Int) : Bool := decide (1 ≤ m ∧ m ≤ 16) && plB pos
def newOk (m pos : Int) (sa : Option Addr) (q k : Nat) (e : Int) (w : World) : Prop :=
  (newB1 m pos = true ∧ e = 0 ∧ (q : Int) = m ∧ ∃ g : Nat, sa = some ⟨g, 0, none⟩ ∧ OnW w (List.replicate q pos) q g k) ∨ (newB1 m pos = false ∧ e = 1 ∧ q = 0)
def NewPost (m pos : Int) (w : World) (e : Ending) (w' : World) : Prop := ∃ sa q k n, e = .returned (.tuple #[.agg #[.slice sa q k], .int .i64 n]) ∧ newOk m pos sa q k n w' ∧ Below w.heap.size w w'
theorem sm_new_any (m pos : Int) (w : World) : Calls Try.prog 43 #[.int .i64 m, .int .i64 pos] w (NewPost m pos w) := by
  cases h : newB1 m pos
  · refine (sm_new_no pos m w h).mono ?_
    rintro e w' ⟨rfl, hb⟩
    exact ⟨_, _, _, _, rfl, .inr ⟨h, rfl, rfl⟩, hb⟩
  · have h' := h
    simp only [newB1, Bool.and_eq_true, decide_eq_true_eq] at h'
    obtain ⟨k, rfl⟩ := Int.eq_ofNat_of_zero_le (a := m) (by omega)
    refine (sm_new_w pos k w (by omega) h'.2).mono ?_
    rintro e w' ⟨g, rfl, hg, hb, o⟩
    exact ⟨_, _, _, _, rfl, .inl ⟨h, rfl, rfl, g, rfl, o⟩, hb⟩

end Go.Proofs.Ytddakmlnkffgiaa
