/- Small lemmas that all my walks use: minimum and maximum in the walk's spelling; what 'Below' gives. -/
import Derived.Test.YtknnhnefbbjcdaaDoorRows
import Derived.WalkKit
import Derived.WalkSpells
import Derived.WalkLawsBesides
import Derived.Lib.Hide
import Derived.Deep.QuietTactic
import Derived.BigQuiet
import Derived.Deep.RegionWith
import Derived.Deep.DeepFit
import Derived.Deep.DeepMust
namespace Go.Proofs.YtknnhnefbbjcdaaDoor
open Go.RowKit
set_option linter.unusedVariables false
set_option linter.unusedSimpArgs false

theorem ite_max (a b : Int) : (if a < b then b else a) = max a b := by
 rw [Int.max_def]; split <;> split <;> omega
theorem ite_min (a b : Int) : (if a < b then a else b) = min a b := by
 rw [Int.min_def]; split <;> split <;> omega
theorem vite_max (k : IntKind) (a b : Int) : (if a < b then Value.int k b else Value.int k a) = Value.int k (max a b) := by
 rw [← ite_max]; split <;> rfl
theorem vite_min (k : IntKind) (a b : Int) : (if a < b then Value.int k a else Value.int k b) = Value.int k (min a b) := by
 rw [← ite_min]; split <;> rfl

theorem ite_max0 (a b : Int) : (if b < a then a - b else 0) = max 0 (a - b) := by
 rw [Int.max_def]; split <;> split <;> omega
theorem vite_max0 (k : IntKind) (a b : Int) : (if b < a then Value.int k (a - b) else Value.int k 0) = Value.int k (max 0 (a - b)) := by
 rw [← ite_max0]; split <;> rfl

theorem bcell {W w1 : World} (hb : Below W.heap.size W w1) : (∀ b o, b < W.heap.size → w1.cell? ⟨b, o, none⟩ = W.cell? ⟨b, o, none⟩) ∧ (∀ b o, b < W.heap.size → w1.frozen? ⟨b, o, none⟩ = W.frozen? ⟨b, o, none⟩) :=
 ⟨fun b o h => hb.cell (p := ⟨b, o, none⟩) h, fun b o h => hb.frozen (p := ⟨b, o, none⟩) h⟩
theorem below_go {B : Nat} {w W w1 : World} (h1 : Below B w W) (hb : Below W.heap.size W w1) (hB : B ≤ w.heap.size) : Below B w w1 := h1.trans (hb.mono (Nat.le_trans hB h1.size))
theorem below_new {B : Nat} {w W : World} (h1 : Below B w W) (hB : B ≤ w.heap.size) (o : Obj) : Below B w (W.alloc o) := h1.alloc (Nat.le_trans hB h1.size) o
theorem below_lt {b : Nat} {W w1 : World} (hb : Below W.heap.size W w1) (h : b < W.heap.size) : b < w1.heap.size := Nat.lt_of_lt_of_le h hb.size
theorem below_drewN {B : Nat} {a w : World} (h : Below B a w) (n : Nat) : Below B a (w.drewN n) := h.trans ⟨rfl, rfl, rfl, Nat.le_refl _, fun _ _ => rfl⟩
theorem belowBy {p : Prop} (h : p := by (repeat' (first | with_reducible (first | exact Below.refl _ _ | assumption | refine below_drewN ?_ _ | refine Below.drew ?_ | refine below_new ?_ (Nat.le_refl _) _ | refine Below.setCell ?_ ?_ _ | refine below_go ?_ (by assumption) (Nat.le_refl _)) | (simp; done) | (simp; omega) | omega))) : p := h

theorem quiet_left {P : Program} {f : FuncId} {args : Array Value} {w : World} {n : Nat} {v : Value}
  (h : Calls P f args (w.drewN n) fun e w' => e = .returned v ∧ w.drewN n = w') : Calls P f args (w.drewN n) fun e w'' => e = .returned v ∧ ∃ m, w'' = w.drewN m :=
 h.mono fun _ _ ⟨he, hm⟩ => ⟨he, n, hm.symm⟩
theorem quiet_add_left {P : Program} {f : FuncId} {args : Array Value} {w : World} {a n : Nat} {v : Value}
  (h : Calls P f args (w.drewN (a + n)) fun e w' => e = .returned v ∧ w.drewN (a + n) = w') :
  Calls P f args (w.drewN (a + n)) fun e w'' => e = .returned v ∧ ∃ m, w'' = w.drewN (a + m) :=
 h.mono fun _ _ ⟨he, hm⟩ => ⟨he, n, hm.symm⟩

end Go.Proofs.YtknnhnefbbjcdaaDoor
