/- Merged: A variable's cells. A program that fits: what is known of it. -/
import Derived.Test.YtknnhnefbbjcdaaDoorTreeF
import Derived.Test.YtknnhnefbbjcdaaDoorM01
import Derived.Test.YtknnhnefbbjcdaaDoorM40
namespace Go.Proofs.YtknnhnefbbjcdaaDoor
open Go.RowKit
set_option linter.unusedVariables false
set_option linter.unusedSimpArgs false

theorem var_size8 : (Tryd.prog.info? 45).map (·.size) = some 8 := by kernel_rfl
theorem var_one8 (v : VarS) : v.cells.toArray.all (·.oneCell') = true := by simp [VarS.cells, Value.oneCell']
def VarC (w : World) (H : Nat) (v : VarS) : Prop := H < w.heap.size ∧ ∀ j u, v.cells[j]? = some u → w.cell? ⟨H, j, none⟩ = some u
theorem varC_below {w w' : World} {H : Nat} {v : VarS} (h : VarC w H v) (hb : Below w.heap.size w w') : VarC w' H v := ⟨Nat.lt_of_lt_of_le h.1 hb.size, fun j u hu => (hb.cell (p := ⟨H, j, none⟩) h.1).trans (h.2 j u hu)⟩
theorem RowV.at8 {w : World} {A : Option Addr} {xs : List VarS} {cap : Nat} (h : RowV w A xs cap) {i : Nat} (hi : i < xs.length) : ∃ b off v, A = some ⟨b, off, none⟩ ∧ b < w.heap.size ∧ xs[i]? = some v ∧ w.rangeAt b (off + i * 8) v.cells := by
 obtain ⟨b, off, v, cs, hA, hb, hv, ⟨rfl, _⟩, hcell⟩ := RowOf.at h hi
 refine ⟨b, off, v, hA, hb, hv, fun j u hu => ?_⟩
 have hj : j < 8 := (List.getElem?_eq_some_iff.1 hu).1
 rw [hcell j hj]
 exact hu


end Go.Proofs.YtknnhnefbbjcdaaDoor

namespace Go.Proofs.YtknnhnefbbjcdaaDoor
open Go.RowKit
set_option linter.unusedVariables false
set_option linter.unusedSimpArgs false

structure VarFit (v : VarS) : Prop where
 nm : v.name.size ≤ 16
 lo : 0 ≤ v.sect
 hi : v.sect ≤ 2
 ar : v.arr = true → v.type ≤ 2 ∧ 0 ≤ v.lo ∧ v.lo ≤ v.hi ∧ v.hi ≤ 255
structure FitP (p : Prg) : Prop where
 nm : p.name.size ≤ 16
 vl : p.vars.length ≤ 64
 vars : ∀ v ∈ p.vars, VarFit v
 body : ∀ s ∈ p.body, FitS s

end Go.Proofs.YtknnhnefbbjcdaaDoor
