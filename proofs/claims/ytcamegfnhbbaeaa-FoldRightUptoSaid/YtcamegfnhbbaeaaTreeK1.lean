/- Do statements fit? What the counts are. -/
import Derived.Test.YtcamegfnhbbaeaaTreeK0
import Derived.Test.YtcamegfnhbbaeaaTreeF
import Derived.Deep.Cut
import Derived.Deep.CutRange
import Derived.Deep.CutBlock
import Derived.Test.YtcamegfnhbbaeaaWild
namespace Go.Proofs.Ytcamegfnhbbaeaa
open Go.RowKit
set_option linter.unusedVariables false
set_option linter.unusedSimpArgs false
attribute [local go_sem] ite_max ite_min vite_max vite_min ext_cell ext_frozen

/-- how many conditions, labels, fields, blocks a kind of statement has; may there be one block more -/
def cC (op : Int) (nc nf : Nat) : Nat := if op = 2 then max 1 nc else if op = 4 then 3 else if op = 9 then nf else 0
def cL (op : Int) (nl : Nat) : Nat := if op = 3 then nl else 0
def cF (op : Int) (nf : Nat) : Nat := if op = 9 then nf else 0
def cB (op : Int) (nc nl : Nat) : Nat := if op = 2 then max 1 nc else if op = 3 then nl else if op = 4 ∨ op = 5 ∨ op = 6 then 1 else 0
def cM (op : Int) : Nat := if op = 2 ∨ op = 3 then 1 else 0
theorem SmS.parts {s : Stm} (h : SmS s) : SmE s.dst ∧ SmE s.src ∧ ∀ bl ∈ s.blocks, ∀ t ∈ bl, SmS t := by
  cases h with
  | mk _ h1 h2 h3 => exact ⟨h1, h2, h3⟩
theorem ExAt.len80 {w : World} {x : Ex} {cs : List Value} (h : ExAt w x cs) : x.sub.length * 80 ≤ 140737488355328 := by
  obtain ⟨A, k, -, h, -⟩ := h.form
  exact h.2.2.1
theorem rowE_one {w : World} {H : Nat} {T : TypeId} {x : Ex} {Ax : Option Addr} {kx : Nat} (hh : w.heap[H]? = some (.cells (ExC x Ax kx).toArray T)) (hx : ExAt w x (ExC x Ax kx)) : RowE w (some ⟨H, 0, none⟩) [x] 1 := by
  refine ⟨Nat.le_refl _, by omega, by show 1 * 80 ≤ 140737488355328; omega, fun _ => ExC x Ax kx, fun _ => ⟨H, 0, rfl, (Array.getElem?_eq_some_iff.1 hh).1, fun i hi j hj => ?_⟩, fun i z hz => ?_⟩
  · have hl1 : (ExC x Ax kx).length = 6 := rfl
    have hi : i < 1 := hi
    obtain rfl : i = 0 := by omega
    show w.cell? ⟨H, 0 * 6 + j, none⟩ = (ExC x Ax kx)[j]?
    rw [Nat.zero_mul, Nat.zero_add]
    exact (heap_cell j ((ExC x Ax kx)[j]'(by omega)) hh (by rw [List.getElem?_toArray, List.getElem?_eq_getElem (by omega)])).trans (List.getElem?_eq_getElem (by omega)).symm
  · rcases i with _ | i
    · simp at hz
      subst hz
      exact hx
    · simp at hz

end Go.Proofs.Ytcamegfnhbbaeaa
