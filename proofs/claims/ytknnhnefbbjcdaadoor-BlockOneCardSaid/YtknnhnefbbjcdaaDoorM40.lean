/- Merged: Statements that fit: what is known of them; an expression that is none. Do statements fit? What the counts are. -/
import Derived.Test.YtknnhnefbbjcdaaDoorTreeI
import Derived.Test.YtknnhnefbbjcdaaDoorM07
import Derived.Test.YtknnhnefbbjcdaaDoorM01
import Derived.Test.YtknnhnefbbjcdaaDoorTreeF
import Derived.Deep.Cut
import Derived.Deep.CutRange
import Derived.Deep.CutBlock
import Derived.Test.YtknnhnefbbjcdaaDoorWild
namespace Go.Proofs.YtknnhnefbbjcdaaDoor
open Go.RowKit
set_option linter.unusedVariables false
set_option linter.unusedSimpArgs false
attribute [local go_sem] ite_max ite_min vite_max vite_min ext_cell ext_frozen

structure NoneX (x : Ex) : Prop where
 op : x.op = 0
 n : x.n = 0
 nm : x.name.size = 0
 fd : x.field.size = 0
 sub : x.sub = []
structure FitS1 (s : Stm) : Prop where
 lo : 1 ≤ s.op
 hi : s.op ≤ 9
 nm : s.name.size ≤ 16
 dst1 : s.op = 1 → (s.dst.op = 3 ∨ s.dst.op = 4) ∧ FitE s.dst
 dst0 : s.op ≠ 1 → NoneX s.dst
 src1 : s.op = 1 ∨ s.op = 3 ∨ s.op = 5 ∨ s.op = 6 → FitE s.src
 src0 : ¬ (s.op = 1 ∨ s.op = 3 ∨ s.op = 5 ∨ s.op = 6) → NoneX s.src
 conds : ∀ x ∈ s.conds, FitE x
 c2 : s.op = 2 → 1 ≤ s.conds.length ∧ s.conds.length ≤ s.blocks.length ∧ s.blocks.length ≤ s.conds.length + 1
 c3 : s.op = 3 → s.labels.length ≤ s.blocks.length ∧ s.blocks.length ≤ s.labels.length + 1
 c4 : s.op = 4 → s.conds.length = 3 ∧ s.blocks.length = 1
 c56 : s.op = 5 ∨ s.op = 6 → s.blocks.length = 1
 c9 : s.op = 9 → s.conds.length = s.fields.length
inductive FitS : Stm → Prop where
 | mk (s : Stm) (h : FitS1 s) (hf : ∀ f ∈ s.fields, f.size ≤ 16) (hl : ∀ l ∈ s.labels, l.length % 2 = 0) (hb : ∀ bl ∈ s.blocks, ∀ t ∈ bl, FitS t) : FitS s

set_option maxRecDepth 100000 in
set_option maxHeartbeats 4000000 in
theorem none_fit (x : Ex) (A : Option Addr) (k : Nat) (w : World) (hs : SmE x) (hl : x.sub.length * 80 ≤ 140737488355328) : Calls Tryd.prog 52 #[.agg (ExC x A k).toArray] w fun e w' => BoolIf (NoneX x) e ∧ Below w.heap.size w w' := by
 show Calls Tryd.prog 52 #[.agg #[.int .i64 x.op, .int .i64 x.n, .string x.name, .string x.field, .slice A x.sub.length k, .int .i64 x.line]] w _
 obtain ⟨op, hop⟩ : ∃ op, x.op = op := ⟨_, rfl⟩
 obtain ⟨n, hn⟩ : ∃ n, x.n = n := ⟨_, rfl⟩
 obtain ⟨a, ha⟩ : ∃ a, x.name = a := ⟨_, rfl⟩
 obtain ⟨b, hb⟩ : ∃ a, x.field = a := ⟨_, rfl⟩
 obtain ⟨c, hc⟩ : ∃ c, x.sub.length = c := ⟨_, rfl⟩
 obtain ⟨h1, h2⟩ := hs
 rw [ha] at h1
 rw [hb] at h2
 rw [hc] at hl
 rw [hop, hn, ha, hb, hc]
 have HOP := Lib.hid hop
 have HN := Lib.hid hn
 have HA := Lib.hid ha
 have HB := Lib.hid hb
 have HC := Lib.hid hc
 clear hop hn ha hb hc
 by_cases h0 : op = 0
 ·subst h0
  by_cases hn0 : n = 0
  ·subst hn0
   by_cases hz : (a.size : Int) + b.size + c = 0
   ·have hz2 : ((a.size : Int) + b.size + c == 0) = true := by simp; omega
    go_enter Tryd.func52, Tryd.ntmps52
    go_wp2
    go_ret
    refine ⟨⟨_, rfl, fun _ => ⟨HOP.out, HN.out, by rw [HA.out]; omega, by rw [HB.out]; omega, List.eq_nil_of_length_eq_zero (by rw [HC.out]; omega)⟩⟩, by exact belowBy⟩
   ·have hz2 : ((a.size : Int) + b.size + c == 0) = false := by simp; omega
    go_enter Tryd.func52, Tryd.ntmps52
    go_wp2
    go_ret
    exact ⟨⟨_, rfl, fun h => by cases h⟩, by exact belowBy⟩
  ·go_enter Tryd.func52, Tryd.ntmps52
   go_wp2
   go_ret
   exact ⟨⟨_, rfl, fun h => by cases h⟩, by exact belowBy⟩
 ·go_enter Tryd.func52, Tryd.ntmps52
  go_wp2
  go_ret
  exact ⟨⟨_, rfl, fun h => by cases h⟩, by exact belowBy⟩

end Go.Proofs.YtknnhnefbbjcdaaDoor

namespace Go.Proofs.YtknnhnefbbjcdaaDoor
open Go.RowKit
set_option linter.unusedVariables false
set_option linter.unusedSimpArgs false
attribute [local go_sem] ite_max ite_min vite_max vite_min ext_cell ext_frozen

def cC (op : Int) (nc nf : Nat) : Nat := if op = 2 then max 1 nc else if op = 4 then 3 else if op = 9 then nf else 0
def cL (op : Int) (nl : Nat) : Nat := if op = 3 then nl else 0
def cF (op : Int) (nf : Nat) : Nat := if op = 9 then nf else 0
def cB (op : Int) (nc nl : Nat) : Nat := if op = 2 then max 1 nc else if op = 3 then nl else if op = 4 ∨ op = 5 ∨ op = 6 then 1 else 0
def cM (op : Int) : Nat := if op = 2 ∨ op = 3 then 1 else 0
theorem SmS.parts {s : Stm} (h : SmS s) : SmE s.dst ∧ SmE s.src ∧ ∀ bl ∈ s.blocks, ∀ t ∈ bl, SmS t := by
 cases h with
 | mk _ h1 h2 h3 => exact ⟨h1, h2, h3⟩
theorem ExAt.len80 {w : World} {x : Ex} {cs : List Value} (h : ExAt w x cs) : x.sub.length * 80 ≤ 140737488355328 := by
 obtain ⟨A, k, -, h, -⟩ := h.form
 exact h.2.2.1
theorem rowE_one {w : World} {H : Nat} {T : TypeId} {x : Ex} {Ax : Option Addr} {kx : Nat} (hh : w.heap[H]? = some (.cells (ExC x Ax kx).toArray T)) (hx : ExAt w x (ExC x Ax kx)) : RowE w (some ⟨H, 0, none⟩) [x] 1 := by
 refine ⟨Nat.le_refl _, by omega, by show 1 * 80 ≤ 140737488355328; omega, fun _ => ExC x Ax kx, fun _ => ⟨H, 0, rfl, (Array.getElem?_eq_some_iff.1 hh).1, fun i hi j hj => ?_⟩, fun i z hz => ?_⟩
 ·have hl1 : (ExC x Ax kx).length = 6 := rfl
  have hi : i < 1 := hi
  obtain rfl : i = 0 := by omega
  show w.cell? ⟨H, 0 * 6 + j, none⟩ = (ExC x Ax kx)[j]?
  rw [Nat.zero_mul, Nat.zero_add]
  exact (heap_cell j ((ExC x Ax kx)[j]'(by omega)) hh (by rw [List.getElem?_toArray, List.getElem?_eq_getElem (by omega)])).trans (List.getElem?_eq_getElem (by omega)).symm
 ·rcases i with _ | i
  ·simp at hz
   subst hz
   exact hx
  ·simp at hz

end Go.Proofs.YtknnhnefbbjcdaaDoor
