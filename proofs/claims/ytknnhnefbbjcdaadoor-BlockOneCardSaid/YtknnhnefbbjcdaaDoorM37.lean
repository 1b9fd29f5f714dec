/- Merged: Layer 22: a program in a variable of its own. Layer 22: rows of numbers that lie anywhere; equal ones are told equal. A copy of a row of numbers that lies anywhere. -/
import Derived.Test.YtknnhnefbbjcdaaDoorTreeN
import Derived.Test.YtknnhnefbbjcdaaDoorM07
import Derived.Test.YtknnhnefbbjcdaaDoorLayK
import Derived.Test.YtknnhnefbbjcdaaDoorM43
import Derived.Test.YtknnhnefbbjcdaaDoorLie
import Derived.Test.YtknnhnefbbjcdaaDoorShelf
namespace Go.Proofs.YtknnhnefbbjcdaaDoor
open Go.RowKit
set_option linter.unusedVariables false
set_option linter.unusedSimpArgs false

theorem varOk_const (v : VarS) (h1 : I64 v.type) (h2 : I64 v.sect) (h3 : I64 v.lo) (h4 : I64 v.hi) (h5 : I64 v.init) (h6 : I64 v.line) : VarAt v v.cells := ⟨rfl, ⟨h1, h2, h3, h4, h5, h6⟩⟩
theorem rowT_nil (w : World) : RowT w none [] 0 := RowOf.nil _ _ _ _ _ _ (by omega)
def PrgC (w : World) (B : Nat) (nm : ByteArray) (Av : Option Addr) (n kv : Nat) (Ab : Option Addr) (nb kb : Nat) : Prop := B < w.heap.size ∧ w.cell? ⟨B, 0, none⟩ = some (.string nm) ∧ w.cell? ⟨B, 1, none⟩ = some (.slice Av n kv) ∧ w.cell? ⟨B, 2, none⟩ = some (.slice Ab nb kb)
theorem PrgC.below {w w' : World} {B : Nat} {nm : ByteArray} {Av : Option Addr} {n kv : Nat} {Ab : Option Addr} {nb kb : Nat} (h : PrgC w B nm Av n kv Ab nb kb) (hb : Below w.heap.size w w') : PrgC w' B nm Av n kv Ab nb kb :=
 ⟨Nat.lt_of_lt_of_le h.1 hb.size, (hb.cell (p := ⟨B, 0, none⟩) h.1).trans h.2.1, (hb.cell (p := ⟨B, 1, none⟩) h.1).trans h.2.2.1, (hb.cell (p := ⟨B, 2, none⟩) h.1).trans h.2.2.2⟩

end Go.Proofs.YtknnhnefbbjcdaaDoor

namespace Go.Proofs.YtknnhnefbbjcdaaDoor
open Go.RowKit
set_option linter.unusedVariables false
set_option linter.unusedSimpArgs false
attribute [local go_sem] ite_max ite_min vite_max vite_min ext_cell ext_frozen extS_cell extS_frozen

def RowN (w : World) (A : Option Addr) (zs : List Int) (cap : Nat) : Prop := zs.length ≤ cap ∧ cap ≤ 9223372036854775807 ∧ ∀ i z, zs[i]? = some z → ∃ b off, A = some ⟨b, off, none⟩ ∧ b < w.heap.size ∧ w.cell? ⟨b, off + i, none⟩ = some (.int .i64 z)
theorem RowN.below {w w' : World} {A : Option Addr} {zs : List Int} {cap : Nat} (h : RowN w A zs cap) (hb : Below w.heap.size w w') : RowN w' A zs cap :=
 ⟨h.1, h.2.1, fun i z hz => by
  obtain ⟨b, off, h1, h2, h3⟩ := h.2.2 i z hz
  exact ⟨b, off, h1, Nat.lt_of_lt_of_le h2 hb.size, (hb.cell (p := ⟨b, _, none⟩) h2).trans h3⟩⟩
theorem rowN_of {w : World} {H : Nat} {T : TypeId} {A : Option Addr} {n c : Nat} {zs : List Int} (h : w.ownsRow H T 1 (.slice A n c) n (intsV .i64 zs)) : RowN w A zs c ∧ n = zs.length := by
 have hl : n = zs.length := by have := h.1; rw [intsV_len] at this; omega
 refine ⟨?_, hl⟩
 rcases h.2 with ⟨h1, h2⟩ | ⟨g, cap, cur, h1, hb, hg, hnc, hcm, hcs, htake⟩
 ·injection h1 with h1 h3 h4
  subst h1 h4
  have : zs = [] := List.eq_nil_of_length_eq_zero (by omega)
  subst this
  exact ⟨Nat.le_refl _, by omega, fun i z hz => by simp at hz⟩
 ·injection h1 with h1 h3 h4
  subst h1 h4
  refine ⟨by omega, by unfold maxLen at hcm; exact hcm, fun i z hz => ⟨g, 0, rfl, (Array.getElem?_eq_some_iff.1 hg).1, ?_⟩⟩
  rw [Nat.zero_add]
  exact owns_cell h rfl (by simp [intsV, hz])



end Go.Proofs.YtknnhnefbbjcdaaDoor

namespace Go.Proofs.YtknnhnefbbjcdaaDoor
open Go.RowKit
set_option linter.unusedVariables false
set_option linter.unusedSimpArgs false
attribute [local go_sem] ite_max ite_min vite_max vite_min ext_cell ext_frozen

theorem own_made (w : World) (T : TypeId) (size : Nat) : (w.alloc (.cells #[] T)).ownsRow w.heap.size T size (.slice (some ⟨w.heap.size, 0, none⟩) 0 0) 0 [] :=
 World.ownsRow_made w #[] 0 (Nat.le_refl _) (by unfold maxLen; omega) (by simp)
theorem RowN.lies {w : World} {A : Option Addr} {zs : List Int} {c n : Nat} (h : RowN w A zs c) (hl : zs.length = n) : Lies w w.heap.size 1 A n (intsV .i64 zs) := by
 refine ⟨by rw [intsV_len, hl, Nat.mul_one], fun hn => ?_⟩
 obtain ⟨b, off, hA, hb, -⟩ := h.2.2 0 zs[0] (List.getElem?_eq_getElem (by omega))
 refine ⟨b, off, hA, hb, fun j u hu => ?_⟩
 simp only [intsV, List.getElem?_map, Option.map_eq_some_iff] at hu
 obtain ⟨z, hz, rfl⟩ := hu
 obtain ⟨b', off', hA', -, hc'⟩ := h.2.2 j z hz
 rw [hA] at hA'
 cases hA'
 exact hc'
theorem wpList_copy {ops : Array Oper} {rest : List Oper} {o : Oper} {a : Act} {Q : Exit → Act → World → Prop} (hgd : o.guard = none) (s x : Operand)
  (ho : o.op = .call { callee := .builtin .append, args := #[s, x], argTypes := #[26, 26] })
  (W : World) (zs : List Int) (A : Option Addr) (n c : Nat) (hs : a.eval s = .slice (some ⟨W.heap.size, 0, none⟩) 0 0) (hx : a.eval x = .slice A n c)
  (hr : RowN W A zs c) (hl : zs.length = n) (hn : n ≤ 16384)
  (h : ∀ A' c' w', w'.ownsRow W.heap.size 2 1 (.slice A' n c') n (intsV .i64 zs) → Below W.heap.size W w' → wpList Tryd.prog ops Q rest (a.put o.dst (.slice A' n c')) w') :
  wpList Tryd.prog ops Q (o :: rest) a (W.alloc (.cells #[] 2)) := by
 obtain ⟨i0, hi0, hz0, hz1, hz2⟩ := info_parts (show (Tryd.prog.info? 2).map (fun i => (i.zero, i.size, i.bytes)) = some (some (.int .i64 0), 1, 8) by kernel_rfl)
 have hb : Below W.heap.size W (W.alloc (.cells #[] 2)) := below_new (Below.refl _ _) (Nat.le_refl _) _
 refine wpList_app _ hgd s x 26 ho W.heap.size 2 i0 (.int .i64 0) 1 8 Tryd.underlying26 hi0 hz0 hz1 hz2 rfl (by decide) _ 0 [] hs (own_made W 2 1) _ A n c (intsV .i64 zs) hx ((hr.lies hl).on hb) (fun u hu => ?_) (by unfold maxLen; omega) (by omega) (by simp) (fun v' w' h1 h2 h3 => ?_)
 ·simp only [intsV, List.mem_map] at hu
  obtain ⟨z, -, rfl⟩ := hu
  rfl
 ·rw [Nat.zero_add, List.nil_append] at h1
  obtain ⟨A', c', rfl, -⟩ := own_form h1
  exact h A' c' w' h1 (below_grown hb h2 (own_made W 2 1) (Nat.le_refl _) (by simp))

set_option maxRecDepth 100000 in
set_option maxHeartbeats 1000000 in
theorem clone_any (zs : List Int) (A : Option Addr) (n c : Nat) (w : World) (hr : RowN w A zs c) (hl : zs.length = n) (hn : n ≤ 16384) :
  Calls Tryd.prog 16 #[.slice A n c] w fun e w' => (∃ v, e = .returned v ∧ w'.ownsRow w.heap.size 2 1 v n (intsV .i64 zs)) ∧ Below w.heap.size w w' := by
 cases A with
 | none =>
  have h0 : zs = [] := by
   cases zs with
   | nil => rfl
   | cons x l =>
    obtain ⟨b, off, h, -⟩ := hr.2.2 0 x rfl
    cases h
  subst h0
  obtain rfl : n = 0 := hl.symm
  refine (Tryd.slices_Clone_nil 0 c w).mono ?_
  rintro e w' ⟨rfl, rfl⟩
  exact ⟨⟨_, rfl, World.ownsRow_nil _ _ _ _⟩, Below.refl _ _⟩
 | some a =>
  have q22 : ∀ (w : World) (a : Option Addr) (n c n' c' : Nat), (binOp .eql 26 (.slice a n c) (.slice none n' c')).run Tryd.prog w = .ok (.bool a.isNone) w := fun w a n c n' c' => Lib.run_eql_slice_nil w _ _ a n c n' c' Tryd.underlying26
  have HR := Lib.hid hr
  have HL := Lib.hid hl
  clear hr hl
  go_enter Tryd.func16, Tryd.ntmps16
  go_wp2_with (at_builtin; refine wpList_copy rfl _ _ rfl w zs (some a) n c rfl rfl HR.out HL.out hn ?_)
  intro A1 k1 w1 hown hb1
  have HO := Lib.hid hown
  have HB := Lib.hid hb1
  clear hown hb1
  go_wp2
  go_ret
  exact ⟨⟨_, rfl, HO.out⟩, HB.out⟩

end Go.Proofs.YtknnhnefbbjcdaaDoor
