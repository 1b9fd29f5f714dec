/- Merged: Layer 16: the table of the standard blocks; the block of a kind, the kind of a name. Layer 16: the block of a kind, the kind of a name. Layer 16: the pins that a row of names tells. Layer 16: the pins of a kind. -/
import Derived.Test.YtknnhnefbbjcdaaDoorBase
import Derived.Test.YtknnhnefbbjcdaaDoorM02
import Derived.Test.YtknnhnefbbjcdaaDoorApp
import Derived.Test.YtknnhnefbbjcdaaDoorLie
import Derived.Test.YtknnhnefbbjcdaaDoorShelf
import Derived.Test.YtknnhnefbbjcdaaDoorWild
namespace Go.Proofs.YtknnhnefbbjcdaaDoor
open Go.RowKit
set_option linter.unusedVariables false
set_option linter.unusedSimpArgs false
attribute [local go_sem] ite_max ite_min vite_max vite_min ext_cell ext_frozen

structure Sh where
 kind : Int
 name : ByteArray
 inp : ByteArray
 out : ByteArray
 inner : Int
def Sh.cells (s : Sh) : List Value := [.int .i64 s.kind, .string s.name, .string s.inp, .string s.out, .int .i64 s.inner]
def shL : List Sh := [⟨10, ⟨#[84, 79, 78]⟩, ⟨#[73, 78, 32, 80, 84, 35]⟩, ⟨#[81, 32, 69, 84, 35]⟩, 0⟩,
 ⟨11, ⟨#[84, 79, 70]⟩, ⟨#[73, 78, 32, 80, 84, 35]⟩, ⟨#[81, 32, 69, 84, 35]⟩, 0⟩,
 ⟨12, ⟨#[84, 80]⟩, ⟨#[73, 78, 32, 80, 84, 35]⟩, ⟨#[81, 32, 69, 84, 35]⟩, 2⟩,
 ⟨13, ⟨#[67, 84, 85]⟩, ⟨#[67, 85, 32, 82, 32, 80, 86, 35]⟩, ⟨#[81, 32, 67, 86, 35]⟩, 1⟩,
 ⟨14, ⟨#[67, 84, 68]⟩, ⟨#[67, 68, 32, 76, 68, 32, 80, 86, 35]⟩, ⟨#[81, 32, 67, 86, 35]⟩, 1⟩,
 ⟨15, ⟨#[82, 95, 84, 82, 73, 71]⟩, ⟨#[67, 76, 75]⟩, ⟨#[81]⟩, 1⟩,
 ⟨16, ⟨#[70, 95, 84, 82, 73, 71]⟩, ⟨#[67, 76, 75]⟩, ⟨#[81]⟩, 1⟩,
 ⟨17, ⟨#[83, 82]⟩, ⟨#[83, 49, 32, 82]⟩, ⟨#[81, 49]⟩, 0⟩,
 ⟨18, ⟨#[82, 83]⟩, ⟨#[83, 32, 82, 49]⟩, ⟨#[81, 49]⟩, 0⟩,
 ⟨20, ⟨#[77, 67, 95, 80, 111, 119, 101, 114]⟩, ⟨#[65, 120, 105, 115, 35, 32, 69, 110, 97, 98, 108, 101]⟩, ⟨#[83, 116, 97, 116, 117, 115, 32, 69, 114, 114, 111, 114]⟩, 0⟩,
 ⟨21, ⟨#[77, 67, 95, 72, 111, 109, 101]⟩, ⟨#[65, 120, 105, 115, 35, 32, 69, 120, 101, 99, 117, 116, 101]⟩, ⟨#[68, 111, 110, 101, 32, 66, 117, 115, 121, 32, 65, 99, 116, 105, 118, 101, 32, 67, 111, 109, 109, 97, 110, 100, 65, 98, 111, 114, 116, 101, 100, 32, 69, 114, 114, 111, 114]⟩, 2⟩,
 ⟨22, ⟨#[77, 67, 95, 83, 116, 111, 112]⟩, ⟨#[65, 120, 105, 115, 35, 32, 69, 120, 101, 99, 117, 116, 101]⟩, ⟨#[68, 111, 110, 101, 32, 66, 117, 115, 121, 32, 65, 99, 116, 105, 118, 101, 32, 67, 111, 109, 109, 97, 110, 100, 65, 98, 111, 114, 116, 101, 100, 32, 69, 114, 114, 111, 114]⟩, 2⟩,
 ⟨23, ⟨#[77, 67, 95, 72, 97, 108, 116]⟩, ⟨#[65, 120, 105, 115, 35, 32, 69, 120, 101, 99, 117, 116, 101]⟩, ⟨#[68, 111, 110, 101, 32, 66, 117, 115, 121, 32, 65, 99, 116, 105, 118, 101, 32, 67, 111, 109, 109, 97, 110, 100, 65, 98, 111, 114, 116, 101, 100, 32, 69, 114, 114, 111, 114]⟩, 2⟩,
 ⟨24, ⟨#[77, 67, 95, 77, 111, 118, 101, 65, 98, 115, 111, 108, 117, 116, 101]⟩, ⟨#[65, 120, 105, 115, 35, 32, 69, 120, 101, 99, 117, 116, 101, 32, 80, 111, 115, 105, 116, 105, 111, 110, 35, 32, 86, 101, 108, 111, 99, 105, 116, 121, 35, 32, 66, 117, 102, 102, 101, 114, 77, 111, 100, 101, 35]⟩, ⟨#[68, 111, 110, 101, 32, 66, 117, 115, 121, 32, 65, 99, 116, 105, 118, 101, 32, 67, 111, 109, 109, 97, 110, 100, 65, 98, 111, 114, 116, 101, 100, 32, 69, 114, 114, 111, 114]⟩, 2⟩,
 ⟨25, ⟨#[77, 67, 95, 77, 111, 118, 101, 82, 101, 108, 97, 116, 105, 118, 101]⟩, ⟨#[65, 120, 105, 115, 35, 32, 69, 120, 101, 99, 117, 116, 101, 32, 68, 105, 115, 116, 97, 110, 99, 101, 35, 32, 86, 101, 108, 111, 99, 105, 116, 121, 35, 32, 66, 117, 102, 102, 101, 114, 77, 111, 100, 101, 35]⟩, ⟨#[68, 111, 110, 101, 32, 66, 117, 115, 121, 32, 65, 99, 116, 105, 118, 101, 32, 67, 111, 109, 109, 97, 110, 100, 65, 98, 111, 114, 116, 101, 100, 32, 69, 114, 114, 111, 114]⟩, 2⟩,
 ⟨26, ⟨#[77, 67, 95, 77, 111, 118, 101, 65, 100, 100, 105, 116, 105, 118, 101]⟩, ⟨#[65, 120, 105, 115, 35, 32, 69, 120, 101, 99, 117, 116, 101, 32, 68, 105, 115, 116, 97, 110, 99, 101, 35, 32, 86, 101, 108, 111, 99, 105, 116, 121, 35, 32, 66, 117, 102, 102, 101, 114, 77, 111, 100, 101, 35]⟩, ⟨#[68, 111, 110, 101, 32, 66, 117, 115, 121, 32, 65, 99, 116, 105, 118, 101, 32, 67, 111, 109, 109, 97, 110, 100, 65, 98, 111, 114, 116, 101, 100, 32, 69, 114, 114, 111, 114]⟩, 2⟩,
 ⟨27, ⟨#[77, 67, 95, 77, 111, 118, 101, 86, 101, 108, 111, 99, 105, 116, 121]⟩, ⟨#[65, 120, 105, 115, 35, 32, 69, 120, 101, 99, 117, 116, 101, 32, 86, 101, 108, 111, 99, 105, 116, 121, 35]⟩, ⟨#[73, 110, 86, 101, 108, 111, 99, 105, 116, 121, 32, 66, 117, 115, 121, 32, 65, 99, 116, 105, 118, 101, 32, 67, 111, 109, 109, 97, 110, 100, 65, 98, 111, 114, 116, 101, 100, 32, 69, 114, 114, 111, 114]⟩, 2⟩,
 ⟨28, ⟨#[77, 67, 95, 71, 101, 97, 114, 73, 110]⟩, ⟨#[65, 120, 105, 115, 35, 32, 69, 120, 101, 99, 117, 116, 101, 32, 77, 97, 115, 116, 101, 114, 35, 32, 78, 117, 109, 101, 114, 97, 116, 111, 114, 35, 32, 68, 101, 110, 111, 109, 105, 110, 97, 116, 111, 114, 35]⟩, ⟨#[73, 110, 71, 101, 97, 114, 32, 66, 117, 115, 121, 32, 65, 99, 116, 105, 118, 101, 32, 67, 111, 109, 109, 97, 110, 100, 65, 98, 111, 114, 116, 101, 100, 32, 69, 114, 114, 111, 114]⟩, 2⟩,
 ⟨29, ⟨#[77, 67, 95, 82, 101, 115, 101, 116]⟩, ⟨#[65, 120, 105, 115, 35, 32, 69, 120, 101, 99, 117, 116, 101]⟩, ⟨#[68, 111, 110, 101, 32, 69, 114, 114, 111, 114]⟩, 1⟩,
 ⟨30, ⟨#[77, 67, 95, 83, 101, 116, 80, 111, 115, 105, 116, 105, 111, 110]⟩, ⟨#[65, 120, 105, 115, 35, 32, 69, 120, 101, 99, 117, 116, 101, 32, 80, 111, 115, 105, 116, 105, 111, 110, 35]⟩, ⟨#[68, 111, 110, 101, 32, 69, 114, 114, 111, 114]⟩, 1⟩,
 ⟨31, ⟨#[77, 67, 95, 83, 101, 116, 79, 118, 101, 114, 114, 105, 100, 101]⟩, ⟨#[65, 120, 105, 115, 35, 32, 69, 110, 97, 98, 108, 101, 32, 80, 101, 114, 99, 101, 110, 116, 35]⟩, ⟨#[69, 110, 97, 98, 108, 101, 100]⟩, 0⟩]
def shC : List Value := [.int .i64 10, .string ⟨#[84, 79, 78]⟩, .string ⟨#[73, 78, 32, 80, 84, 35]⟩, .string ⟨#[81, 32, 69, 84, 35]⟩, .int .i64 0,
 .int .i64 11, .string ⟨#[84, 79, 70]⟩, .string ⟨#[73, 78, 32, 80, 84, 35]⟩, .string ⟨#[81, 32, 69, 84, 35]⟩, .int .i64 0,
 .int .i64 12, .string ⟨#[84, 80]⟩, .string ⟨#[73, 78, 32, 80, 84, 35]⟩, .string ⟨#[81, 32, 69, 84, 35]⟩, .int .i64 2,
 .int .i64 13, .string ⟨#[67, 84, 85]⟩, .string ⟨#[67, 85, 32, 82, 32, 80, 86, 35]⟩, .string ⟨#[81, 32, 67, 86, 35]⟩, .int .i64 1,
 .int .i64 14, .string ⟨#[67, 84, 68]⟩, .string ⟨#[67, 68, 32, 76, 68, 32, 80, 86, 35]⟩, .string ⟨#[81, 32, 67, 86, 35]⟩, .int .i64 1,
 .int .i64 15, .string ⟨#[82, 95, 84, 82, 73, 71]⟩, .string ⟨#[67, 76, 75]⟩, .string ⟨#[81]⟩, .int .i64 1,
 .int .i64 16, .string ⟨#[70, 95, 84, 82, 73, 71]⟩, .string ⟨#[67, 76, 75]⟩, .string ⟨#[81]⟩, .int .i64 1,
 .int .i64 17, .string ⟨#[83, 82]⟩, .string ⟨#[83, 49, 32, 82]⟩, .string ⟨#[81, 49]⟩, .int .i64 0,
 .int .i64 18, .string ⟨#[82, 83]⟩, .string ⟨#[83, 32, 82, 49]⟩, .string ⟨#[81, 49]⟩, .int .i64 0,
 .int .i64 20, .string ⟨#[77, 67, 95, 80, 111, 119, 101, 114]⟩, .string ⟨#[65, 120, 105, 115, 35, 32, 69, 110, 97, 98, 108, 101]⟩, .string ⟨#[83, 116, 97, 116, 117, 115, 32, 69, 114, 114, 111, 114]⟩, .int .i64 0,
 .int .i64 21, .string ⟨#[77, 67, 95, 72, 111, 109, 101]⟩, .string ⟨#[65, 120, 105, 115, 35, 32, 69, 120, 101, 99, 117, 116, 101]⟩, .string ⟨#[68, 111, 110, 101, 32, 66, 117, 115, 121, 32, 65, 99, 116, 105, 118, 101, 32, 67, 111, 109, 109, 97, 110, 100, 65, 98, 111, 114, 116, 101, 100, 32, 69, 114, 114, 111, 114]⟩, .int .i64 2,
 .int .i64 22, .string ⟨#[77, 67, 95, 83, 116, 111, 112]⟩, .string ⟨#[65, 120, 105, 115, 35, 32, 69, 120, 101, 99, 117, 116, 101]⟩, .string ⟨#[68, 111, 110, 101, 32, 66, 117, 115, 121, 32, 65, 99, 116, 105, 118, 101, 32, 67, 111, 109, 109, 97, 110, 100, 65, 98, 111, 114, 116, 101, 100, 32, 69, 114, 114, 111, 114]⟩, .int .i64 2,
 .int .i64 23, .string ⟨#[77, 67, 95, 72, 97, 108, 116]⟩, .string ⟨#[65, 120, 105, 115, 35, 32, 69, 120, 101, 99, 117, 116, 101]⟩, .string ⟨#[68, 111, 110, 101, 32, 66, 117, 115, 121, 32, 65, 99, 116, 105, 118, 101, 32, 67, 111, 109, 109, 97, 110, 100, 65, 98, 111, 114, 116, 101, 100, 32, 69, 114, 114, 111, 114]⟩, .int .i64 2,
 .int .i64 24, .string ⟨#[77, 67, 95, 77, 111, 118, 101, 65, 98, 115, 111, 108, 117, 116, 101]⟩, .string ⟨#[65, 120, 105, 115, 35, 32, 69, 120, 101, 99, 117, 116, 101, 32, 80, 111, 115, 105, 116, 105, 111, 110, 35, 32, 86, 101, 108, 111, 99, 105, 116, 121, 35, 32, 66, 117, 102, 102, 101, 114, 77, 111, 100, 101, 35]⟩, .string ⟨#[68, 111, 110, 101, 32, 66, 117, 115, 121, 32, 65, 99, 116, 105, 118, 101, 32, 67, 111, 109, 109, 97, 110, 100, 65, 98, 111, 114, 116, 101, 100, 32, 69, 114, 114, 111, 114]⟩, .int .i64 2,
 .int .i64 25, .string ⟨#[77, 67, 95, 77, 111, 118, 101, 82, 101, 108, 97, 116, 105, 118, 101]⟩, .string ⟨#[65, 120, 105, 115, 35, 32, 69, 120, 101, 99, 117, 116, 101, 32, 68, 105, 115, 116, 97, 110, 99, 101, 35, 32, 86, 101, 108, 111, 99, 105, 116, 121, 35, 32, 66, 117, 102, 102, 101, 114, 77, 111, 100, 101, 35]⟩, .string ⟨#[68, 111, 110, 101, 32, 66, 117, 115, 121, 32, 65, 99, 116, 105, 118, 101, 32, 67, 111, 109, 109, 97, 110, 100, 65, 98, 111, 114, 116, 101, 100, 32, 69, 114, 114, 111, 114]⟩, .int .i64 2,
 .int .i64 26, .string ⟨#[77, 67, 95, 77, 111, 118, 101, 65, 100, 100, 105, 116, 105, 118, 101]⟩, .string ⟨#[65, 120, 105, 115, 35, 32, 69, 120, 101, 99, 117, 116, 101, 32, 68, 105, 115, 116, 97, 110, 99, 101, 35, 32, 86, 101, 108, 111, 99, 105, 116, 121, 35, 32, 66, 117, 102, 102, 101, 114, 77, 111, 100, 101, 35]⟩, .string ⟨#[68, 111, 110, 101, 32, 66, 117, 115, 121, 32, 65, 99, 116, 105, 118, 101, 32, 67, 111, 109, 109, 97, 110, 100, 65, 98, 111, 114, 116, 101, 100, 32, 69, 114, 114, 111, 114]⟩, .int .i64 2,
 .int .i64 27, .string ⟨#[77, 67, 95, 77, 111, 118, 101, 86, 101, 108, 111, 99, 105, 116, 121]⟩, .string ⟨#[65, 120, 105, 115, 35, 32, 69, 120, 101, 99, 117, 116, 101, 32, 86, 101, 108, 111, 99, 105, 116, 121, 35]⟩, .string ⟨#[73, 110, 86, 101, 108, 111, 99, 105, 116, 121, 32, 66, 117, 115, 121, 32, 65, 99, 116, 105, 118, 101, 32, 67, 111, 109, 109, 97, 110, 100, 65, 98, 111, 114, 116, 101, 100, 32, 69, 114, 114, 111, 114]⟩, .int .i64 2,
 .int .i64 28, .string ⟨#[77, 67, 95, 71, 101, 97, 114, 73, 110]⟩, .string ⟨#[65, 120, 105, 115, 35, 32, 69, 120, 101, 99, 117, 116, 101, 32, 77, 97, 115, 116, 101, 114, 35, 32, 78, 117, 109, 101, 114, 97, 116, 111, 114, 35, 32, 68, 101, 110, 111, 109, 105, 110, 97, 116, 111, 114, 35]⟩, .string ⟨#[73, 110, 71, 101, 97, 114, 32, 66, 117, 115, 121, 32, 65, 99, 116, 105, 118, 101, 32, 67, 111, 109, 109, 97, 110, 100, 65, 98, 111, 114, 116, 101, 100, 32, 69, 114, 114, 111, 114]⟩, .int .i64 2,
 .int .i64 29, .string ⟨#[77, 67, 95, 82, 101, 115, 101, 116]⟩, .string ⟨#[65, 120, 105, 115, 35, 32, 69, 120, 101, 99, 117, 116, 101]⟩, .string ⟨#[68, 111, 110, 101, 32, 69, 114, 114, 111, 114]⟩, .int .i64 1,
 .int .i64 30, .string ⟨#[77, 67, 95, 83, 101, 116, 80, 111, 115, 105, 116, 105, 111, 110]⟩, .string ⟨#[65, 120, 105, 115, 35, 32, 69, 120, 101, 99, 117, 116, 101, 32, 80, 111, 115, 105, 116, 105, 111, 110, 35]⟩, .string ⟨#[68, 111, 110, 101, 32, 69, 114, 114, 111, 114]⟩, .int .i64 1,
 .int .i64 31, .string ⟨#[77, 67, 95, 83, 101, 116, 79, 118, 101, 114, 114, 105, 100, 101]⟩, .string ⟨#[65, 120, 105, 115, 35, 32, 69, 110, 97, 98, 108, 101, 32, 80, 101, 114, 99, 101, 110, 116, 35]⟩, .string ⟨#[69, 110, 97, 98, 108, 101, 100]⟩, .int .i64 0]
theorem shC_len : shC.length = 105 := by kernel_rfl
theorem shL_len : shL.length = 21 := by kernel_rfl
theorem shC_flat : shC = shL.flatMap Sh.cells := by kernel_rfl

theorem flat_get {α : Type} (f : α → List Value) (n : Nat) (hf : ∀ x, (f x).length = n) : ∀ (l : List α) (i : Nat) (x : α), l[i]? = some x → ∀ j, j < n → (l.flatMap f)[i * n + j]? = (f x)[j]?
 | [], i, x, h, _, _ => by simp at h
 | y :: l, 0, x, h, j, hj => by
  simp at h
  subst h
  rw [List.flatMap_cons, Nat.zero_mul, Nat.zero_add, List.getElem?_append_left (by rw [hf]; exact hj)]
 | y :: l, i + 1, x, h, j, hj => by
  simp at h
  rw [List.flatMap_cons, List.getElem?_append_right (by rw [hf, Nat.succ_mul]; omega), hf, show (i + 1) * n + j - n = i * n + j by rw [Nat.succ_mul]; omega]
  exact flat_get f n hf l i x h j hj

def ShAt (b : Nat) (w : World) : Prop := ∀ i s, shL[i]? = some s → ∀ j, j < 5 → w.cell? ⟨b, i * 5 + j, none⟩ = s.cells[j]?
theorem ShAt.of {b : Nat} {w : World} {T : TypeId} (h : w.heap[b]? = some (.cells shC.toArray T)) : ShAt b w := by
 intro i s hs j hj
 have h1 := flat_get Sh.cells 5 (fun _ => rfl) shL i s hs j hj
 rw [← shC_flat] at h1
 obtain ⟨u, hu⟩ : ∃ u, s.cells[j]? = some u := ⟨s.cells[j]'(by show j < 5; exact hj), List.getElem?_eq_getElem _⟩
 rw [hu] at h1 ⊢
 exact heap_cell _ _ h (by rw [List.getElem?_toArray]; exact h1)
theorem ShAt.below {b : Nat} {w w' : World} (h : ShAt b w) (hl : b < w.heap.size) (hb : Below w.heap.size w w') : ShAt b w' :=
 fun i s hs j hj => (hb.cell (p := ⟨b, _, none⟩) hl).trans (h i s hs j hj)

set_option maxRecDepth 100000 in
set_option maxHeartbeats 2000000 in
theorem sheets_any (w : World) : Calls Tryd.prog 62 #[] w fun e w' => e = .returned (.slice (some ⟨w.heap.size, 0, none⟩) 21 21) ∧ Below w.heap.size w w' ∧ ShAt w.heap.size w' ∧ w.heap.size < w'.heap.size := by
 go_enter Tryd.func62, Tryd.ntmps62
 go_wp2
 go_ret
 refine ⟨rfl, by exact belowBy, ShAt.of (heap_alloc_new w _), by simp⟩

def findI (p : Sh → Bool) : Int := match shL.findIdx? p with | some i => (i : Int) | none => -1
theorem findI_some (p : Sh → Bool) (i : Nat) (s : Sh) (hs : shL[i]? = some s) (hp : p s = true) (hn : ∀ j, j < i → ∀ t, shL[j]? = some t → p t = false) : findI p = (i : Int) := by
 obtain ⟨hi, hs2⟩ := List.getElem?_eq_some_iff.1 hs
 have : shL.findIdx? p = some i := by
  rw [List.findIdx?_eq_some_iff_getElem]
  refine ⟨hi, by rw [hs2]; exact hp, fun j hj => ?_⟩
  have := hn j hj _ (List.getElem?_eq_getElem (by omega))
  simp [this]
 unfold findI
 rw [this]
theorem findI_none (p : Sh → Bool) (hn : ∀ j, j < 21 → ∀ t, shL[j]? = some t → p t = false) : findI p = -1 := by
 have : shL.findIdx? p = none := by
  rw [List.findIdx?_eq_none_iff]
  intro x hx
  obtain ⟨j, hj⟩ := List.getElem?_of_mem hx
  have hj2 := (List.getElem?_eq_some_iff.1 hj).1
  rw [shL_len] at hj2
  rw [hn j hj2 x hj]
 unfold findI
 rw [this]

set_option maxRecDepth 100000 in
set_option maxHeartbeats 2000000 in
theorem ix_sheet (F : FuncId) (caps : Array Value) (p : Sh → Bool) (b : Nat) (w : World) (hb : b < w.heap.size) (hc : ShAt b w)
  (hcf : ∀ (args : Array Value) (w : World), Sem.run Tryd.prog (callFunc F args) w = .ok (.enter F args) w)
  (hF : ∀ (s : Sh) w', Below w.heap.size w w' → Calls Tryd.prog F (#[.agg #[.int .i64 s.kind, .string s.name, .string s.inp, .string s.out, .int .i64 s.inner]] ++ caps) w' fun e w'' => e = .returned (.bool (p s)) ∧ Below w'.heap.size w' w'') :
  Calls Tryd.prog 63 #[.slice (some ⟨b, 0, none⟩) 21 21, .func (.func F) #[] caps] w fun e w' => e = .returned (.int .i64 (findI p)) ∧ Below w.heap.size w w' := by
 have HF := Lib.hid hF
 have HC := Lib.hid hc
 clear hF hc
 go_enter Tryd.func63, Tryd.ntmps63
 go_wp2_with fail
 go_loopw [8] (fun u wr => ∃ k : Nat, k ≤ 21 ∧ u = .int .i64 k ∧ Hid (∀ j, j < k → ∀ t, shL[j]? = some t → p t = false) ∧ Below w.heap.size w wr) (fun u _ => 21 - (intOf u).toNat)
 case atStart => exact ⟨0, by omega, rfl, Lib.hid (fun j hj => by omega), Below.refl _ _⟩
 case round =>
  obtain ⟨k, hk, rfl, HK, hbr⟩ := hrel
  by_cases hlt : k < 21
  ·obtain ⟨s, hs⟩ : ∃ s, shL[k]? = some s := ⟨shL[k]'(by rw [shL_len]; exact hlt), List.getElem?_eq_getElem _⟩
   have hcells := HC.out.below hb hbr k s hs
   have c0 : wr.cell? ⟨b, k * 5, none⟩ = some (.int .i64 s.kind) := hcells 0 (by omega)
   have c1 : wr.cell? ⟨b, k * 5 + 1, none⟩ = some (.string s.name) := hcells 1 (by omega)
   have c2 : wr.cell? ⟨b, k * 5 + 2, none⟩ = some (.string s.inp) := hcells 2 (by omega)
   have c3 : wr.cell? ⟨b, k * 5 + 3, none⟩ = some (.string s.out) := hcells 3 (by omega)
   have c4 : wr.cell? ⟨b, k * 5 + 4, none⟩ = some (.int .i64 s.inner) := hcells 4 (by omega)
   have hk0 : (0 : Int) ≤ (k : Int) := by omega
   have hkn : (k : Int) < 21 := by omega
   have HS := Lib.hid hs
   clear hs hcells
   have HFk := HF.out s wr hbr
   cases hp : p s
   ·rw [hp] at HFk
    have HP := Lib.hid hp
    have HF2 := Lib.hid HFk
    clear hp HFk
    go_wp2_with fail
    refine HF2.out.mono ?_
    rintro e w' ⟨rfl, hb2⟩
    go_wp2
    go_roundw
    case rel =>
     refine ⟨k + 1, by omega, by go_num, Lib.hid (fun j hj t ht => ?_), by exact belowBy⟩
     rcases Nat.lt_succ_iff_lt_or_eq.1 hj with h | rfl
     ·exact HK.out j h t ht
     ·rw [HS.out] at ht
      cases ht
      exact HP.out
    case measure => simp [intOf]; omega
   ·rw [hp] at HFk
    have HP := Lib.hid hp
    have HF2 := Lib.hid HFk
    clear hp HFk
    go_wp2_with fail
    refine HF2.out.mono ?_
    rintro e w' ⟨rfl, hb2⟩
    go_wp2
    go_ret
    rw [findI_some p k s HS.out HP.out HK.out]
    exact ⟨rfl, by exact belowBy⟩
  ·obtain rfl : k = 21 := by omega
   go_wp2
   go_ret
   rw [findI_none p HK.out]
   exact ⟨rfl, by exact belowBy⟩

end Go.Proofs.YtknnhnefbbjcdaaDoor

namespace Go.Proofs.YtknnhnefbbjcdaaDoor
open Go.RowKit
set_option linter.unusedVariables false
set_option linter.unusedSimpArgs false
attribute [local go_sem] ite_max ite_min vite_max vite_min ext_cell ext_frozen

theorem cf_of1 (args : Array Value) (w : World) : Sem.run Tryd.prog (callFunc 64 args) w = .ok (.enter 64 args) w := by
 go_simp



set_option maxHeartbeats 1000000 in
theorem of1_any (s : Sh) (c : Nat) (kind : Int) (w : World) (hc : w.cell? ⟨c, 0, none⟩ = some (.int .i64 kind)) (hl : c < w.heap.size) :
  Calls Tryd.prog 64 #[.agg #[.int .i64 s.kind, .string s.name, .string s.inp, .string s.out, .int .i64 s.inner], .pointer (some ⟨c, 0, none⟩)] w fun e w' => e = .returned (.bool (decide (s.kind = kind))) ∧ Below w.heap.size w w' := by
 go_enter Tryd.func64, Tryd.ntmps64
 go_wp2
 go_ret
 exact ⟨rfl, by exact belowBy⟩



def ofV (kind : Int) : Value := match shL.find? (fun s => decide (s.kind = kind)) with
 | some s => .tuple #[.agg s.cells.toArray, .bool true]
 | none => .tuple #[.agg #[.int .i64 0, .string ⟨#[]⟩, .string ⟨#[]⟩, .string ⟨#[]⟩, .int .i64 0], .bool false]
theorem ofV_some {kind : Int} {s : Sh} (h : shL.find? (fun s => decide (s.kind = kind)) = some s) : ofV kind = .tuple #[.agg #[.int .i64 s.kind, .string s.name, .string s.inp, .string s.out, .int .i64 s.inner], .bool true] := by
 unfold ofV
 rw [h]
 rfl
theorem ofV_none {kind : Int} (h : shL.find? (fun s => decide (s.kind = kind)) = none) : ofV kind = .tuple #[.agg #[.int .i64 0, .string ⟨#[]⟩, .string ⟨#[]⟩, .string ⟨#[]⟩, .int .i64 0], .bool false] := by
 unfold ofV
 rw [h]
theorem findI_cases (p : Sh → Bool) : (∃ (i : Nat) (s : Sh), findI p = (i : Int) ∧ i < 21 ∧ shL[i]? = some s ∧ shL.find? p = some s) ∨ (findI p = -1 ∧ shL.find? p = none) := by
 unfold findI
 cases h : shL.findIdx? p with
 | none =>
  refine Or.inr ⟨rfl, ?_⟩
  rw [List.findIdx?_eq_none_iff] at h
  rw [List.find?_eq_none]
  intro x hx
  simp [h x hx]
 | some i =>
  have h' := h
  rw [List.findIdx?_eq_some_iff_getElem] at h
  obtain ⟨hi, hp, hn⟩ := h
  refine Or.inl ⟨i, shL[i], rfl, by rw [shL_len] at hi; exact hi, List.getElem?_eq_getElem hi, ?_⟩
  rw [List.find?_eq_some_iff_getElem]
  refine ⟨hp, i, hi, rfl, fun j hj => ?_⟩
  have := hn j hj
  simp only [Bool.not_eq_true] at this
  simp [this]

set_option maxRecDepth 100000 in
set_option maxHeartbeats 2000000 in
theorem of_any (kind : Int) (w : World) : Calls Tryd.prog 55 #[.int .i64 kind] w fun e w' => e = .returned (ofV kind) ∧ Below w.heap.size w w' := by
 have HFI := Lib.hid (findI_cases fun s => decide (s.kind = kind))
 have hP : ∃ p : Sh → Bool, p = fun s => decide (s.kind = kind) := ⟨_, rfl⟩
 obtain ⟨p, hp⟩ := hP
 rw [← hp] at HFI
 have HP := Lib.hid hp
 clear hp
 go_enter Tryd.func55, Tryd.ntmps55
 go_wp2_with fail
 refine (sheets_any _).mono ?_
 rintro e w1 ⟨rfl, hb1, hs1, hl1⟩
 have hz : w.heap.size + 2 < w1.heap.size := by simpa using hl1
 obtain ⟨b, hb⟩ : ∃ b, b = w.heap.size + 2 := ⟨_, rfl⟩
 have hs1' : ShAt b w1 := by
  rw [hb]
  simpa using hs1
 obtain ⟨hb1c, hb1f⟩ := bcell hb1
 have hb1z := hb1.size
 have hb1c0 := fun o => hb1c (w.heap.size) o (by first | (simp; done) | (simp; omega) | (simp at *; omega) | omega)
 have hb1f0 := fun o => hb1f (w.heap.size) o (by first | (simp; done) | (simp; omega) | (simp at *; omega) | omega)
 have hb1l0 := below_lt (b := w.heap.size) hb1 (by first | (simp; done) | (simp; omega) | (simp at *; omega) | omega)
 have hb1c1 := fun o => hb1c (w.heap.size + 1) o (by first | (simp; done) | (simp; omega) | (simp at *; omega) | omega)
 have hb1f1 := fun o => hb1f (w.heap.size + 1) o (by first | (simp; done) | (simp; omega) | (simp at *; omega) | omega)
 have hb1l1 := below_lt (b := w.heap.size + 1) hb1 (by first | (simp; done) | (simp; omega) | (simp at *; omega) | omega)
 have HS1 := Lib.hid hs1'
 clear hs1 hs1'
 go_wp2_with fail
 subst hb
 rw [show w.heap.size + 1 + 1 = w.heap.size + 2 from rfl]
 refine (ix_sheet 64 _ p (w.heap.size + 2) w1 (by omega) HS1.out cf_of1 (fun s w' hb' => ?_)).mono ?_
 ·rw [HP.out]
  refine of1_any s w.heap.size kind w' ?_ ?_
  ·rw [hb'.cell (p := ⟨w.heap.size, 0, none⟩) (by show w.heap.size < w1.heap.size; omega), hb1c0]
   go_simp
  ·have := hb'.size
   omega
 rintro e w2 ⟨rfl, hb2⟩
 rcases HFI.out with ⟨i, s, hi, hi21, hs, hf⟩ | ⟨hi, hf⟩
 ·rw [hi]
  have hcells := HS1.out.below (by omega) hb2 i s hs
  have c0 : w2.cell? ⟨w.heap.size + 2, i * 5, none⟩ = some (.int .i64 s.kind) := hcells 0 (by omega)
  have c1 : w2.cell? ⟨w.heap.size + 2, i * 5 + 1, none⟩ = some (.string s.name) := hcells 1 (by omega)
  have c2 : w2.cell? ⟨w.heap.size + 2, i * 5 + 2, none⟩ = some (.string s.inp) := hcells 2 (by omega)
  have c3 : w2.cell? ⟨w.heap.size + 2, i * 5 + 3, none⟩ = some (.string s.out) := hcells 3 (by omega)
  have c4 : w2.cell? ⟨w.heap.size + 2, i * 5 + 4, none⟩ = some (.int .i64 s.inner) := hcells 4 (by omega)
  have hk0 : (0 : Int) ≤ (i : Int) := by omega
  have hkn : (i : Int) < 21 := by omega
  have hno : ¬ ((i : Int) < 0) := by omega
  have hV := ofV_some (kind := kind) (s := s) (by rw [← HP.out]; exact hf)
  have HV := Lib.hid hV
  obtain ⟨hb2c, hb2f⟩ := bcell hb2
  have hb2z := hb2.size
  have hb2c0 := fun o => hb2c (w.heap.size + 1) o (by first | (simp; done) | (simp; omega) | (simp at *; omega) | omega)
  have hb2f0 := fun o => hb2f (w.heap.size + 1) o (by first | (simp; done) | (simp; omega) | (simp at *; omega) | omega)
  have hb2l0 := below_lt (b := w.heap.size + 1) hb2 (by first | (simp; done) | (simp; omega) | (simp at *; omega) | omega)
  clear hcells hs hi hf HFI hV
  go_wp2
  refine bodyPost_ret (v := .tuple #[.agg #[.int .i64 s.kind, .string s.name, .string s.inp, .string s.out, .int .i64 s.inner], .bool true]) ?_ rfl ⟨?_, ?_⟩
  ·simp [results, Tryd.results55, go_sem, hb2c0, hb1c1, hb2f0, hb1f1]
  ·rw [HV.out]
  ·exact belowBy
 ·rw [hi]
  have hV := ofV_none (kind := kind) (by rw [← HP.out]; exact hf)
  have HV := Lib.hid hV
  obtain ⟨hb2c, hb2f⟩ := bcell hb2
  have hb2z := hb2.size
  have hb2c0 := fun o => hb2c (w.heap.size + 1) o (by first | (simp; done) | (simp; omega) | (simp at *; omega) | omega)
  have hb2f0 := fun o => hb2f (w.heap.size + 1) o (by first | (simp; done) | (simp; omega) | (simp at *; omega) | omega)
  have hb2l0 := below_lt (b := w.heap.size + 1) hb2 (by first | (simp; done) | (simp; omega) | (simp at *; omega) | omega)
  clear hi hf HFI hV
  go_wp2
  refine bodyPost_ret (v := .tuple #[.agg #[.int .i64 0, .string ⟨#[]⟩, .string ⟨#[]⟩, .string ⟨#[]⟩, .int .i64 0], .bool false]) ?_ rfl ⟨?_, ?_⟩
  ·simp [results, Tryd.results55, go_sem, hb2c0, hb1c1, hb2f0, hb1f1]
  ·rw [HV.out]
  ·exact belowBy

end Go.Proofs.YtknnhnefbbjcdaaDoor

namespace Go.Proofs.YtknnhnefbbjcdaaDoor
open Go.RowKit
set_option linter.unusedVariables false
set_option linter.unusedSimpArgs false
attribute [local go_sem] ite_max ite_min vite_max vite_min ext_cell ext_frozen

def hashB (l : List UInt8) : Bool := Lib.hasSuffix l [35]
def pinOf (inn : Bool) (l : List UInt8) : List Value := bif hashB l then [.string ⟨(Lib.trimSuffix l [35]).toArray⟩, .int .i64 1, .bool inn] else [.string ⟨l.toArray⟩, .int .i64 2, .bool inn]
theorem pinOf_len (inn : Bool) (l : List UInt8) : (pinOf inn l).length = 3 := by unfold pinOf; cases hashB l <;> rfl
theorem pinOf_one (inn : Bool) (l : List UInt8) : ∀ u ∈ pinOf inn l, u.oneCell' = true := by
 intro u hu
 unfold pinOf at hu
 cases h : hashB l <;> rw [h] at hu <;> simp only [cond_true, cond_false, List.mem_cons, List.not_mem_nil, or_false] at hu <;> rcases hu with rfl | rfl | rfl <;> rfl
def pinsK (inn : Bool) (fs : List (List UInt8)) (k : Nat) : List Value := (fs.take k).flatMap (pinOf inn)
theorem pinsK_succ (inn : Bool) (fs : List (List UInt8)) (k : Nat) (l : List UInt8) (h : fs[k]? = some l) : pinsK inn fs (k + 1) = pinsK inn fs k ++ pinOf inn l := by
 unfold pinsK
 obtain ⟨hk, rfl⟩ := List.getElem?_eq_some_iff.1 h
 rw [List.take_succ_eq_append_getElem hk, List.flatMap_append]
 simp
theorem owns_mono {w : World} {base base' : Nat} {e : TypeId} {size : Nat} {v : Value} {n : Nat} {xs : List Value} (h : w.ownsRow base e size v n xs) (hb : base' ≤ base) : w.ownsRow base' e size v n xs :=
 ⟨h.1, h.2.imp id fun ⟨g, cap, cur, h1, h2, h3⟩ => ⟨g, cap, cur, h1, Nat.le_trans hb h2, h3⟩⟩
theorem heap_new_at (w : World) (o : Obj) {n : Nat} (h : n = w.heap.size) : (w.alloc o).heap[n]? = some o := by
 subst h
 exact heap_alloc_new w o
def pinsC (inn : Bool) (names : ByteArray) : List Value := (Lib.fields names.data.toList).flatMap (pinOf inn)
def pinsN (names : ByteArray) : Nat := (Lib.fields names.data.toList).length
theorem pinsK_all (inn : Bool) (names : ByteArray) : pinsK inn (Lib.fields names.data.toList) (pinsN names) = pinsC inn names := by
 unfold pinsK pinsN pinsC
 rw [List.take_length]

theorem pin_info : (Tryd.prog.info? 57).map (fun i => (i.zero, i.size, i.bytes)) = some (some (.agg #[.string ⟨#[]⟩, .int .i64 0, .bool false]), 3, 32) := by kernel_rfl

def Blanks (w : World) : Prop := ∀ w', Below w.heap.size w w' → Lib.TabIs Tryd.prog w' "strings.asciiSpace" .u8 Lib.asciiSpaceTab
def okN (names : ByteArray) : Bool := decide (names.size < 4294967281) && names.data.toList.all (fun b => decide (b.toNat < 128)) && decide (pinsN names ≤ 100) && (Lib.fields names.data.toList).all (fun l => decide (l.length ≤ 1000))
theorem Blanks.on {w w' : World} (h : Blanks w) (hb : Below w.heap.size w w') : Blanks w' := fun x hx => h x (hb.trans (hx.mono hb.size))
theorem Blanks.tab {w : World} (h : Blanks w) : Lib.TabIs Tryd.prog w "strings.asciiSpace" .u8 Lib.asciiSpaceTab := h w (Below.refl _ _)

set_option maxRecDepth 100000 in
set_option maxHeartbeats 2000000 in
theorem pins1_any (names : ByteArray) (inn : Bool) (w : World) (hok : okN names = true) (htab : Blanks w) :
  Calls Tryd.prog 56 #[.string names, .bool inn] w fun e w' => ∃ v, e = .returned v ∧ w'.ownsRow w.heap.size 57 3 v (pinsN names) (pinsC inn names) ∧ Below w.heap.size w w' := by
 unfold okN at hok
 simp only [Bool.and_eq_true, decide_eq_true_eq, List.all_eq_true] at hok
 obtain ⟨⟨⟨hs, hasc⟩, hn⟩, hln⟩ := hok
 have hascii : ∀ (j : Nat) b, names.data.toList[j]? = some b → b.toNat < 128 := fun j b hb => hasc b (List.mem_of_getElem? hb)
 obtain ⟨i0, hi0, hz0, hz1, hz2⟩ := info_parts pin_info
 have HI := Lib.hid hi0
 have HZ0 := Lib.hid hz0
 have HZ1 := Lib.hid hz1
 have HZ2 := Lib.hid hz2
 have HT := Lib.hid htab
 clear hi0 hz0 hz1 hz2 htab
 have HF := Tryd.strings_Fields names w hs hascii HT.out.tab
 have HALL := Lib.hid (pinsK_all inn names)
 obtain ⟨fs, hfs⟩ : ∃ fs, Lib.fields names.data.toList = fs := ⟨_, rfl⟩
 obtain ⟨n, hnn⟩ : ∃ n, pinsN names = n := ⟨_, rfl⟩
 have hfn : fs.length = n := by rw [← hfs, ← hnn]; rfl
 have hlen : ∀ (j : Nat) l, fs[j]? = some l → l.length ≤ 1000 := fun j l hl => hln l (by rw [hfs]; exact List.mem_of_getElem? hl)
 rw [hfs] at HF HALL
 rw [hnn] at HALL hn ⊢
 rw [hfn] at HF
 have HFL := Lib.hid hfn
 have HLEN := Lib.hid hlen
 have HF' := Lib.hid HF
 clear hfs hnn hfn HF hlen hs hascii hasc hln
 go_enter Tryd.func56, Tryd.ntmps56
 go_wp2_with fail
 refine HF'.out.mono ?_
 rintro e w1 ⟨rfl, hw1⟩
 have hcell : ∀ (k : Nat) l, fs[k]? = some l → w1.cell? ⟨w.heap.size, k, none⟩ = some (.string ⟨l.toArray⟩) := by
  intro k l hl
  subst hw1
  refine heap_cell k _ (heap_alloc_new w _) ?_
  simp [hl]
 have hb1 : Below w.heap.size w w1 := by
  subst hw1
  exact belowBy
 have hz1 : w.heap.size + 1 ≤ w1.heap.size := by
  subst hw1
  simp
 have HC := Lib.hid hcell
 clear hw1 hcell HF'
 go_wp2_with fail
 go_loopw [5, 14] (fun v u wr => ∃ (k : Nat) (v' : Value), v' = v ∧ k ≤ n ∧ u = .int .i64 k ∧ Hid (wr.ownsRow w1.heap.size 57 3 v' k (pinsK inn fs k)) ∧ Below w1.heap.size w1 wr) (fun _ u _ => n - (intOf u).toNat)
 case atStart => exact ⟨0, _, rfl, by omega, rfl, Lib.hid (World.ownsRow_nil _ _ _ _), Below.refl _ _⟩
 case round =>
  obtain ⟨k, v', rfl, hk, rfl, HO, hbr⟩ := hrel
  have hbs := hbr.size
  by_cases hlt : k < n
  ·obtain ⟨l, hl⟩ : ∃ l, fs[k]? = some l := ⟨fs[k]'(by rw [HFL.out]; exact hlt), List.getElem?_eq_getElem _⟩
   have c0 : wr.cell? ⟨w.heap.size, k, none⟩ = some (.string ⟨l.toArray⟩) := (hbr.cell (p := ⟨w.heap.size, k, none⟩) (by show w.heap.size < w1.heap.size; omega)).trans (HC.out k l hl)
   have hkn : (k : Int) < (n : Int) := by omega
   have hk0 : (0 : Int) ≤ (k : Int) := by omega
   have hls := HLEN.out k l hl
   have HK := Lib.hid (pinsK_succ inn fs k l hl)
   have HCS : ∀ w', Calls Tryd.prog 66 #[.string ⟨l.toArray⟩, .string ⟨#[35]⟩] w' fun e w'' => e = .returned (.tuple #[.string ⟨(Lib.trimSuffix l [35]).toArray⟩, .bool (hashB l)]) ∧ w'' = w' := fun w' => Tryd.strings_CutSuffix ⟨l.toArray⟩ ⟨#[35]⟩ w' (by show l.toArray.size ≤ 9223372036854775807; simp; omega)
   have HCS' := Lib.hid HCS
   clear HCS hl
   go_wp2_with fail
   refine (HCS'.out _).mono ?_
   rintro e w2 ⟨rfl, rfl⟩
   cases hh : hashB l
   ·have hpin : pinOf inn l = [.string ⟨l.toArray⟩, .int .i64 2, .bool inn] := by unfold pinOf; rw [hh]; rfl
    have HP := Lib.hid hpin
    clear hh hpin
    go_upto_region 9 with (fail)
    refine wp_name fun W9 hW9 => ?_
    have p0 : W9.cell? ⟨wr.heap.size, 0, none⟩ = some (.string ⟨l.toArray⟩) := by rw [hW9.out]; go_simp
    have p1 : W9.cell? ⟨wr.heap.size, 1, none⟩ = some (.int .i64 2) := by rw [hW9.out]; go_simp
    have p2 : W9.cell? ⟨wr.heap.size, 2, none⟩ = some (.bool inn) := by rw [hW9.out]; go_simp
    have HB9 : Hid (Below wr.heap.size wr W9) := Lib.hid (by rw [hW9.out]; exact belowBy)
    have hs9 : wr.heap.size < W9.heap.size := by rw [hW9.out]; simp [World.setCell]
    have HO9 := Lib.hid (owns_below HO.out HB9.out)
    clear hW9
    go_wp2_with (at_builtin; refine wpList_append_own _ rfl _ _ 88 rfl w1.heap.size 57 i0 (.agg #[.string ⟨#[]⟩, .int .i64 0, .bool false]) 3 32 Tryd.underlying88 HI.out HZ0.out HZ1.out HZ2.out rfl (by decide) _ k _ rfl (HO9.out.alloc _) ⟨W9.heap.size, 0, none⟩ 1 1 (pinOf inn l) rfl ?xlen ?xnews (pinOf_one _ _) ?xmax ?xby ?xbase ?_)
    case xlen => rw [pinOf_len]
    case xnews =>
     rw [HP.out]
     intro j u hu
     have had : (⟨W9.heap.size, 0, none⟩ : Addr).add j = ⟨W9.heap.size, j, none⟩ := by cases j <;> simp [Addr.add]
     rw [had]
     exact heap_cell j _ (heap_alloc_new _ _) (by rw [List.getElem?_toArray]; exact hu)
    case xmax => unfold maxLen; omega
    case xby => omega
    case xbase => first | omega | (simp; omega)
    intro v2 w2 hown2 hgrow _
    rw [← HK.out] at hown2
    have HO2 := Lib.hid hown2
    have hb2 : Below w1.heap.size w1 w2 := below_grown (below_new (hbr.trans (HB9.out.mono hbr.size)) (Nat.le_refl _) _) hgrow (HO9.out.alloc _) (Nat.le_refl _) (by simp; omega)
    clear hown2 hgrow HO HO9
    go_wp2
    go_roundw
    case rel => exact ⟨k + 1, _, rfl, by omega, by go_num, HO2, hb2⟩
    case measure => simp [intOf]; omega
   ·have hpin : pinOf inn l = [.string ⟨(Lib.trimSuffix l [35]).toArray⟩, .int .i64 1, .bool inn] := by unfold pinOf; rw [hh]; rfl
    have HP := Lib.hid hpin
    clear hh hpin
    go_upto_region 9 with (fail)
    refine wp_name fun W9 hW9 => ?_
    have p0 : W9.cell? ⟨wr.heap.size, 0, none⟩ = some (.string ⟨(Lib.trimSuffix l [35]).toArray⟩) := by rw [hW9.out]; go_simp
    have p1 : W9.cell? ⟨wr.heap.size, 1, none⟩ = some (.int .i64 1) := by rw [hW9.out]; go_simp
    have p2 : W9.cell? ⟨wr.heap.size, 2, none⟩ = some (.bool inn) := by rw [hW9.out]; go_simp
    have HB9 : Hid (Below wr.heap.size wr W9) := Lib.hid (by rw [hW9.out]; exact belowBy)
    have hs9 : wr.heap.size < W9.heap.size := by rw [hW9.out]; simp [World.setCell]
    have HO9 := Lib.hid (owns_below HO.out HB9.out)
    clear hW9
    go_wp2_with (at_builtin; refine wpList_append_own _ rfl _ _ 88 rfl w1.heap.size 57 i0 (.agg #[.string ⟨#[]⟩, .int .i64 0, .bool false]) 3 32 Tryd.underlying88 HI.out HZ0.out HZ1.out HZ2.out rfl (by decide) _ k _ rfl (HO9.out.alloc _) ⟨W9.heap.size, 0, none⟩ 1 1 (pinOf inn l) rfl ?xlen ?xnews (pinOf_one _ _) ?xmax ?xby ?xbase ?_)
    case xlen => rw [pinOf_len]
    case xnews =>
     rw [HP.out]
     intro j u hu
     have had : (⟨W9.heap.size, 0, none⟩ : Addr).add j = ⟨W9.heap.size, j, none⟩ := by cases j <;> simp [Addr.add]
     rw [had]
     exact heap_cell j _ (heap_alloc_new _ _) (by rw [List.getElem?_toArray]; exact hu)
    case xmax => unfold maxLen; omega
    case xby => omega
    case xbase => first | omega | (simp; omega)
    intro v2 w2 hown2 hgrow _
    rw [← HK.out] at hown2
    have HO2 := Lib.hid hown2
    have hb2 : Below w1.heap.size w1 w2 := below_grown (below_new (hbr.trans (HB9.out.mono hbr.size)) (Nat.le_refl _) _) hgrow (HO9.out.alloc _) (Nat.le_refl _) (by simp; omega)
    clear hown2 hgrow HO HO9
    go_wp2
    go_roundw
    case rel => exact ⟨k + 1, _, rfl, by omega, by go_num, HO2, hb2⟩
    case measure => simp [intOf]; omega
  ·obtain rfl : k = n := by omega
   have HO3 := HO.out
   rw [HALL.out] at HO3
   obtain ⟨A, c, hv, hc1, hc2, hbk⟩ := own_form HO3
   have HO4 := Lib.hid HO3
   clear HO3
   go_wp2
   go_ret
   exact ⟨_, rfl, owns_mono HO4.out (by omega), by exact belowBy⟩

end Go.Proofs.YtknnhnefbbjcdaaDoor

namespace Go.Proofs.YtknnhnefbbjcdaaDoor
open Go.RowKit
set_option linter.unusedVariables false
set_option linter.unusedSimpArgs false
attribute [local go_sem] ite_max ite_min vite_max vite_min ext_cell ext_frozen extS_cell extS_frozen

def inPin : List Value := [.string ⟨#[]⟩, .int .i64 1, .bool false]
theorem inPin_one : ∀ u ∈ inPin, u.oneCell' = true := by
 intro u hu
 simp only [inPin, List.mem_cons, List.not_mem_nil, or_false] at hu
 rcases hu with rfl | rfl | rfl <;> rfl
def inPins : Nat → List Value
 | 0 => []
 | k + 1 => inPins k ++ inPin
def allPins (s : Sh) : List Value := pinsC true s.inp ++ pinsC false s.out ++ inPins s.inner.toNat
def allN (s : Sh) : Nat := pinsN s.inp + pinsN s.out + s.inner.toNat
def pinsOf (kind : Int) : List Value := match shL.find? (fun s => decide (s.kind = kind)) with | some s => allPins s | none => []
def countOf (kind : Int) : Nat := match shL.find? (fun s => decide (s.kind = kind)) with | some s => allN s | none => 0
def okS (s : Sh) : Bool := okN s.inp && okN s.out && decide (1 ≤ pinsN s.inp ∧ pinsN s.inp ≤ 10) && decide (1 ≤ pinsN s.out ∧ pinsN s.out ≤ 10) && decide (0 ≤ s.inner ∧ s.inner ≤ 2)
theorem okS_all : shL.all okS = true := by kernel_rfl

theorem pinsC_one (inn : Bool) (names : ByteArray) : ∀ u ∈ pinsC inn names, u.oneCell' = true := by
 intro u hu
 obtain ⟨l, _, hl⟩ := List.mem_flatMap.1 hu
 exact pinOf_one inn l u hl
def isPins (B n : Nat) (xs : List Value) (v : Value) (w : World) : Prop := ∃ g c, v = .slice (some ⟨g, 0, none⟩) n c ∧ w.ownsRow B 57 3 (.slice (some ⟨g, 0, none⟩) n c) n xs
theorem isPins.below {B n : Nat} {xs : List Value} {v : Value} {w w' : World} (h : isPins B n xs v w) (hb : Below w.heap.size w w') : isPins B n xs v w' := by
 obtain ⟨g, c, hv, o⟩ := h
 exact ⟨g, c, hv, owns_below o hb⟩
theorem wild_pins {w w0 : World} (names : ByteArray) (inn : Bool) (hok : okN names = true) (hn : 1 ≤ pinsN names) (ht : Blanks w) (hB : w0.heap.size ≤ w.heap.size) :
  Calls Tryd.prog 56 #[.string names, .bool inn] w (wildPost w (isPins w0.heap.size (pinsN names) (pinsC inn names)) newB) := by
 refine (pins1_any names inn w hok ht).mono ?_
 rintro e w' ⟨v, rfl, o, hb⟩
 obtain ⟨A, c, hv, h1, h2, h3⟩ := own_form o
 subst hv
 obtain ⟨g, c', he, hg⟩ := World.ownsRow.form o hn
 cases he
 refine ⟨_, rfl, ⟨g, _, rfl, owns_mono o hB⟩, hb, ?_⟩
 have hl := o.lt g rfl
 intro b hb'
 rw [newB_row, List.mem_singleton] at hb'
 subst hb'
 exact hl

set_option maxRecDepth 100000 in
set_option maxHeartbeats 2000000 in
theorem pins_any (kind : Int) (w : World) (htab : Blanks w) :
  Calls Tryd.prog 35 #[.int .i64 kind] w fun e w' => ∃ v, e = .returned v ∧ w'.ownsRow w.heap.size 57 3 v (countOf kind) (pinsOf kind) ∧ Below w.heap.size w w' := by
 obtain ⟨i0, hi0, hz0, hz1, hz2⟩ := info_parts pin_info
 have HI := Lib.hid hi0
 have HZ0 := Lib.hid hz0
 have HZ1 := Lib.hid hz1
 have HZ2 := Lib.hid hz2
 have HT := Lib.hid htab
 clear hi0 hz0 hz1 hz2 htab
 cases hf : shL.find? (fun s => decide (s.kind = kind)) with
 | none =>
  have hp : pinsOf kind = [] := by unfold pinsOf; rw [hf]
  have hc : countOf kind = 0 := by unfold countOf; rw [hf]
  have hv := ofV_none hf
  rw [hp, hc]
  have HV := Lib.hid hv
  clear hp hc hv hf
  go_enter Tryd.func35, Tryd.ntmps35
  go_wp2_with fail
  refine (of_any _ _).mono ?_
  rw [HV.out]
  rintro e w1 ⟨rfl, hb1⟩
  go_wp2
  go_ret
  exact ⟨_, rfl, World.ownsRow_nil _ _ _ _, by exact belowBy⟩
 | some s =>
  have hp : pinsOf kind = allPins s := by unfold pinsOf; rw [hf]
  have hc : countOf kind = allN s := by unfold countOf; rw [hf]
  have hv := ofV_some hf
  have hok := List.all_eq_true.1 okS_all s (List.mem_of_find?_eq_some hf)
  rw [hp, hc]
  unfold okS at hok
  simp only [Bool.and_eq_true, decide_eq_true_eq] at hok
  obtain ⟨⟨⟨⟨ho1, ho2⟩, hn1, hm1⟩, hn2, hm2⟩, hi1, hi2⟩ := hok
  obtain ⟨q, hq⟩ : ∃ q : Nat, s.inner = (q : Int) := ⟨s.inner.toNat, by omega⟩
  have hq2 : q ≤ 2 := by omega
  have hA : allPins s = pinsC true s.inp ++ pinsC false s.out ++ inPins q := by unfold allPins; rw [hq]; rfl
  have hAN : allN s = pinsN s.inp + pinsN s.out + q := by unfold allN; rw [hq]; rfl
  rw [hA, hAN]
  rw [hq] at hv
  obtain ⟨nA, hn1'⟩ : ∃ n, pinsN s.inp = n := ⟨_, rfl⟩
  obtain ⟨nB, hn2'⟩ : ∃ n, pinsN s.out = n := ⟨_, rfl⟩
  obtain ⟨x1, hx1⟩ : ∃ x, pinsC true s.inp = x := ⟨_, rfl⟩
  obtain ⟨x2, hx2⟩ : ∃ x, pinsC false s.out = x := ⟨_, rfl⟩
  rw [hn1', hn2', hx1, hx2]
  rw [hn1'] at hn1 hm1
  rw [hn2'] at hn2 hm2
  have HW1 : Hid (∀ w w0 : World, Blanks w → w0.heap.size ≤ w.heap.size → Calls Tryd.prog 56 #[.string s.inp, .bool true] w (wildPost w (isPins w0.heap.size nA x1) newB)) := Lib.hid (fun w w0 h hB => by rw [← hn1', ← hx1]; exact wild_pins s.inp true ho1 (by omega) h hB)
  have HW2 : Hid (∀ w w0 : World, Blanks w → w0.heap.size ≤ w.heap.size → Calls Tryd.prog 56 #[.string s.out, .bool false] w (wildPost w (isPins w0.heap.size nB x2) newB)) := Lib.hid (fun w w0 h hB => by rw [← hn2', ← hx2]; exact wild_pins s.out false ho2 (by omega) h hB)
  have HX2 : Hid (∀ u ∈ x2, u.oneCell' = true) := Lib.hid (by rw [← hx2]; exact pinsC_one false s.out)
  have HV := Lib.hid hv
  clear hp hc hv hf ho1 ho2 hA hAN hq hn1' hn2' hx1 hx2 hi1 hi2
  go_enter Tryd.func35, Tryd.ntmps35
  go_wp2_with fail
  refine (of_any _ _).mono ?_
  rw [HV.out]
  rintro e w1 ⟨rfl, hb1⟩
  go_upto_region 4 with (fail)
  refine wp_name fun W hW => ?_
  have c0 : W.cell? ⟨w1.heap.size, 0, none⟩ = some (.int .i64 s.kind) := by rw [hW.out]; go_simp
  have c1 : W.cell? ⟨w1.heap.size, 1, none⟩ = some (.string s.name) := by rw [hW.out]; go_simp
  have c2 : W.cell? ⟨w1.heap.size, 2, none⟩ = some (.string s.inp) := by rw [hW.out]; go_simp
  have c3 : W.cell? ⟨w1.heap.size, 3, none⟩ = some (.string s.out) := by rw [hW.out]; go_simp
  have c4 : W.cell? ⟨w1.heap.size, 4, none⟩ = some (.int .i64 q) := by rw [hW.out]; go_simp
  have hl : w1.heap.size < W.heap.size := by rw [hW.out]; simp
  have HB : Hid (Below w.heap.size w W) := Lib.hid (by rw [hW.out]; exact belowBy)
  have hz := HB.out.size
  have HTW : Hid (Blanks W) := Lib.hid (HT.out.on HB.out)
  clear hW hb1
  refine wp_region_wild 6 1000 ([{ i := 2, d := 15, R := isPins W.heap.size nA x1, N := newB }, { i := 5, d := 18, R := isPins W.heap.size nB x2, N := newB }] : List Wd) [false, false, true, false, false, true] rfl (by kernel_rfl) (by kernel_rfl) (fun _ _ _ _ _ h => h) (by kernel_rfl) ?_ ?_
  ·intro x hx v w1 w2 hR hb
   simp only [List.mem_cons, List.not_mem_nil, or_false] at hx
   rcases hx with rfl | rfl
   all_goals (dsimp only at hR ⊢; exact hR.below hb)
  apply Exists.intro
  refine ⟨fun S hS hne => ?_, ?_, ?_, ?_⟩
  ·simp only [List.take_succ_cons, List.take_zero, List.map_cons, List.map_nil]
   delta CS
   repeat (first | with_reducible refine mask_skip ?_ | ((with_reducible refine mask_keep ?_); go_big_quiet_step (fail)))
   exact mask_nil rfl
  ·intro x hx he
   simp only [List.mem_cons, List.not_mem_nil, or_false] at hx
   rcases hx with rfl | rfl
   all_goals (dsimp only at he; exact absurd he (by decide))
  ·skip
   simp only [List.forall_mem_cons, List.not_mem_nil, false_implies, implies_true, and_true]
   refine ⟨?_, ?_⟩
   all_goals
    intro o ho
    simp only [List.getElem?_cons_succ, List.getElem?_cons_zero, Option.some.injEq] at ho
    subst ho
    intro vs w' hbw hdeps
    simp only [putsF, List.foldl_cons, List.foldl_nil]
    refine ⟨by first | rfl | go_simp, ?_⟩
    first | with_reducible refine wild_plain ?_ | with_reducible refine wild_link ?_
    clear hdeps
    go_simp
   ·apply wildUpon_enter
    exact HW1.out _ W (HTW.out.on hbw) hbw.size
   ·apply wildUpon_enter
    exact HW2.out _ W (HTW.out.on hbw) hbw.size
  ·skip
   intro vs w' hbw hr hap hlk
   simp only [List.forall_mem_cons, List.not_mem_nil, false_implies, implies_true, and_true] at hr hap
   obtain ⟨⟨hh2, n2⟩, ⟨hh5, n5⟩⟩ := hr
   obtain ⟨g1, k1, e2, o2⟩ := hh2
   rw [e2] at n2
   obtain ⟨g2, k2, e5, o5⟩ := hh5
   rw [e5] at n5
   clear hlk
   try simp only [e2, e5] at hap
   try simp only [newB_ptr, newB_row, newB_win, newB_win2, List.mem_cons, forall_eq_or_imp, or_false, List.mem_singleton, forall_eq, List.not_mem_nil, false_implies, implies_true, not_false_eq_true, and_true, true_and] at n2 n5 hap
   try simp only [ne_eq, not_true_eq_false, false_implies, true_and, and_true, Nat.reduceEqDiff, not_false_eq_true, forall_const] at hap
   simp only [putsF, List.foldl_cons, List.foldl_nil, e2, e5, List.drop_succ_cons, List.drop_zero]
   clear e2 e5
   obtain ⟨-, hk1, hk1m, -⟩ : True ∧ nA ≤ k1 ∧ k1 ≤ maxLen ∧ True := by
    obtain ⟨A, c, hv, h1, h2, h3⟩ := own_form o2
    cases hv
    exact ⟨trivial, h1, h2, trivial⟩
   have HO1 := Lib.hid o2
   have HO2 := Lib.hid o5
   have HC4 := Lib.hid c4
   have hz' := hbw.size
   have hl' : w1.heap.size < w'.heap.size := by omega
   have HB' : Hid (Below w.heap.size w w') := Lib.hid (HB.out.trans (hbw.mono HB.out.size))
   have hgA := n2.1
   have hgB := n5.1
   have hgne := hap.1
   clear o2 o5 c0 c1 c2 c3 c4 hap n2 n5
   go_wp2_with (at_builtin; refine wpList_append_own _ rfl _ _ 88 rfl W.heap.size 57 i0 (.agg #[.string ⟨#[]⟩, .int .i64 0, .bool false]) 3 32 Tryd.underlying88 HI.out HZ0.out HZ1.out HZ2.out rfl (by decide) _ nA _ rfl HO1.out ⟨g2, 0, none⟩ nB k2 x2 rfl ?xlen ?xnews ?xone ?xmax ?xby ?xbase ?_)
   case xlen => exact HO2.out.1
   case xnews => exact fun j u hu => HO2.out.cells rfl j u hu
   case xone => exact HX2.out
   case xmax => unfold maxLen; omega
   case xby => omega
   case xbase => omega
   intro v3 w3 hown3 hgrow _
   have HO3 := Lib.hid hown3
   have hb3 : Below W.heap.size W w3 := below_grown (hbw.mono (Nat.le_refl _)) hgrow HO1.out (Nat.le_refl _) hz'
   clear hown3 hgrow HO1 HO2
   have d0 := (hb3.cell (p := ⟨w1.heap.size, 4, none⟩) hl).trans HC4.out
   have hz3 := hb3.size
   have hl3 : w1.heap.size < w3.heap.size := by omega
   have HB3 : Hid (Below w.heap.size w w3) := Lib.hid (HB.out.trans (hb3.mono HB.out.size))
   clear HC4
   go_wp2_with fail
   go_loopw [5, 22] (fun v u wr => ∃ (k : Nat) (v' : Value), v' = v ∧ k ≤ q ∧ u = .int .i64 k ∧ Hid (wr.ownsRow W.heap.size 57 3 v' (nA + nB + k) (x1 ++ x2 ++ inPins k)) ∧ Below W.heap.size W wr) (fun _ u _ => q - (intOf u).toNat)
   case atStart => exact ⟨0, _, rfl, by omega, rfl, Lib.hid (by simpa [inPins] using HO3.out), hb3⟩
   case round =>
    obtain ⟨k, v', rfl, hk, rfl, HO, hbr⟩ := hrel
    have hbs := hbr.size
    by_cases hlt : k < q
    ·have hkq : (k : Int) < (q : Int) := by omega
     clear HO3 d0
     go_wp2_with (at_builtin; refine wpList_append_own _ rfl _ _ 88 rfl W.heap.size 57 i0 (.agg #[.string ⟨#[]⟩, .int .i64 0, .bool false]) 3 32 Tryd.underlying88 HI.out HZ0.out HZ1.out HZ2.out rfl (by decide) _ (nA + nB + k) _ rfl (HO.out.alloc _) ⟨wr.heap.size, 0, none⟩ 1 1 inPin rfl ?ylen ?ynews inPin_one ?ymax ?yby ?ybase ?_)
     case ylen => rfl
     case ynews =>
      intro j u hu
      have had : (⟨wr.heap.size, 0, none⟩ : Addr).add j = ⟨wr.heap.size, j, none⟩ := by cases j <;> simp [Addr.add]
      rw [had]
      exact heap_cell j _ (heap_alloc_new _ _) (by rw [List.getElem?_toArray]; exact hu)
     case ymax => unfold maxLen; omega
     case yby => omega
     case ybase => first | omega | (simp; omega)
     intro v2 w2 hown2 hgrow _
     have HO2 : Hid (w2.ownsRow W.heap.size 57 3 v2 (nA + nB + (k + 1)) (x1 ++ x2 ++ inPins (k + 1))) := Lib.hid (by
      have : x1 ++ x2 ++ inPins (k + 1) = x1 ++ (x2 ++ (inPins k ++ inPin)) := by simp [inPins, List.append_assoc]
      rw [this]
      exact hown2)
     have hb2 : Below W.heap.size W w2 := below_grown (below_new hbr (Nat.le_refl _) _) hgrow (HO.out.alloc _) (Nat.le_refl _) (by simp; omega)
     clear hown2 hgrow HO
     go_wp2
     go_roundw
     case rel => exact ⟨k + 1, _, rfl, by omega, by go_num, HO2, hb2⟩
     case measure => simp [intOf]; omega
    ·obtain rfl : k = q := by omega
     clear HO3 d0
     go_wp2
     go_ret
     exact ⟨_, rfl, owns_mono HO.out (by omega), HB.out.trans (hbr.mono HB.out.size)⟩

end Go.Proofs.YtknnhnefbbjcdaaDoor
