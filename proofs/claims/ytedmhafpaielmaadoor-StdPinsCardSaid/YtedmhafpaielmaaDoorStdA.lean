/- Layer 16: the table of the standard blocks; the block of a kind, the kind of a name. -/
import Derived.Test.YtedmhafpaielmaaDoorBase
import Derived.Test.YtedmhafpaielmaaDoorExt
import Derived.Test.YtedmhafpaielmaaDoorFresh
namespace Go.Proofs.YtedmhafpaielmaaDoor
open Go.RowKit
set_option linter.unusedVariables false
set_option linter.unusedSimpArgs false
attribute [local go_sem] ite_max ite_min vite_max vite_min ext_cell ext_frozen

/-- a row of the table -/
structure Sh where
  kind : Int
  name : ByteArray
  inp : ByteArray
  out : ByteArray
  inner : Int
def Sh.cells (s : Sh) : List Value := [.int .i64 s.kind, .string s.name, .string s.inp, .string s.out, .int .i64 s.inner]
def shL : List Sh := [⟨10, ⟨#[84, 79, 78]⟩, ⟨#[73, 78, 32, 80, 84, 35]⟩, ⟨#[81, 32, 69, 84, 35]⟩, 0⟩,
  ⟨11, ⟨#[84, 79, 70]⟩, ⟨#[73, 78, 32, 80, 84, 35]⟩, ⟨#[81, 32, 69, 84, 35]⟩, 0⟩,
  ⟨12, ⟨#[84, 80]⟩, ⟨#[73, 78, 32, 80, 84, 35]⟩, ⟨#[81, 32, 69, 84, 35]⟩, 2⟩,
  ⟨13, ⟨#[67, 84, 85]⟩, ⟨#[67, 85, 32, 82, 32, 80, 86, 35]⟩, ⟨#[81, 32, 67, 86, 35]⟩, 1⟩,
  ⟨14, ⟨#[67, 84, 68]⟩, ⟨#[67, 68, 32, 76, 68, 32, 80, 86, 35]⟩, ⟨#[81, 32, 67, 86, 35]⟩, 1⟩,
  ⟨15, ⟨#[82, 95, 84, 82, 73, 71]⟩, ⟨#[67, 76, 75]⟩, ⟨#[81]⟩, 1⟩,
  ⟨16, ⟨#[70, 95, 84, 82, 73, 71]⟩, ⟨#[67, 76, 75]⟩, ⟨#[81]⟩, 1⟩,
  ⟨17, ⟨#[83, 82]⟩, ⟨#[83, 49, 32, 82]⟩, ⟨#[81, 49]⟩, 0⟩,
  ⟨18, ⟨#[82, 83]⟩, ⟨#[83, 32, 82, 49]⟩, ⟨#[81, 49]⟩, 0⟩,
  ⟨20, ⟨#[77, 67, 95, 80, 111, 119, 101, 114]⟩, ⟨#[65, 120, 105, 115, 35, 32, 69, 110, 97, 98, 108, 101]⟩, ⟨#[83, 116, 97, 116, 117, 115, 32, 69, 114, 114, 111, 114]⟩, 0⟩,
  ⟨21, ⟨#[77, 67, 95, 72, 111, 109, 101]⟩, ⟨#[65, 120, 105, 115, 35, 32, 69, 120, 101, 99, 117, 116, 101]⟩, ⟨#[68, 111, 110, 101, 32, 66, 117, 115, 121, 32, 65, 99, 116, 105, 118, 101, 32, 67, 111, 109, 109, 97, 110, 100, 65, 98, 111, 114, 116, 101, 100, 32, 69, 114, 114, 111, 114]⟩, 2⟩,
  ⟨22, ⟨#[77, 67, 95, 83, 116, 111, 112]⟩, ⟨#[65, 120, 105, 115, 35, 32, 69, 120, 101, 99, 117, 116, 101]⟩, ⟨#[68, 111, 110, 101, 32, 66, 117, 115, 121, 32, 65, 99, 116, 105, 118, 101, 32, 67, 111, 109, 109, 97, 110, 100, 65, 98, 111, 114, 116, 101, 100, 32, 69, 114, 114, 111, 114]⟩, 2⟩,
  ⟨23, ⟨#[77, 67, 95, 72, 97, 108, 116]⟩, ⟨#[65, 120, 105, 115, 35, 32, 69, 120, 101, 99, 117, 116, 101]⟩, ⟨#[68, 111, 110, 101, 32, 66, 117, 115, 121, 32, 65, 99, 116, 105, 118, 101, 32, 67, 111, 109, 109, 97, 110, 100, 65, 98, 111, 114, 116, 101, 100, 32, 69, 114, 114, 111, 114]⟩, 2⟩,
  ⟨24, ⟨#[77, 67, 95, 77, 111, 118, 101, 65, 98, 115, 111, 108, 117, 116, 101]⟩, ⟨#[65, 120, 105, 115, 35, 32, 69, 120, 101, 99, 117, 116, 101, 32, 80, 111, 115, 105, 116, 105, 111, 110, 35, 32, 86, 101, 108, 111, 99, 105, 116, 121, 35, 32, 66, 117, 102, 102, 101, 114, 77, 111, 100, 101, 35]⟩, ⟨#[68, 111, 110, 101, 32, 66, 117, 115, 121, 32, 65, 99, 116, 105, 118, 101, 32, 67, 111, 109, 109, 97, 110, 100, 65, 98, 111, 114, 116, 101, 100, 32, 69, 114, 114, 111, 114]⟩, 2⟩,
  ⟨25, ⟨#[77, 67, 95, 77, 111, 118, 101, 82, 101, 108, 97, 116, 105, 118, 101]⟩, ⟨#[65, 120, 105, 115, 35, 32, 69, 120, 101, 99, 117, 116, 101, 32, 68, 105, 115, 116, 97, 110, 99, 101, 35, 32, 86, 101, 108, 111, 99, 105, 116, 121, 35, 32, 66, 117, 102, 102, 101, 114, 77, 111, 100, 101, 35]⟩, ⟨#[68, 111, 110, 101, 32, 66, 117, 115, 121, 32, 65, 99, 116, 105, 118, 101, 32, 67, 111, 109, 109, 97, 110, 100, 65, 98, 111, 114, 116, 101, 100, 32, 69, 114, 114, 111, 114]⟩, 2⟩,
  ⟨26, ⟨#[77, 67, 95, 77, 111, 118, 101, 65, 100, 100, 105, 116, 105, 118, 101]⟩, ⟨#[65, 120, 105, 115, 35, 32, 69, 120, 101, 99, 117, 116, 101, 32, 68, 105, 115, 116, 97, 110, 99, 101, 35, 32, 86, 101, 108, 111, 99, 105, 116, 121, 35, 32, 66, 117, 102, 102, 101, 114, 77, 111, 100, 101, 35]⟩, ⟨#[68, 111, 110, 101, 32, 66, 117, 115, 121, 32, 65, 99, 116, 105, 118, 101, 32, 67, 111, 109, 109, 97, 110, 100, 65, 98, 111, 114, 116, 101, 100, 32, 69, 114, 114, 111, 114]⟩, 2⟩,
  ⟨27, ⟨#[77, 67, 95, 77, 111, 118, 101, 86, 101, 108, 111, 99, 105, 116, 121]⟩, ⟨#[65, 120, 105, 115, 35, 32, 69, 120, 101, 99, 117, 116, 101, 32, 86, 101, 108, 111, 99, 105, 116, 121, 35]⟩, ⟨#[73, 110, 86, 101, 108, 111, 99, 105, 116, 121, 32, 66, 117, 115, 121, 32, 65, 99, 116, 105, 118, 101, 32, 67, 111, 109, 109, 97, 110, 100, 65, 98, 111, 114, 116, 101, 100, 32, 69, 114, 114, 111, 114]⟩, 2⟩,
  ⟨28, ⟨#[77, 67, 95, 71, 101, 97, 114, 73, 110]⟩, ⟨#[65, 120, 105, 115, 35, 32, 69, 120, 101, 99, 117, 116, 101, 32, 77, 97, 115, 116, 101, 114, 35, 32, 78, 117, 109, 101, 114, 97, 116, 111, 114, 35, 32, 68, 101, 110, 111, 109, 105, 110, 97, 116, 111, 114, 35]⟩, ⟨#[73, 110, 71, 101, 97, 114, 32, 66, 117, 115, 121, 32, 65, 99, 116, 105, 118, 101, 32, 67, 111, 109, 109, 97, 110, 100, 65, 98, 111, 114, 116, 101, 100, 32, 69, 114, 114, 111, 114]⟩, 2⟩,
  ⟨29, ⟨#[77, 67, 95, 82, 101, 115, 101, 116]⟩, ⟨#[65, 120, 105, 115, 35, 32, 69, 120, 101, 99, 117, 116, 101]⟩, ⟨#[68, 111, 110, 101, 32, 69, 114, 114, 111, 114]⟩, 1⟩,
  ⟨30, ⟨#[77, 67, 95, 83, 101, 116, 80, 111, 115, 105, 116, 105, 111, 110]⟩, ⟨#[65, 120, 105, 115, 35, 32, 69, 120, 101, 99, 117, 116, 101, 32, 80, 111, 115, 105, 116, 105, 111, 110, 35]⟩, ⟨#[68, 111, 110, 101, 32, 69, 114, 114, 111, 114]⟩, 1⟩,
  ⟨31, ⟨#[77, 67, 95, 83, 101, 116, 79, 118, 101, 114, 114, 105, 100, 101]⟩, ⟨#[65, 120, 105, 115, 35, 32, 69, 110, 97, 98, 108, 101, 32, 80, 101, 114, 99, 101, 110, 116, 35]⟩, ⟨#[69, 110, 97, 98, 108, 101, 100]⟩, 0⟩]
def shC : List Value := [.int .i64 10, .string ⟨#[84, 79, 78]⟩, .string ⟨#[73, 78, 32, 80, 84, 35]⟩, .string ⟨#[81, 32, 69, 84, 35]⟩, .int .i64 0,
  .int .i64 11, .string ⟨#[84, 79, 70]⟩, .string ⟨#[73, 78, 32, 80, 84, 35]⟩, .string ⟨#[81, 32, 69, 84, 35]⟩, .int .i64 0,
  .int .i64 12, .string ⟨#[84, 80]⟩, .string ⟨#[73, 78, 32, 80, 84, 35]⟩, .string ⟨#[81, 32, 69, 84, 35]⟩, .int .i64 2,
  .int .i64 13, .string ⟨#[67, 84, 85]⟩, .string ⟨#[67, 85, 32, 82, 32, 80, 86, 35]⟩, .string ⟨#[81, 32, 67, 86, 35]⟩, .int .i64 1,
  .int .i64 14, .string ⟨#[67, 84, 68]⟩, .string ⟨#[67, 68, 32, 76, 68, 32, 80, 86, 35]⟩, .string ⟨#[81, 32, 67, 86, 35]⟩, .int .i64 1,
  .int .i64 15, .string ⟨#[82, 95, 84, 82, 73, 71]⟩, .string ⟨#[67, 76, 75]⟩, .string ⟨#[81]⟩, .int .i64 1,
  .int .i64 16, .string ⟨#[70, 95, 84, 82, 73, 71]⟩, .string ⟨#[67, 76, 75]⟩, .string ⟨#[81]⟩, .int .i64 1,
  .int .i64 17, .string ⟨#[83, 82]⟩, .string ⟨#[83, 49, 32, 82]⟩, .string ⟨#[81, 49]⟩, .int .i64 0,
  .int .i64 18, .string ⟨#[82, 83]⟩, .string ⟨#[83, 32, 82, 49]⟩, .string ⟨#[81, 49]⟩, .int .i64 0,
  .int .i64 20, .string ⟨#[77, 67, 95, 80, 111, 119, 101, 114]⟩, .string ⟨#[65, 120, 105, 115, 35, 32, 69, 110, 97, 98, 108, 101]⟩, .string ⟨#[83, 116, 97, 116, 117, 115, 32, 69, 114, 114, 111, 114]⟩, .int .i64 0,
  .int .i64 21, .string ⟨#[77, 67, 95, 72, 111, 109, 101]⟩, .string ⟨#[65, 120, 105, 115, 35, 32, 69, 120, 101, 99, 117, 116, 101]⟩, .string ⟨#[68, 111, 110, 101, 32, 66, 117, 115, 121, 32, 65, 99, 116, 105, 118, 101, 32, 67, 111, 109, 109, 97, 110, 100, 65, 98, 111, 114, 116, 101, 100, 32, 69, 114, 114, 111, 114]⟩, .int .i64 2,
  .int .i64 22, .string ⟨#[77, 67, 95, 83, 116, 111, 112]⟩, .string ⟨#[65, 120, 105, 115, 35, 32, 69, 120, 101, 99, 117, 116, 101]⟩, .string ⟨#[68, 111, 110, 101, 32, 66, 117, 115, 121, 32, 65, 99, 116, 105, 118, 101, 32, 67, 111, 109, 109, 97, 110, 100, 65, 98, 111, 114, 116, 101, 100, 32, 69, 114, 114, 111, 114]⟩, .int .i64 2,
  .int .i64 23, .string ⟨#[77, 67, 95, 72, 97, 108, 116]⟩, .string ⟨#[65, 120, 105, 115, 35, 32, 69, 120, 101, 99, 117, 116, 101]⟩, .string ⟨#[68, 111, 110, 101, 32, 66, 117, 115, 121, 32, 65, 99, 116, 105, 118, 101, 32, 67, 111, 109, 109, 97, 110, 100, 65, 98, 111, 114, 116, 101, 100, 32, 69, 114, 114, 111, 114]⟩, .int .i64 2,
  .int .i64 24, .string ⟨#[77, 67, 95, 77, 111, 118, 101, 65, 98, 115, 111, 108, 117, 116, 101]⟩, .string ⟨#[65, 120, 105, 115, 35, 32, 69, 120, 101, 99, 117, 116, 101, 32, 80, 111, 115, 105, 116, 105, 111, 110, 35, 32, 86, 101, 108, 111, 99, 105, 116, 121, 35, 32, 66, 117, 102, 102, 101, 114, 77, 111, 100, 101, 35]⟩, .string ⟨#[68, 111, 110, 101, 32, 66, 117, 115, 121, 32, 65, 99, 116, 105, 118, 101, 32, 67, 111, 109, 109, 97, 110, 100, 65, 98, 111, 114, 116, 101, 100, 32, 69, 114, 114, 111, 114]⟩, .int .i64 2,
  .int .i64 25, .string ⟨#[77, 67, 95, 77, 111, 118, 101, 82, 101, 108, 97, 116, 105, 118, 101]⟩, .string ⟨#[65, 120, 105, 115, 35, 32, 69, 120, 101, 99, 117, 116, 101, 32, 68, 105, 115, 116, 97, 110, 99, 101, 35, 32, 86, 101, 108, 111, 99, 105, 116, 121, 35, 32, 66, 117, 102, 102, 101, 114, 77, 111, 100, 101, 35]⟩, .string ⟨#[68, 111, 110, 101, 32, 66, 117, 115, 121, 32, 65, 99, 116, 105, 118, 101, 32, 67, 111, 109, 109, 97, 110, 100, 65, 98, 111, 114, 116, 101, 100, 32, 69, 114, 114, 111, 114]⟩, .int .i64 2,
  .int .i64 26, .string ⟨#[77, 67, 95, 77, 111, 118, 101, 65, 100, 100, 105, 116, 105, 118, 101]⟩, .string ⟨#[65, 120, 105, 115, 35, 32, 69, 120, 101, 99, 117, 116, 101, 32, 68, 105, 115, 116, 97, 110, 99, 101, 35, 32, 86, 101, 108, 111, 99, 105, 116, 121, 35, 32, 66, 117, 102, 102, 101, 114, 77, 111, 100, 101, 35]⟩, .string ⟨#[68, 111, 110, 101, 32, 66, 117, 115, 121, 32, 65, 99, 116, 105, 118, 101, 32, 67, 111, 109, 109, 97, 110, 100, 65, 98, 111, 114, 116, 101, 100, 32, 69, 114, 114, 111, 114]⟩, .int .i64 2,
  .int .i64 27, .string ⟨#[77, 67, 95, 77, 111, 118, 101, 86, 101, 108, 111, 99, 105, 116, 121]⟩, .string ⟨#[65, 120, 105, 115, 35, 32, 69, 120, 101, 99, 117, 116, 101, 32, 86, 101, 108, 111, 99, 105, 116, 121, 35]⟩, .string ⟨#[73, 110, 86, 101, 108, 111, 99, 105, 116, 121, 32, 66, 117, 115, 121, 32, 65, 99, 116, 105, 118, 101, 32, 67, 111, 109, 109, 97, 110, 100, 65, 98, 111, 114, 116, 101, 100, 32, 69, 114, 114, 111, 114]⟩, .int .i64 2,
  .int .i64 28, .string ⟨#[77, 67, 95, 71, 101, 97, 114, 73, 110]⟩, .string ⟨#[65, 120, 105, 115, 35, 32, 69, 120, 101, 99, 117, 116, 101, 32, 77, 97, 115, 116, 101, 114, 35, 32, 78, 117, 109, 101, 114, 97, 116, 111, 114, 35, 32, 68, 101, 110, 111, 109, 105, 110, 97, 116, 111, 114, 35]⟩, .string ⟨#[73, 110, 71, 101, 97, 114, 32, 66, 117, 115, 121, 32, 65, 99, 116, 105, 118, 101, 32, 67, 111, 109, 109, 97, 110, 100, 65, 98, 111, 114, 116, 101, 100, 32, 69, 114, 114, 111, 114]⟩, .int .i64 2,
  .int .i64 29, .string ⟨#[77, 67, 95, 82, 101, 115, 101, 116]⟩, .string ⟨#[65, 120, 105, 115, 35, 32, 69, 120, 101, 99, 117, 116, 101]⟩, .string ⟨#[68, 111, 110, 101, 32, 69, 114, 114, 111, 114]⟩, .int .i64 1,
  .int .i64 30, .string ⟨#[77, 67, 95, 83, 101, 116, 80, 111, 115, 105, 116, 105, 111, 110]⟩, .string ⟨#[65, 120, 105, 115, 35, 32, 69, 120, 101, 99, 117, 116, 101, 32, 80, 111, 115, 105, 116, 105, 111, 110, 35]⟩, .string ⟨#[68, 111, 110, 101, 32, 69, 114, 114, 111, 114]⟩, .int .i64 1,
  .int .i64 31, .string ⟨#[77, 67, 95, 83, 101, 116, 79, 118, 101, 114, 114, 105, 100, 101]⟩, .string ⟨#[65, 120, 105, 115, 35, 32, 69, 110, 97, 98, 108, 101, 32, 80, 101, 114, 99, 101, 110, 116, 35]⟩, .string ⟨#[69, 110, 97, 98, 108, 101, 100]⟩, .int .i64 0]
theorem shC_len : shC.length = 105 := by kernel_rfl
theorem shL_len : shL.length = 21 := by kernel_rfl
theorem shC_flat : shC = shL.flatMap Sh.cells := by kernel_rfl

theorem flat_get {α : Type} (f : α → List Value) (n : Nat) (hf : ∀ x, (f x).length = n) : ∀ (l : List α) (i : Nat) (x : α), l[i]? = some x → ∀ j, j < n → (l.flatMap f)[i * n + j]? = (f x)[j]?
  | [], i, x, h, _, _ => by simp at h
  | y :: l, 0, x, h, j, hj => by
    simp at h
    subst h
    rw [List.flatMap_cons, Nat.zero_mul, Nat.zero_add, List.getElem?_append_left (by rw [hf]; exact hj)]
  | y :: l, i + 1, x, h, j, hj => by
    simp at h
    rw [List.flatMap_cons, List.getElem?_append_right (by rw [hf, Nat.succ_mul]; omega), hf, show (i + 1) * n + j - n = i * n + j by rw [Nat.succ_mul]; omega]
    exact flat_get f n hf l i x h j hj

/-- the table lies in a block -/
def ShAt (b : Nat) (w : World) : Prop := ∀ i s, shL[i]? = some s → ∀ j, j < 5 → w.cell? ⟨b, i * 5 + j, none⟩ = s.cells[j]?
theorem ShAt.of {b : Nat} {w : World} {T : TypeId} (h : w.heap[b]? = some (.cells shC.toArray T)) : ShAt b w := by
  intro i s hs j hj
  have h1 := flat_get Sh.cells 5 (fun _ => rfl) shL i s hs j hj
  rw [← shC_flat] at h1
  obtain ⟨u, hu⟩ : ∃ u, s.cells[j]? = some u := ⟨s.cells[j]'(by show j < 5; exact hj), List.getElem?_eq_getElem _⟩
  rw [hu] at h1 ⊢
  exact heap_cell _ _ h (by rw [List.getElem?_toArray]; exact h1)
theorem ShAt.below {b : Nat} {w w' : World} (h : ShAt b w) (hl : b < w.heap.size) (hb : Below w.heap.size w w') : ShAt b w' :=
  fun i s hs j hj => (hb.cell (p := ⟨b, _, none⟩) hl).trans (h i s hs j hj)

set_option maxRecDepth 100000 in
set_option maxHeartbeats 2000000 in
theorem sheets_any (w : World) : Calls Tryd.prog 22 #[] w fun e w' => e = .returned (.slice (some ⟨w.heap.size, 0, none⟩) 21 21) ∧ Below w.heap.size w w' ∧ ShAt w.heap.size w' ∧ w.heap.size < w'.heap.size := by
  go_enter Tryd.func22, Tryd.ntmps22
  go_wp2
  go_ret
  refine ⟨rfl, by (repeat' (first | (with_reducible exact Below.refl _ _) | (with_reducible assumption) | (with_reducible refine below_drewN ?_ _) | (with_reducible refine Below.drew ?_) | (with_reducible refine below_new ?_ (Nat.le_refl _) _) | (with_reducible refine Below.setCell ?_ ?_ _) | (with_reducible refine below_go ?_ (by assumption) (Nat.le_refl _)) | (simp; done) | (simp; omega) | omega)), ShAt.of (heap_alloc_new w _), by simp⟩

/-- the number of the first row of which a function tells true; -1: of none -/
def findI (p : Sh → Bool) : Int := match shL.findIdx? p with | some i => (i : Int) | none => -1
theorem findI_some (p : Sh → Bool) (i : Nat) (s : Sh) (hs : shL[i]? = some s) (hp : p s = true) (hn : ∀ j, j < i → ∀ t, shL[j]? = some t → p t = false) : findI p = (i : Int) := by
  obtain ⟨hi, hs2⟩ := List.getElem?_eq_some_iff.1 hs
  have : shL.findIdx? p = some i := by
    rw [List.findIdx?_eq_some_iff_getElem]
    refine ⟨hi, by rw [hs2]; exact hp, fun j hj => ?_⟩
    have := hn j hj _ (List.getElem?_eq_getElem (by omega))
    simp [this]
  unfold findI
  rw [this]
theorem findI_none (p : Sh → Bool) (hn : ∀ j, j < 21 → ∀ t, shL[j]? = some t → p t = false) : findI p = -1 := by
  have : shL.findIdx? p = none := by
    rw [List.findIdx?_eq_none_iff]
    intro x hx
    obtain ⟨j, hj⟩ := List.getElem?_of_mem hx
    have hj2 := (List.getElem?_eq_some_iff.1 hj).1
    rw [shL_len] at hj2
    rw [hn j hj2 x hj]
  unfold findI
  rw [this]

set_option maxRecDepth 100000 in
set_option maxHeartbeats 2000000 in
theorem ix_sheet (F : FuncId) (caps : Array Value) (p : Sh → Bool) (b : Nat) (w : World) (hb : b < w.heap.size) (hc : ShAt b w)
    (hcf : ∀ (args : Array Value) (w : World), Sem.run Tryd.prog (callFunc F args) w = .ok (.enter F args) w)
    (hF : ∀ (s : Sh) w', Below w.heap.size w w' → Calls Tryd.prog F (#[.agg #[.int .i64 s.kind, .string s.name, .string s.inp, .string s.out, .int .i64 s.inner]] ++ caps) w' fun e w'' => e = .returned (.bool (p s)) ∧ Below w'.heap.size w' w'') :
    Calls Tryd.prog 23 #[.slice (some ⟨b, 0, none⟩) 21 21, .func (.func F) #[] caps] w fun e w' => e = .returned (.int .i64 (findI p)) ∧ Below w.heap.size w w' := by
  have HF := Lib.hid hF
  have HC := Lib.hid hc
  clear hF hc
  go_enter Tryd.func23, Tryd.ntmps23
  go_wp2_with fail
  go_loopw [8] (fun u wr => ∃ k : Nat, k ≤ 21 ∧ u = .int .i64 k ∧ Hid (∀ j, j < k → ∀ t, shL[j]? = some t → p t = false) ∧ Below w.heap.size w wr) (fun u _ => 21 - (intOf u).toNat)
  case atStart => exact ⟨0, by omega, rfl, Lib.hid (fun j hj => by omega), Below.refl _ _⟩
  case round =>
    obtain ⟨k, hk, rfl, HK, hbr⟩ := hrel
    by_cases hlt : k < 21
    · obtain ⟨s, hs⟩ : ∃ s, shL[k]? = some s := ⟨shL[k]'(by rw [shL_len]; exact hlt), List.getElem?_eq_getElem _⟩
      have hcells := HC.out.below hb hbr k s hs
      have c0 : wr.cell? ⟨b, k * 5, none⟩ = some (.int .i64 s.kind) := hcells 0 (by omega)
      have c1 : wr.cell? ⟨b, k * 5 + 1, none⟩ = some (.string s.name) := hcells 1 (by omega)
      have c2 : wr.cell? ⟨b, k * 5 + 2, none⟩ = some (.string s.inp) := hcells 2 (by omega)
      have c3 : wr.cell? ⟨b, k * 5 + 3, none⟩ = some (.string s.out) := hcells 3 (by omega)
      have c4 : wr.cell? ⟨b, k * 5 + 4, none⟩ = some (.int .i64 s.inner) := hcells 4 (by omega)
      have hk0 : (0 : Int) ≤ (k : Int) := by omega
      have hkn : (k : Int) < 21 := by omega
      have HS := Lib.hid hs
      clear hs hcells
      have HFk := HF.out s wr hbr
      cases hp : p s
      · rw [hp] at HFk
        have HP := Lib.hid hp
        have HF2 := Lib.hid HFk
        clear hp HFk
        go_wp2_with fail
        refine HF2.out.mono ?_
        rintro e w' ⟨rfl, hb2⟩
        go_wp2
        go_roundw
        case rel =>
          refine ⟨k + 1, by omega, by go_num, Lib.hid (fun j hj t ht => ?_), by (repeat' (first | (with_reducible exact Below.refl _ _) | (with_reducible assumption) | (with_reducible refine below_drewN ?_ _) | (with_reducible refine Below.drew ?_) | (with_reducible refine below_new ?_ (Nat.le_refl _) _) | (with_reducible refine Below.setCell ?_ ?_ _) | (with_reducible refine below_go ?_ (by assumption) (Nat.le_refl _)) | (simp; done) | (simp; omega) | omega))⟩
          rcases Nat.lt_succ_iff_lt_or_eq.1 hj with h | rfl
          · exact HK.out j h t ht
          · rw [HS.out] at ht
            cases ht
            exact HP.out
        case measure => simp [intOf]; omega
      · rw [hp] at HFk
        have HP := Lib.hid hp
        have HF2 := Lib.hid HFk
        clear hp HFk
        go_wp2_with fail
        refine HF2.out.mono ?_
        rintro e w' ⟨rfl, hb2⟩
        go_wp2
        go_ret
        rw [findI_some p k s HS.out HP.out HK.out]
        exact ⟨rfl, by (repeat' (first | (with_reducible exact Below.refl _ _) | (with_reducible assumption) | (with_reducible refine below_drewN ?_ _) | (with_reducible refine Below.drew ?_) | (with_reducible refine below_new ?_ (Nat.le_refl _) _) | (with_reducible refine Below.setCell ?_ ?_ _) | (with_reducible refine below_go ?_ (by assumption) (Nat.le_refl _)) | (simp; done) | (simp; omega) | omega))⟩
    · obtain rfl : k = 21 := by omega
      go_wp2
      go_ret
      rw [findI_none p HK.out]
      exact ⟨rfl, by (repeat' (first | (with_reducible exact Below.refl _ _) | (with_reducible assumption) | (with_reducible refine below_drewN ?_ _) | (with_reducible refine Below.drew ?_) | (with_reducible refine below_new ?_ (Nat.le_refl _) _) | (with_reducible refine Below.setCell ?_ ?_ _) | (with_reducible refine below_go ?_ (by assumption) (Nat.le_refl _)) | (simp; done) | (simp; omega) | omega))⟩

end Go.Proofs.YtedmhafpaielmaaDoor
