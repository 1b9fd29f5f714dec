/- Merged: Layer 16: the reference's table and its names (lines of StdM, StdN, StdO, for the Fold seat). Layer 16: the reference's table (TreeM), beside the program's. Layer 16: the reference's pins of a kind. -/
import Derived.Test.YtknnhnefbbjcdaaDoorBase
import Derived.Test.YtknnhnefbbjcdaaDoorM02
import Derived.Test.YtknnhnefbbjcdaaDoorM16
namespace Go.Proofs.YtknnhnefbbjcdaaDoor
open Go.RowKit
set_option linter.unusedVariables false
set_option linter.unusedSimpArgs false
attribute [local go_sem] ite_max ite_min vite_max vite_min ext_cell ext_frozen extS_cell extS_frozen

structure Rw where
 kind : Int
 name : ByteArray
 pins : ByteArray
 nms : List ByteArray
def rwL : List Rw := [⟨10, ⟨#[84, 79, 78]⟩, ⟨#[105, 73, 111, 79]⟩, [⟨#[73, 78]⟩, ⟨#[80, 84]⟩, ⟨#[81]⟩, ⟨#[69, 84]⟩]⟩,
 ⟨11, ⟨#[84, 79, 70]⟩, ⟨#[105, 73, 111, 79]⟩, [⟨#[73, 78]⟩, ⟨#[80, 84]⟩, ⟨#[81]⟩, ⟨#[69, 84]⟩]⟩,
 ⟨12, ⟨#[84, 80]⟩, ⟨#[105, 73, 111, 79, 46, 46]⟩, [⟨#[73, 78]⟩, ⟨#[80, 84]⟩, ⟨#[81]⟩, ⟨#[69, 84]⟩]⟩,
 ⟨13, ⟨#[67, 84, 85]⟩, ⟨#[105, 105, 73, 111, 79, 46]⟩, [⟨#[67, 85]⟩, ⟨#[82]⟩, ⟨#[80, 86]⟩, ⟨#[81]⟩, ⟨#[67, 86]⟩]⟩,
 ⟨14, ⟨#[67, 84, 68]⟩, ⟨#[105, 105, 73, 111, 79, 46]⟩, [⟨#[67, 68]⟩, ⟨#[76, 68]⟩, ⟨#[80, 86]⟩, ⟨#[81]⟩, ⟨#[67, 86]⟩]⟩,
 ⟨15, ⟨#[82, 95, 84, 82, 73, 71]⟩, ⟨#[105, 111, 46]⟩, [⟨#[67, 76, 75]⟩, ⟨#[81]⟩]⟩,
 ⟨16, ⟨#[70, 95, 84, 82, 73, 71]⟩, ⟨#[105, 111, 46]⟩, [⟨#[67, 76, 75]⟩, ⟨#[81]⟩]⟩,
 ⟨17, ⟨#[83, 82]⟩, ⟨#[105, 105, 111]⟩, [⟨#[83, 49]⟩, ⟨#[82]⟩, ⟨#[81, 49]⟩]⟩,
 ⟨18, ⟨#[82, 83]⟩, ⟨#[105, 105, 111]⟩, [⟨#[83]⟩, ⟨#[82, 49]⟩, ⟨#[81, 49]⟩]⟩,
 ⟨20, ⟨#[77, 67, 95, 80, 111, 119, 101, 114]⟩, ⟨#[73, 105, 111, 111]⟩, [⟨#[65, 120, 105, 115]⟩, ⟨#[69, 110, 97, 98, 108, 101]⟩, ⟨#[83, 116, 97, 116, 117, 115]⟩, ⟨#[69, 114, 114, 111, 114]⟩]⟩,
 ⟨21, ⟨#[77, 67, 95, 72, 111, 109, 101]⟩, ⟨#[73, 105, 111, 111, 111, 111, 111, 46, 46]⟩, [⟨#[65, 120, 105, 115]⟩, ⟨#[69, 120, 101, 99, 117, 116, 101]⟩, ⟨#[68, 111, 110, 101]⟩, ⟨#[66, 117, 115, 121]⟩, ⟨#[65, 99, 116, 105, 118, 101]⟩, ⟨#[67, 111, 109, 109, 97, 110, 100, 65, 98, 111, 114, 116, 101, 100]⟩, ⟨#[69, 114, 114, 111, 114]⟩]⟩,
 ⟨22, ⟨#[77, 67, 95, 83, 116, 111, 112]⟩, ⟨#[73, 105, 111, 111, 111, 111, 111, 46, 46]⟩, [⟨#[65, 120, 105, 115]⟩, ⟨#[69, 120, 101, 99, 117, 116, 101]⟩, ⟨#[68, 111, 110, 101]⟩, ⟨#[66, 117, 115, 121]⟩, ⟨#[65, 99, 116, 105, 118, 101]⟩, ⟨#[67, 111, 109, 109, 97, 110, 100, 65, 98, 111, 114, 116, 101, 100]⟩, ⟨#[69, 114, 114, 111, 114]⟩]⟩,
 ⟨23, ⟨#[77, 67, 95, 72, 97, 108, 116]⟩, ⟨#[73, 105, 111, 111, 111, 111, 111, 46, 46]⟩, [⟨#[65, 120, 105, 115]⟩, ⟨#[69, 120, 101, 99, 117, 116, 101]⟩, ⟨#[68, 111, 110, 101]⟩, ⟨#[66, 117, 115, 121]⟩, ⟨#[65, 99, 116, 105, 118, 101]⟩, ⟨#[67, 111, 109, 109, 97, 110, 100, 65, 98, 111, 114, 116, 101, 100]⟩, ⟨#[69, 114, 114, 111, 114]⟩]⟩,
 ⟨24, ⟨#[77, 67, 95, 77, 111, 118, 101, 65, 98, 115, 111, 108, 117, 116, 101]⟩, ⟨#[73, 105, 73, 73, 73, 111, 111, 111, 111, 111, 46, 46]⟩, [⟨#[65, 120, 105, 115]⟩, ⟨#[69, 120, 101, 99, 117, 116, 101]⟩, ⟨#[80, 111, 115, 105, 116, 105, 111, 110]⟩, ⟨#[86, 101, 108, 111, 99, 105, 116, 121]⟩, ⟨#[66, 117, 102, 102, 101, 114, 77, 111, 100, 101]⟩, ⟨#[68, 111, 110, 101]⟩, ⟨#[66, 117, 115, 121]⟩, ⟨#[65, 99, 116, 105, 118, 101]⟩, ⟨#[67, 111, 109, 109, 97, 110, 100, 65, 98, 111, 114, 116, 101, 100]⟩, ⟨#[69, 114, 114, 111, 114]⟩]⟩,
 ⟨25, ⟨#[77, 67, 95, 77, 111, 118, 101, 82, 101, 108, 97, 116, 105, 118, 101]⟩, ⟨#[73, 105, 73, 73, 73, 111, 111, 111, 111, 111, 46, 46]⟩, [⟨#[65, 120, 105, 115]⟩, ⟨#[69, 120, 101, 99, 117, 116, 101]⟩, ⟨#[68, 105, 115, 116, 97, 110, 99, 101]⟩, ⟨#[86, 101, 108, 111, 99, 105, 116, 121]⟩, ⟨#[66, 117, 102, 102, 101, 114, 77, 111, 100, 101]⟩, ⟨#[68, 111, 110, 101]⟩, ⟨#[66, 117, 115, 121]⟩, ⟨#[65, 99, 116, 105, 118, 101]⟩, ⟨#[67, 111, 109, 109, 97, 110, 100, 65, 98, 111, 114, 116, 101, 100]⟩, ⟨#[69, 114, 114, 111, 114]⟩]⟩,
 ⟨26, ⟨#[77, 67, 95, 77, 111, 118, 101, 65, 100, 100, 105, 116, 105, 118, 101]⟩, ⟨#[73, 105, 73, 73, 73, 111, 111, 111, 111, 111, 46, 46]⟩, [⟨#[65, 120, 105, 115]⟩, ⟨#[69, 120, 101, 99, 117, 116, 101]⟩, ⟨#[68, 105, 115, 116, 97, 110, 99, 101]⟩, ⟨#[86, 101, 108, 111, 99, 105, 116, 121]⟩, ⟨#[66, 117, 102, 102, 101, 114, 77, 111, 100, 101]⟩, ⟨#[68, 111, 110, 101]⟩, ⟨#[66, 117, 115, 121]⟩, ⟨#[65, 99, 116, 105, 118, 101]⟩, ⟨#[67, 111, 109, 109, 97, 110, 100, 65, 98, 111, 114, 116, 101, 100]⟩, ⟨#[69, 114, 114, 111, 114]⟩]⟩,
 ⟨27, ⟨#[77, 67, 95, 77, 111, 118, 101, 86, 101, 108, 111, 99, 105, 116, 121]⟩, ⟨#[73, 105, 73, 111, 111, 111, 111, 111, 46, 46]⟩, [⟨#[65, 120, 105, 115]⟩, ⟨#[69, 120, 101, 99, 117, 116, 101]⟩, ⟨#[86, 101, 108, 111, 99, 105, 116, 121]⟩, ⟨#[73, 110, 86, 101, 108, 111, 99, 105, 116, 121]⟩, ⟨#[66, 117, 115, 121]⟩, ⟨#[65, 99, 116, 105, 118, 101]⟩, ⟨#[67, 111, 109, 109, 97, 110, 100, 65, 98, 111, 114, 116, 101, 100]⟩, ⟨#[69, 114, 114, 111, 114]⟩]⟩,
 ⟨28, ⟨#[77, 67, 95, 71, 101, 97, 114, 73, 110]⟩, ⟨#[73, 105, 73, 73, 73, 111, 111, 111, 111, 111, 46, 46]⟩, [⟨#[65, 120, 105, 115]⟩, ⟨#[69, 120, 101, 99, 117, 116, 101]⟩, ⟨#[77, 97, 115, 116, 101, 114]⟩, ⟨#[78, 117, 109, 101, 114, 97, 116, 111, 114]⟩, ⟨#[68, 101, 110, 111, 109, 105, 110, 97, 116, 111, 114]⟩, ⟨#[73, 110, 71, 101, 97, 114]⟩, ⟨#[66, 117, 115, 121]⟩, ⟨#[65, 99, 116, 105, 118, 101]⟩, ⟨#[67, 111, 109, 109, 97, 110, 100, 65, 98, 111, 114, 116, 101, 100]⟩, ⟨#[69, 114, 114, 111, 114]⟩]⟩,
 ⟨29, ⟨#[77, 67, 95, 82, 101, 115, 101, 116]⟩, ⟨#[73, 105, 111, 111, 46]⟩, [⟨#[65, 120, 105, 115]⟩, ⟨#[69, 120, 101, 99, 117, 116, 101]⟩, ⟨#[68, 111, 110, 101]⟩, ⟨#[69, 114, 114, 111, 114]⟩]⟩,
 ⟨30, ⟨#[77, 67, 95, 83, 101, 116, 80, 111, 115, 105, 116, 105, 111, 110]⟩, ⟨#[73, 105, 73, 111, 111, 46]⟩, [⟨#[65, 120, 105, 115]⟩, ⟨#[69, 120, 101, 99, 117, 116, 101]⟩, ⟨#[80, 111, 115, 105, 116, 105, 111, 110]⟩, ⟨#[68, 111, 110, 101]⟩, ⟨#[69, 114, 114, 111, 114]⟩]⟩,
 ⟨31, ⟨#[77, 67, 95, 83, 101, 116, 79, 118, 101, 114, 114, 105, 100, 101]⟩, ⟨#[73, 105, 73, 111]⟩, [⟨#[65, 120, 105, 115]⟩, ⟨#[69, 110, 97, 98, 108, 101]⟩, ⟨#[80, 101, 114, 99, 101, 110, 116]⟩, ⟨#[69, 110, 97, 98, 108, 101, 100]⟩]⟩]
def Rw.names (r : Rw) : List Value := r.nms.map Value.string
def Rw.cells (H i : Nat) (r : Rw) : List Value := [.int .i64 r.kind, .string r.name, .string r.pins, .slice (some ⟨H + i, 0, none⟩) r.nms.length r.nms.length]
theorem rwL_len : rwL.length = 21 := by kernel_rfl
def rwC (H : Nat) : Nat → List Rw → List Value
 | _, [] => []
 | i, r :: l => r.cells H i ++ rwC H (i + 1) l
theorem rwC_get (H : Nat) : ∀ (l : List Rw) (i m : Nat) (r : Rw), l[i]? = some r → ∀ j, j < 4 → (rwC H m l)[i * 4 + j]? = (r.cells H (m + i))[j]?
 | [], i, m, r, h, _, _ => by simp at h
 | y :: l, 0, m, r, h, j, hj => by
  simp at h
  subst h
  rw [rwC, Nat.zero_mul, Nat.zero_add, List.getElem?_append_left (by show j < 4; exact hj)]
  rfl
 | y :: l, i + 1, m, r, h, j, hj => by
  simp at h
  rw [rwC, List.getElem?_append_right (by show 4 ≤ _; omega), show (i + 1) * 4 + j - (y.cells H m).length = i * 4 + j by show (i + 1) * 4 + j - 4 = _; omega]
  rw [rwC_get H l i (m + 1) r h j hj, show m + 1 + i = m + (i + 1) by omega]

def allocs (w : World) (l : List Obj) : World := l.foldl World.alloc w
theorem allocs_size (l : List Obj) : ∀ w : World, (allocs w l).heap.size = w.heap.size + l.length := by
 induction l with
 | nil => intro w; rfl
 | cons o l ih =>
  intro w
  show (allocs (w.alloc o) l).heap.size = _
  rw [ih]
  simp
  omega
theorem allocs_below (l : List Obj) : ∀ w : World, Below w.heap.size w (allocs w l) := by
 induction l with
 | nil => intro w; exact Below.refl _ _
 | cons o l ih =>
  intro w
  show Below w.heap.size w (allocs (w.alloc o) l)
  exact ((Below.refl _ _).alloc (Nat.le_refl _) o).trans ((ih (w.alloc o)).mono (by simp))
theorem allocs_get (l : List Obj) : ∀ (w : World) (i : Nat) (o : Obj), l[i]? = some o → (allocs w l).heap[w.heap.size + i]? = some o := by
 induction l with
 | nil => intro w i o h; simp at h
 | cons x l ih =>
  intro w i o h
  show (allocs (w.alloc x) l).heap[_]? = _
  cases i with
  | zero =>
   simp at h
   subst h
   have hb := allocs_below l (w.alloc x)
   rw [Nat.add_zero, hb.block w.heap.size (by simp)]
   exact heap_alloc_new w x
  | succ i =>
   have := ih (w.alloc x) i o (by simpa using h)
   rw [show (w.alloc x).heap.size + i = w.heap.size + (i + 1) by simp; omega] at this
   exact this
def rwO (H : Nat) : List Obj := (rwL.map fun r => .cells r.names.toArray 9) ++ [.cells (rwC H 0 rwL).toArray 117]

structure RwAt (H : Nat) (w : World) : Prop where
 lt : H + 21 < w.heap.size
 row : ∀ i r, rwL[i]? = some r → ∀ j, j < 4 → w.cell? ⟨H + 21, i * 4 + j, none⟩ = (r.cells H i)[j]?
 names : ∀ i r, rwL[i]? = some r → ∀ j s, r.nms[j]? = some s → w.cell? ⟨H + i, j, none⟩ = some (.string s)
theorem RwAt.below {H : Nat} {w w' : World} (h : RwAt H w) (hb : Below w.heap.size w w') : RwAt H w' :=
 ⟨Nat.lt_of_lt_of_le h.lt hb.size, fun i r hr j hj => (hb.cell (p := ⟨H + 21, _, none⟩) h.lt).trans (h.row i r hr j hj),
  fun i r hr j s hs => (hb.cell (p := ⟨H + i, j, none⟩) (by show H + i < w.heap.size; have := (List.getElem?_eq_some_iff.1 hr).1; rw [rwL_len] at this; have := h.lt; omega)).trans (h.names i r hr j s hs)⟩
theorem RwAt.mk0 (w : World) : RwAt w.heap.size (allocs w (rwO w.heap.size)) := by
 have hl : (rwO w.heap.size).length = 22 := by simp [rwO, rwL_len]
 refine ⟨by rw [allocs_size, hl]; omega, fun i r hr j hj => ?_, fun i r hr j s hs => ?_⟩
 ·have h1 : (rwO w.heap.size)[21]? = some (.cells (rwC w.heap.size 0 rwL).toArray 117) := by
   unfold rwO
   rw [List.getElem?_append_right (by simp [rwL_len]), List.length_map, rwL_len]
   rfl
  have h2 := allocs_get _ w 21 _ h1
  have h3 := rwC_get w.heap.size rwL i 0 r hr j hj
  rw [Nat.zero_add] at h3
  obtain ⟨u, hu⟩ : ∃ u, (r.cells w.heap.size i)[j]? = some u := ⟨(r.cells w.heap.size i)[j]'(by show j < 4; exact hj), List.getElem?_eq_getElem _⟩
  rw [hu] at h3 ⊢
  exact heap_cell _ _ h2 (by rw [List.getElem?_toArray]; exact h3)
 ·have hi := (List.getElem?_eq_some_iff.1 hr).1
  have h1 : (rwO w.heap.size)[i]? = some (.cells r.names.toArray 9) := by
   unfold rwO
   rw [List.getElem?_append_left (by simpa using hi), List.getElem?_map, hr]
   rfl
  have h2 := allocs_get _ w i _ h1
  exact heap_cell _ _ h2 (by rw [List.getElem?_toArray]; simp [Rw.names, hs])

set_option maxRecDepth 100000 in
set_option maxHeartbeats 4000000 in
theorem rows_any (w : World) : Calls Tryd.prog 49 #[] w fun e w' => e = .returned (.slice (some ⟨w.heap.size + 21, 0, none⟩) 21 21) ∧ Below w.heap.size w w' ∧ RwAt w.heap.size w' := by
 go_enter Tryd.func49, Tryd.ntmps49
 go_wp2
 go_ret
 refine ⟨rfl, ?_, ?_⟩
 ·exact allocs_below (rwO w.heap.size) w
 ·exact RwAt.mk0 w

theorem rfind_at (p : Rw → Bool) : (∃ (i : Nat) (r : Rw), i < 21 ∧ rwL[i]? = some r ∧ rwL.find? p = some r ∧ p r = true ∧ ∀ j, j < i → ∀ t, rwL[j]? = some t → p t = false) ∨ (rwL.find? p = none ∧ ∀ (j : Nat) t, rwL[j]? = some t → p t = false) := by
 cases h : rwL.find? p with
 | none =>
  rw [List.find?_eq_none] at h
  exact .inr ⟨rfl, fun j t ht => by simpa using h t (List.mem_of_getElem? ht)⟩
 | some r =>
  rw [List.find?_eq_some_iff_getElem] at h
  obtain ⟨hp, i, hi, hr, hn⟩ := h
  refine .inl ⟨i, r, by rw [rwL_len] at hi; exact hi, by rw [List.getElem?_eq_getElem hi, hr], rfl, hp, fun j hj t ht => ?_⟩
  have := hn j hj
  have hjl : j < rwL.length := by omega
  rw [List.getElem?_eq_getElem hjl] at ht
  cases ht
  simpa using this

def rnameOf (kind : Int) : ByteArray := match rwL.find? (fun r => decide (r.kind = kind)) with | some r => r.name | none => ⟨#[]⟩
theorem rname_size (k : Int) : (rnameOf k).size ≤ 16 := by
 unfold rnameOf
 cases h : rwL.find? (fun r => decide (r.kind = k)) with
 | none => simp [ByteArray.size]
 | some r =>
  have hall : rwL.all (fun r => decide (r.name.size ≤ 16)) = true := by kernel_rfl
  have := List.all_eq_true.1 hall r (List.mem_of_find?_eq_some h)
  simpa using this

set_option maxRecDepth 100000 in
set_option maxHeartbeats 4000000 in
theorem rname_any (kind : Int) (w : World) : Calls Tryd.prog 30 #[.int .i64 kind] w fun e w' => e = .returned (.string (rnameOf kind)) ∧ Below w.heap.size w w' := by
 have HF := Lib.hid (rfind_at fun r => decide (r.kind = kind))
 obtain ⟨x, hx⟩ : ∃ x, rnameOf kind = x := ⟨_, rfl⟩
 rw [hx]
 have HX := Lib.hid hx
 clear hx
 go_enter Tryd.func30, Tryd.ntmps30
 go_wp2_with fail
 refine (rows_any w).mono ?_
 rintro e w1 ⟨rfl, hb1, hr1⟩
 have HR := Lib.hid hr1
 have hlt1 := hr1.lt
 have HB1 := Lib.hid hb1
 have hz1 := hb1.size
 clear hr1 hb1
 go_wp2_with fail
 go_loopw [4] (fun vi wr => ∃ i : Nat, i ≤ 21 ∧ vi = .int .i64 i ∧ Hid (∀ j, j < i → ∀ t, rwL[j]? = some t → (fun r => decide (r.kind = kind)) t = false) ∧ Below w1.heap.size w1 wr) (fun vi _ => 21 - (intOf vi).toNat)
 case atStart => exact ⟨0, by omega, rfl, Lib.hid (fun j hj => by omega), Below.refl _ _⟩
 case round =>
  obtain ⟨i, hi, rfl, HNO, hbr⟩ := hrel
  by_cases hlt : i < 21
  ·obtain ⟨r, hr⟩ : ∃ r, rwL[i]? = some r := ⟨rwL[i]'(by rw [rwL_len]; exact hlt), List.getElem?_eq_getElem _⟩
   have HRr := Lib.hid (HR.out.below hbr)
   have c0 : wr.cell? ⟨w.heap.size + 21, i * 4, none⟩ = some (.int .i64 r.kind) := HRr.out.row i r hr 0 (by omega)
   have c1 : wr.cell? ⟨w.heap.size + 21, i * 4 + 1, none⟩ = some (.string r.name) := HRr.out.row i r hr 1 (by omega)
   have hi0 : (0 : Int) ≤ (i : Int) := by omega
   have hi1 : (i : Int) < 21 := by omega
   cases hk : (fun r : Rw => decide (r.kind = kind)) r
   ·have hr' := Lib.hid hr
    have HK := Lib.hid hk
    have hkk : ¬ r.kind = kind := by simpa using hk
    clear hr hk
    go_wp2
    go_roundw
    case rel =>
     refine ⟨i + 1, by omega, by go_num, Lib.hid (fun j hj t ht => ?_), hbr⟩
     rcases Nat.lt_succ_iff_lt_or_eq.1 hj with h | rfl
     ·exact HNO.out j h t ht
     ·rw [hr'.out] at ht
      cases ht
      exact HK.out
    case measure => simp [intOf]; omega
   ·have hfound : rwL.find? (fun r => decide (r.kind = kind)) = some r := by
     rcases HF.out with ⟨i', r', hi', hr', hf', hp', hn'⟩ | ⟨_, hno⟩
     ·have : i' = i := by
       rcases Nat.lt_trichotomy i i' with h | h | h
       ·have := hn' i h r hr
        exact absurd (Eq.trans (Eq.symm this) hk) (by decide)
       ·exact h.symm
       ·have := HNO.out i' h r' hr'
        exact absurd (Eq.trans (Eq.symm this) hp') (by decide)
      subst this
      rw [hr] at hr'
      cases hr'
      exact hf'
     ·have := hno i r hr
      exact absurd (Eq.trans (Eq.symm this) hk) (by decide)
    have hxr : x = r.name := by
     rw [← HX.out]
     unfold rnameOf
     rw [hfound]
    have HXR := Lib.hid hxr
    have hkk : r.kind = kind := by simpa using hk
    clear hr hk hfound hxr
    go_wp2
    go_ret
    rw [HXR.out]
    exact ⟨rfl, HB1.out.trans (hbr.mono HB1.out.size)⟩
  ·obtain rfl : i = 21 := by omega
   have hxr : x = ⟨#[]⟩ := by
    rcases HF.out with ⟨i, r, hi21, hr, _, hp, _⟩ | ⟨hno, _⟩
    ·exact absurd (Eq.trans (Eq.symm (HNO.out i hi21 r hr)) hp) (by decide)
    ·rw [← HX.out]
     unfold rnameOf
     rw [hno]
   have HXR := Lib.hid hxr
   clear hxr
   go_wp2
   go_ret
   rw [HXR.out]
   exact ⟨rfl, HB1.out.trans (hbr.mono HB1.out.size)⟩

end Go.Proofs.YtknnhnefbbjcdaaDoor

namespace Go.Proofs.YtknnhnefbbjcdaaDoor
set_option linter.unusedVariables false
set_option linter.unusedSimpArgs false

end Go.Proofs.YtknnhnefbbjcdaaDoor

namespace Go.Proofs.YtknnhnefbbjcdaaDoor
open Go.RowKit
set_option linter.unusedVariables false
set_option linter.unusedSimpArgs false
attribute [local go_sem] ite_max ite_min vite_max vite_min ext_cell ext_frozen extS_cell extS_frozen

def Rw.ch (r : Rw) (k : Nat) : UInt8 := r.pins.data.toList[k]?.getD 0
def Rw.pin (r : Rw) (k : Nat) : List Value :=
 [.string (bif r.ch k == 46 then ⟨#[]⟩ else r.nms[k]?.getD ⟨#[]⟩), .int .i64 (bif r.ch k == 105 || r.ch k == 111 then 2 else 1), .bool (r.ch k != 46 && (r.ch k == 105 || r.ch k == 73))]
def Rw.pinsK (r : Rw) : Nat → List Value
 | 0 => []
 | k + 1 => r.pinsK k ++ r.pin k
def Rw.n (r : Rw) : Nat := r.pins.data.toList.length
def okR (r : Rw) : Bool := decide (r.n ≤ 20) && (List.range r.n).all fun k => (r.ch k == 46) || (decide (k < r.nms.length) && (r.ch k == 105 || r.ch k == 111 || r.ch k == 73 || r.ch k == 79))
theorem okR_all : rwL.all okR = true := by kernel_rfl
def rfind (kind : Int) : Option Rw := rwL.find? fun r => decide (r.kind = kind)
def rcount (kind : Int) : Nat := match rfind kind with | some r => r.n | none => 0
def rpinsOf (kind : Int) : List Value := match rfind kind with | some r => r.pinsK r.n | none => []

theorem Rw.pin_one (r : Rw) (k : Nat) : ∀ u ∈ r.pin k, u.oneCell' = true := by
 intro u hu
 simp only [Rw.pin, List.mem_cons, List.not_mem_nil, or_false] at hu
 rcases hu with rfl | rfl | rfl <;> rfl

set_option maxRecDepth 100000 in
set_option maxHeartbeats 4000000 in
theorem rpins_any (kind : Int) (w : World) : Calls Tryd.prog 53 #[.int .i64 kind] w fun e w' => ∃ v, e = .returned v ∧ w'.ownsRow w.heap.size 57 3 v (rcount kind) (rpinsOf kind) ∧ Below w.heap.size w w' := by
 obtain ⟨i0, hi0, hz0, hz1, hz2⟩ := info_parts pin_info
 have HI := Lib.hid hi0
 have HZ0 := Lib.hid hz0
 have HZ1 := Lib.hid hz1
 have HZ2 := Lib.hid hz2
 clear hi0 hz0 hz1 hz2
 have HF := Lib.hid (rfind_at fun r => decide (r.kind = kind))
 obtain ⟨n, hn⟩ : ∃ n, rcount kind = n := ⟨_, rfl⟩
 obtain ⟨xs, hxs⟩ : ∃ xs, rpinsOf kind = xs := ⟨_, rfl⟩
 have hout : ¬ (10 ≤ kind ∧ kind ≤ 31) → n = 0 ∧ xs = [] := by
  intro h
  have : rfind kind = none := by
   unfold rfind
   rw [List.find?_eq_none]
   intro r hr
   have hall : rwL.all (fun r => decide (10 ≤ r.kind ∧ r.kind ≤ 31)) = true := by kernel_rfl
   have := List.all_eq_true.1 hall r hr
   simp at this ⊢
   omega
  rw [← hn, ← hxs]
  unfold rcount rpinsOf
  rw [this]
  exact ⟨rfl, rfl⟩
 rw [hn, hxs]
 by_cases h10 : 10 ≤ kind
 ·by_cases h31 : kind ≤ 31
  ·have HN := Lib.hid hn
   have HXS := Lib.hid hxs
   clear hn hxs hout
   go_enter Tryd.func53, Tryd.ntmps53
   go_wp2_with fail
   refine (rows_any w).mono ?_
   rintro e w1 ⟨rfl, hb1, hr1⟩
   have HR := Lib.hid hr1
   have hlt1 := hr1.lt
   have HB1 := Lib.hid hb1
   have hz1 := hb1.size
   clear hr1 hb1
   go_wp2_with fail
   go_loopw [4] (fun vi wr => ∃ i : Nat, i ≤ 21 ∧ vi = .int .i64 i ∧ Hid (∀ j, j < i → ∀ t, rwL[j]? = some t → decide (t.kind = kind) = false) ∧ Below w1.heap.size w1 wr) (fun vi _ => 21 - (intOf vi).toNat)
   case atStart => exact ⟨0, by omega, rfl, Lib.hid (fun j hj => by omega), Below.refl _ _⟩
   case round =>
    obtain ⟨i, hi, rfl, HNO, hbr⟩ := hrel
    by_cases hlt : i < 21
    ·obtain ⟨r, hr⟩ : ∃ r, rwL[i]? = some r := ⟨rwL[i]'(by rw [rwL_len]; exact hlt), List.getElem?_eq_getElem _⟩
     have HRr := Lib.hid (HR.out.below hbr)
     have c0 : wr.cell? ⟨w.heap.size + 21, i * 4, none⟩ = some (.int .i64 r.kind) := HRr.out.row i r hr 0 (by omega)
     have hi0 : (0 : Int) ≤ (i : Int) := by omega
     have hi1 : (i : Int) < 21 := by omega
     by_cases hk : r.kind = kind
     ·have hfound : rfind kind = some r := by
       rcases HF.out with ⟨i', r', hi', hr', hf', hp', hn'⟩ | ⟨_, hno⟩
       ·have : i' = i := by
         rcases Nat.lt_trichotomy i i' with h | h | h
         ·have := hn' i h r hr
          simp [hk] at this
         ·exact h.symm
         ·have := HNO.out i' h r' hr'
          rw [this] at hp'
          cases hp'
        subst this
        rw [hr] at hr'
        cases hr'
        exact hf'
       ·have := hno i r hr
        simp [hk] at this
      have hnr : r.n = n := by
       rw [← HN.out]
       unfold rcount
       rw [hfound]
      have hxr : r.pinsK r.n = xs := by
       rw [← HXS.out]
       unfold rpinsOf
       rw [hfound]
      rw [hnr] at hxr
      have hok := List.all_eq_true.1 okR_all r (List.mem_of_getElem? hr)
      unfold okR at hok
      rw [hnr] at hok
      simp only [Bool.and_eq_true, decide_eq_true_eq, List.all_eq_true, List.mem_range, Bool.or_eq_true, beq_iff_eq] at hok
      obtain ⟨hn20, hok⟩ := hok
      have HOK := Lib.hid hok
      have HXR := Lib.hid hxr
      have hlen : r.pins.data.toList.length = n := hnr
      have HLN := Lib.hid hlen
      have HRR := Lib.hid hr
      have c2 : wr.cell? ⟨w.heap.size + 21, i * 4 + 2, none⟩ = some (.string r.pins) := HRr.out.row i r hr 2 (by omega)
      have hbs := hbr.size
      clear hok hxr hlen hnr hfound hr
      go_upto_region 9 with (fail)
      obtain ⟨wo, rfl⟩ : ∃ wo : World, wo = wr := ⟨_, rfl⟩
      have HC2 := Lib.hid c2
      have hsz : r.pins.size = n := by show r.pins.data.size = n; rw [← HLN.out, Array.length_toList]
      have hbo : Below w1.heap.size w1 wo := hbr
      have HBO := Lib.hid hbo
      clear c0 c2 hbr hbo
      go_wp2_with fail
      go_loopw [5, 6] (fun v u wr => ∃ (k : Nat) (v' : Value), v' = v ∧ k ≤ n ∧ u = .int .i64 k ∧ Hid (wr.ownsRow wo.heap.size 57 3 v' k (r.pinsK k)) ∧ Below wo.heap.size wo wr) (fun _ u _ => n - (intOf u).toNat)
      case atStart => exact ⟨0, _, rfl, by omega, rfl, Lib.hid (World.ownsRow_nil _ _ _ _), Below.refl _ _⟩
      case round =>
       obtain ⟨k, v', rfl, hk, rfl, HO, hbr⟩ := hrel
       have hbs2 := hbr.size
       have HRk := Lib.hid (HRr.out.below hbr)
       have c2 : wr.cell? ⟨w.heap.size + 21, i * 4 + 2, none⟩ = some (.string r.pins) := HRk.out.row i r HRR.out 2 (by omega)
       by_cases hkn : k < n
       ·have hkI : (0 : Int) ≤ (k : Int) ∧ (k : Int) < (n : Int) := by omega
        have c3 : wr.cell? ⟨w.heap.size + 21, i * 4 + 3, none⟩ = some (.slice (some ⟨w.heap.size + i, 0, none⟩) r.nms.length r.nms.length) := HRk.out.row i r HRR.out 3 (by omega)
        have hkp : k < r.pins.size := by omega
        have hchp : r.ch k = r.pins[k]'hkp := by
         unfold Rw.ch
         rw [List.getElem?_eq_getElem (by rw [HLN.out]; exact hkn)]
         rfl
        have hl20 : wo.heap.size ≤ wr.heap.size := hbs2
        have hlw : w.heap.size + 21 < wr.heap.size := by omega
        have hlw1 : ¬ w.heap.size + 21 = wr.heap.size := by omega
        have hli : w.heap.size + i < wr.heap.size := by omega
        have hli1 : ¬ w.heap.size + i = wr.heap.size := by omega
        rcases HOK.out k hkn with hch | ⟨hkn2, hcs⟩
        ·have hpin : r.pin k = [.string ⟨#[]⟩, .int .i64 1, .bool false] := by unfold Rw.pin; rw [hch]; rfl
         have hchI : (((r.pins[k]'hkp).toNat : Nat) : Int) = 46 := by rw [← hchp, hch]; rfl
         have HP := Lib.hid hpin
         clear hpin hch hchp
         go_upto_region 19 with (fail)
         refine wp_name fun W9 hW9 => ?_
         have p0 : W9.cell? ⟨wr.heap.size, 0, none⟩ = some (.string ⟨#[]⟩) := by rw [hW9.out]; go_simp
         have p1 : W9.cell? ⟨wr.heap.size, 1, none⟩ = some (.int .i64 1) := by rw [hW9.out]; go_simp
         have p2 : W9.cell? ⟨wr.heap.size, 2, none⟩ = some (.bool false) := by rw [hW9.out]; go_simp
         have HB9 : Hid (Below wr.heap.size wr W9) := Lib.hid (by rw [hW9.out]; exact belowBy)
         have hs9 : wr.heap.size < W9.heap.size := by rw [hW9.out]; simp [World.setCell]
         have HO9 := Lib.hid (owns_below HO.out HB9.out)
         clear hW9 hchI
         go_wp2_with (at_builtin; refine wpList_append_own _ rfl _ _ 88 rfl wo.heap.size 57 i0 (.agg #[.string ⟨#[]⟩, .int .i64 0, .bool false]) 3 32 Tryd.underlying88 HI.out HZ0.out HZ1.out HZ2.out rfl (by decide) _ k _ rfl (HO9.out.alloc _) ⟨W9.heap.size, 0, none⟩ 1 1 (r.pin k) rfl ?xlen ?xnews (r.pin_one k) ?xmax ?xby ?xbase ?_)
         case xlen => rfl
         case xnews =>
          rw [HP.out]
          intro j u hu
          have had : (⟨W9.heap.size, 0, none⟩ : Addr).add j = ⟨W9.heap.size, j, none⟩ := by cases j <;> simp [Addr.add]
          rw [had]
          exact heap_cell j _ (heap_alloc_new _ _) (by rw [List.getElem?_toArray]; exact hu)
         case xmax => unfold maxLen; omega
         case xby => omega
         case xbase => first | omega | (simp; omega)
         intro v2 w2 hown2 hgrow _
         have HO2 : Hid (w2.ownsRow wo.heap.size 57 3 v2 (k + 1) (r.pinsK (k + 1))) := Lib.hid hown2
         have hb2 : Below wo.heap.size wo w2 := below_grown (below_new (hbr.trans (HB9.out.mono hbr.size)) (Nat.le_refl _) _) hgrow (HO9.out.alloc _) (Nat.le_refl _) (by simp; omega)
         clear hown2 hgrow HO HO9
         go_wp2
         go_roundw
         case rel => exact ⟨k + 1, _, rfl, by omega, by go_num, HO2, hb2⟩
         case measure => simp [intOf]; omega
        ·obtain ⟨s, hs⟩ : ∃ s, r.nms[k]? = some s := ⟨r.nms[k], List.getElem?_eq_getElem _⟩
         have c4 : wr.cell? ⟨w.heap.size + i, k, none⟩ = some (.string s) := HRk.out.names i r HRR.out k s hs
         have hkm : (k : Int) < (r.nms.length : Int) := by omega
         have hgd : r.nms[k]?.getD ⟨#[]⟩ = s := by rw [hs]; rfl
         clear hs
         rcases hcs with ((hch | hch) | hch) | hch
         ·have hpin : r.pin k = [.string s, .int .i64 2, .bool true] := by unfold Rw.pin; rw [hch, hgd]; rfl
          have hchI : (((r.pins[k]'hkp).toNat : Nat) : Int) = 105 := by rw [← hchp, hch]; rfl
          have HP := Lib.hid hpin
          clear hpin hch hchp
          go_upto_region 19 with (fail)
          refine wp_name fun W9 hW9 => ?_
          have p0 : W9.cell? ⟨wr.heap.size, 0, none⟩ = some (.string s) := by rw [hW9.out]; go_simp
          have p1 : W9.cell? ⟨wr.heap.size, 1, none⟩ = some (.int .i64 2) := by rw [hW9.out]; go_simp
          have p2 : W9.cell? ⟨wr.heap.size, 2, none⟩ = some (.bool true) := by rw [hW9.out]; go_simp
          have HB9 : Hid (Below wr.heap.size wr W9) := Lib.hid (by rw [hW9.out]; exact belowBy)
          have hs9 : wr.heap.size < W9.heap.size := by rw [hW9.out]; simp [World.setCell]
          have HO9 := Lib.hid (owns_below HO.out HB9.out)
          clear hW9 hchI
          go_wp2_with (at_builtin; refine wpList_append_own _ rfl _ _ 88 rfl wo.heap.size 57 i0 (.agg #[.string ⟨#[]⟩, .int .i64 0, .bool false]) 3 32 Tryd.underlying88 HI.out HZ0.out HZ1.out HZ2.out rfl (by decide) _ k _ rfl (HO9.out.alloc _) ⟨W9.heap.size, 0, none⟩ 1 1 (r.pin k) rfl ?xlen ?xnews (r.pin_one k) ?xmax ?xby ?xbase ?_)
          case xlen => rfl
          case xnews =>
           rw [HP.out]
           intro j u hu
           have had : (⟨W9.heap.size, 0, none⟩ : Addr).add j = ⟨W9.heap.size, j, none⟩ := by cases j <;> simp [Addr.add]
           rw [had]
           exact heap_cell j _ (heap_alloc_new _ _) (by rw [List.getElem?_toArray]; exact hu)
          case xmax => unfold maxLen; omega
          case xby => omega
          case xbase => first | omega | (simp; omega)
          intro v2 w2 hown2 hgrow _
          have HO2 : Hid (w2.ownsRow wo.heap.size 57 3 v2 (k + 1) (r.pinsK (k + 1))) := Lib.hid hown2
          have hb2 : Below wo.heap.size wo w2 := below_grown (below_new (hbr.trans (HB9.out.mono hbr.size)) (Nat.le_refl _) _) hgrow (HO9.out.alloc _) (Nat.le_refl _) (by simp; omega)
          clear hown2 hgrow HO HO9
          go_wp2
          go_roundw
          case rel => exact ⟨k + 1, _, rfl, by omega, by go_num, HO2, hb2⟩
          case measure => simp [intOf]; omega
         ·have hpin : r.pin k = [.string s, .int .i64 2, .bool false] := by unfold Rw.pin; rw [hch, hgd]; rfl
          have hchI : (((r.pins[k]'hkp).toNat : Nat) : Int) = 111 := by rw [← hchp, hch]; rfl
          have HP := Lib.hid hpin
          clear hpin hch hchp
          go_upto_region 19 with (fail)
          refine wp_name fun W9 hW9 => ?_
          have p0 : W9.cell? ⟨wr.heap.size, 0, none⟩ = some (.string s) := by rw [hW9.out]; go_simp
          have p1 : W9.cell? ⟨wr.heap.size, 1, none⟩ = some (.int .i64 2) := by rw [hW9.out]; go_simp
          have p2 : W9.cell? ⟨wr.heap.size, 2, none⟩ = some (.bool false) := by rw [hW9.out]; go_simp
          have HB9 : Hid (Below wr.heap.size wr W9) := Lib.hid (by rw [hW9.out]; exact belowBy)
          have hs9 : wr.heap.size < W9.heap.size := by rw [hW9.out]; simp [World.setCell]
          have HO9 := Lib.hid (owns_below HO.out HB9.out)
          clear hW9 hchI
          go_wp2_with (at_builtin; refine wpList_append_own _ rfl _ _ 88 rfl wo.heap.size 57 i0 (.agg #[.string ⟨#[]⟩, .int .i64 0, .bool false]) 3 32 Tryd.underlying88 HI.out HZ0.out HZ1.out HZ2.out rfl (by decide) _ k _ rfl (HO9.out.alloc _) ⟨W9.heap.size, 0, none⟩ 1 1 (r.pin k) rfl ?xlen ?xnews (r.pin_one k) ?xmax ?xby ?xbase ?_)
          case xlen => rfl
          case xnews =>
           rw [HP.out]
           intro j u hu
           have had : (⟨W9.heap.size, 0, none⟩ : Addr).add j = ⟨W9.heap.size, j, none⟩ := by cases j <;> simp [Addr.add]
           rw [had]
           exact heap_cell j _ (heap_alloc_new _ _) (by rw [List.getElem?_toArray]; exact hu)
          case xmax => unfold maxLen; omega
          case xby => omega
          case xbase => first | omega | (simp; omega)
          intro v2 w2 hown2 hgrow _
          have HO2 : Hid (w2.ownsRow wo.heap.size 57 3 v2 (k + 1) (r.pinsK (k + 1))) := Lib.hid hown2
          have hb2 : Below wo.heap.size wo w2 := below_grown (below_new (hbr.trans (HB9.out.mono hbr.size)) (Nat.le_refl _) _) hgrow (HO9.out.alloc _) (Nat.le_refl _) (by simp; omega)
          clear hown2 hgrow HO HO9
          go_wp2
          go_roundw
          case rel => exact ⟨k + 1, _, rfl, by omega, by go_num, HO2, hb2⟩
          case measure => simp [intOf]; omega
         ·have hpin : r.pin k = [.string s, .int .i64 1, .bool true] := by unfold Rw.pin; rw [hch, hgd]; rfl
          have hchI : (((r.pins[k]'hkp).toNat : Nat) : Int) = 73 := by rw [← hchp, hch]; rfl
          have HP := Lib.hid hpin
          clear hpin hch hchp
          go_upto_region 19 with (fail)
          refine wp_name fun W9 hW9 => ?_
          have p0 : W9.cell? ⟨wr.heap.size, 0, none⟩ = some (.string s) := by rw [hW9.out]; go_simp
          have p1 : W9.cell? ⟨wr.heap.size, 1, none⟩ = some (.int .i64 1) := by rw [hW9.out]; go_simp
          have p2 : W9.cell? ⟨wr.heap.size, 2, none⟩ = some (.bool true) := by rw [hW9.out]; go_simp
          have HB9 : Hid (Below wr.heap.size wr W9) := Lib.hid (by rw [hW9.out]; exact belowBy)
          have hs9 : wr.heap.size < W9.heap.size := by rw [hW9.out]; simp [World.setCell]
          have HO9 := Lib.hid (owns_below HO.out HB9.out)
          clear hW9 hchI
          go_wp2_with (at_builtin; refine wpList_append_own _ rfl _ _ 88 rfl wo.heap.size 57 i0 (.agg #[.string ⟨#[]⟩, .int .i64 0, .bool false]) 3 32 Tryd.underlying88 HI.out HZ0.out HZ1.out HZ2.out rfl (by decide) _ k _ rfl (HO9.out.alloc _) ⟨W9.heap.size, 0, none⟩ 1 1 (r.pin k) rfl ?xlen ?xnews (r.pin_one k) ?xmax ?xby ?xbase ?_)
          case xlen => rfl
          case xnews =>
           rw [HP.out]
           intro j u hu
           have had : (⟨W9.heap.size, 0, none⟩ : Addr).add j = ⟨W9.heap.size, j, none⟩ := by cases j <;> simp [Addr.add]
           rw [had]
           exact heap_cell j _ (heap_alloc_new _ _) (by rw [List.getElem?_toArray]; exact hu)
          case xmax => unfold maxLen; omega
          case xby => omega
          case xbase => first | omega | (simp; omega)
          intro v2 w2 hown2 hgrow _
          have HO2 : Hid (w2.ownsRow wo.heap.size 57 3 v2 (k + 1) (r.pinsK (k + 1))) := Lib.hid hown2
          have hb2 : Below wo.heap.size wo w2 := below_grown (below_new (hbr.trans (HB9.out.mono hbr.size)) (Nat.le_refl _) _) hgrow (HO9.out.alloc _) (Nat.le_refl _) (by simp; omega)
          clear hown2 hgrow HO HO9
          go_wp2
          go_roundw
          case rel => exact ⟨k + 1, _, rfl, by omega, by go_num, HO2, hb2⟩
          case measure => simp [intOf]; omega
         ·have hpin : r.pin k = [.string s, .int .i64 1, .bool false] := by unfold Rw.pin; rw [hch, hgd]; rfl
          have hchI : (((r.pins[k]'hkp).toNat : Nat) : Int) = 79 := by rw [← hchp, hch]; rfl
          have HP := Lib.hid hpin
          clear hpin hch hchp
          go_upto_region 19 with (fail)
          refine wp_name fun W9 hW9 => ?_
          have p0 : W9.cell? ⟨wr.heap.size, 0, none⟩ = some (.string s) := by rw [hW9.out]; go_simp
          have p1 : W9.cell? ⟨wr.heap.size, 1, none⟩ = some (.int .i64 1) := by rw [hW9.out]; go_simp
          have p2 : W9.cell? ⟨wr.heap.size, 2, none⟩ = some (.bool false) := by rw [hW9.out]; go_simp
          have HB9 : Hid (Below wr.heap.size wr W9) := Lib.hid (by rw [hW9.out]; exact belowBy)
          have hs9 : wr.heap.size < W9.heap.size := by rw [hW9.out]; simp [World.setCell]
          have HO9 := Lib.hid (owns_below HO.out HB9.out)
          clear hW9 hchI
          go_wp2_with (at_builtin; refine wpList_append_own _ rfl _ _ 88 rfl wo.heap.size 57 i0 (.agg #[.string ⟨#[]⟩, .int .i64 0, .bool false]) 3 32 Tryd.underlying88 HI.out HZ0.out HZ1.out HZ2.out rfl (by decide) _ k _ rfl (HO9.out.alloc _) ⟨W9.heap.size, 0, none⟩ 1 1 (r.pin k) rfl ?xlen ?xnews (r.pin_one k) ?xmax ?xby ?xbase ?_)
          case xlen => rfl
          case xnews =>
           rw [HP.out]
           intro j u hu
           have had : (⟨W9.heap.size, 0, none⟩ : Addr).add j = ⟨W9.heap.size, j, none⟩ := by cases j <;> simp [Addr.add]
           rw [had]
           exact heap_cell j _ (heap_alloc_new _ _) (by rw [List.getElem?_toArray]; exact hu)
          case xmax => unfold maxLen; omega
          case xby => omega
          case xbase => first | omega | (simp; omega)
          intro v2 w2 hown2 hgrow _
          have HO2 : Hid (w2.ownsRow wo.heap.size 57 3 v2 (k + 1) (r.pinsK (k + 1))) := Lib.hid hown2
          have hb2 : Below wo.heap.size wo w2 := below_grown (below_new (hbr.trans (HB9.out.mono hbr.size)) (Nat.le_refl _) _) hgrow (HO9.out.alloc _) (Nat.le_refl _) (by simp; omega)
          clear hown2 hgrow HO HO9
          go_wp2
          go_roundw
          case rel => exact ⟨k + 1, _, rfl, by omega, by go_num, HO2, hb2⟩
          case measure => simp [intOf]; omega
       ·obtain rfl : k = n := by omega
        have HX := HO.out
        rw [HXR.out] at HX
        have HX2 := Lib.hid HX
        clear HX
        go_wp2
        go_ret
        exact ⟨_, rfl, owns_mono HX2.out (by omega), HB1.out.trans ((HBO.out.trans (hbr.mono HBO.out.size)).mono HB1.out.size)⟩
     ·have hr' := Lib.hid hr
      clear hr
      go_wp2
      go_roundw
      case rel =>
       refine ⟨i + 1, by omega, by go_num, Lib.hid (fun j hj t ht => ?_), hbr⟩
       rcases Nat.lt_succ_iff_lt_or_eq.1 hj with h | rfl
       ·exact HNO.out j h t ht
       ·rw [hr'.out] at ht
        cases ht
        simpa using hk
      case measure => simp [intOf]; omega
    ·obtain rfl : i = 21 := by omega
     have h0 : n = 0 ∧ xs = [] := by
      rcases HF.out with ⟨i, r, hi21, hr, _, hp, _⟩ | ⟨hno, _⟩
      ·rw [HNO.out i hi21 r hr] at hp
       cases hp
      ·rw [← HN.out, ← HXS.out]
       unfold rcount rpinsOf rfind
       rw [hno]
       exact ⟨rfl, rfl⟩
     obtain ⟨rfl, rfl⟩ := h0
     go_wp2
     go_ret
     exact ⟨_, rfl, World.ownsRow_nil _ _ _ _, HB1.out.trans (hbr.mono HB1.out.size)⟩
  ·obtain ⟨rfl, rfl⟩ := hout (by omega)
   have hlt : 31 < kind := by omega
   clear hn hxs hout HF
   go_enter Tryd.func53, Tryd.ntmps53
   go_wp2
   go_ret
   exact ⟨_, rfl, World.ownsRow_nil _ _ _ _, by exact belowBy⟩
 ·obtain ⟨rfl, rfl⟩ := hout (by omega)
  have hlt : kind < 10 := by omega
  clear hn hxs hout HF
  go_enter Tryd.func53, Tryd.ntmps53
  go_wp2
  go_ret
  exact ⟨_, rfl, World.ownsRow_nil _ _ _ _, by exact belowBy⟩

end Go.Proofs.YtknnhnefbbjcdaaDoor
