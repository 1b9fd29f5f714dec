/- Merged: Layer 16: the reference's table and its names (lines of StdM, StdN, StdO, for the Fold seat). Could the program have been read? PRINTED by wip/tool/mkfitp.py Layer 21: the laws are awake. -/
import Derived.Test.YtahjijdadifkaaaDoorM00
import Derived.Test.YtahjijdadifkaaaDoorTreeK
import Derived.Test.YtahjijdadifkaaaDoorM07
import Derived.Test.YtahjijdadifkaaaDoorFoldG
set_option linter.unusedVariables false
set_option linter.unusedSimpArgs false
set_option maxHeartbeats 8000000
namespace Go.Proofs.YtahjijdadifkaaaDoor
open Go.RowKit
attribute [local go_sem] ite_max ite_min vite_max vite_min ext_cell ext_frozen extS_cell extS_frozen

structure Rw where
 kind : Int
 name : ByteArray
 pins : ByteArray
 nms : List ByteArray
def rwL : List Rw := [⟨10, ⟨#[84, 79, 78]⟩, ⟨#[105, 73, 111, 79]⟩, [⟨#[73, 78]⟩, ⟨#[80, 84]⟩, ⟨#[81]⟩, ⟨#[69, 84]⟩]⟩,
 ⟨11, ⟨#[84, 79, 70]⟩, ⟨#[105, 73, 111, 79]⟩, [⟨#[73, 78]⟩, ⟨#[80, 84]⟩, ⟨#[81]⟩, ⟨#[69, 84]⟩]⟩,
 ⟨12, ⟨#[84, 80]⟩, ⟨#[105, 73, 111, 79, 46, 46]⟩, [⟨#[73, 78]⟩, ⟨#[80, 84]⟩, ⟨#[81]⟩, ⟨#[69, 84]⟩]⟩,
 ⟨13, ⟨#[67, 84, 85]⟩, ⟨#[105, 105, 73, 111, 79, 46]⟩, [⟨#[67, 85]⟩, ⟨#[82]⟩, ⟨#[80, 86]⟩, ⟨#[81]⟩, ⟨#[67, 86]⟩]⟩,
 ⟨14, ⟨#[67, 84, 68]⟩, ⟨#[105, 105, 73, 111, 79, 46]⟩, [⟨#[67, 68]⟩, ⟨#[76, 68]⟩, ⟨#[80, 86]⟩, ⟨#[81]⟩, ⟨#[67, 86]⟩]⟩,
 ⟨15, ⟨#[82, 95, 84, 82, 73, 71]⟩, ⟨#[105, 111, 46]⟩, [⟨#[67, 76, 75]⟩, ⟨#[81]⟩]⟩,
 ⟨16, ⟨#[70, 95, 84, 82, 73, 71]⟩, ⟨#[105, 111, 46]⟩, [⟨#[67, 76, 75]⟩, ⟨#[81]⟩]⟩,
 ⟨17, ⟨#[83, 82]⟩, ⟨#[105, 105, 111]⟩, [⟨#[83, 49]⟩, ⟨#[82]⟩, ⟨#[81, 49]⟩]⟩,
 ⟨18, ⟨#[82, 83]⟩, ⟨#[105, 105, 111]⟩, [⟨#[83]⟩, ⟨#[82, 49]⟩, ⟨#[81, 49]⟩]⟩,
 ⟨20, ⟨#[77, 67, 95, 80, 111, 119, 101, 114]⟩, ⟨#[73, 105, 111, 111]⟩, [⟨#[65, 120, 105, 115]⟩, ⟨#[69, 110, 97, 98, 108, 101]⟩, ⟨#[83, 116, 97, 116, 117, 115]⟩, ⟨#[69, 114, 114, 111, 114]⟩]⟩,
 ⟨21, ⟨#[77, 67, 95, 72, 111, 109, 101]⟩, ⟨#[73, 105, 111, 111, 111, 111, 111, 46, 46]⟩, [⟨#[65, 120, 105, 115]⟩, ⟨#[69, 120, 101, 99, 117, 116, 101]⟩, ⟨#[68, 111, 110, 101]⟩, ⟨#[66, 117, 115, 121]⟩, ⟨#[65, 99, 116, 105, 118, 101]⟩, ⟨#[67, 111, 109, 109, 97, 110, 100, 65, 98, 111, 114, 116, 101, 100]⟩, ⟨#[69, 114, 114, 111, 114]⟩]⟩,
 ⟨22, ⟨#[77, 67, 95, 83, 116, 111, 112]⟩, ⟨#[73, 105, 111, 111, 111, 111, 111, 46, 46]⟩, [⟨#[65, 120, 105, 115]⟩, ⟨#[69, 120, 101, 99, 117, 116, 101]⟩, ⟨#[68, 111, 110, 101]⟩, ⟨#[66, 117, 115, 121]⟩, ⟨#[65, 99, 116, 105, 118, 101]⟩, ⟨#[67, 111, 109, 109, 97, 110, 100, 65, 98, 111, 114, 116, 101, 100]⟩, ⟨#[69, 114, 114, 111, 114]⟩]⟩,
 ⟨23, ⟨#[77, 67, 95, 72, 97, 108, 116]⟩, ⟨#[73, 105, 111, 111, 111, 111, 111, 46, 46]⟩, [⟨#[65, 120, 105, 115]⟩, ⟨#[69, 120, 101, 99, 117, 116, 101]⟩, ⟨#[68, 111, 110, 101]⟩, ⟨#[66, 117, 115, 121]⟩, ⟨#[65, 99, 116, 105, 118, 101]⟩, ⟨#[67, 111, 109, 109, 97, 110, 100, 65, 98, 111, 114, 116, 101, 100]⟩, ⟨#[69, 114, 114, 111, 114]⟩]⟩,
 ⟨24, ⟨#[77, 67, 95, 77, 111, 118, 101, 65, 98, 115, 111, 108, 117, 116, 101]⟩, ⟨#[73, 105, 73, 73, 73, 111, 111, 111, 111, 111, 46, 46]⟩, [⟨#[65, 120, 105, 115]⟩, ⟨#[69, 120, 101, 99, 117, 116, 101]⟩, ⟨#[80, 111, 115, 105, 116, 105, 111, 110]⟩, ⟨#[86, 101, 108, 111, 99, 105, 116, 121]⟩, ⟨#[66, 117, 102, 102, 101, 114, 77, 111, 100, 101]⟩, ⟨#[68, 111, 110, 101]⟩, ⟨#[66, 117, 115, 121]⟩, ⟨#[65, 99, 116, 105, 118, 101]⟩, ⟨#[67, 111, 109, 109, 97, 110, 100, 65, 98, 111, 114, 116, 101, 100]⟩, ⟨#[69, 114, 114, 111, 114]⟩]⟩,
 ⟨25, ⟨#[77, 67, 95, 77, 111, 118, 101, 82, 101, 108, 97, 116, 105, 118, 101]⟩, ⟨#[73, 105, 73, 73, 73, 111, 111, 111, 111, 111, 46, 46]⟩, [⟨#[65, 120, 105, 115]⟩, ⟨#[69, 120, 101, 99, 117, 116, 101]⟩, ⟨#[68, 105, 115, 116, 97, 110, 99, 101]⟩, ⟨#[86, 101, 108, 111, 99, 105, 116, 121]⟩, ⟨#[66, 117, 102, 102, 101, 114, 77, 111, 100, 101]⟩, ⟨#[68, 111, 110, 101]⟩, ⟨#[66, 117, 115, 121]⟩, ⟨#[65, 99, 116, 105, 118, 101]⟩, ⟨#[67, 111, 109, 109, 97, 110, 100, 65, 98, 111, 114, 116, 101, 100]⟩, ⟨#[69, 114, 114, 111, 114]⟩]⟩,
 ⟨26, ⟨#[77, 67, 95, 77, 111, 118, 101, 65, 100, 100, 105, 116, 105, 118, 101]⟩, ⟨#[73, 105, 73, 73, 73, 111, 111, 111, 111, 111, 46, 46]⟩, [⟨#[65, 120, 105, 115]⟩, ⟨#[69, 120, 101, 99, 117, 116, 101]⟩, ⟨#[68, 105, 115, 116, 97, 110, 99, 101]⟩, ⟨#[86, 101, 108, 111, 99, 105, 116, 121]⟩, ⟨#[66, 117, 102, 102, 101, 114, 77, 111, 100, 101]⟩, ⟨#[68, 111, 110, 101]⟩, ⟨#[66, 117, 115, 121]⟩, ⟨#[65, 99, 116, 105, 118, 101]⟩, ⟨#[67, 111, 109, 109, 97, 110, 100, 65, 98, 111, 114, 116, 101, 100]⟩, ⟨#[69, 114, 114, 111, 114]⟩]⟩,
 ⟨27, ⟨#[77, 67, 95, 77, 111, 118, 101, 86, 101, 108, 111, 99, 105, 116, 121]⟩, ⟨#[73, 105, 73, 111, 111, 111, 111, 111, 46, 46]⟩, [⟨#[65, 120, 105, 115]⟩, ⟨#[69, 120, 101, 99, 117, 116, 101]⟩, ⟨#[86, 101, 108, 111, 99, 105, 116, 121]⟩, ⟨#[73, 110, 86, 101, 108, 111, 99, 105, 116, 121]⟩, ⟨#[66, 117, 115, 121]⟩, ⟨#[65, 99, 116, 105, 118, 101]⟩, ⟨#[67, 111, 109, 109, 97, 110, 100, 65, 98, 111, 114, 116, 101, 100]⟩, ⟨#[69, 114, 114, 111, 114]⟩]⟩,
 ⟨28, ⟨#[77, 67, 95, 71, 101, 97, 114, 73, 110]⟩, ⟨#[73, 105, 73, 73, 73, 111, 111, 111, 111, 111, 46, 46]⟩, [⟨#[65, 120, 105, 115]⟩, ⟨#[69, 120, 101, 99, 117, 116, 101]⟩, ⟨#[77, 97, 115, 116, 101, 114]⟩, ⟨#[78, 117, 109, 101, 114, 97, 116, 111, 114]⟩, ⟨#[68, 101, 110, 111, 109, 105, 110, 97, 116, 111, 114]⟩, ⟨#[73, 110, 71, 101, 97, 114]⟩, ⟨#[66, 117, 115, 121]⟩, ⟨#[65, 99, 116, 105, 118, 101]⟩, ⟨#[67, 111, 109, 109, 97, 110, 100, 65, 98, 111, 114, 116, 101, 100]⟩, ⟨#[69, 114, 114, 111, 114]⟩]⟩,
 ⟨29, ⟨#[77, 67, 95, 82, 101, 115, 101, 116]⟩, ⟨#[73, 105, 111, 111, 46]⟩, [⟨#[65, 120, 105, 115]⟩, ⟨#[69, 120, 101, 99, 117, 116, 101]⟩, ⟨#[68, 111, 110, 101]⟩, ⟨#[69, 114, 114, 111, 114]⟩]⟩,
 ⟨30, ⟨#[77, 67, 95, 83, 101, 116, 80, 111, 115, 105, 116, 105, 111, 110]⟩, ⟨#[73, 105, 73, 111, 111, 46]⟩, [⟨#[65, 120, 105, 115]⟩, ⟨#[69, 120, 101, 99, 117, 116, 101]⟩, ⟨#[80, 111, 115, 105, 116, 105, 111, 110]⟩, ⟨#[68, 111, 110, 101]⟩, ⟨#[69, 114, 114, 111, 114]⟩]⟩,
 ⟨31, ⟨#[77, 67, 95, 83, 101, 116, 79, 118, 101, 114, 114, 105, 100, 101]⟩, ⟨#[73, 105, 73, 111]⟩, [⟨#[65, 120, 105, 115]⟩, ⟨#[69, 110, 97, 98, 108, 101]⟩, ⟨#[80, 101, 114, 99, 101, 110, 116]⟩, ⟨#[69, 110, 97, 98, 108, 101, 100]⟩]⟩]
def Rw.names (r : Rw) : List Value := r.nms.map Value.string
def Rw.cells (H i : Nat) (r : Rw) : List Value := [.int .i64 r.kind, .string r.name, .string r.pins, .slice (some ⟨H + i, 0, none⟩) r.nms.length r.nms.length]
theorem rwL_len : rwL.length = 21 := by kernel_rfl
def rwC (H : Nat) : Nat → List Rw → List Value
 | _, [] => []
 | i, r :: l => r.cells H i ++ rwC H (i + 1) l
theorem rwC_get (H : Nat) : ∀ (l : List Rw) (i m : Nat) (r : Rw), l[i]? = some r → ∀ j, j < 4 → (rwC H m l)[i * 4 + j]? = (r.cells H (m + i))[j]?
 | [], i, m, r, h, _, _ => by simp at h
 | y :: l, 0, m, r, h, j, hj => by
  simp at h
  subst h
  rw [rwC, Nat.zero_mul, Nat.zero_add, List.getElem?_append_left (by show j < 4; exact hj)]
  rfl
 | y :: l, i + 1, m, r, h, j, hj => by
  simp at h
  rw [rwC, List.getElem?_append_right (by show 4 ≤ _; omega), show (i + 1) * 4 + j - (y.cells H m).length = i * 4 + j by show (i + 1) * 4 + j - 4 = _; omega]
  rw [rwC_get H l i (m + 1) r h j hj, show m + 1 + i = m + (i + 1) by omega]

def allocs (w : World) (l : List Obj) : World := l.foldl World.alloc w
theorem allocs_size (l : List Obj) : ∀ w : World, (allocs w l).heap.size = w.heap.size + l.length := by
 induction l with
 | nil => intro w; rfl
 | cons o l ih =>
  intro w
  show (allocs (w.alloc o) l).heap.size = _
  rw [ih]
  simp
  omega
theorem allocs_below (l : List Obj) : ∀ w : World, Below w.heap.size w (allocs w l) := by
 induction l with
 | nil => intro w; exact Below.refl _ _
 | cons o l ih =>
  intro w
  show Below w.heap.size w (allocs (w.alloc o) l)
  exact ((Below.refl _ _).alloc (Nat.le_refl _) o).trans ((ih (w.alloc o)).mono (by simp))
theorem allocs_get (l : List Obj) : ∀ (w : World) (i : Nat) (o : Obj), l[i]? = some o → (allocs w l).heap[w.heap.size + i]? = some o := by
 induction l with
 | nil => intro w i o h; simp at h
 | cons x l ih =>
  intro w i o h
  show (allocs (w.alloc x) l).heap[_]? = _
  cases i with
  | zero =>
   simp at h
   subst h
   have hb := allocs_below l (w.alloc x)
   rw [Nat.add_zero, hb.block w.heap.size (by simp)]
   exact heap_alloc_new w x
  | succ i =>
   have := ih (w.alloc x) i o (by simpa using h)
   rw [show (w.alloc x).heap.size + i = w.heap.size + (i + 1) by simp; omega] at this
   exact this
def rwO (H : Nat) : List Obj := (rwL.map fun r => .cells r.names.toArray 9) ++ [.cells (rwC H 0 rwL).toArray 75]

structure RwAt (H : Nat) (w : World) : Prop where
 lt : H + 21 < w.heap.size
 row : ∀ i r, rwL[i]? = some r → ∀ j, j < 4 → w.cell? ⟨H + 21, i * 4 + j, none⟩ = (r.cells H i)[j]?
 names : ∀ i r, rwL[i]? = some r → ∀ j s, r.nms[j]? = some s → w.cell? ⟨H + i, j, none⟩ = some (.string s)
theorem RwAt.below {H : Nat} {w w' : World} (h : RwAt H w) (hb : Below w.heap.size w w') : RwAt H w' :=
 ⟨Nat.lt_of_lt_of_le h.lt hb.size, fun i r hr j hj => (hb.cell (p := ⟨H + 21, _, none⟩) h.lt).trans (h.row i r hr j hj),
  fun i r hr j s hs => (hb.cell (p := ⟨H + i, j, none⟩) (by show H + i < w.heap.size; have := (List.getElem?_eq_some_iff.1 hr).1; rw [rwL_len] at this; have := h.lt; omega)).trans (h.names i r hr j s hs)⟩
theorem RwAt.mk0 (w : World) : RwAt w.heap.size (allocs w (rwO w.heap.size)) := by
 have hl : (rwO w.heap.size).length = 22 := by simp [rwO, rwL_len]
 refine ⟨by rw [allocs_size, hl]; omega, fun i r hr j hj => ?_, fun i r hr j s hs => ?_⟩
 ·have h1 : (rwO w.heap.size)[21]? = some (.cells (rwC w.heap.size 0 rwL).toArray 75) := by
   unfold rwO
   rw [List.getElem?_append_right (by simp [rwL_len]), List.length_map, rwL_len]
   rfl
  have h2 := allocs_get _ w 21 _ h1
  have h3 := rwC_get w.heap.size rwL i 0 r hr j hj
  rw [Nat.zero_add] at h3
  obtain ⟨u, hu⟩ : ∃ u, (r.cells w.heap.size i)[j]? = some u := ⟨(r.cells w.heap.size i)[j]'(by show j < 4; exact hj), List.getElem?_eq_getElem _⟩
  rw [hu] at h3 ⊢
  exact heap_cell _ _ h2 (by rw [List.getElem?_toArray]; exact h3)
 ·have hi := (List.getElem?_eq_some_iff.1 hr).1
  have h1 : (rwO w.heap.size)[i]? = some (.cells r.names.toArray 9) := by
   unfold rwO
   rw [List.getElem?_append_left (by simpa using hi), List.getElem?_map, hr]
   rfl
  have h2 := allocs_get _ w i _ h1
  exact heap_cell _ _ h2 (by rw [List.getElem?_toArray]; simp [Rw.names, hs])

set_option maxRecDepth 100000 in
theorem rows_any (w : World) : Calls Tryd.prog 31 #[] w fun e w' => e = .returned (.slice (some ⟨w.heap.size + 21, 0, none⟩) 21 21) ∧ Below w.heap.size w w' ∧ RwAt w.heap.size w' := by
 go_enter Tryd.func31, Tryd.ntmps31
 go_wp2
 go_ret
 refine ⟨rfl, ?_, ?_⟩
 ·exact allocs_below (rwO w.heap.size) w
 ·exact RwAt.mk0 w

theorem rfind_at (p : Rw → Bool) : (∃ (i : Nat) (r : Rw), i < 21 ∧ rwL[i]? = some r ∧ rwL.find? p = some r ∧ p r = true ∧ ∀ j, j < i → ∀ t, rwL[j]? = some t → p t = false) ∨ (rwL.find? p = none ∧ ∀ (j : Nat) t, rwL[j]? = some t → p t = false) := by
 cases h : rwL.find? p with
 | none =>
  rw [List.find?_eq_none] at h
  exact .inr ⟨rfl, fun j t ht => by simpa using h t (List.mem_of_getElem? ht)⟩
 | some r =>
  rw [List.find?_eq_some_iff_getElem] at h
  obtain ⟨hp, i, hi, hr, hn⟩ := h
  refine .inl ⟨i, r, by rw [rwL_len] at hi; exact hi, by rw [List.getElem?_eq_getElem hi, hr], rfl, hp, fun j hj t ht => ?_⟩
  have := hn j hj
  have hjl : j < rwL.length := by omega
  rw [List.getElem?_eq_getElem hjl] at ht
  cases ht
  simpa using this

def rnameOf (kind : Int) : ByteArray := match rwL.find? (fun r => decide (r.kind = kind)) with | some r => r.name | none => ⟨#[]⟩
set_option maxRecDepth 100000 in
theorem rname_any (kind : Int) (w : World) : Calls Tryd.prog 15 #[.int .i64 kind] w fun e w' => e = .returned (.string (rnameOf kind)) ∧ Below w.heap.size w w' := by
 have HF := Lib.hid (rfind_at fun r => decide (r.kind = kind))
 obtain ⟨x, hx⟩ : ∃ x, rnameOf kind = x := ⟨_, rfl⟩
 rw [hx]
 have HX := Lib.hid hx
 clear hx
 go_enter Tryd.func15, Tryd.ntmps15
 go_wp2_with fail
 refine (rows_any w).mono ?_
 rintro e w1 ⟨rfl, hb1, hr1⟩
 have HR := Lib.hid hr1
 have hlt1 := hr1.lt
 have HB1 := Lib.hid hb1
 have hz1 := hb1.size
 clear hr1 hb1
 go_wp2_with fail
 go_loopw [4] (fun vi wr => ∃ i : Nat, i ≤ 21 ∧ vi = .int .i64 i ∧ Hid (∀ j, j < i → ∀ t, rwL[j]? = some t → (fun r => decide (r.kind = kind)) t = false) ∧ Below w1.heap.size w1 wr) (fun vi _ => 21 - (intOf vi).toNat)
 case atStart => exact ⟨0, by omega, rfl, Lib.hid (fun j hj => by omega), Below.refl _ _⟩
 case round =>
  obtain ⟨i, hi, rfl, HNO, hbr⟩ := hrel
  by_cases hlt : i < 21
  ·obtain ⟨r, hr⟩ : ∃ r, rwL[i]? = some r := ⟨rwL[i]'(by rw [rwL_len]; exact hlt), List.getElem?_eq_getElem _⟩
   have HRr := Lib.hid (HR.out.below hbr)
   have c0 : wr.cell? ⟨w.heap.size + 21, i * 4, none⟩ = some (.int .i64 r.kind) := HRr.out.row i r hr 0 (by omega)
   have c1 : wr.cell? ⟨w.heap.size + 21, i * 4 + 1, none⟩ = some (.string r.name) := HRr.out.row i r hr 1 (by omega)
   have hi0 : (0 : Int) ≤ (i : Int) := by omega
   have hi1 : (i : Int) < 21 := by omega
   cases hk : (fun r : Rw => decide (r.kind = kind)) r
   ·have hr' := Lib.hid hr
    have HK := Lib.hid hk
    have hkk : ¬ r.kind = kind := by simpa using hk
    clear hr hk
    go_wp2
    go_roundw
    case rel =>
     refine ⟨i + 1, by omega, by go_num, Lib.hid (fun j hj t ht => ?_), hbr⟩
     rcases Nat.lt_succ_iff_lt_or_eq.1 hj with h | rfl
     ·exact HNO.out j h t ht
     ·rw [hr'.out] at ht
      cases ht
      exact HK.out
    case measure => simp [intOf]; omega
   ·have hfound : rwL.find? (fun r => decide (r.kind = kind)) = some r := by
     rcases HF.out with ⟨i', r', hi', hr', hf', hp', hn'⟩ | ⟨_, hno⟩
     ·have : i' = i := by
       rcases Nat.lt_trichotomy i i' with h | h | h
       ·have := hn' i h r hr
        exact absurd (Eq.trans (Eq.symm this) hk) (by decide)
       ·exact h.symm
       ·have := HNO.out i' h r' hr'
        exact absurd (Eq.trans (Eq.symm this) hp') (by decide)
      subst this
      rw [hr] at hr'
      cases hr'
      exact hf'
     ·have := hno i r hr
      exact absurd (Eq.trans (Eq.symm this) hk) (by decide)
    have hxr : x = r.name := by
     rw [← HX.out]
     unfold rnameOf
     rw [hfound]
    have HXR := Lib.hid hxr
    have hkk : r.kind = kind := by simpa using hk
    clear hr hk hfound hxr
    go_wp2
    go_ret
    rw [HXR.out]
    exact ⟨rfl, HB1.out.trans (hbr.mono HB1.out.size)⟩
  ·obtain rfl : i = 21 := by omega
   have hxr : x = ⟨#[]⟩ := by
    rcases HF.out with ⟨i, r, hi21, hr, _, hp, _⟩ | ⟨hno, _⟩
    ·exact absurd (Eq.trans (Eq.symm (HNO.out i hi21 r hr)) hp) (by decide)
    ·rw [← HX.out]
     unfold rnameOf
     rw [hno]
   have HXR := Lib.hid hxr
   clear hxr
   go_wp2
   go_ret
   rw [HXR.out]
   exact ⟨rfl, HB1.out.trans (hbr.mono HB1.out.size)⟩

end Go.Proofs.YtahjijdadifkaaaDoor

namespace Go.Proofs.YtahjijdadifkaaaDoor
open Go.RowKit
attribute [local go_sem] ite_max ite_min vite_max vite_min ext_cell ext_frozen

set_option maxRecDepth 100000 in
theorem fits_any (p : Prg) (cs : List Value) (w : World) (h : PrgAt w p cs) (hsm : ∀ s ∈ p.body, SmS s) : Calls Tryd.prog 6 #[.agg cs.toArray] w fun e w' => BoolIf (FitP p) e ∧ Below w.heap.size w w' := by
 obtain ⟨Av, kv, Ab, kb, rfl, hv, hbd⟩ := h
 have HRV := Lib.hid hv
 have HRB := Lib.hid hbd
 have HSM := Lib.hid hsm
 have hv1 := hv.1
 have hv2 := hv.2.1
 obtain ⟨n, hn⟩ : ∃ n, p.vars.length = n := ⟨_, rfl⟩
 obtain ⟨nb, hnb⟩ : ∃ n, p.body.length = n := ⟨_, rfl⟩
 rw [hn] at hv1
 rw [hn, hnb]
 have HN := Lib.hid hn
 have HNB := Lib.hid hnb
 clear hv hbd hsm hn hnb
 go_enter Tryd.func6, Tryd.ntmps6
 go_upto_region 1 with (fail)
 refine wp_name fun W0 hW0 => ?_
 obtain ⟨B, hB⟩ : ∃ B, B = w.heap.size := ⟨_, rfl⟩
 have hh : W0.heap[B]? = some (.cells #[.string p.name, .slice Av n kv, .slice Ab nb kb] 25) := by rw [hW0.out, hB]; exact heap_alloc_new _ _
 have hbel : Below w.heap.size w W0 := by rw [hW0.out]; exact belowBy
 have e0 : W0.cell? ⟨B, 0, none⟩ = some (.string p.name) := heap_cell 0 _ hh rfl
 have e1 : W0.cell? ⟨B, 1, none⟩ = some (.slice Av n kv) := heap_cell 1 _ hh rfl
 have e2 : W0.cell? ⟨B, 2, none⟩ = some (.slice Ab nb kb) := heap_cell 2 _ hh rfl
 have hlB : B < W0.heap.size := (Array.getElem?_eq_some_iff.1 hh).1
 have HB0 := Lib.hid hbel
 have HE1 := Lib.hid e1
 have HE2 := Lib.hid e2
 have HLB := Lib.hid hlB
 rw [← hB]
 clear hh hbel hW0 hB e2
 go_cut [14] from 5 to 14 (fun r wx => ∃ b : Bool, r = .bool b ∧ Hid (Below W0.heap.size W0 wx ∧ (b = false → p.name.size ≤ 16 ∧ n ≤ 64)))
 case first =>
  go_wp2_with fail
  refine (name19_any p.name _).mono ?_
  rintro e wn ⟨⟨b, rfl, hnm⟩, hbn⟩
  have HBN := Lib.hid hbn
  have HNN := Lib.hid hnm
  have e1' := (hbn.cell (p := ⟨B, 1, none⟩) hlB).trans e1
  have hln : B < wn.heap.size := Nat.lt_of_lt_of_le hlB hbn.size
  clear hnm hbn e0 e1
  cases b
  ·go_wp2
   go_meet
   case rel => exact ⟨true, rfl, Lib.hid ⟨HBN.out, fun h => by cases h⟩⟩
  ·go_wp2
   go_meet
   case rel => exact ⟨_, rfl, Lib.hid ⟨HBN.out, fun h => ⟨(HNN.out (by trivial)).2, by simp at h; omega⟩⟩⟩
 case rest =>
  obtain ⟨b, rfl, HC⟩ := hcut
  obtain ⟨hbc, hfc⟩ := HC.out
  have HB1 := Lib.hid (HB0.out.trans (hbc.mono HB0.out.size))
  have e1' := (hbc.cell (p := ⟨B, 1, none⟩) hlB).trans e1
  have e2' := (hbc.cell (p := ⟨B, 2, none⟩) hlB).trans HE2.out
  have hl1 : B < wc.heap.size := Nat.lt_of_lt_of_le hlB hbc.size
  have HFC := Lib.hid hfc
  have HE1 := Lib.hid e1'
  have HE2 := Lib.hid e2'
  obtain ⟨W1, rfl⟩ : ∃ W : World, W = wc := ⟨_, rfl⟩
  clear HC hbc hfc e0 e1 e1' e2' hlB
  cases b
  ·have hfc := HFC.out (by trivial)
   clear HFC
   have HNMP := Lib.hid hfc.1
   have h64 := hfc.2
   clear hfc
   go_wp2_with fail
   go_loopw [3] (fun vi wr => ∃ (j : Nat), j ≤ n ∧ vi = .int .i64 j ∧ Hid (∀ q z, q < j → p.vars[q]? = some z → VarFit z) ∧ Below W1.heap.size W1 wr) (fun vi _ => n - (intOf vi).toNat)
   case atStart => exact ⟨0, by omega, rfl, Lib.hid (fun q _ hq => by omega), Below.refl _ _⟩
   case round =>
    obtain ⟨j, hj, rfl, HIN, hbq⟩ := hrel
    have e1 := (hbq.cell (p := ⟨B, 1, none⟩) hl1).trans HE1.out
    have hlr : B < wr.heap.size := Nat.lt_of_lt_of_le hl1 hbq.size
    by_cases hlt : j < n
    ·have hj0 : (0 : Int) ≤ (j : Int) ∧ (j : Int) < (n : Int) := by omega
     obtain ⟨bb, off, v, hA1, hbl, hz1, hrg⟩ := RowV.at8 (HRV.out.below (HB1.out.trans (hbq.mono HB1.out.size))) (i := j) (by rw [HN.out]; exact hlt)
     rw [hA1] at e1
     have HZ1 := Lib.hid hz1
     have HRG := Lib.hid hrg
     have HBQ := Lib.hid hbq
     clear hz1 hrg hA1 hbq
     go_upto_region 7 with (first
      | refine wpList_load_mid rfl 47 _ rfl bb (off + j * 8) rfl v.cells _ HRG.out Tryd.underlying47 rfl var_size8 ?_
      | refine wpList_store_new rfl 47 _ _ rfl wr _ v.cells.toArray rfl rfl rfl var_size8 rfl (var_one8 v) ?_)
     refine wp_name fun W3 hW3 => ?_
     obtain ⟨H, hH⟩ : ∃ H, H = wr.heap.size := ⟨_, rfl⟩
     rw [← hH]
     simp only [Act.put]
     have hB3 : Below wr.heap.size wr W3 := by rw [hW3.out]; exact belowBy
     have hh : W3.heap[H]? = some (.cells v.cells.toArray 47) := by rw [hW3.out, hH]; exact heap_alloc_new _ _
     have HW3 : Hid (VarC W3 H v) := Lib.hid ⟨(Array.getElem?_eq_some_iff.1 hh).1, fun j u hu => heap_cell j _ hh (by rw [List.getElem?_toArray]; exact hu)⟩
     have HB3 := Lib.hid (HBQ.out.trans (hB3.mono HBQ.out.size))
     have hl3 : H < W3.heap.size := HW3.out.1
     clear hW3 hB3 hh hH e1 hlr HRG HBQ
     obtain ⟨ty, hq1⟩ : ∃ x, v.type = x := ⟨_, rfl⟩
     obtain ⟨sc, hq2⟩ : ∃ x, v.sect = x := ⟨_, rfl⟩
     obtain ⟨ar, hq3⟩ : ∃ x, v.arr = x := ⟨_, rfl⟩
     obtain ⟨lo, hq4⟩ : ∃ x, v.lo = x := ⟨_, rfl⟩
     obtain ⟨hi, hq5⟩ : ∃ x, v.hi = x := ⟨_, rfl⟩
     obtain ⟨it, hq6⟩ : ∃ x, v.init = x := ⟨_, rfl⟩
     have HQ1 := Lib.hid hq1
     have HQ2 := Lib.hid hq2
     have HQ3 := Lib.hid hq3
     have HQ4 := Lib.hid hq4
     have HQ5 := Lib.hid hq5
     have HQ6 := Lib.hid hq6
     clear hq1 hq2 hq3 hq4 hq5 hq6
     go_cut [40] from 27 to 40 (fun r wx => ∃ b : Bool, r = .bool b ∧ Hid (Below W3.heap.size W3 wx ∧ (b = false → v.name.size ≤ 16 ∧ 0 ≤ sc ∧ sc ≤ 2)))
     case first =>
      have d0 : W3.cell? ⟨H, 0, none⟩ = some (.string v.name) := HW3.out.2 0 _ rfl
      have d2 : W3.cell? ⟨H, 2, none⟩ = some (.int .i64 sc) := by have := HW3.out.2 2 _ rfl; rwa [HQ2.out] at this
      go_wp2_with fail
      refine (name19_any v.name _).mono ?_
      rintro e wn ⟨⟨b, rfl, hnm⟩, hbn⟩
      have HBN := Lib.hid hbn
      have HNN := Lib.hid hnm
      have d2' := (hbn.cell (p := ⟨H, 2, none⟩) hl3).trans d2
      have hln : H < wn.heap.size := Nat.lt_of_lt_of_le hl3 hbn.size
      clear hnm hbn d0 d2
      cases b
      ·go_wp2
       go_meet
       case rel => exact ⟨true, rfl, Lib.hid ⟨HBN.out, fun h => by cases h⟩⟩
      ·by_cases h0 : sc < 0
       ·go_wp2
        go_meet
        case rel => exact ⟨true, rfl, Lib.hid ⟨HBN.out, fun h => by cases h⟩⟩
       ·go_wp2
        go_meet
        case rel => exact ⟨_, rfl, Lib.hid ⟨HBN.out, fun h => ⟨(HNN.out (by trivial)).2, by omega, by simp at h; omega⟩⟩⟩
     case rest =>
      obtain ⟨b, rfl, HC⟩ := hcut
      obtain ⟨hbc, hfc⟩ := HC.out
      have HW4 := Lib.hid (varC_below HW3.out hbc)
      have HB4 := Lib.hid (HB3.out.trans (hbc.mono HB3.out.size))
      obtain ⟨W4, rfl⟩ : ∃ W : World, W = wc := ⟨_, rfl⟩
      have hl4 : H < W4.heap.size := HW4.out.1
      have HFC := Lib.hid hfc
      clear HC hbc hfc HW3 HB3 hl3
      cases b
      ·have hfc := HFC.out (by trivial)
       clear HFC
       have HF7 := Lib.hid hfc
       clear hfc
       go_upto_region 9 with fail
       go_cut [54] from 41 to 54 (fun r wx => ∃ b : Bool, r = .bool b ∧ Hid (Below W4.heap.size W4 wx ∧ (b = false → True)))
       case first =>
        have d1 : W4.cell? ⟨H, 1, none⟩ = some (.int .i64 ty) := by have := HW4.out.2 1 _ rfl; rwa [HQ1.out] at this
        by_cases h1 : ty = 1
        ·have t1 : (ty != 1) = false := by simp [h1]
         clear h1
         go_wp2
         go_meet
         case rel => exact ⟨_, rfl, Lib.hid ⟨Below.refl _ _, fun _ => trivial⟩⟩
        ·have t1 : (ty != 1) = true := by simp [h1]
         by_cases h2 : ty = 2
         ·have t2 : (ty != 2) = false := by simp [h2]
          clear h2 h1
          go_wp2
          go_meet
          case rel => exact ⟨_, rfl, Lib.hid ⟨Below.refl _ _, fun _ => trivial⟩⟩
         ·have t2 : (ty != 2) = true := by simp [h2]
          go_wp2_with fail
          refine (rname_any ty _).mono ?_
          rintro e wn ⟨rfl, hbn⟩
          have HBN := Lib.hid hbn
          clear hbn d1
          go_wp2
          go_meet
          case rel => exact ⟨_, rfl, Lib.hid ⟨HBN.out, fun _ => trivial⟩⟩
       case rest =>
        obtain ⟨b, rfl, HC⟩ := hcut
        obtain ⟨hbc, hfc⟩ := HC.out
        have HW5 := Lib.hid (varC_below HW4.out hbc)
        have HB5 := Lib.hid (HB4.out.trans (hbc.mono HB4.out.size))
        obtain ⟨W5, rfl⟩ : ∃ W : World, W = wc := ⟨_, rfl⟩
        have hl5 : H < W5.heap.size := HW5.out.1
        have HFC := Lib.hid hfc
        clear HC hbc hfc HW4 HB4 hl4
        cases b
        ·have hfc := HFC.out (by trivial)
         clear HFC
         clear hfc
         go_upto_region 11 with fail
         go_cut [93] from 55 to 93 (fun r wx => ∃ b : Bool, r = .bool b ∧ Hid (Below W5.heap.size W5 wx ∧ (b = false → (ar = true → ty ≤ 2 ∧ 0 ≤ lo ∧ lo ≤ hi ∧ hi ≤ 255))))
         case first =>
          have d1 : W5.cell? ⟨H, 1, none⟩ = some (.int .i64 ty) := by have := HW5.out.2 1 _ rfl; rwa [HQ1.out] at this
          have d3 : W5.cell? ⟨H, 3, none⟩ = some (.bool ar) := by have := HW5.out.2 3 _ rfl; rwa [HQ3.out] at this
          have d4 : W5.cell? ⟨H, 4, none⟩ = some (.int .i64 lo) := by have := HW5.out.2 4 _ rfl; rwa [HQ4.out] at this
          have d5 : W5.cell? ⟨H, 5, none⟩ = some (.int .i64 hi) := by have := HW5.out.2 5 _ rfl; rwa [HQ5.out] at this
          cases ar
          ·by_cases h1 : lo = 0
           ·have t1 : (lo != 0) = false := by simp [h1]
            clear h1
            by_cases h2 : hi = 0
            ·have t2 : (hi != 0) = false := by simp [h2]
             clear h2
             go_wp2
             go_meet
             case rel => exact ⟨_, rfl, Lib.hid ⟨Below.refl _ _, fun _ h => by cases h⟩⟩
            ·have t2 : (hi != 0) = true := by simp [h2]
             go_wp2
             go_meet
             case rel => exact ⟨_, rfl, Lib.hid ⟨Below.refl _ _, fun _ h => by cases h⟩⟩
           ·have t1 : (lo != 0) = true := by simp [h1]
            go_wp2
            go_meet
            case rel => exact ⟨_, rfl, Lib.hid ⟨Below.refl _ _, fun _ h => by cases h⟩⟩
          ·by_cases h4 : 2 < ty
           ·go_wp2
            go_meet
            case rel => exact ⟨_, rfl, Lib.hid ⟨Below.refl _ _, fun h => by cases h⟩⟩
           ·by_cases h3 : lo < 0
            ·go_wp2
             go_meet
             case rel => exact ⟨_, rfl, Lib.hid ⟨Below.refl _ _, fun h => by cases h⟩⟩
            ·by_cases h2 : hi < lo
             ·go_wp2
              go_meet
              case rel => exact ⟨_, rfl, Lib.hid ⟨Below.refl _ _, fun h => by cases h⟩⟩
             ·by_cases h1 : 255 < hi
              ·go_wp2
               go_meet
               case rel => exact ⟨_, rfl, Lib.hid ⟨Below.refl _ _, fun h => by cases h⟩⟩
              ·have hall : ty ≤ 2 ∧ 0 ≤ lo ∧ lo ≤ hi ∧ hi ≤ 255 := by omega
               go_wp2
               go_meet
               case rel => exact ⟨_, rfl, Lib.hid ⟨Below.refl _ _, fun _ _ => hall⟩⟩
         case rest =>
          obtain ⟨b, rfl, HC⟩ := hcut
          obtain ⟨hbc, hfc⟩ := HC.out
          have HW6 := Lib.hid (varC_below HW5.out hbc)
          have HB6 := Lib.hid (HB5.out.trans (hbc.mono HB5.out.size))
          obtain ⟨W6, rfl⟩ : ∃ W : World, W = wc := ⟨_, rfl⟩
          have hl6 : H < W6.heap.size := HW6.out.1
          have HFC := Lib.hid hfc
          clear HC hbc hfc HW5 HB5 hl5
          cases b
          ·have hfc := HFC.out (by trivial)
           clear HFC
           have HFA := Lib.hid hfc
           clear hfc
           go_upto_region 13 with fail
           go_cut [125] from 94 to 125 (fun r wx => ∃ b : Bool, r = .bool b ∧ Hid (Below W6.heap.size W6 wx ∧ (b = false → True)))
           case first =>
            have d1 : W6.cell? ⟨H, 1, none⟩ = some (.int .i64 ty) := by have := HW6.out.2 1 _ rfl; rwa [HQ1.out] at this
            have d3 : W6.cell? ⟨H, 3, none⟩ = some (.bool ar) := by have := HW6.out.2 3 _ rfl; rwa [HQ3.out] at this
            have d6 : W6.cell? ⟨H, 6, none⟩ = some (.int .i64 it) := by have := HW6.out.2 6 _ rfl; rwa [HQ6.out] at this
            cases ar
            ·by_cases h2 : 2 < ty
             ·by_cases h1 : it = 0
              ·have t1 : (it != 0) = false := by simp [h1]
               have t5 : ¬ it < 0 := by omega
               have t6 : ¬ 1 < it := by omega
               have t7 : (it == -9223372036854775808) = false := by simp; omega
               clear h1
               cases h2 : (ty == 2)
               ·go_wp2
                go_meet
                case rel => exact ⟨_, rfl, Lib.hid ⟨Below.refl _ _, fun _ => trivial⟩⟩
               ·go_wp2
                go_meet
                case rel => exact ⟨_, rfl, Lib.hid ⟨Below.refl _ _, fun _ => trivial⟩⟩
              ·have t1 : (it != 0) = true := by simp [h1]
               go_wp2
               go_meet
               case rel => exact ⟨_, rfl, Lib.hid ⟨Below.refl _ _, fun _ => trivial⟩⟩
             ·cases h3 : (ty == 2)
              ·cases h7 : (it == -9223372036854775808)
               ·go_wp2
                go_meet
                case rel => exact ⟨_, rfl, Lib.hid ⟨Below.refl _ _, fun _ => trivial⟩⟩
               ·go_wp2
                go_meet
                case rel => exact ⟨_, rfl, Lib.hid ⟨Below.refl _ _, fun _ => trivial⟩⟩
              ·by_cases h4 : it < 0
               ·go_wp2
                go_meet
                case rel => exact ⟨_, rfl, Lib.hid ⟨Below.refl _ _, fun _ => trivial⟩⟩
               ·by_cases h5 : 1 < it
                ·go_wp2
                 go_meet
                 case rel => exact ⟨_, rfl, Lib.hid ⟨Below.refl _ _, fun _ => trivial⟩⟩
                ·cases h7 : (it == -9223372036854775808)
                 ·go_wp2
                  go_meet
                  case rel => exact ⟨_, rfl, Lib.hid ⟨Below.refl _ _, fun _ => trivial⟩⟩
                 ·go_wp2
                  go_meet
                  case rel => exact ⟨_, rfl, Lib.hid ⟨Below.refl _ _, fun _ => trivial⟩⟩
            ·by_cases h1 : it = 0
             ·have t1 : (it != 0) = false := by simp [h1]
              have t5 : ¬ it < 0 := by omega
              have t6 : ¬ 1 < it := by omega
              have t7 : (it == -9223372036854775808) = false := by simp; omega
              clear h1
              cases h2 : (ty == 2)
              ·go_wp2
               go_meet
               case rel => exact ⟨_, rfl, Lib.hid ⟨Below.refl _ _, fun _ => trivial⟩⟩
              ·go_wp2
               go_meet
               case rel => exact ⟨_, rfl, Lib.hid ⟨Below.refl _ _, fun _ => trivial⟩⟩
             ·have t1 : (it != 0) = true := by simp [h1]
              go_wp2
              go_meet
              case rel => exact ⟨_, rfl, Lib.hid ⟨Below.refl _ _, fun _ => trivial⟩⟩
           case rest =>
            obtain ⟨b, rfl, HC⟩ := hcut
            obtain ⟨hbc, hfc⟩ := HC.out
            have HW7 := Lib.hid (varC_below HW6.out hbc)
            have HB7 := Lib.hid (HB6.out.trans (hbc.mono HB6.out.size))
            obtain ⟨W7, rfl⟩ : ∃ W : World, W = wc := ⟨_, rfl⟩
            have hl7 : H < W7.heap.size := HW7.out.1
            have HFC := Lib.hid hfc
            clear HC hbc hfc HW6 HB6 hl6
            cases b
            ·have hfc := HFC.out (by trivial)
             clear HFC
             clear hfc
             have hbe := HB7.out
             have HVF : Hid (VarFit v) := Lib.hid ⟨HF7.out.1, by rw [HQ2.out]; exact HF7.out.2.1, by rw [HQ2.out]; exact HF7.out.2.2, fun h => by have h9 := HFA.out (by rw [← HQ3.out]; exact h); rw [HQ1.out, HQ4.out, HQ5.out]; exact h9⟩
             go_wp2
             go_roundw
             case rel =>
              refine ⟨j + 1, by omega, by go_num, Lib.hid (fun q y hq hy => ?_), hbe⟩
              rcases Nat.lt_succ_iff_lt_or_eq.1 hq with h | rfl
              ·exact HIN.out q y h hy
              ·rw [HZ1.out] at hy
               cases hy
               exact HVF.out
             case measure => simp [intOf]; omega
            ·go_wp2
             go_ret
             exact ⟨⟨_, rfl, fun h => by cases h⟩, HB1.out.trans (HB7.out.mono HB1.out.size)⟩
          ·go_wp2
           go_ret
           exact ⟨⟨_, rfl, fun h => by cases h⟩, HB1.out.trans (HB6.out.mono HB1.out.size)⟩
        ·go_wp2
         go_ret
         exact ⟨⟨_, rfl, fun h => by cases h⟩, HB1.out.trans (HB5.out.mono HB1.out.size)⟩
      ·go_wp2
       go_ret
       exact ⟨⟨_, rfl, fun h => by cases h⟩, HB1.out.trans (HB4.out.mono HB1.out.size)⟩
    ·obtain rfl : j = n := by omega
     have e2 := (hbq.cell (p := ⟨B, 2, none⟩) hl1).trans HE2.out
     have HBQ := Lib.hid (HB1.out.trans (hbq.mono HB1.out.size))
     have HVS : Hid (∀ v ∈ p.vars, VarFit v) := Lib.hid (fun v hv => by
      obtain ⟨q, hq⟩ := List.getElem?_of_mem hv
      exact HIN.out q v (by have := (List.getElem?_eq_some_iff.1 hq).1; have := HN.out; omega) hq)
     have HST : Hid (Calls Tryd.prog 16 #[.slice Ab nb kb] wr fun e w' => BoolIf (∀ s ∈ p.body, FitS s) e ∧ Below wr.heap.size wr w') := Lib.hid (by
      have := fitStmts_any _ p.body (Nat.lt_succ_self _) wr Ab kb (HRB.out.below HBQ.out) HSM.out
      rwa [HNB.out] at this)
     clear hbq HIN
     as_aux_lemma =>
      go_wp2_with fail
      refine HST.out.mono ?_
      rintro e w9 ⟨⟨b, rfl, hfit⟩, hb9⟩
      have HF := Lib.hid hfit
      have HB9 := Lib.hid (HBQ.out.trans (hb9.mono HBQ.out.size))
      clear hfit hb9 e1 e2
      go_wp2
      go_ret
      exact ⟨⟨_, rfl, fun h => ⟨HNMP.out, by rw [HN.out]; exact h64, HVS.out, HF.out h⟩⟩, HB9.out⟩
  ·go_wp2
   go_ret
   exact ⟨⟨_, rfl, fun h => by cases h⟩, HB1.out⟩


set_option maxRecDepth 100000 in
theorem awake21 (w : World) : Calls Tryd.prog 4 #[] w fun e w' => e = .returned (.bool true) ∧ Below w.heap.size w w' := by
 go_enter Tryd.func4, Tryd.ntmps4
 go_wp2_with fail
 refine (fexpr_mul w.heap.size _ (by simp) ?hc).mono ?_
 case hc => exact fun j u hu => heap_cell j _ (heap_alloc_new w _) (by rw [List.getElem?_toArray]; exact hu)
 rintro e w1 ⟨⟨s1, s2, rfl⟩, hb1⟩
 have hz1 : w.heap.size + 1 ≤ w1.heap.size := by have := hb1.size; simp at this; omega
 have hB1 : Below w.heap.size w w1 := by exact belowBy
 clear hb1
 go_upto_region 2 with (fail)
 refine wp_name fun W hW => ?_
 have c0 : W.cell? ⟨w1.heap.size, 0, none⟩ = some (.int .i64 1) := by rw [hW.out]; go_simp
 have c1 : W.cell? ⟨w1.heap.size, 1, none⟩ = some (.int .i64 6) := by rw [hW.out]; go_simp
 have hl : w1.heap.size < W.heap.size := by rw [hW.out]; simp
 have hBW : Below w.heap.size w W := by rw [hW.out]; exact belowBy
 have hzW := hBW.size
 clear hW hB1
 have HLI : Hid (Lies (W.alloc (.cells #[.int .i64 2, .int .i64 5] 2)) (W.heap.size + 1) 1 (some ⟨W.heap.size, 0, none⟩) 2 (intsF [2, 5])) := Lib.hid ⟨rfl, fun _ => ⟨_, 0, rfl, Nat.lt_succ_self _, fun j u hu => by
  rw [Nat.zero_add]
  exact heap_cell j _ (heap_alloc_new W _) (by rw [List.getElem?_toArray]; exact hu)⟩⟩
 go_wp2_with fail
 refine (fop_any 9 [2, 5] false _ 2 2 _ ?hlies (by omega) (by omega) (by intro z hz; simp at hz; omega)).mono ?_
 case hlies => exact HLI.out.wide (by simp)
 rintro e w2 ⟨rfl, hb2⟩
 rw [show opV (opF 9 [2, 5] false) = .tuple #[.int .i64 (-3), .bool false, .int .i64 0] from by kernel_rfl]
 obtain ⟨hb2c, hb2f⟩ := bcell hb2
 have hb2z := hb2.size
 have hb2c0 := fun o => hb2c (w1.heap.size) o sideBy
 have hb2f0 := fun o => hb2f (w1.heap.size) o sideBy
 have hb2l0 := below_lt (b := w1.heap.size) hb2 sideBy
 go_wp2
 go_ret
 exact ⟨rfl, by exact belowBy⟩
end Go.Proofs.YtahjijdadifkaaaDoor
