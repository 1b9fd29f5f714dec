/- Layers 20: how many cells a variable has, in both. -/
import Derived.Test.YtknnhnefbbjcdaaDoorPLay
import Derived.Test.YtknnhnefbbjcdaaDoorM41
import Derived.Test.YtknnhnefbbjcdaaDoorM16
import Derived.Test.YtknnhnefbbjcdaaDoorM45
import Derived.Test.YtknnhnefbbjcdaaDoorM26
namespace Go.Proofs.YtknnhnefbbjcdaaDoor
open Go.RowKit
set_option linter.unusedVariables false
set_option linter.unusedSimpArgs false
attribute [local go_sem] ite_max ite_min vite_max vite_min ext_cell ext_frozen extS_cell extS_frozen

def ArrOk (v : VarS) : Prop := v.arr = true → 0 ≤ v.lo ∧ v.lo ≤ v.hi ∧ v.hi ≤ 255
theorem VarFit.arrOk {v : VarS} (h : VarFit v) : ArrOk v := fun ha => (h.ar ha).2
theorem own_len {w : World} {H : Nat} {T : TypeId} {v : Value} {n : Nat} {xs : List Value} (ho : w.ownsRow H T 3 v n xs) : ∃ A c, v = .slice A n c := by
 rcases ho.2 with ⟨rfl, hn⟩ | ⟨g, cap, cur, rfl, _⟩
 ·exact ⟨none, 0, by rw [hn]⟩
 ·exact ⟨_, _, rfl⟩
set_option maxRecDepth 100000 in
set_option maxHeartbeats 1000000 in
theorem cells20_any (v : VarS) (hv : ArrOk v) (w : World) : Calls Tryd.prog 33 #[.agg v.cells.toArray] w fun e w' => e = .returned (.int .i64 (cellsN v)) ∧ Below w.heap.size w w' := by
 obtain ⟨c, hc⟩ : ∃ c : Nat, cellsN v = c := ⟨_, rfl⟩
 have hc' := hc
 unfold cellsN at hc'
 rw [hc]
 have HC := Lib.hid hc
 obtain ⟨ty, hty⟩ : ∃ x, v.type = x := ⟨_, rfl⟩
 obtain ⟨ar, har⟩ : ∃ x, v.arr = x := ⟨_, rfl⟩
 obtain ⟨lo, hlo⟩ : ∃ x, v.lo = x := ⟨_, rfl⟩
 obtain ⟨hi, hhi⟩ : ∃ x, v.hi = x := ⟨_, rfl⟩
 unfold ArrOk at hv
 rw [hty, har, hlo, hhi] at hc'
 rw [har, hlo, hhi] at hv
 clear hc
 go_enter Tryd.func33, Tryd.ntmps33
 go_upto_region 1 with (refine wpList_boxTo rfl 45 _ rfl _ rfl _ rfl v.cells.toArray rfl ?_)
 refine wp_name fun W hW => ?_
 obtain ⟨B, hB⟩ : ∃ B, B = w.heap.size := ⟨_, rfl⟩
 have hh : W.heap[B]? = some (.cells v.cells.toArray 45) := by rw [hW.out, hB]; exact heap_alloc_new _ _
 have v1 : W.cell? ⟨B, 1, none⟩ = some (.int .i64 ty) := by rw [← hty]; exact heap_cell 1 _ hh rfl
 have v3 : W.cell? ⟨B, 3, none⟩ = some (.bool ar) := by rw [← har]; exact heap_cell 3 _ hh rfl
 have v4 : W.cell? ⟨B, 4, none⟩ = some (.int .i64 lo) := by rw [← hlo]; exact heap_cell 4 _ hh rfl
 have v5 : W.cell? ⟨B, 5, none⟩ = some (.int .i64 hi) := by rw [← hhi]; exact heap_cell 5 _ hh rfl
 have hbel : Below w.heap.size w W := by rw [hW.out]; exact belowBy
 rw [← hB]
 clear hW hB hh hty har hlo hhi
 cases ar
 ·simp only [Bool.false_eq_true, if_false] at hc'
  by_cases h2 : 2 < ty
  ·rw [if_pos h2] at hc'
   go_wp2_with fail
   refine (rpins_any ty _).mono ?_
   rintro e w1 ⟨u, rfl, ho, hb⟩
   rw [hc'] at ho
   obtain ⟨A, cp, rfl⟩ := own_len ho
   clear ho
   go_wp2
   go_ret
   exact ⟨rfl, by exact belowBy⟩
  ·rw [if_neg h2] at hc'
   subst hc'
   go_wp2
   go_ret
   exact ⟨rfl, by exact belowBy⟩
 ·obtain ⟨h1, h2, h3⟩ := hv rfl
  simp only [if_true] at hc'
  have hce : hi - lo + 1 = (c : Int) := by omega
  go_wp2
  go_ret
  refine ⟨?_, by exact belowBy⟩
  congr 2

set_option maxRecDepth 100000 in
set_option maxHeartbeats 1000000 in
theorem kcells_any (v : VarS) (hv : ArrOk v) (w : World) (ht : Blanks w) : Calls Tryd.prog 14 #[.agg v.cells.toArray] w fun e w' => e = .returned (.int .i64 (cellsN v)) ∧ Below w.heap.size w w' := by
 obtain ⟨c, hc⟩ : ∃ c : Nat, cellsN v = c := ⟨_, rfl⟩
 have hc' := hc
 unfold cellsN at hc'
 rw [hc]
 have HC := Lib.hid hc
 have HT := Lib.hid ht
 obtain ⟨ty, hty⟩ : ∃ x, v.type = x := ⟨_, rfl⟩
 obtain ⟨ar, har⟩ : ∃ x, v.arr = x := ⟨_, rfl⟩
 obtain ⟨lo, hlo⟩ : ∃ x, v.lo = x := ⟨_, rfl⟩
 obtain ⟨hi, hhi⟩ : ∃ x, v.hi = x := ⟨_, rfl⟩
 unfold ArrOk at hv
 rw [hty, har, hlo, hhi] at hc'
 rw [har, hlo, hhi] at hv
 clear hc ht
 go_enter Tryd.func14, Tryd.ntmps14
 go_upto_region 1 with (refine wpList_boxTo rfl 45 _ rfl _ rfl _ rfl v.cells.toArray rfl ?_)
 refine wp_name fun W hW => ?_
 obtain ⟨B, hB⟩ : ∃ B, B = w.heap.size := ⟨_, rfl⟩
 have hh : W.heap[B]? = some (.cells v.cells.toArray 45) := by rw [hW.out, hB]; exact heap_alloc_new _ _
 have v1 : W.cell? ⟨B, 1, none⟩ = some (.int .i64 ty) := by rw [← hty]; exact heap_cell 1 _ hh rfl
 have v3 : W.cell? ⟨B, 3, none⟩ = some (.bool ar) := by rw [← har]; exact heap_cell 3 _ hh rfl
 have v4 : W.cell? ⟨B, 4, none⟩ = some (.int .i64 lo) := by rw [← hlo]; exact heap_cell 4 _ hh rfl
 have v5 : W.cell? ⟨B, 5, none⟩ = some (.int .i64 hi) := by rw [← hhi]; exact heap_cell 5 _ hh rfl
 have hbel : Below w.heap.size w W := by rw [hW.out]; exact belowBy
 have HTW := Lib.hid (HT.out.on hbel)
 rw [← hB]
 clear hW hB hh hty har hlo hhi HT
 cases ar
 ·simp only [Bool.false_eq_true, if_false] at hc'
  by_cases h2 : 2 < ty
  ·rw [if_pos h2, ← (tabs_is ty).2] at hc'
   go_wp2_with fail
   refine (pins_any ty _ HTW.out).mono ?_
   rintro e w1 ⟨u, rfl, ho, hb⟩
   rw [hc'] at ho
   obtain ⟨A, cp, rfl⟩ := own_len ho
   clear ho
   go_wp2
   go_ret
   exact ⟨rfl, by exact belowBy⟩
  ·rw [if_neg h2] at hc'
   subst hc'
   go_wp2
   go_ret
   exact ⟨rfl, by exact belowBy⟩
 ·obtain ⟨h1, h2, h3⟩ := hv rfl
  simp only [if_true] at hc'
  have hce : hi - lo + 1 = (c : Int) := by omega
  go_wp2
  go_ret
  refine ⟨?_, by exact belowBy⟩
  congr 2

end Go.Proofs.YtknnhnefbbjcdaaDoor
