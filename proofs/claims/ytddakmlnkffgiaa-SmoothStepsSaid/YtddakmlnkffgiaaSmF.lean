/- Contracts of layer 10 on windows that lie in a world. -/
import Derived.Test.YtddakmlnkffgiaaSmE
namespace Go.Proofs.Ytddakmlnkffgiaa
open Go.RowKit
set_option linter.unusedVariables false
set_option linter.unusedSimpArgs false
attribute [local go_sem] ite_max ite_min vite_max vite_min ext_cell ext_frozen

/-- n numbers lie at the head of a block -/
structure OnW (w : World) (zs : List Int) (n g k : Nat) : Prop where
  nk : n ≤ k
  km : k ≤ 9223372036854775807
  gl : g < w.heap.size
  cs : ∀ i, i < n → w.cell? ⟨g, i, none⟩ = some (.int .i64 (zs[i]?.getD 0))
theorem OnW.below {w w' : World} {zs : List Int} {n g k : Nat} (h : OnW w zs n g k) (hb : Below w.heap.size w w') : OnW w' zs n g k :=
  ⟨h.nk, h.km, Nat.lt_of_lt_of_le h.gl hb.size, fun i hi => by rw [hb.cell (p := ⟨g, i, none⟩) h.gl]; exact h.cs i hi⟩
theorem OnW.at0 {w : World} {zs : List Int} {n g k : Nat} (h : OnW w zs n g k) : ∀ i, i < n → w.cell? ⟨g, 0 + i, none⟩ = some (.int .i64 (zs[i]?.getD 0)) := fun i hi => by rw [Nat.zero_add]; exact h.cs i hi
theorem OnW.of_win {B n : Nat} {zs : List Int} {v : Value} {w : World} (h : Win B zs n v w) : ∃ g k, v = .agg #[.slice (some ⟨g, 0, none⟩) n k] ∧ B ≤ g ∧ OnW w zs n g k := by
  obtain ⟨g, k, cur, rfl, hB, hg, hnk, hk, hck, ht⟩ := h
  refine ⟨g, k, rfl, hB, hnk, hk, (Array.getElem?_eq_some_iff.1 hg.out).1, fun i hi => heap_cell i _ hg.out ?_⟩
  have h1 := rowsL_get zs n i hi
  rw [← ht.out, List.getElem?_take, if_pos hi] at h1
  rw [List.getElem?_toArray]
  exact h1
theorem curK_get (pos : Int) (m i : Nat) (h : i < m) : (curK pos m m)[i]? = some (.int .i64 pos) := by
  simp [curK, h]

theorem sm_push_w (zs : List Int) (g n k : Nat) (pos : Int) (w : World) (h : OnW w zs n g k) (hr : rightW zs n = true) (hp : plB pos = true) :
    Calls Try.prog 45 #[.agg #[.slice (some ⟨g, 0, none⟩) n k], .int .i64 pos] w fun e w' => ∃ g' k', e = .returned (.agg #[.slice (some ⟨g', 0, none⟩) n k']) ∧ w.heap.size ≤ g' ∧ Below w.heap.size w w' ∧ OnW w' (pos :: zs) n g' k' := by
  refine (sm_push_at zs g 0 n k pos w h.nk h.km h.gl h.at0 hr hp).mono ?_
  rintro e w' ⟨v, rfl, hw, hb⟩
  obtain ⟨g', k', rfl, hB, ho⟩ := OnW.of_win hw
  exact ⟨g', k', rfl, hB, hb, ho⟩
theorem sm_push_w_no (zs : List Int) (g n k : Nat) (pos : Int) (w : World) (h : OnW w zs n g k) (hn : n ≤ 1000) (hr : (rightW zs n && plB pos) = false) :
    Calls Try.prog 45 #[.agg #[.slice (some ⟨g, 0, none⟩) n k], .int .i64 pos] w fun e w' => ∃ g' k', e = .returned (.agg #[.slice (some ⟨g', 0, none⟩) n k']) ∧ w.heap.size ≤ g' ∧ Below w.heap.size w w' ∧ OnW w' zs n g' k' := by
  refine (sm_push_no zs g 0 n k pos w ⟨h.nk, hn⟩ h.km h.gl h.at0 hr).mono ?_
  rintro e w' ⟨v, rfl, hw, hb⟩
  obtain ⟨g', k', rfl, hB, ho⟩ := OnW.of_win hw
  exact ⟨g', k', rfl, hB, hb, ho⟩
theorem sm_out_w (zs : List Int) (g n k : Nat) (x : Int) (w : World) (h : OnW w zs n g k) (hr : rightW zs n = true) (hx : sumK zs n = x) :
    Calls Try.prog 44 #[.agg #[.slice (some ⟨g, 0, none⟩) n k]] w fun e w' => e = .returned (.int .i64 x) ∧ Below w.heap.size w w' :=
  sm_out_at zs g 0 n k x w h.nk h.km h.gl h.at0 hr hx
theorem sm_rest_w (zs : List Int) (g n k : Nat) (r : Bool) (w : World) (h : OnW w zs n g k) (hr : restW zs n = r) :
    Calls Try.prog 47 #[.agg #[.slice (some ⟨g, 0, none⟩) n k]] w fun e w' => e = .returned (.bool r) ∧ Below w.heap.size w w' :=
  sm_rest_at zs g 0 n k r w h.nk h.km h.gl h.at0 hr
theorem sm_right_w (zs : List Int) (g n k : Nat) (r : Bool) (w : World) (h : OnW w zs n g k) (hr : rightW zs n = r) :
    Calls Try.prog 50 #[.agg #[.slice (some ⟨g, 0, none⟩) n k]] w fun e w' => e = .returned (.bool r) ∧ Below w.heap.size w w' :=
  sm_right_at zs g 0 n k r w h.nk h.km h.gl h.at0 hr
theorem sm_new_w (pos : Int) (m : Nat) (w : World) (hm : 1 ≤ m ∧ m ≤ 16) (hp : plB pos = true) : Calls Try.prog 43 #[.int .i64 (m : Int), .int .i64 pos] w fun e w' => ∃ g, e = .returned (.tuple #[.agg #[.slice (some ⟨g, 0, none⟩) m m], .int .i64 0]) ∧ w.heap.size ≤ g ∧ Below w.heap.size w w' ∧ OnW w' (List.replicate m pos) m g m := by
  refine (sm_new_at pos m w hm hp).mono ?_
  rintro e w' ⟨g, rfl, hB, hb, hc⟩
  refine ⟨g, rfl, hB, hb, Nat.le_refl _, by omega, (Array.getElem?_eq_some_iff.1 hc.out).1, fun i hi => heap_cell i _ hc.out ?_⟩
  rw [List.getElem?_toArray, curK_get pos m i hi, List.getElem?_replicate, if_pos hi]
  rfl

end Go.Proofs.Ytddakmlnkffgiaa
