/- Layer 12: the laws are awake. -/
import Derived.Test.YtddakmlnkffgiaaLineH
namespace Go.Proofs.Ytddakmlnkffgiaa
open Go.RowKit
set_option linter.unusedVariables false
set_option linter.unusedSimpArgs false
attribute [local go_sem] ite_max ite_min vite_max vite_min ext_cell ext_frozen extS_cell extS_frozen

theorem own_nums {w : World} {base : Nat} {T : TypeId} {v : Value} {n : Nat} {xs : List Int} (h : w.ownsRow base T 1 v n (intsC xs)) :
    ∃ A c, v = .slice A n c ∧ n ≤ c ∧ c ≤ 9223372036854775807 ∧ Lies w w.heap.size 1 A n (intsC xs) := by
  obtain ⟨A, c, rfl, h1, h2, h3⟩ := own_form h
  unfold maxLen at h2
  exact ⟨A, c, rfl, h1, by omega, Lies.own h⟩

theorem nums_new (xs : List Int) (w w' : World) (T : TypeId) (g n : Nat) (hw : w' = w.alloc (.cells (intsC xs).toArray T)) (hg : w.heap.size = g) (hn : xs.length = n) : Lies w' w'.heap.size 1 (some ⟨g, 0, none⟩) n (intsC xs) := by
  subst hw hg hn
  exact ⟨by rw [intsC, List.length_map, Nat.mul_one], fun _ => ⟨w.heap.size, 0, rfl, by simp, fun j u hu => by
    rw [Nat.zero_add]
    refine heap_cell j _ (heap_alloc_new w _) ?_
    rw [List.getElem?_toArray]
    exact hu⟩⟩

def cm (a b : Int) : CmdS := ⟨a, 0, 0, 0, b, 0, 0⟩

set_option maxRecDepth 100000 in
set_option maxHeartbeats 2000000 in
theorem awake12 (w : World) : Calls Try.prog 27 #[] w fun e w' => e = .returned (.bool true) ∧ Below w.heap.size w w' := by
  go_enter Try.func27, Try.ntmps27
  go_wp2_with fail
  refine (ladd_at [] [] _ 0 (cm 1 0) ⟨[cm 1 0], [], [], 0⟩ _ nil_line rfl).mono ?_
  rintro e w1 ⟨v1, i1, rfl, ⟨a1, b1, rfl, ⟨A1, c1, rfl, x1⟩, ⟨D1, d1, rfl, y1⟩⟩, -, hb1⟩
  have hz1 : w.heap.size ≤ w1.heap.size := by simpa using hb1.size
  have HL1 : Hid (LineV w1 w.heap.size [cm 1 0] [] (.agg #[.slice A1 1 c1, .slice D1 0 d1])) := Lib.hid ⟨_, _, rfl, ⟨A1, c1, rfl, x1⟩, ⟨D1, d1, rfl, y1⟩⟩
  clear x1 y1
  simp only [List.length_cons, List.length_nil, Nat.zero_add]
  go_wp2_with fail
  refine (ladd_at [cm 1 0] [] _ w.heap.size (cm 2 1) ⟨[cm 1 0], [cm 2 1], [], 0⟩ _ (HL1.out.below ?b1) rfl).mono ?_
  case b1 => (repeat' (first | (with_reducible exact Below.refl _ _) | (with_reducible assumption) | (with_reducible refine below_drewN ?_ _) | (with_reducible refine Below.drew ?_) | (with_reducible refine below_new ?_ (Nat.le_refl _) _) | (with_reducible refine Below.setCell ?_ ?_ _) | (with_reducible refine below_go ?_ (by assumption) (Nat.le_refl _)) | (simp; done) | (simp; omega) | omega))
  rintro e w2 ⟨v2, i2, rfl, ⟨a2, b2, rfl, ⟨A2, c2, rfl, x2⟩, ⟨D2, d2, rfl, y2⟩⟩, -, hb2⟩
  have HL2 : Hid (LineV w2 (w1.heap.size + 1) [cm 1 0] [cm 2 1] (.agg #[.slice A2 1 c2, .slice D2 1 d2])) := Lib.hid (LineV.base0 ⟨_, _, rfl, ⟨A2, c2, rfl, x2⟩, ⟨D2, d2, rfl, y2⟩⟩ (by simp))
  clear x2 y2
  simp only [List.length_cons, List.length_nil, Nat.zero_add]
  obtain ⟨hb2c, hb2f⟩ := bcell hb2
  have hb2z := hb2.size
  have hb2c0 := fun o => hb2c (w1.heap.size) o (by first | (simp; done) | (simp; omega) | (simp at *; omega) | omega)
  have hb2f0 := fun o => hb2f (w1.heap.size) o (by first | (simp; done) | (simp; omega) | (simp at *; omega) | omega)
  have hb2l0 := below_lt (b := w1.heap.size) hb2 (by first | (simp; done) | (simp; omega) | (simp at *; omega) | omega)
  have hB2 : Below w1.heap.size w1 w2 := by (repeat' (first | (with_reducible exact Below.refl _ _) | (with_reducible assumption) | (with_reducible refine below_drewN ?_ _) | (with_reducible refine Below.drew ?_) | (with_reducible refine below_new ?_ (Nat.le_refl _) _) | (with_reducible refine Below.setCell ?_ ?_ _) | (with_reducible refine below_go ?_ (by assumption) (Nat.le_refl _)) | (simp; done) | (simp; omega) | omega))
  clear hb2
  go_wp2_with fail
  refine (ladd_at [cm 1 0] [cm 2 1] _ (w1.heap.size + 1) (cm 3 0) ⟨[cm 3 0], [], [cm 1 0, cm 2 1], 0⟩ _ ((HL2.out.store (p := ⟨w1.heap.size, 0, none⟩) (Nat.lt_succ_self _) _).store (p := ⟨w1.heap.size, 1, none⟩) (Nat.lt_succ_self _) _) rfl).mono ?_
  rintro e w3 ⟨v3, i3, rfl, ⟨a3, b3, rfl, ⟨A3, c3, rfl, x3⟩, ⟨D3, d3, rfl, y3⟩⟩, hi3, hb3⟩
  clear x3 y3
  obtain ⟨I, ci, rfl, hc1, hc2, hi⟩ := own_nums (xs := [1, 2]) hi3
  simp only [List.length_cons, List.length_nil, Nat.zero_add] at hc1 hc2 hi ⊢
  have HI := Lib.hid hi
  obtain ⟨hb3c, hb3f⟩ := bcell hb3
  have hb3z := hb3.size
  have hb3c0 := fun o => hb3c (w1.heap.size) o (by first | (simp; done) | (simp; omega) | (simp at *; omega) | omega)
  have hb3f0 := fun o => hb3f (w1.heap.size) o (by first | (simp; done) | (simp; omega) | (simp at *; omega) | omega)
  have hb3l0 := below_lt (b := w1.heap.size) hb3 (by first | (simp; done) | (simp; omega) | (simp at *; omega) | omega)
  have hB3 : Below w.heap.size w w3 := by (repeat' (first | (with_reducible exact Below.refl _ _) | (with_reducible assumption) | (with_reducible refine below_drewN ?_ _) | (with_reducible refine Below.drew ?_) | (with_reducible refine below_new ?_ (Nat.le_refl _) _) | (with_reducible refine Below.setCell ?_ ?_ _) | (with_reducible refine below_go ?_ (by assumption) (Nat.le_refl _)) | (simp; done) | (simp; omega) | omega))
  clear hb3 hi3 hi
  go_wp2_with fail
  refine (same_ints [1, 2] [1, 2] I _ 2 2 ci 2 true _ (HI.out.on ?b1) ?b2 ⟨hc1, hc2⟩ ⟨by omega, by omega⟩ rfl).mono ?_
  case b1 => (repeat' (first | (with_reducible exact Below.refl _ _) | (with_reducible assumption) | (with_reducible refine below_drewN ?_ _) | (with_reducible refine Below.drew ?_) | (with_reducible refine below_new ?_ (Nat.le_refl _) _) | (with_reducible refine Below.setCell ?_ ?_ _) | (with_reducible refine below_go ?_ (by assumption) (Nat.le_refl _)) | (simp; done) | (simp; omega) | omega))
  case b2 => exact nums_new [1, 2] _ _ _ _ _ rfl (by simp) rfl
  rintro e w4 ⟨rfl, hb4⟩
  go_wp2
  go_ret
  exact ⟨rfl, by (repeat' (first | (with_reducible exact Below.refl _ _) | (with_reducible assumption) | (with_reducible refine below_drewN ?_ _) | (with_reducible refine Below.drew ?_) | (with_reducible refine below_new ?_ (Nat.le_refl _) _) | (with_reducible refine Below.setCell ?_ ?_ _) | (with_reducible refine below_go ?_ (by assumption) (Nat.le_refl _)) | (simp; done) | (simp; omega) | omega))⟩

end Go.Proofs.Ytddakmlnkffgiaa
