/- Slices of structs (or of whatever reads cell by cell), as they lie in memory. -/
import Derived.Test.YtedmhafpaielmaaDoorRead
namespace Go.Proofs.YtedmhafpaielmaaDoor
open Go.ChangeShapes Go.WideShapes Go.ChangeAt Go.RowKit
set_option linter.unusedVariables false
set_option linter.unusedSimpArgs false

/-- a slice of things of n cells each: f x are x's cells, good x holds of each -/
def SliceAt {α : Type} (n : Nat) (f : α → List Value) (good : α → Prop) (w : World) (v : Value) (xs : List α) : Prop :=
  ∃ (a : Option Addr) (cap : Nat), v = .slice a xs.length cap ∧ xs.length ≤ cap ∧ cap ≤ 9223372036854775807 ∧ (∀ x ∈ xs, good x) ∧
    (xs ≠ [] → ∃ b off, a = some ⟨b, off, none⟩ ∧ b < w.heap.size ∧ ∀ (i : Nat) (x : α), xs[i]? = some x → ∀ j, j < n → w.cell? ⟨b, off + i * n + j, none⟩ = (f x)[j]?)

theorem slice_pick {α : Type} (Q : Nat → α → Prop) (len : Nat) (h : ∀ i, i < len → ∃ x, Q i x) : ∃ xs : List α, xs.length = len ∧ ∀ i x, xs[i]? = some x → Q i x := by
  induction len with
  | zero => exact ⟨[], rfl, fun i x hx => by simp at hx⟩
  | succ m ih =>
    obtain ⟨xs, hl, hx⟩ := ih (fun i hi => h i (by omega))
    obtain ⟨y, hy⟩ := h m (by omega)
    refine ⟨xs ++ [y], by simp [hl], fun i x hi => ?_⟩
    by_cases c : i < xs.length
    · rw [List.getElem?_append_left c] at hi
      exact hx i x hi
    · rw [List.getElem?_append_right (by omega)] at hi
      have hi0 : i - xs.length = 0 := by
        by_cases z : i - xs.length = 0
        · exact z
        · rw [List.getElem?_eq_none (by simp; omega)] at hi
          cases hi
      rw [hi0] at hi
      simp at hi
      subst hi
      have : i = m := by omega
      subst this
      exact hy

theorem rd_slice_at {α : Type} {P : Program} {H : Type} {enc : TypeId × Value → H} {w : World} {t e : TypeId} {n : Nat} (f : α → List Value) (good : α → Prop) {v : Value}
    (ht : P.underlying t = some (.slice e)) (hn : P.cellsOf e = n) (h0 : 0 < n) (hr : ∀ cs, Rd enc P w e cs → ∃ x, cs = f x ∧ good x) (h : Rd enc P w t [v]) : ∃ xs, SliceAt n f good w v xs := by
  rcases rd_slice ht h with h1 | ⟨a, len, cap, h1, hl, hm, hc⟩
  · simp only [List.cons.injEq, and_true] at h1
    subst h1
    exact ⟨[], none, 0, rfl, by simp, by simp, by simp, fun h => absurd rfl h⟩
  · simp only [List.cons.injEq, and_true] at h1
    subst h1
    rw [hn] at hc
    obtain ⟨xs, hlen, hx⟩ := slice_pick (fun i x => good x ∧ w.cells? 0 (a.add (i * n)) n = some (f x)) len (fun i hi => by
      obtain ⟨cs, h2, h3⟩ := hc i hi
      obtain ⟨x, rfl, hg⟩ := hr cs h3
      exact ⟨x, hg, h2⟩)
    unfold maxLen at hm
    refine ⟨xs, some a, cap, by rw [hlen], by omega, by omega, fun x hm => ?_, fun hne => ?_⟩
    · obtain ⟨i, hi⟩ := List.getElem?_of_mem hm
      exact (hx i x hi).1
    · obtain ⟨x0, hx0⟩ : ∃ x, xs[0]? = some x := by
        cases xs with
        | nil => exact absurd rfl hne
        | cons y _ => exact ⟨y, rfl⟩
      have hcell := fun (i : Nat) (x : α) (hi : xs[i]? = some x) => (World.cells?_some (hx i x hi).2).2
      obtain ⟨b, off, spot⟩ := a
      have h00 := (hcell 0 x0 hx0).2 0 h0
      have hl0 := (hcell 0 x0 hx0).1
      rw [List.getElem?_eq_getElem (by omega)] at h00
      have hspot : spot = none := by simpa [Addr.add] using World.cell?_spot h00
      subst hspot
      refine ⟨b, off, rfl, by simpa [Addr.add] using World.block_lt_of_cell? _ _ h00, fun i x hi j hj => ?_⟩
      have := (hcell i x hi).2 j hj
      rw [add_plain, add_plain] at this
      exact this

end Go.Proofs.YtedmhafpaielmaaDoor
