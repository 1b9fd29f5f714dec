/- Small lemmas for appends to a row of the call's own: what stays beside it. -/
import Derived.Test.YtknnhnefbbjcdaaDoorBase
import Derived.Deep.AppendLies
import Derived.Deep.DeepCutAuto
import Derived.OneCell
namespace Go.Proofs.YtknnhnefbbjcdaaDoor
open Go.RowKit
set_option linter.unusedVariables false
set_option linter.unusedSimpArgs false

def Apart (v : Value) (l : List Nat) : Prop := ∀ b ∈ l, v.ownBlock ≠ some b
theorem Apart.nil (l : List Nat) : Apart (.slice none 0 0) l := fun b _ h => by cases h
theorem Apart.at {v : Value} {l : List Nat} (h : Apart v l) {b : Nat} (hb : b ∈ l) : some b ≠ v.ownBlock := fun e => h b hb e.symm
theorem Apart.next {v : Value} {l : List Nat} {g H n c : Nat} (h : Apart v l) (hat : v.ownBlock = some g ∨ g = H) (hl : ∀ b ∈ l, b < H) : Apart (.slice (some ⟨g, 0, none⟩) n c) l := by
 intro b hb he
 have hg : g = b := by simpa [Value.ownBlock] using he
 rcases hat with h1 | h1
 ·exact h b hb (by rw [h1, hg])
 ·have := hl b hb
  omega
theorem Apart.of_lt {w : World} {base : Nat} {e : TypeId} {size : Nat} {v : Value} {n : Nat} {xs : List Value} (h : w.ownsRow base e size v n xs) {l : List Nat} (hl : ∀ b ∈ l, w.heap.size ≤ b) : Apart v l := by
 intro b hb he
 have := (h.lt b he).2
 have := hl b hb
 omega
theorem Apart.of_base {w : World} {base : Nat} {e : TypeId} {size : Nat} {v : Value} {n : Nat} {xs : List Value} (h : w.ownsRow base e size v n xs) {l : List Nat} (hl : ∀ b ∈ l, b < base) : Apart v l := by
 intro b hb he
 have := (h.lt b he).1
 have := hl b hb
 omega
theorem Apart.cons {v : Value} {l : List Nat} {b : Nat} (h1 : Apart v [b]) (h : Apart v l) : Apart v (b :: l) := by
 intro c hc
 rcases List.mem_cons.1 hc with rfl | hc
 ·exact h1 c (by simp)
 ·exact h c hc
theorem Apart.sub {v : Value} {l m : List Nat} (h : Apart v l) (hs : ∀ b ∈ m, b ∈ l) : Apart v m := fun b hb => h b (hs b hb)

theorem owns_below {w w' : World} {base : Nat} {e : TypeId} {size : Nat} {v : Value} {n : Nat} {xs : List Value} (h : w.ownsRow base e size v n xs) (hb : Below w.heap.size w w') : w'.ownsRow base e size v n xs := by
 obtain ⟨h1, h2⟩ := h
 refine ⟨h1, ?_⟩
 rcases h2 with h2 | ⟨g, cap, cur, hv, hg, hh, r⟩
 ·exact Or.inl h2
 ·exact Or.inr ⟨g, cap, cur, hv, hg, by rw [hb.block g (Array.getElem?_eq_some_iff.1 hh).1]; exact hh, r⟩
theorem below_grown {B : Nat} {a w w' : World} {base : Nat} {e : TypeId} {size : Nat} {v : Value} {n : Nat} {xs : List Value} (h : Below B a w) (hg : w.grownBy w' v.ownBlock) (ho : w.ownsRow base e size v n xs) (hB : B ≤ base) (hs : B ≤ w.heap.size) : Below B a w' :=
 h.grown hg hs fun k hk => Nat.le_trans hB (ho.lt k hk).1
theorem owns_cell {w : World} {base : Nat} {e : TypeId} {v : Value} {n : Nat} {xs : List Value} {g : Nat} (h : w.ownsRow base e 1 v n xs) (hg : v.ownBlock = some g) {j : Nat} {u : Value} (hu : xs[j]? = some u) : w.cell? ⟨g, j, none⟩ = some u := by
 have := h.cells hg j u hu
 have hadd : (⟨g, 0, none⟩ : Addr).add j = ⟨g, j, none⟩ := by cases j <;> simp [Addr.add]
 rwa [hadd] at this

def intsV (k : IntKind) (zs : List Int) : List Value := zs.map (Value.int k)
theorem intsV_snoc (k : IntKind) (zs : List Int) (z : Int) : intsV k zs ++ [.int k z] = intsV k (zs ++ [z]) := by simp [intsV]
theorem intsV_get (k : IntKind) (zs : List Int) (i : Nat) (h : i < zs.length) : (intsV k zs)[i]? = some (.int k (zs[i]?.getD 0)) := by
 simp [intsV, h]
theorem intsV_len (k : IntKind) (zs : List Int) : (intsV k zs).length = zs.length := by simp [intsV]
theorem one_cell (v : Value) (h : v.oneCell' = true) : ∀ u ∈ [v], u.oneCell' = true := fun u hu => by rw [List.mem_singleton.1 hu]; exact h

end Go.Proofs.YtknnhnefbbjcdaaDoor
