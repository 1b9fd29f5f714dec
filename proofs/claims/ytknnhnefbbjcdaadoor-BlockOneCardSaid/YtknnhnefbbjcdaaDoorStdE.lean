/- Layer 16: timers: what a call of a TON, of a TP lays. -/
import Derived.Test.YtknnhnefbbjcdaaDoorM16
import Derived.Test.YtknnhnefbbjcdaaDoorM02
namespace Go.Proofs.YtknnhnefbbjcdaaDoor
open Go.RowKit
set_option linter.unusedVariables false
set_option linter.unusedSimpArgs false
attribute [local go_sem] ite_max ite_min vite_max vite_min ext_cell ext_frozen extS_cell extS_frozen

structure Row (w : World) (g : Nat) (zs : List Int) : Prop where
 lt : g < w.heap.size
 cell : ∀ (j : Nat) z, zs[j]? = some z → w.cell? ⟨g, j, none⟩ = some (.int .i64 z)
 free : ∀ o, w.frozen? ⟨g, o, none⟩ = false
theorem Row.below {w w' : World} {g : Nat} {zs : List Int} (h : Row w g zs) (hb : Below w.heap.size w w') : Row w' g zs :=
 ⟨Nat.lt_of_lt_of_le h.lt hb.size, fun j z hz => (hb.cell (p := ⟨g, j, none⟩) h.lt).trans (h.cell j z hz), fun o => (hb.frozen (p := ⟨g, o, none⟩) h.lt).trans (h.free o)⟩
theorem row_nil (w : World) (g j : Nat) : ∀ (k : Nat) z, ([] : List Int)[k]? = some z → w.cell? ⟨g, j + k, none⟩ = some (.int .i64 z) := fun k z h => by simp at h
theorem row_cons {w : World} {g j : Nat} {z : Int} {zs : List Int} (h0 : w.cell? ⟨g, j, none⟩ = some (.int .i64 z)) (h : ∀ (k : Nat) y, zs[k]? = some y → w.cell? ⟨g, j + 1 + k, none⟩ = some (.int .i64 y)) :
  ∀ (k : Nat) y, (z :: zs)[k]? = some y → w.cell? ⟨g, j + k, none⟩ = some (.int .i64 y) := by
 intro k y hy
 cases k with
 | zero =>
  simp at hy
  subst hy
  exact h0
 | succ k =>
  have := h k y (by simpa using hy)
  rwa [show j + 1 + k = j + (k + 1) by omega] at this
theorem Row.mk0 {w : World} {g : Nat} {zs : List Int} (hl : g < w.heap.size) (hf : ∀ o, w.frozen? ⟨g, o, none⟩ = false) (h : ∀ (k : Nat) y, zs[k]? = some y → w.cell? ⟨g, 0 + k, none⟩ = some (.int .i64 y)) : Row w g zs :=
 ⟨hl, fun j z hz => by have := h j z hz; rwa [Nat.zero_add] at this, hf⟩
structure But (g : Nat) (w w' : World) : Prop where
 size : w.heap.size ≤ w'.heap.size
 blk : ∀ b, b < w.heap.size → b ≠ g → w'.heap[b]? = w.heap[b]?
 below : ∀ B, B ≤ g → B ≤ w.heap.size → Below B w w'
theorem But.cell {g : Nat} {w w' : World} (h : But g w w') : ∀ b o, b < w.heap.size → b ≠ g → w'.cell? ⟨b, o, none⟩ = w.cell? ⟨b, o, none⟩ := fun b o hb hn => World.cell?_of_block (a := ⟨b, o, none⟩) (h.blk b hb hn)
theorem But.froz {g : Nat} {w w' : World} (h : But g w w') : ∀ b o, b < w.heap.size → b ≠ g → w'.frozen? ⟨b, o, none⟩ = w.frozen? ⟨b, o, none⟩ := fun b o hb hn => World.frozen?_of_block (a := ⟨b, o, none⟩) (h.blk b hb hn)
theorem But.of_below {g : Nat} {w w' : World} (h : Below w.heap.size w w') : But g w w' :=
 ⟨h.size, fun b hb _ => h.block b hb, fun _ _ h2 => h.mono h2⟩
theorem But.trans {g : Nat} {a b c : World} (h1 : But g a b) (h2 : But g b c) : But g a c :=
 ⟨Nat.le_trans h1.size h2.size, fun x hx hn => (h2.blk x (Nat.lt_of_lt_of_le hx h1.size) hn).trans (h1.blk x hx hn),
  fun B hB hs => (h1.below B hB hs).trans (h2.below B hB (Nat.le_trans hs h1.size))⟩
theorem But.set {g : Nat} {w w' : World} (h : But g w w') (o : Nat) (v : Value) : But g w (w'.setCell ⟨g, o, none⟩ v) := by
 refine ⟨by simpa [World.setCell] using h.size, fun b hb hn => ?_, fun B hB hs => ?_⟩
 ·exact (Below.heap_setCell w' ⟨g, o, none⟩ v b hn).trans (h.blk b hb hn)
 ·exact Below.setCell (h.below B hB hs) (by show B ≤ g; exact hB) _

theorem But.refl (g : Nat) (w : World) : But g w w := But.of_below (Below.refl _ _)
theorem But.alloc {g : Nat} {w w' : World} (h : But g w w') (o : Obj) : But g w (w'.alloc o) := h.trans (But.of_below ((Below.refl _ _).alloc (Nat.le_refl _) o))
theorem But.drew {g : Nat} {w w' : World} (h : But g w w') : But g w w'.drew := h.trans (But.of_below ((Below.refl _ _).drew))
theorem But.drewN {g : Nat} {w w' : World} (h : But g w w') (n : Nat) : But g w (w'.drewN n) := h.trans (But.of_below (below_drewN (Below.refl _ _) n))





theorem row4 {w : World} {g : Nat} {a b c d : Int} (hl : g < w.heap.size) (hf : ∀ o, w.frozen? ⟨g, o, none⟩ = false) (h0 : w.cell? ⟨g, 0, none⟩ = some (.int .i64 a)) (h1 : w.cell? ⟨g, 1, none⟩ = some (.int .i64 b)) (h2 : w.cell? ⟨g, 2, none⟩ = some (.int .i64 c)) (h3 : w.cell? ⟨g, 3, none⟩ = some (.int .i64 d)) : Row w g [a, b, c, d] :=
 Row.mk0 hl hf (row_cons h0 (row_cons h1 (row_cons h2 (row_cons h3 (row_nil w g 4)))))





theorem row6 {w : World} {g : Nat} {a b c d x y : Int} (hl : g < w.heap.size) (hf : ∀ o, w.frozen? ⟨g, o, none⟩ = false) (h0 : w.cell? ⟨g, 0, none⟩ = some (.int .i64 a)) (h1 : w.cell? ⟨g, 1, none⟩ = some (.int .i64 b)) (h2 : w.cell? ⟨g, 2, none⟩ = some (.int .i64 c)) (h3 : w.cell? ⟨g, 3, none⟩ = some (.int .i64 d)) (h4 : w.cell? ⟨g, 4, none⟩ = some (.int .i64 x)) (h5 : w.cell? ⟨g, 5, none⟩ = some (.int .i64 y)) : Row w g [a, b, c, d, x, y] :=
 Row.mk0 hl hf (row_cons h0 (row_cons h1 (row_cons h2 (row_cons h3 (row_cons h4 (row_cons h5 (row_nil w g 6)))))))

end Go.Proofs.YtknnhnefbbjcdaaDoor
