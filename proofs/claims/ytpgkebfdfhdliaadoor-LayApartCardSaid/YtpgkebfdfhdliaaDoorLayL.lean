/- Layer 22: a layout as it is made: two rows of the call's own, held by a variable. -/
import Derived.Test.YtpgkebfdfhdliaaDoorLayJ
import Derived.Test.YtpgkebfdfhdliaaDoorAppZ
import Derived.Laws.OwnMore
namespace Go.Proofs.YtpgkebfdfhdliaaDoor
open Go.RowKit
set_option linter.unusedVariables false
set_option linter.unusedSimpArgs false

/-- the layout as far as it is made: the variable L, its two rows above base -/
structure LayS (W : World) (L base : Nat) (zs fs : List Int) (c : Int) (vA vF : Value) : Prop where
  lt : L < W.heap.size
  lb : L < base
  l0 : W.cell? ⟨L, 0, none⟩ = some vA
  l1 : W.cell? ⟨L, 1, none⟩ = some (.int .i64 c)
  l2 : W.cell? ⟨L, 2, none⟩ = some vF
  f : ∀ o, W.frozen? ⟨L, o, none⟩ = false
  oA : W.ownsRow base 3 1 vA zs.length (intsV .i64 zs)
  oF : W.ownsRow base 2 1 vF fs.length (intsV .i64 fs)
  ap : ∀ b, vA.ownBlock = some b → vF.ownBlock ≠ some b
theorem LayS.below {W W' : World} {L base : Nat} {zs fs : List Int} {c : Int} {vA vF : Value} (h : LayS W L base zs fs c vA vF) (hb : Below W.heap.size W W') : LayS W' L base zs fs c vA vF :=
  ⟨Nat.lt_of_lt_of_le h.lt hb.size, h.lb, (hb.cell (p := ⟨L, 0, none⟩) h.lt).trans h.l0, (hb.cell (p := ⟨L, 1, none⟩) h.lt).trans h.l1, (hb.cell (p := ⟨L, 2, none⟩) h.lt).trans h.l2, fun o => (hb.frozen (p := ⟨L, o, none⟩) h.lt).trans (h.f o), owns_below h.oA hb, owns_below h.oF hb, h.ap⟩
theorem grown_at {w w' : World} {row : Option Nat} (hg : w.grownBy w' row) {p : Addr} (hp : p.block < w.heap.size) (hr : some p.block ≠ row) : w'.cell? p = w.cell? p ∧ w'.frozen? p = w.frozen? p :=
  ⟨World.cell?_of_block (hg.block _ hp hr), World.frozen?_of_block (hg.block _ hp hr)⟩
theorem own_ne {w : World} {base : Nat} {e : TypeId} {size : Nat} {v : Value} {n : Nat} {xs : List Value} (h : w.ownsRow base e size v n xs) {L : Nat} (hl : L < base) : some L ≠ v.ownBlock := fun he => by
  have := (h.lt L he.symm).1
  omega
theorem own_kept2 {w w' : World} {row : Option Nat} {base : Nat} {e : TypeId} {size : Nat} {v : Value} {n : Nat} {xs : List Value} (h : w.ownsRow base e size v n xs) (hg : w.grownBy w' row) (ha : ∀ b, row = some b → v.ownBlock ≠ some b) : w'.ownsRow base e size v n xs :=
  h.kept hg (by
    cases hv : v.ownBlock with
    | none => exact .inl rfl
    | some b =>
      refine .inr (fun he => ?_)
      exact ha b he.symm hv)
theorem own_row_size {w : World} {base : Nat} {e : TypeId} {size : Nat} {v : Value} {n : Nat} {xs : List Value} (h : w.ownsRow base e size v n xs) {b : Nat} (hb : v.ownBlock = some b) : b < w.heap.size := (h.lt b hb).2
/-- one more place -/
theorem LayS.addA {W W1 W2 : World} {L base : Nat} {zs fs : List Int} {c z : Int} {vA vF v' : Value} (h : LayS W L base zs fs c vA vF) (h1 : Below W.heap.size W W1) (hg : W1.grownBy W2 vA.ownBlock)
    (ho : W2.ownsRow base 3 1 v' (zs.length + 1) (intsV .i64 zs ++ [.int .i64 z])) (hat : ∀ k, v'.ownBlock = some k → vA.ownBlock = some k ∨ k = W1.heap.size) :
    LayS (W2.setCell ⟨L, 0, none⟩ v') L base (zs ++ [z]) fs c v' vF := by
  have h' := h.below h1
  have hL : some L ≠ vA.ownBlock := own_ne h'.oA h.lb
  have hlt : L < W2.heap.size := Nat.lt_of_lt_of_le h'.lt hg.size
  have c0 := (grown_at hg (p := ⟨L, 0, none⟩) h'.lt hL).1.trans h'.l0
  have c1 := (grown_at hg (p := ⟨L, 1, none⟩) h'.lt hL).1.trans h'.l1
  have c2 := (grown_at hg (p := ⟨L, 2, none⟩) h'.lt hL).1.trans h'.l2
  have cf : ∀ o, W2.frozen? ⟨L, o, none⟩ = false := fun o => (grown_at hg (p := ⟨L, o, none⟩) h'.lt hL).2.trans (h'.f o)
  refine ⟨by simpa using hlt, h.lb, by go_simp, by go_simp, by go_simp, fun o => by have := cf o; go_simp, ?_, ?_, ?_⟩
  · rw [show (zs ++ [z]).length = zs.length + 1 by simp, ← intsV_snoc]
    exact ownsRow_setCell_below ho h.lb _
  · exact ownsRow_setCell_below (own_kept2 h'.oF hg h'.ap) h.lb _
  · intro b hb he
    rcases hat b hb with h2 | h2
    · exact h'.ap b h2 he
    · have := own_row_size h'.oF he
      omega
/-- more cells at first -/
theorem LayS.addF {W W1 W2 : World} {L base : Nat} {zs fs gs : List Int} {c : Int} {vA vF v' : Value} (h : LayS W L base zs fs c vA vF) (h1 : Below W.heap.size W W1) (hg : W1.grownBy W2 vF.ownBlock)
    (ho : W2.ownsRow base 2 1 v' (fs.length + gs.length) (intsV .i64 fs ++ intsV .i64 gs)) (hat : ∀ k, v'.ownBlock = some k → vF.ownBlock = some k ∨ k = W1.heap.size) :
    LayS (W2.setCell ⟨L, 2, none⟩ v') L base zs (fs ++ gs) c vA v' := by
  have h' := h.below h1
  have hL : some L ≠ vF.ownBlock := own_ne h'.oF h.lb
  have hlt : L < W2.heap.size := Nat.lt_of_lt_of_le h'.lt hg.size
  have c0 := (grown_at hg (p := ⟨L, 0, none⟩) h'.lt hL).1.trans h'.l0
  have c1 := (grown_at hg (p := ⟨L, 1, none⟩) h'.lt hL).1.trans h'.l1
  have c2 := (grown_at hg (p := ⟨L, 2, none⟩) h'.lt hL).1.trans h'.l2
  have cf : ∀ o, W2.frozen? ⟨L, o, none⟩ = false := fun o => (grown_at hg (p := ⟨L, o, none⟩) h'.lt hL).2.trans (h'.f o)
  refine ⟨by simpa using hlt, h.lb, by go_simp, by go_simp, by go_simp, fun o => by have := cf o; go_simp, ?_, ?_, ?_⟩
  · exact ownsRow_setCell_below (own_kept2 h'.oA hg fun b hb he => h'.ap b he hb) h.lb _
  · rw [show (fs ++ gs).length = fs.length + gs.length by simp, show intsV .i64 (fs ++ gs) = intsV .i64 fs ++ intsV .i64 gs by simp [intsV]]
    exact ownsRow_setCell_below ho h.lb _
  · intro b hb he
    rcases hat b he with h2 | h2
    · exact h'.ap b hb h2
    · have := own_row_size h'.oA hb
      omega
/-- the number of cells -/
theorem LayS.put {W : World} {L base : Nat} {zs fs : List Int} {c d : Int} {vA vF : Value} (h : LayS W L base zs fs c vA vF) : LayS (W.setCell ⟨L, 1, none⟩ (.int .i64 d)) L base zs fs d vA vF := by
  have c0 := h.l0
  have c1 := h.l1
  have c2 := h.l2
  have cf := h.f
  have hl := h.lt
  exact ⟨by simpa using h.lt, h.lb, by go_simp, by go_simp, by go_simp, fun o => by have := cf o; go_simp, ownsRow_setCell_below h.oA h.lb _, ownsRow_setCell_below h.oF h.lb _, h.ap⟩
/-- a cell at first -/
theorem LayS.setF {W : World} {L base : Nat} {zs fs : List Int} {c : Int} {vA : Value} {g n k : Nat} (h : LayS W L base zs fs c vA (.slice (some ⟨g, 0, none⟩) n k)) (j : Nat) (x : Int) : LayS (W.setCell ⟨g, j, none⟩ (.int .i64 x)) L base zs (fs.set j x) c vA (.slice (some ⟨g, 0, none⟩) n k) := by
  have hL := own_ne h.oF h.lb
  have hne : ¬ L = g := fun e => hL (by simp [Value.ownBlock, e])
  have c0 := h.l0
  have c1 := h.l1
  have c2 := h.l2
  have cf := h.f
  have hl := h.lt
  have ho := h.oF
  have hn : n = fs.length := by
    rcases ho.2 with ⟨e, _⟩ | ⟨g', cap, cur, e, _⟩
    · cases e
    · cases e
      rfl
  subst hn
  refine ⟨by simpa using h.lt, h.lb, by go_simp, by go_simp, by go_simp, fun o => by have := cf o; go_simp, ?_, ?_, h.ap⟩
  · exact ownsRow_setCell_other h.oA (fun he => h.ap g he rfl) _
  · rw [List.length_set, show intsV .i64 (fs.set j x) = (intsV .i64 fs).set j (.int .i64 x) by simp [intsV, List.map_set]]
    exact (ho.stored j (.int .i64 x)).1
theorem firstV_rep (v : VarS) : firstV v = List.replicate (cellsN v) (if v.arr = false ∧ v.type ≤ 2 then v.init else 0) := by
  unfold firstV
  split
  · rename_i h
    unfold cellsN
    rw [if_neg (by rw [h.1]; decide), if_neg (by omega)]
    rfl
  · rfl
/-- what a layout is told as -/
def LayR (w : World) (vs : List VarS) (v : Value) (w' : World) : Prop := ∃ vA vF, v = .agg #[vA, .int .i64 (sumN vs), vF] ∧ w'.ownsRow w.heap.size 3 1 vA vs.length (intsV .i64 (offsN 0 vs)) ∧ w'.ownsRow w.heap.size 2 1 vF (sumN vs) (intsV .i64 (firstsV vs))
theorem LayS.told {w W : World} {L base : Nat} {vs : List VarS} {vA vF : Value} (h : LayS W L base (offsN 0 vs) (firstsV vs) (sumN vs) vA vF) (hb : w.heap.size ≤ base) : LayR w vs (.agg #[vA, .int .i64 (sumN vs), vF]) W := by
  have h1 := owns_mono h.oA hb
  have h2 := owns_mono h.oF hb
  rw [offsN_len] at h1
  rw [firstsV_len] at h2
  exact ⟨vA, vF, rfl, h1, h2⟩

end Go.Proofs.YtpgkebfdfhdliaaDoor
