/- Trees in part of the memory: only these blocks; a row of one's own as a row of trees. -/
import Derived.Test.YtcamegfnhbbaeaaM08
import Derived.Test.YtcamegfnhbbaeaaLie
namespace Go.Proofs.Ytcamegfnhbbaeaa
open Go.RowKit
set_option linter.unusedVariables false
set_option linter.unusedSimpArgs false

/-- the world with these blocks alone: the others hold nothing -/
def only (w : World) (p : Nat → Bool) : World := { w with heap := w.heap.mapIdx fun i o => if p i = true then o else .cells #[] 0 }
theorem only_size (w : World) (p : Nat → Bool) : (only w p).heap.size = w.heap.size := by simp [only]
theorem only_cell {w : World} {p : Nat → Bool} {b o : Nat} {v : Value} (h : (only w p).cell? ⟨b, o, none⟩ = some v) : p b = true ∧ w.cell? ⟨b, o, none⟩ = some v := by
  unfold World.cell? only at h
  simp only [Array.getElem?_mapIdx] at h
  cases hb : w.heap[b]? with
  | none => rw [hb] at h; simp at h
  | some ob =>
    rw [hb] at h
    cases hp : p b with
    | false => rw [hp] at h; simp at h
    | true =>
      rw [hp] at h
      refine ⟨rfl, ?_⟩
      unfold World.cell?
      rw [hb]
      simpa using h
theorem cell_only {w : World} {p : Nat → Bool} {b o : Nat} (hp : p b = true) : (only w p).cell? ⟨b, o, none⟩ = w.cell? ⟨b, o, none⟩ := by
  unfold World.cell? only
  simp only [Array.getElem?_mapIdx]
  cases hb : w.heap[b]? with
  | none => simp
  | some ob => simp [hp]

/-- the cells of one world are those of the other -/
def Moves (w w' : World) : Prop := w.heap.size ≤ w'.heap.size ∧ ∀ b o v, w.cell? ⟨b, o, none⟩ = some v → w'.cell? ⟨b, o, none⟩ = some v
theorem Moves.refl (w : World) : Moves w w := ⟨Nat.le_refl _, fun _ _ _ h => h⟩
theorem Moves.trans {a b c : World} (h1 : Moves a b) (h2 : Moves b c) : Moves a c := ⟨Nat.le_trans h1.1 h2.1, fun x o v h => h2.2 x o v (h1.2 x o v h)⟩
theorem cell_lt {w : World} {b o : Nat} {v : Value} (h : w.cell? ⟨b, o, none⟩ = some v) : b < w.heap.size := World.block_lt_of_cell? w ⟨b, o, none⟩ h
theorem Moves.of_below {w w' : World} (h : Below w.heap.size w w') : Moves w w' := ⟨h.size, fun b o v hv => (h.cell (p := ⟨b, o, none⟩) (cell_lt hv)).trans hv⟩
theorem Moves.only (w : World) (p : Nat → Bool) : Moves (only w p) w := ⟨by rw [only_size]; exact Nat.le_refl _, fun b o v h => (only_cell h).2⟩
theorem Moves.onlyW {w w' : World} {p q : Nat → Bool} (hs : w.heap.size ≤ w'.heap.size) (h : ∀ b, b < w.heap.size → p b = true → q b = true ∧ w'.heap[b]? = w.heap[b]?) : Moves (Go.Proofs.Ytcamegfnhbbaeaa.only w p) (Go.Proofs.Ytcamegfnhbbaeaa.only w' q) :=
  ⟨by rw [only_size, only_size]; exact hs, fun b o v hv => by
    obtain ⟨hp, hc⟩ := only_cell hv
    obtain ⟨hq, hb⟩ := h b (cell_lt hc) hp
    rw [cell_only hq, World.cell?_of_block (a := ⟨b, o, none⟩) hb]
    exact hc⟩
theorem Moves.onlyB {w w' : World} {p q : Nat → Bool} (hb : Below w.heap.size w w') (h : ∀ b, b < w.heap.size → p b = true → q b = true) : Moves (Go.Proofs.Ytcamegfnhbbaeaa.only w p) (Go.Proofs.Ytcamegfnhbbaeaa.only w' q) :=
  .onlyW hb.size fun b hl hp => ⟨h b hl hp, hb.block b hl⟩

theorem ExAt.len {w : World} {x : Ex} {cs : List Value} (h : ExAt w x cs) : cs.length = 6 := by
  obtain ⟨A, k, rfl, -⟩ := h.form
  rfl
theorem ExAt.move {w w' : World} (hm : Moves w w') {x : Ex} {cs : List Value} (h : ExAt w x cs) : ExAt w' x cs := by
  induction h with
  | mk op n line name field sub A cap f ho hn hi hl hc hbb hA hr ih =>
    refine .mk op n line name field sub A cap f ho hn hi hl hc hbb (fun hne => ?_) ih
    obtain ⟨b, off, ha, hbl, hcell⟩ := hA hne
    refine ⟨b, off, ha, Nat.lt_of_lt_of_le hbl hm.1, fun i hi j hj => ?_⟩
    have hlen := (hr i _ (List.getElem?_eq_getElem hi)).len
    have := hcell i hi j hj
    rw [List.getElem?_eq_getElem (by omega)] at this ⊢
    exact hm.2 _ _ _ this
theorem RowOf.move {α : Type} {w w' : World} {size bytes : Nat} {Q Q' : α → List Value → Prop} {A : Option Addr} {xs : List α} {cap : Nat} (h : RowOf w size bytes Q A xs cap) (hm : Moves w w') (hQ : ∀ x cs, x ∈ xs → Q x cs → cs.length = size ∧ Q' x cs) : RowOf w' size bytes Q' A xs cap := by
  obtain ⟨h1, h2, h3, f, h4, h5⟩ := h
  refine ⟨h1, h2, h3, f, fun hn => ?_, fun i x hx => (hQ x _ (List.mem_of_getElem? hx) (h5 i x hx)).2⟩
  obtain ⟨b, off, ha, hbl, hcell⟩ := h4 hn
  refine ⟨b, off, ha, Nat.lt_of_lt_of_le hbl hm.1, fun i hi j hj => ?_⟩
  have hlen := (hQ _ _ (List.getElem_mem hi) (h5 i _ (List.getElem?_eq_getElem hi))).1
  have := hcell i hi j hj
  rw [List.getElem?_eq_getElem (by omega)] at this ⊢
  exact hm.2 _ _ _ this
theorem RowE.move {w w' : World} {A : Option Addr} {xs : List Ex} {cap : Nat} (h : RowE w A xs cap) (hm : Moves w w') : RowE w' A xs cap := RowOf.move h hm fun _ _ _ h => ⟨h.len, h.move hm⟩

/-- the trees' cells, one behind the other -/
def CellsOf {α : Type} (Q : α → List Value → Prop) (size : Nat) (ys : List α) (cs : List Value) : Prop :=
  cs.length = ys.length * size ∧ ∀ i y, ys[i]? = some y → Q y ((cs.drop (i * size)).take size)
section
variable {α : Type} {Q Q' : α → List Value → Prop} {size : Nat} {ys : List α} {cs : List Value}
theorem CellsOf.nil : CellsOf Q size [] [] := ⟨by simp, fun i y h => by simp at h⟩
theorem CellsOf.snoc {y : α} {c : List Value} (h : CellsOf Q size ys cs) (hy : Q y c) (hc : c.length = size) : CellsOf Q size (ys ++ [y]) (cs ++ c) := by
  obtain ⟨hl, hq⟩ := h
  refine ⟨by simp [hl, hc, Nat.add_mul], fun i z hz => ?_⟩
  rcases Nat.lt_or_ge i ys.length with hi | hi
  · rw [List.getElem?_append_left hi] at hz
    have h1 : i * size + size ≤ cs.length := by
      rw [hl]
      have := Nat.mul_le_mul_right size (show i + 1 ≤ ys.length from hi)
      rw [Nat.add_mul] at this
      omega
    rw [List.drop_append_of_le_length (by omega), List.take_append_of_le_length (by rw [List.length_drop]; omega)]
    exact hq i z hz
  · rw [List.getElem?_append_right hi] at hz
    have h0 : i - ys.length = 0 := by
      have := (List.getElem?_eq_some_iff.1 hz).1
      simp at this
      omega
    rw [h0] at hz
    simp at hz
    subst hz
    have hi' : i = ys.length := by omega
    rw [hi', ← hl, List.drop_left, ← hc, List.take_length]
    exact hy
theorem CellsOf.mono (h : CellsOf Q size ys cs) (hQ : ∀ y c, Q y c → Q' y c) : CellsOf Q' size ys cs := ⟨h.1, fun i y hy => hQ y _ (h.2 i y hy)⟩
/-- a row of one's own is a row -/
theorem CellsOf.row {w : World} {base bytes n : Nat} {e : TypeId} {v : Value} {p : Nat → Bool} (h : CellsOf Q size ys cs) (ho : w.ownsRow base e size v n cs) (hn : ys.length = n) (hb : n * bytes ≤ 140737488355328) (hp : ∀ b, base ≤ b → p b = true) (h0 : 0 < size) :
    ∃ A cap, v = .slice A ys.length cap ∧ RowOf (only w p) size bytes Q A ys cap := by
  subst hn
  obtain ⟨A, cap, rfl, hnc, hcm, hA⟩ := own_form ho
  unfold maxLen at hcm
  refine ⟨A, cap, rfl, hnc, by omega, hb, fun i => (cs.drop (i * size)).take size, fun hne => ?_, h.2⟩
  obtain ⟨g, cap', hv, hbg, hlt⟩ := ho.form (List.length_pos_iff.2 hne)
  injection hv with hA'
  subst hA'
  refine ⟨g, 0, rfl, by rw [only_size]; exact hlt, fun i hi j hj => ?_⟩
  have hlen := h.1
  have h1 : i * size + size ≤ cs.length := by
    rw [hlen]
    have := Nat.mul_le_mul_right size (show i + 1 ≤ ys.length from hi)
    rw [Nat.add_mul] at this
    omega
  rw [cell_only (hp g hbg), List.getElem?_take, if_pos hj, List.getElem?_drop, List.getElem?_eq_getElem (by omega)]
  have := ho.cells (g := g) rfl (i * size + j) _ (List.getElem?_eq_getElem (by omega))
  have had : (⟨g, 0, none⟩ : Addr).add (i * size + j) = ⟨g, 0 + i * size + j, none⟩ := by
    unfold Addr.add
    split
    · rename_i h; rw [show 0 + i * size + j = 0 by omega]
    · simp [Nat.add_assoc]
  rwa [had] at this
end
/-- blocks from here on, but for a value's own -/
def frees (H : Nat) (v : Value) : Nat → Bool := fun i => decide (H ≤ i) && decide (some i ≠ v.ownBlock)
def news (H : Nat) : Nat → Bool := fun i => decide (H ≤ i)
/-- a row of expressions that is being made -/
def BuiltE (w : World) (base : Nat) (ys : List Ex) (v : Value) : Prop := ∃ cs, w.ownsRow base 39 6 v ys.length cs ∧ CellsOf (ExAt (only w (frees base v))) 6 ys cs
theorem BuiltE.nil (w : World) (base : Nat) : BuiltE w base [] (.slice none 0 0) := ⟨[], World.ownsRow_nil _ _ _ _, .nil⟩
theorem BuiltE.below {w w' : World} {base : Nat} {ys : List Ex} {v : Value} (h : BuiltE w base ys v) (hb : Below w.heap.size w w') : BuiltE w' base ys v := by
  obtain ⟨cs, h1, h2⟩ := h
  exact ⟨cs, owns_below h1 hb, h2.mono fun y c hy => hy.move (.onlyB hb fun b _ h => h)⟩
/-- one more -/
theorem BuiltE.snoc {w1 w2 : World} {base n g cap : Nat} {ys : List Ex} {y : Ex} {v : Value} {cs c : List Value} (h : CellsOf (ExAt (only w1 (frees base v))) 6 ys cs) (hy : ExAt (only w1 (frees base v)) y c)
    (ho : w2.ownsRow base 39 6 (.slice (some ⟨g, 0, none⟩) n cap) n (cs ++ c)) (hn : n = ys.length + 1) (hg : w1.grownBy w2 v.ownBlock) (hat : v.ownBlock = some g ∨ g = w1.heap.size) : BuiltE w2 base (ys ++ [y]) (.slice (some ⟨g, 0, none⟩) n cap) := by
  have hm : Moves (only w1 (frees base v)) (only w2 (frees base (.slice (some ⟨g, 0, none⟩) n cap))) := .onlyW hg.size fun b hl hp => by
    simp only [frees, Bool.and_eq_true, decide_eq_true_eq] at hp
    refine ⟨?_, hg.block b hl hp.2⟩
    simp only [frees, Bool.and_eq_true, decide_eq_true_eq]
    refine ⟨hp.1, ?_⟩
    rcases hat with h | h
    · show some b ≠ some g
      intro e
      exact hp.2 (e.trans h.symm)
    · show some b ≠ some g
      intro e
      injection e with e
      omega
  refine ⟨cs ++ c, ?_, ?_⟩
  · rw [List.length_append, List.length_singleton, ← hn]
    exact ho
  · exact (h.mono fun y c hy => hy.move hm).snoc (hy.move hm) hy.len

theorem frees_news {H b : Nat} {v : Value} (h : frees H v b = true) : news H b = true := by
  simp only [frees, Bool.and_eq_true] at h
  exact h.1
theorem BuiltE.row {w : World} {base : Nat} {ys : List Ex} {v : Value} (h : BuiltE w base ys v) (hb : ys.length * 80 ≤ 140737488355328) : ∃ A cap, v = .slice A ys.length cap ∧ RowE (only w (news base)) A ys cap := by
  obtain ⟨cs, h1, h2⟩ := h
  have h3 : CellsOf (ExAt (only w (news base))) 6 ys cs := h2.mono fun y c hy => hy.move (.onlyW (Nat.le_refl _) fun b _ hp => ⟨frees_news hp, rfl⟩)
  exact h3.row h1 rfl hb (fun b hb => by simp only [news, decide_eq_true_eq]; exact hb) (by decide)

end Go.Proofs.Ytcamegfnhbbaeaa
