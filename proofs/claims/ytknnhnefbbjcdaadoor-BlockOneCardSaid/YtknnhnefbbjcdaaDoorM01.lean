/- Merged: A program's tree, as it lies in memory: expressions and statements; out of the row's reading. A program's tree out of the row's reading; its sizes by the row's reach. A program, as it lies in memory. A program out of the row's reading, with the sizes of some strings. -/
import Derived.Test.YtknnhnefbbjcdaaDoorM00
import Derived.SizedLaws
namespace Go.Proofs.YtknnhnefbbjcdaaDoor
open Go.ChangeShapes Go.WideShapes Go.ChangeAt Go.RowKit
set_option linter.unusedVariables false
set_option linter.unusedSimpArgs false

inductive Ex where
 | mk (op n : Int) (name field : ByteArray) (sub : List Ex) (line : Int)
def Ex.op : Ex → Int | .mk o _ _ _ _ _ => o
def Ex.n : Ex → Int | .mk _ n _ _ _ _ => n
def Ex.name : Ex → ByteArray | .mk _ _ s _ _ _ => s
def Ex.field : Ex → ByteArray | .mk _ _ _ s _ _ => s
def Ex.sub : Ex → List Ex | .mk _ _ _ _ l _ => l
def Ex.line : Ex → Int | .mk _ _ _ _ _ i => i

def I64 (n : Int) : Prop := -9223372036854775808 ≤ n ∧ n ≤ 9223372036854775807

inductive ExAt (w : World) : Ex → List Value → Prop where
 | mk (op n line : Int) (name field : ByteArray) (sub : List Ex) (A : Option Addr) (cap : Nat) (f : Nat → List Value) (ho : I64 op) (hn : I64 n) (hi : I64 line)
   (hl : sub.length ≤ cap) (hc : cap ≤ 9223372036854775807) (hb : sub.length * 80 ≤ 140737488355328)
   (hA : sub ≠ [] → ∃ b off, A = some ⟨b, off, none⟩ ∧ b < w.heap.size ∧ ∀ i, i < sub.length → ∀ j, j < 6 → w.cell? ⟨b, off + i * 6 + j, none⟩ = (f i)[j]?)
   (hr : ∀ i x, sub[i]? = some x → ExAt w x (f i)) :
   ExAt w (.mk op n name field sub line) [.int .i64 op, .int .i64 n, .string name, .string field, .slice A sub.length cap, .int .i64 line]

def RowOf {α : Type} (w : World) (size bytes : Nat) (Q : α → List Value → Prop) (A : Option Addr) (xs : List α) (cap : Nat) : Prop :=
 xs.length ≤ cap ∧ cap ≤ 9223372036854775807 ∧ xs.length * bytes ≤ 140737488355328 ∧ ∃ f : Nat → List Value,
  (xs ≠ [] → ∃ b off, A = some ⟨b, off, none⟩ ∧ b < w.heap.size ∧ ∀ i, i < xs.length → ∀ j, j < size → w.cell? ⟨b, off + i * size + j, none⟩ = (f i)[j]?) ∧ ∀ i x, xs[i]? = some x → Q x (f i)
theorem RowOf.nil {α : Type} (w : World) (size bytes : Nat) (Q : α → List Value → Prop) (A : Option Addr) (cap : Nat) (hc : cap ≤ 9223372036854775807) : RowOf w size bytes Q A [] cap :=
 ⟨Nat.zero_le _, hc, by simp, fun _ => [], fun h => absurd rfl h, fun i x h => by simp at h⟩
theorem RowOf.mono {α : Type} {w w' : World} {size bytes : Nat} {Q Q' : α → List Value → Prop} {A : Option Addr} {xs : List α} {cap : Nat} (h : RowOf w size bytes Q A xs cap) (hb : Below w.heap.size w w') (hQ : ∀ x cs, x ∈ xs → Q x cs → Q' x cs) : RowOf w' size bytes Q' A xs cap := by
 obtain ⟨h1, h2, h3, f, h4, h5⟩ := h
 refine ⟨h1, h2, h3, f, fun hn => ?_, fun i x hx => hQ x _ (List.mem_of_getElem? hx) (h5 i x hx)⟩
 obtain ⟨b, off, ha, hbl, hcell⟩ := h4 hn
 exact ⟨b, off, ha, Nat.lt_of_lt_of_le hbl hb.size, fun i hi j hj => (hb.cell (p := ⟨b, _, none⟩) hbl).trans (hcell i hi j hj)⟩
theorem RowOf.at {α : Type} {w : World} {size bytes : Nat} {Q : α → List Value → Prop} {A : Option Addr} {xs : List α} {cap : Nat} (h : RowOf w size bytes Q A xs cap) {i : Nat} (hi : i < xs.length) :
  ∃ b off x cs, A = some ⟨b, off, none⟩ ∧ b < w.heap.size ∧ xs[i]? = some x ∧ Q x cs ∧ ∀ j, j < size → w.cell? ⟨b, off + i * size + j, none⟩ = cs[j]? := by
 obtain ⟨_, _, _, f, h4, h5⟩ := h
 obtain ⟨b, off, ha, hbl, hcell⟩ := h4 (List.ne_nil_of_length_pos (by omega))
 exact ⟨b, off, xs[i], f i, ha, hbl, List.getElem?_eq_getElem hi, h5 i _ (List.getElem?_eq_getElem hi), hcell i hi⟩

theorem ExAt.keep {w w' : World} (hb : Below w.heap.size w w') {x : Ex} {cs : List Value} (h : ExAt w x cs) : ExAt w' x cs := by
 induction h with
 | mk op n line name field sub A cap f ho hn hi hl hc hbb hA _ ih =>
  refine .mk op n line name field sub A cap f ho hn hi hl hc hbb (fun hne => ?_) ih
  obtain ⟨b, off, ha, hbl, hcell⟩ := hA hne
  exact ⟨b, off, ha, Nat.lt_of_lt_of_le hbl hb.size, fun i hi j hj => (hb.cell (p := ⟨b, _, none⟩) hbl).trans (hcell i hi j hj)⟩
def RowE (w : World) (A : Option Addr) (xs : List Ex) (cap : Nat) : Prop := RowOf w 6 80 (ExAt w) A xs cap
theorem RowE.below {w w' : World} {A : Option Addr} {xs : List Ex} {cap : Nat} (h : RowE w A xs cap) (hb : Below w.heap.size w w') : RowE w' A xs cap := RowOf.mono h hb fun _ _ _ h => h.keep hb
theorem ExAt.form {w : World} {x : Ex} {cs : List Value} (h : ExAt w x cs) : ∃ A cap, cs = [.int .i64 x.op, .int .i64 x.n, .string x.name, .string x.field, .slice A x.sub.length cap, .int .i64 x.line] ∧ RowE w A x.sub cap ∧ I64 x.op ∧ I64 x.n ∧ I64 x.line := by
 cases h with
 | mk op n line name field sub A cap f ho hn hi hl hc hb hA hr => exact ⟨A, cap, rfl, ⟨hl, hc, hb, f, hA, hr⟩, ho, hn, hi⟩
theorem ExAt.of {w : World} {op n line : Int} {name field : ByteArray} {sub : List Ex} {A : Option Addr} {cap : Nat} (ho : I64 op) (hn : I64 n) (hi : I64 line) (h : RowE w A sub cap) :
  ExAt w (.mk op n name field sub line) [.int .i64 op, .int .i64 n, .string name, .string field, .slice A sub.length cap, .int .i64 line] := by
 obtain ⟨hl, hc, hb, f, hA, hr⟩ := h
 exact .mk op n line name field sub A cap f ho hn hi hl hc hb hA hr

inductive Stm where
 | mk (op : Int) (name : ByteArray) (dst src : Ex) (conds : List Ex) (labels : List (List Int)) (fields : List ByteArray) (blocks : List (List Stm)) (line : Int)
def Stm.op : Stm → Int | .mk o _ _ _ _ _ _ _ _ => o
def Stm.name : Stm → ByteArray | .mk _ s _ _ _ _ _ _ _ => s
def Stm.dst : Stm → Ex | .mk _ _ x _ _ _ _ _ _ => x
def Stm.src : Stm → Ex | .mk _ _ _ x _ _ _ _ _ => x
def Stm.conds : Stm → List Ex | .mk _ _ _ _ l _ _ _ _ => l
def Stm.labels : Stm → List (List Int) | .mk _ _ _ _ _ l _ _ _ => l
def Stm.fields : Stm → List ByteArray | .mk _ _ _ _ _ _ l _ _ => l
def Stm.blocks : Stm → List (List Stm) | .mk _ _ _ _ _ _ _ l _ => l
def Stm.line : Stm → Int | .mk _ _ _ _ _ _ _ _ i => i

def IntsC (w : World) (zs : List Int) (cs : List Value) : Prop := ∃ A cap, cs = [.slice A zs.length cap] ∧ RowOf w 1 8 (fun z c => c = [Value.int .i64 z] ∧ I64 z) A zs cap
theorem IntsC.below {w w' : World} {zs : List Int} {cs : List Value} (h : IntsC w zs cs) (hb : Below w.heap.size w w') : IntsC w' zs cs := by
 obtain ⟨A, cap, e, r⟩ := h
 exact ⟨A, cap, e, r.mono hb fun _ _ _ h => h⟩
def RowL (w : World) (A : Option Addr) (xs : List (List Int)) (cap : Nat) : Prop := RowOf w 1 24 (IntsC w) A xs cap
def RowS (w : World) (A : Option Addr) (xs : List ByteArray) (cap : Nat) : Prop := RowOf w 1 16 (fun s c => c = [Value.string s]) A xs cap
theorem RowL.below {w w' : World} {A : Option Addr} {xs : List (List Int)} {cap : Nat} (h : RowL w A xs cap) (hb : Below w.heap.size w w') : RowL w' A xs cap := RowOf.mono h hb fun _ _ _ h => h.below hb
theorem RowS.below {w w' : World} {A : Option Addr} {xs : List ByteArray} {cap : Nat} (h : RowS w A xs cap) (hb : Below w.heap.size w w') : RowS w' A xs cap := RowOf.mono h hb fun _ _ _ h => h

inductive StmAt (w : World) : Stm → List Value → Prop where
 | mk (op line : Int) (name : ByteArray) (dst src : Ex) (conds : List Ex) (labels : List (List Int)) (fields : List ByteArray) (blocks : List (List Stm)) (tc vc : List Value) (ho : I64 op) (hi : I64 line)
   (hto : ExAt w dst tc) (hval : ExAt w src vc) (Ac Al Af Ab : Option Addr) (kc kl kf kb : Nat) (hcs : RowE w Ac conds kc) (hls : RowL w Al labels kl) (hfs : RowS w Af fields kf)
   (g : Nat → Option Addr) (h : Nat → Nat) (f : Nat → Nat → List Value) (h1 : blocks.length ≤ kb) (h2 : kb ≤ 9223372036854775807) (h3 : blocks.length * 24 ≤ 140737488355328)
   (hB : blocks ≠ [] → ∃ b off, Ab = some ⟨b, off, none⟩ ∧ b < w.heap.size ∧ ∀ i bl, blocks[i]? = some bl → w.cell? ⟨b, off + i, none⟩ = some (.slice (g i) bl.length (h i)))
   (h4 : ∀ i bl, blocks[i]? = some bl → bl.length ≤ h i ∧ h i ≤ 9223372036854775807 ∧ bl.length * 288 ≤ 140737488355328 ∧ (bl ≠ [] → ∃ b off, g i = some ⟨b, off, none⟩ ∧ b < w.heap.size ∧ ∀ k, k < bl.length → ∀ j, j < 19 → w.cell? ⟨b, off + k * 19 + j, none⟩ = (f i k)[j]?))
   (hr : ∀ i bl k s, blocks[i]? = some bl → bl[k]? = some s → StmAt w s (f i k)) :
   StmAt w (.mk op name dst src conds labels fields blocks line) ([.int .i64 op, .string name] ++ tc ++ vc ++ [.slice Ac conds.length kc, .slice Al labels.length kl, .slice Af fields.length kf, .slice Ab blocks.length kb, .int .i64 line])
theorem StmAt.keep {w w' : World} (hb : Below w.heap.size w w') {s : Stm} {cs : List Value} (h : StmAt w s cs) : StmAt w' s cs := by
 induction h with
 | mk op line name dst src conds labels fields blocks tc vc ho hi hto hval Ac Al Af Ab kc kl kf kb hcs hls hfs g h f h1 h2 h3 hB h4 _ ih =>
  refine .mk op line name dst src conds labels fields blocks tc vc ho hi (hto.keep hb) (hval.keep hb) Ac Al Af Ab kc kl kf kb (hcs.below hb) (hls.below hb) (hfs.below hb) g h f h1 h2 h3 (fun hne => ?_) (fun i bl hbl => ?_) ih
  ·obtain ⟨b, off, ha, hbl, hcell⟩ := hB hne
   exact ⟨b, off, ha, Nat.lt_of_lt_of_le hbl hb.size, fun i bl hi => (hb.cell (p := ⟨b, _, none⟩) hbl).trans (hcell i bl hi)⟩
  ·obtain ⟨a1, a2, a3, a4⟩ := h4 i bl hbl
   refine ⟨a1, a2, a3, fun hne => ?_⟩
   obtain ⟨b, off, ha, hbl, hcell⟩ := a4 hne
   exact ⟨b, off, ha, Nat.lt_of_lt_of_le hbl hb.size, fun k hk j hj => (hb.cell (p := ⟨b, _, none⟩) hbl).trans (hcell k hk j hj)⟩
def RowT (w : World) (A : Option Addr) (xs : List Stm) (cap : Nat) : Prop := RowOf w 19 288 (StmAt w) A xs cap
theorem RowT.below {w w' : World} {A : Option Addr} {xs : List Stm} {cap : Nat} (h : RowT w A xs cap) (hb : Below w.heap.size w w') : RowT w' A xs cap := RowOf.mono h hb fun _ _ _ h => h.keep hb
def BlockC (w : World) (bl : List Stm) (cs : List Value) : Prop := ∃ A cap, cs = [.slice A bl.length cap] ∧ RowT w A bl cap
theorem BlockC.below {w w' : World} {bl : List Stm} {cs : List Value} (h : BlockC w bl cs) (hb : Below w.heap.size w w') : BlockC w' bl cs := by
 obtain ⟨A, cap, e, r⟩ := h
 exact ⟨A, cap, e, r.below hb⟩
def RowB (w : World) (A : Option Addr) (xs : List (List Stm)) (cap : Nat) : Prop := RowOf w 1 24 (BlockC w) A xs cap
theorem RowB.below {w w' : World} {A : Option Addr} {xs : List (List Stm)} {cap : Nat} (h : RowB w A xs cap) (hb : Below w.heap.size w w') : RowB w' A xs cap := RowOf.mono h hb fun _ _ _ h => h.below hb

theorem StmAt.form {w : World} {s : Stm} {cs : List Value} (h : StmAt w s cs) : ∃ tc vc Ac Al Af Ab kc kl kf kb, cs = [.int .i64 s.op, .string s.name] ++ tc ++ vc ++ [.slice Ac s.conds.length kc, .slice Al s.labels.length kl, .slice Af s.fields.length kf, .slice Ab s.blocks.length kb, .int .i64 s.line] ∧
  ExAt w s.dst tc ∧ ExAt w s.src vc ∧ RowE w Ac s.conds kc ∧ RowL w Al s.labels kl ∧ RowS w Af s.fields kf ∧ RowB w Ab s.blocks kb ∧ I64 s.op ∧ I64 s.line := by
 cases h with
 | mk op line name dst src conds labels fields blocks tc vc ho hi hto hval Ac Al Af Ab kc kl kf kb hcs hls hfs g h f h1 h2 h3 hB h4 hr =>
  refine ⟨tc, vc, Ac, Al, Af, Ab, kc, kl, kf, kb, rfl, hto, hval, hcs, hls, hfs, ⟨h1, h2, h3, fun i => [.slice (g i) ((blocks[i]?.getD []).length) (h i)], fun hne => ?_, fun i bl hbl => ?_⟩, ho, hi⟩
  ·obtain ⟨b, off, ha, hbl, hcell⟩ := hB hne
   refine ⟨b, off, ha, hbl, fun i hi j hj => ?_⟩
   obtain rfl : j = 0 := by omega
   have hi' : i < blocks.length := hi
   have := hcell i _ (List.getElem?_eq_getElem hi')
   rw [Nat.mul_one, Nat.add_zero, this]
   show _ = some (Value.slice (g i) ((blocks[i]?.getD []).length) (h i))
   rw [List.getElem?_eq_getElem hi']
   rfl
  ·obtain ⟨a1, a2, a3, a4⟩ := h4 i bl hbl
   have hbl' : blocks[i]? = some bl := hbl
   exact ⟨g i, h i, by show [Value.slice (g i) ((blocks[i]?.getD []).length) (h i)] = _; rw [hbl']; rfl, a1, a2, a3, f i, a4, fun k s hk => hr i bl k s hbl hk⟩
theorem StmAt.of {w : World} {op line : Int} {name : ByteArray} {dst src : Ex} {conds : List Ex} {labels : List (List Int)} {fields : List ByteArray} {blocks : List (List Stm)} {tc vc : List Value} {Ac Al Af Ab : Option Addr} {kc kl kf kb : Nat}
  (ho : I64 op) (hi : I64 line) (hto : ExAt w dst tc) (hval : ExAt w src vc) (hcs : RowE w Ac conds kc) (hls : RowL w Al labels kl) (hfs : RowS w Af fields kf) (hbs : RowB w Ab blocks kb) :
  StmAt w (.mk op name dst src conds labels fields blocks line) ([.int .i64 op, .string name] ++ tc ++ vc ++ [.slice Ac conds.length kc, .slice Al labels.length kl, .slice Af fields.length kf, .slice Ab blocks.length kb, .int .i64 line]) := by
 obtain ⟨h1, h2, h3, F, hB, hQ⟩ := hbs
 have hch : ∀ i, ∃ (A : Option Addr) (cap : Nat) (f : Nat → List Value), ∀ bl, blocks[i]? = some bl → F i = [.slice A bl.length cap] ∧ bl.length ≤ cap ∧ cap ≤ 9223372036854775807 ∧ bl.length * 288 ≤ 140737488355328 ∧
   (bl ≠ [] → ∃ b off, A = some ⟨b, off, none⟩ ∧ b < w.heap.size ∧ ∀ k, k < bl.length → ∀ j, j < 19 → w.cell? ⟨b, off + k * 19 + j, none⟩ = (f k)[j]?) ∧ ∀ k s, bl[k]? = some s → StmAt w s (f k) := by
  intro i
  cases hbl : blocks[i]? with
  | none => exact ⟨none, 0, fun _ => [], fun bl h => by cases h⟩
  | some bl =>
   obtain ⟨A, cap, e, a1, a2, a3, f, a4, a5⟩ := hQ i bl hbl
   refine ⟨A, cap, f, fun bl' h => ?_⟩
   cases h
   exact ⟨e, a1, a2, a3, a4, a5⟩
 obtain ⟨g, hg⟩ := Classical.axiomOfChoice hch
 obtain ⟨h, hh⟩ := Classical.axiomOfChoice hg
 obtain ⟨f, hf⟩ := Classical.axiomOfChoice hh
 refine .mk op line name dst src conds labels fields blocks tc vc ho hi hto hval Ac Al Af Ab kc kl kf kb hcs hls hfs g h f h1 h2 h3 (fun hne => ?_) (fun i bl hbl => ?_) (fun i bl k s hbl hk => ?_)
 ·obtain ⟨b, off, ha, hbl, hcell⟩ := hB hne
  refine ⟨b, off, ha, hbl, fun i bl hi => ?_⟩
  have := hcell i (List.getElem?_eq_some_iff.1 hi).1 0 (by omega)
  rw [Nat.mul_one, Nat.add_zero, (hf i bl hi).1] at this
  exact this
 ·obtain ⟨_, a1, a2, a3, a4, _⟩ := hf i bl hbl
  exact ⟨a1, a2, a3, a4⟩
 ·exact (hf i bl hbl).2.2.2.2.2 k s hk

end Go.Proofs.YtknnhnefbbjcdaaDoor

namespace Go.Proofs.YtknnhnefbbjcdaaDoor
open Go.ChangeShapes Go.WideShapes Go.ChangeAt Go.RowKit
set_option linter.unusedVariables false
set_option linter.unusedSimpArgs false

section
variable {H : Type} {enc : TypeId × Value → H} {P : Program} {w : World} {t e : TypeId} {cs : List Value}

def RdF (enc : TypeId × Value → H) (P : Program) (w : World) (n : Nat) (t : TypeId) (cs : List Value) : Prop := ∃ x, DataW.trod enc P w 0 (fun _ => true) true n t cs = some x ∧ ∀ m ∈ x.1.weights P t, m ≤ reachBytes
theorem RdF.rd {n : Nat} (h : RdF enc P w n t cs) : Rd enc P w t cs := by
 obtain ⟨x, h, _⟩ := h
 exact ⟨n, x, h⟩
theorem mem_all {P : Program} {e : TypeId} : ∀ {ds : List (DataW H)} {d : DataW H}, d ∈ ds → ∀ m ∈ d.weights P e, m ∈ DataW.weightsAll P e ds
 | d0 :: ds, d, hd, m, hm => by
  simp only [DataW.weightsAll, List.mem_append]
  rcases List.mem_cons.1 hd with rfl | hd
  ·exact .inl hm
  ·exact .inr (mem_all hd m hm)
theorem rdf_struct {fs : Array Field} {n : Nat} (ht : P.underlying t = some (.struct fs)) (h : RdF enc P w n t cs) :
  cs.length = P.cellsOf t ∧ ∃ m, n = m + 1 ∧ ∀ (i : Nat) (f : Field), fs[i]? = some f → RdF enc P w m f.type ((cs.drop f.offset).take (P.cellsOf f.type)) := by
 obtain ⟨x, h, hw⟩ := h
 obtain ⟨xs, m, hn, hx, hl, hs, hg⟩ := DataW.trod_struct ht h
 refine ⟨hl, m, hn, fun i f hf => ?_⟩
 have hi : i < xs.length := by
  rw [hs]
  exact (Array.getElem?_eq_some_iff.1 hf).1
 refine ⟨xs[i], by rw [hg i f hf, List.getElem?_eq_getElem hi], fun k hk => hw k ?_⟩
 rw [hx]
 simp only [DataW.weights, ht]
 refine DataW.weights_mem_each (j := i) (t := f.type) (d := xs[i].1) ?_ ?_ k hk
 ·rw [List.getElem?_map, Array.getElem?_toList, hf]
  rfl
 ·rw [List.getElem?_map, List.getElem?_eq_getElem hi]
  rfl
theorem rdf_slice {n : Nat} (ht : P.underlying t = some (.slice e)) (h : RdF enc P w n t cs) :
  cs = [.slice none 0 0] ∨ ∃ (a : Addr) (len cap m : Nat), n = m + 1 ∧ cs = [.slice (some a) len cap] ∧ len ≤ cap ∧ cap ≤ maxLen ∧ len * P.bytesOf e ≤ reachBytes ∧
   ∀ i, i < len → ∃ cs', w.cells? 0 (a.add (i * P.cellsOf e)) (P.cellsOf e) = some cs' ∧ RdF enc P w m e cs' := by
 obtain ⟨x, h, hw⟩ := h
 rcases DataW.trod_slice ht h with h0 | ⟨a, len, cap, elems, rest, m, hn, hcs, hx, hb, hl, hm, hlen, hel, hsp, hns⟩
 ·exact .inl h0.1
 ·rw [hx] at hw
  simp only [DataW.weights, ht, List.mem_cons, List.length_map] at hw
  refine .inr ⟨a, len, cap, m, hn, hcs, hl, hm, Nat.le_trans (Nat.mul_le_mul_right _ (by omega)) (hw _ (.inl rfl)), fun i hi => ?_⟩
  have h1 := hel i hi
  have h2 : i < elems.length := by omega
  rw [List.getElem?_eq_getElem h2] at h1
  cases hc : w.cells? 0 (a.add (i * P.cellsOf e)) (P.cellsOf e) with
  | none => rw [hc] at h1; simp at h1
  | some cs' =>
   rw [hc] at h1
   refine ⟨cs', rfl, elems[i], by simpa using h1, fun k hk => hw k (.inr (List.mem_append_left _ (mem_all (d := elems[i].1) ?_ k hk)))⟩
   exact List.mem_map.2 ⟨elems[i], List.getElem_mem h2, rfl⟩

theorem row_of {α : Type} {n size bytes : Nat} (Q : α → List Value → Prop) (A : Option Addr) (len cap : Nat) (ht : P.underlying t = some (.slice e)) (hs : P.cellsOf e = size) (hby : P.bytesOf e = bytes) (h0 : 0 < size)
  (hr : ∀ m cs, m < n → RdF enc P w m e cs → cs.length = size ∧ ∃ x, Q x cs) (h : RdF enc P w n t [.slice A len cap]) : ∃ xs, xs.length = len ∧ RowOf w size bytes Q A xs cap := by
 rcases rdf_slice ht h with h1 | ⟨a, len', cap', m, hn, h1, hl, hm, hb, hel⟩
 ·simp only [List.cons.injEq, and_true, Value.slice.injEq] at h1
  obtain ⟨rfl, rfl, rfl⟩ := h1
  exact ⟨[], rfl, RowOf.nil _ _ _ _ _ _ (by omega)⟩
 ·simp only [List.cons.injEq, and_true, Value.slice.injEq] at h1
  obtain ⟨rfl, rfl, rfl⟩ := h1
  rw [hs] at hel
  rw [hby] at hb
  unfold maxLen at hm
  have hch : ∀ i, ∃ cs', i < len → w.cells? 0 (a.add (i * size)) size = some cs' ∧ ∃ x, Q x cs' := by
   intro i
   by_cases hi : i < len
   ·obtain ⟨cs', h1, h2⟩ := hel i hi
    exact ⟨cs', fun _ => ⟨h1, (hr m cs' (by omega) h2).2⟩⟩
   ·exact ⟨[], fun h => absurd h hi⟩
  obtain ⟨f, hf⟩ := Classical.axiomOfChoice hch
  obtain ⟨xs, hxl, hx⟩ := slice_pick (fun i x => Q x (f i)) len (fun i hi => (hf i hi).2)
  refine ⟨xs, hxl, by omega, by omega, ?_, f, fun hne => ?_, hx⟩
  ·rw [hxl]
   have : reachBytes ≤ 140737488355328 := by decide
   omega
  ·have hpos : 0 < len := by
    rw [← hxl]
    exact List.length_pos_iff.2 hne
   obtain ⟨b, off, spot⟩ := a
   have hcell := fun i hi => (World.cells?_some (hf i hi).1)
   have h00 := (hcell 0 hpos).2.2 0 h0
   have hlen : ∀ i, i < len → (f i).length = size := fun i hi => (hcell i hi).2.1
   rw [List.getElem?_eq_getElem (by rw [hlen 0 hpos]; exact h0)] at h00
   have hspot : spot = none := by simpa [Addr.add] using World.cell?_spot h00
   subst hspot
   refine ⟨b, off, rfl, by simpa [Addr.add] using World.block_lt_of_cell? _ _ h00, fun i hi j hj => ?_⟩
   have := (hcell i (by omega)).2.2 j hj
   rw [add_plain, add_plain] at this
   exact this
end

theorem bounds_I64 {n : Int} (h : (Lit.int .i64 n).wf = true) : I64 n := bounds_i64 h
section
variable {H : Type} {enc : TypeId × Value → H} {w : World}

theorem c_int : Tryd.prog.cellsOf 3 = 1 := by kernel_rfl
theorem c_i64 : Tryd.prog.cellsOf 2 = 1 := by kernel_rfl
theorem c_str : Tryd.prog.cellsOf 9 = 1 := by kernel_rfl
theorem c_expr : Tryd.prog.cellsOf 120 = 6 := by kernel_rfl
theorem c_exprs : Tryd.prog.cellsOf 118 = 1 := by kernel_rfl
theorem c_stmt : Tryd.prog.cellsOf 124 = 19 := by kernel_rfl
theorem c_stmts : Tryd.prog.cellsOf 23 = 1 := by kernel_rfl
theorem c_blocks : Tryd.prog.cellsOf 122 = 1 := by kernel_rfl
theorem c_ints : Tryd.prog.cellsOf 26 = 1 := by kernel_rfl
theorem c_rows : Tryd.prog.cellsOf 121 = 1 := by kernel_rfl
theorem c_strs : Tryd.prog.cellsOf 115 = 1 := by kernel_rfl

theorem ex_of : ∀ n cs, RdF enc Tryd.prog w n 120 cs → cs.length = 6 ∧ ∃ x, ExAt w x cs := by
 intro n
 induction n using Nat.strongRecOn with
 | _ n ih =>
  intro cs h
  obtain ⟨hl, m, hn, hf⟩ := rdf_struct Tryd.underlying120 h
  rw [c_expr] at hl
  obtain ⟨v0, v1, v2, v3, v4, v5, rfl⟩ := list_6 cs hl
  have h0 : Rd enc Tryd.prog w 3 [v0] := by simpa [c_int] using (hf 0 _ rfl).rd
  have h1 : Rd enc Tryd.prog w 2 [v1] := by simpa [c_i64] using (hf 1 _ rfl).rd
  have h2 : Rd enc Tryd.prog w 9 [v2] := by simpa [c_str] using (hf 2 _ rfl).rd
  have h3 : Rd enc Tryd.prog w 9 [v3] := by simpa [c_str] using (hf 3 _ rfl).rd
  have h4 : RdF enc Tryd.prog w m 118 [v4] := by simpa [c_exprs] using hf 4 _ rfl
  have h5 : Rd enc Tryd.prog w 3 [v5] := by simpa [c_int] using (hf 5 _ rfl).rd
  obtain ⟨x0, e0, w0⟩ := rd_int Tryd.underlying3 h0
  obtain ⟨x1, e1, w1⟩ := rd_int Tryd.underlying2 h1
  obtain ⟨x2, e2, w2⟩ := rd_string Tryd.underlying9 h2
  obtain ⟨x3, e3, w3⟩ := rd_string Tryd.underlying9 h3
  obtain ⟨x5, e5, w5⟩ := rd_int Tryd.underlying3 h5
  have h4s : ∃ A len cap, v4 = .slice A len cap := by
   rcases rdf_slice Tryd.underlying118 h4 with h | ⟨a, len, cap, _, _, h, _⟩
   ·exact ⟨none, 0, 0, by simpa using h⟩
   ·exact ⟨some a, len, cap, by simpa using h⟩
  obtain ⟨A, len, cap, rfl⟩ := h4s
  obtain ⟨xs, hx, hr⟩ := row_of (size := 6) (bytes := 80) (ExAt w) A len cap Tryd.underlying118 c_expr (by kernel_rfl) (by decide) (fun k cs hk hcs => ih k (by omega) cs hcs) h4
  simp only [List.cons.injEq, and_true] at e0 e1 e2 e3 e5
  subst e0 e1 e2 e3 e5 hx
  exact ⟨rfl, _, .of (bounds_I64 w0) (bounds_I64 w1) (bounds_I64 w5) hr⟩

theorem slice_form {P : Program} {n : Nat} {t e : TypeId} {v : Value} (ht : P.underlying t = some (.slice e)) (h : RdF enc P w n t [v]) : ∃ A len cap, v = .slice A len cap := by
 rcases rdf_slice ht h with h | ⟨a, len, cap, _, _, h, _⟩
 ·exact ⟨none, 0, 0, by simpa using h⟩
 ·exact ⟨some a, len, cap, by simpa using h⟩

theorem list_19 {α : Type} (l : List α) (h : l.length = 19) : ∃ a0 a1 a2 a3 a4 a5 a6 a7 a8 a9 b0 b1 b2 b3 b4 b5 b6 b7 b8, l = [a0, a1, a2, a3, a4, a5, a6, a7, a8, a9, b0, b1, b2, b3, b4, b5, b6, b7, b8] := by
 match l, h with | [a0, a1, a2, a3, a4, a5, a6, a7, a8, a9, b0, b1, b2, b3, b4, b5, b6, b7, b8], _ => exact ⟨_, _, _, _, _, _, _, _, _, _, _, _, _, _, _, _, _, _, _, rfl⟩

theorem ints_of (n : Nat) (cs : List Value) (h : RdF enc Tryd.prog w n 26 cs) (hl : cs.length = 1) : ∃ zs, IntsC w zs cs := by
 obtain ⟨v, rfl⟩ := list_1 cs hl
 obtain ⟨A, len, cap, rfl⟩ := slice_form Tryd.underlying26 h
 obtain ⟨xs, rfl, hr⟩ := row_of (size := 1) (bytes := 8) (fun z c => c = [Value.int .i64 z] ∧ I64 z) A len cap Tryd.underlying26 c_i64 (by kernel_rfl) (by decide) (fun k cs hk hcs => by
  obtain ⟨z, e, wz⟩ := rd_int Tryd.underlying2 hcs.rd
  subst e
  exact ⟨rfl, z, rfl, bounds_I64 wz⟩) h
 exact ⟨xs, A, cap, rfl, hr⟩

theorem stm_of : ∀ n cs, RdF enc Tryd.prog w n 124 cs → cs.length = 19 ∧ ∃ s, StmAt w s cs := by
 intro n
 induction n using Nat.strongRecOn with
 | _ n ih =>
  intro cs h
  obtain ⟨hl, m, hn, hf⟩ := rdf_struct Tryd.underlying124 h
  rw [c_stmt] at hl
  obtain ⟨a0, a1, a2, a3, a4, a5, a6, a7, a8, a9, b0, b1, b2, b3, b4, b5, b6, b7, b8, rfl⟩ := list_19 cs hl
  have h0 : Rd enc Tryd.prog w 3 [a0] := by simpa [c_int] using (hf 0 _ rfl).rd
  have h1 : Rd enc Tryd.prog w 9 [a1] := by simpa [c_str] using (hf 1 _ rfl).rd
  have h2 : RdF enc Tryd.prog w m 120 [a2, a3, a4, a5, a6, a7] := by simpa [c_expr] using hf 2 _ rfl
  have h3 : RdF enc Tryd.prog w m 120 [a8, a9, b0, b1, b2, b3] := by simpa [c_expr] using hf 3 _ rfl
  have h4 : RdF enc Tryd.prog w m 118 [b4] := by simpa [c_exprs] using hf 4 _ rfl
  have h5 : RdF enc Tryd.prog w m 121 [b5] := by simpa [c_rows] using hf 5 _ rfl
  have h6 : RdF enc Tryd.prog w m 115 [b6] := by simpa [c_strs] using hf 6 _ rfl
  have h7 : RdF enc Tryd.prog w m 122 [b7] := by simpa [c_blocks] using hf 7 _ rfl
  have h8 : Rd enc Tryd.prog w 3 [b8] := by simpa [c_int] using (hf 8 _ rfl).rd
  obtain ⟨x0, e0, w0⟩ := rd_int Tryd.underlying3 h0
  obtain ⟨x1, e1, w1⟩ := rd_string Tryd.underlying9 h1
  obtain ⟨-, dst, hto⟩ := ex_of _ _ h2
  obtain ⟨-, src, hval⟩ := ex_of _ _ h3
  obtain ⟨x8, e8, w8⟩ := rd_int Tryd.underlying3 h8
  obtain ⟨A4, n4, k4, rfl⟩ := slice_form Tryd.underlying118 h4
  obtain ⟨A5, n5, k5, rfl⟩ := slice_form Tryd.underlying121 h5
  obtain ⟨A6, n6, k6, rfl⟩ := slice_form Tryd.underlying115 h6
  obtain ⟨A7, n7, k7, rfl⟩ := slice_form Tryd.underlying122 h7
  obtain ⟨conds, rfl, hconds⟩ := row_of (size := 6) (bytes := 80) (ExAt w) A4 n4 k4 Tryd.underlying118 c_expr (by kernel_rfl) (by decide) (fun k cs hk hcs => ex_of k cs hcs) h4
  obtain ⟨labels, rfl, hlabels⟩ := row_of (size := 1) (bytes := 24) (IntsC w) A5 n5 k5 Tryd.underlying121 c_ints (by kernel_rfl) (by decide) (fun k cs hk hcs => by
   have hl : cs.length = 1 := by
    rcases rdf_slice Tryd.underlying26 hcs with h | ⟨_, _, _, _, _, h, _⟩ <;> rw [h] <;> rfl
   exact ⟨hl, ints_of k cs hcs hl⟩) h5
  obtain ⟨fields, rfl, hfields⟩ := row_of (size := 1) (bytes := 16) (fun s c => c = [Value.string s]) A6 n6 k6 Tryd.underlying115 c_str (by kernel_rfl) (by decide) (fun k cs hk hcs => by
   obtain ⟨s, e, _⟩ := rd_string Tryd.underlying9 hcs.rd
   subst e
   exact ⟨rfl, s, rfl⟩) h6
  obtain ⟨blocks, rfl, hblocks⟩ := row_of (size := 1) (bytes := 24) (BlockC w) A7 n7 k7 Tryd.underlying122 c_stmts (by kernel_rfl) (by decide) (fun k cs hk hcs => by
   have hl : cs.length = 1 := by
    rcases rdf_slice Tryd.underlying23 hcs with h | ⟨_, _, _, _, _, h, _⟩ <;> rw [h] <;> rfl
   refine ⟨hl, ?_⟩
   obtain ⟨v, rfl⟩ := list_1 cs hl
   obtain ⟨A, len, cap, rfl⟩ := slice_form Tryd.underlying23 hcs
   obtain ⟨xs, rfl, hr⟩ := row_of (size := 19) (bytes := 288) (StmAt w) A len cap Tryd.underlying23 c_stmt (by kernel_rfl) (by decide) (fun q cs hq hcs => ih q (by omega) cs hcs) hcs
   exact ⟨xs, A, cap, rfl, hr⟩) h7
  simp only [List.cons.injEq, and_true] at e0 e1 e8
  subst e0 e1 e8
  exact ⟨rfl, _, .of (bounds_I64 w0) (bounds_I64 w8) hto hval hconds hlabels hfields hblocks⟩
end

end Go.Proofs.YtknnhnefbbjcdaaDoor

namespace Go.Proofs.YtknnhnefbbjcdaaDoor
open Go.ChangeShapes Go.WideShapes Go.ChangeAt Go.RowKit
set_option linter.unusedVariables false
set_option linter.unusedSimpArgs false

structure VarS where
 name : ByteArray
 type : Int
 sect : Int
 arr : Bool
 lo : Int
 hi : Int
 init : Int
 line : Int
def VarS.cells (v : VarS) : List Value := [.string v.name, .int .i64 v.type, .int .i64 v.sect, .bool v.arr, .int .i64 v.lo, .int .i64 v.hi, .int .i64 v.init, .int .i64 v.line]
structure VarS.Ok (v : VarS) : Prop where
 type : I64 v.type
 sect : I64 v.sect
 lo : I64 v.lo
 hi : I64 v.hi
 init : I64 v.init
 line : I64 v.line
def VarAt (v : VarS) (cs : List Value) : Prop := cs = v.cells ∧ v.Ok
def RowV (w : World) (A : Option Addr) (xs : List VarS) (cap : Nat) : Prop := RowOf w 8 72 VarAt A xs cap
theorem RowV.below {w w' : World} {A : Option Addr} {xs : List VarS} {cap : Nat} (h : RowV w A xs cap) (hb : Below w.heap.size w w') : RowV w' A xs cap := RowOf.mono h hb fun _ _ _ h => h

structure Prg where
 name : ByteArray
 vars : List VarS
 body : List Stm
def PrgAt (w : World) (p : Prg) (cs : List Value) : Prop := ∃ Av kv Ab kb, cs = [.string p.name, .slice Av p.vars.length kv, .slice Ab p.body.length kb] ∧ RowV w Av p.vars kv ∧ RowT w Ab p.body kb
theorem PrgAt.keep {w w' : World} {p : Prg} {cs : List Value} (h : PrgAt w p cs) (hb : Below w.heap.size w w') : PrgAt w' p cs := by
 obtain ⟨Av, kv, Ab, kb, e, h1, h2⟩ := h
 exact ⟨Av, kv, Ab, kb, e, h1.below hb, h2.below hb⟩

section
variable {H : Type} {enc : TypeId × Value → H} {w : World}
theorem c_bool : Tryd.prog.cellsOf 4 = 1 := by kernel_rfl
theorem c_var : Tryd.prog.cellsOf 45 = 8 := by kernel_rfl
theorem c_vars : Tryd.prog.cellsOf 22 = 1 := by kernel_rfl
theorem c_prog : Tryd.prog.cellsOf 25 = 3 := by kernel_rfl
theorem list_8 {α : Type} (l : List α) (h : l.length = 8) : ∃ a b c d e f g i, l = [a, b, c, d, e, f, g, i] := by match l, h with | [a, b, c, d, e, f, g, i], _ => exact ⟨a, b, c, d, e, f, g, i, rfl⟩

theorem var_of (n : Nat) (cs : List Value) (h : RdF enc Tryd.prog w n 45 cs) : cs.length = 8 ∧ ∃ v, VarAt v cs := by
 obtain ⟨hl, m, hn, hf⟩ := rdf_struct Tryd.underlying45 h
 rw [c_var] at hl
 obtain ⟨v0, v1, v2, v3, v4, v5, v6, v7, rfl⟩ := list_8 cs hl
 have h0 : Rd enc Tryd.prog w 9 [v0] := by simpa [c_str] using (hf 0 _ rfl).rd
 have h1 : Rd enc Tryd.prog w 3 [v1] := by simpa [c_int] using (hf 1 _ rfl).rd
 have h2 : Rd enc Tryd.prog w 3 [v2] := by simpa [c_int] using (hf 2 _ rfl).rd
 have h3 : Rd enc Tryd.prog w 4 [v3] := by simpa [c_bool] using (hf 3 _ rfl).rd
 have h4 : Rd enc Tryd.prog w 2 [v4] := by simpa [c_i64] using (hf 4 _ rfl).rd
 have h5 : Rd enc Tryd.prog w 2 [v5] := by simpa [c_i64] using (hf 5 _ rfl).rd
 have h6 : Rd enc Tryd.prog w 2 [v6] := by simpa [c_i64] using (hf 6 _ rfl).rd
 have h7 : Rd enc Tryd.prog w 3 [v7] := by simpa [c_int] using (hf 7 _ rfl).rd
 obtain ⟨x0, e0, w0⟩ := rd_string Tryd.underlying9 h0
 obtain ⟨x1, e1, w1⟩ := rd_int Tryd.underlying3 h1
 obtain ⟨x2, e2, w2⟩ := rd_int Tryd.underlying3 h2
 obtain ⟨x3, e3⟩ := rd_bool Tryd.underlying4 h3
 obtain ⟨x4, e4, w4⟩ := rd_int Tryd.underlying2 h4
 obtain ⟨x5, e5, w5⟩ := rd_int Tryd.underlying2 h5
 obtain ⟨x6, e6, w6⟩ := rd_int Tryd.underlying2 h6
 obtain ⟨x7, e7, w7⟩ := rd_int Tryd.underlying3 h7
 simp only [List.cons.injEq, and_true] at e0 e1 e2 e3 e4 e5 e6 e7
 subst e0 e1 e2 e3 e4 e5 e6 e7
 exact ⟨rfl, ⟨x0, x1, x2, x3, x4, x5, x6, x7⟩, rfl, ⟨bounds_I64 w1, bounds_I64 w2, bounds_I64 w4, bounds_I64 w5, bounds_I64 w6, bounds_I64 w7⟩⟩
theorem vars_of (n : Nat) (v : Value) (h : RdF enc Tryd.prog w n 22 [v]) : ∃ A xs cap, v = .slice A xs.length cap ∧ RowV w A xs cap := by
 obtain ⟨A, len, cap, rfl⟩ := slice_form Tryd.underlying22 h
 obtain ⟨xs, rfl, hr⟩ := row_of (size := 8) (bytes := 72) VarAt A len cap Tryd.underlying22 c_var (by kernel_rfl) (by decide) (fun k cs hk hcs => var_of k cs hcs) h
 exact ⟨A, xs, cap, rfl, hr⟩
theorem stms_of (n : Nat) (v : Value) (h : RdF enc Tryd.prog w n 23 [v]) : ∃ A xs cap, v = .slice A xs.length cap ∧ RowT w A xs cap := by
 obtain ⟨A, len, cap, rfl⟩ := slice_form Tryd.underlying23 h
 obtain ⟨xs, rfl, hr⟩ := row_of (size := 19) (bytes := 288) (StmAt w) A len cap Tryd.underlying23 c_stmt (by kernel_rfl) (by decide) (fun k cs hk hcs => stm_of k cs hcs) h
 exact ⟨A, xs, cap, rfl, hr⟩
theorem prg_of (n : Nat) (cs : List Value) (h : RdF enc Tryd.prog w n 25 cs) : ∃ p, PrgAt w p cs := by
 obtain ⟨hl, m, hn, hf⟩ := rdf_struct Tryd.underlying25 h
 rw [c_prog] at hl
 obtain ⟨v0, v1, v2, rfl⟩ := list_3 cs hl
 have h0 : Rd enc Tryd.prog w 9 [v0] := by simpa [c_str] using (hf 0 _ rfl).rd
 have h1 : RdF enc Tryd.prog w m 22 [v1] := by simpa [c_vars] using hf 1 _ rfl
 have h2 : RdF enc Tryd.prog w m 23 [v2] := by simpa [c_stmts] using hf 2 _ rfl
 obtain ⟨x0, e0, w0⟩ := rd_string Tryd.underlying9 h0
 obtain ⟨Av, vars, kv, rfl, hv⟩ := vars_of _ _ h1
 obtain ⟨Ab, body, kb, rfl, hb⟩ := stms_of _ _ h2
 simp only [List.cons.injEq, and_true] at e0
 subst e0
 exact ⟨⟨x0, vars, body⟩, Av, kv, Ab, kb, rfl, hv, hb⟩
end

end Go.Proofs.YtknnhnefbbjcdaaDoor

namespace Go.Proofs.YtknnhnefbbjcdaaDoor
open Go.ChangeShapes Go.WideShapes Go.ChangeAt Go.RowKit
set_option linter.unusedVariables false
set_option linter.unusedSimpArgs false

def SmE (x : Ex) : Prop := x.name.size ≤ 140737488355328 ∧ x.field.size ≤ 140737488355328
inductive SmS : Stm → Prop where
 | mk (s : Stm) (h1 : SmE s.dst) (h2 : SmE s.src) (hb : ∀ bl ∈ s.blocks, ∀ t ∈ bl, SmS t) : SmS s
theorem RowOf.both {α : Type} {w : World} {size bytes : Nat} {Q : α → List Value → Prop} {R : α → Prop} {A : Option Addr} {xs : List α} {cap : Nat} (h : RowOf w size bytes (fun x c => Q x c ∧ R x) A xs cap) : RowOf w size bytes Q A xs cap ∧ ∀ x ∈ xs, R x := by
 obtain ⟨h1, h2, h3, f, h4, h5⟩ := h
 refine ⟨⟨h1, h2, h3, f, h4, fun i x hx => (h5 i x hx).1⟩, fun x hx => ?_⟩
 obtain ⟨i, hi⟩ := List.getElem?_of_mem hx
 exact (h5 i x hi).2
theorem rdf_string {H : Type} {enc : TypeId × Value → H} {P : Program} {w : World} {t : TypeId} {cs : List Value} {n : Nat} (ht : P.underlying t = some .string) (h : RdF enc P w n t cs) : ∃ s : ByteArray, cs = [.string s] ∧ s.size ≤ 140737488355328 := by
 obtain ⟨x, h, hw⟩ := h
 cases n with
 | zero => simp [DataW.trod] at h
 | succ n =>
  unfold DataW.trod at h
  rw [ht] at h
  split at h <;> simp_all
  obtain ⟨_, h2⟩ := h
  rename_i s _
  have := hw s.data.toList.length (by rw [← h2]; simp [DataW.weights])
  have hr : reachBytes ≤ 140737488355328 := by decide
  have hz : s.data.toList.length = s.size := rfl
  omega
section
variable {H : Type} {enc : TypeId × Value → H} {w : World}
theorem ex_sm (n : Nat) (cs : List Value) (h : RdF enc Tryd.prog w n 120 cs) : cs.length = 6 ∧ ∃ x, ExAt w x cs ∧ SmE x := by
 obtain ⟨hl, x, hx⟩ := ex_of n cs h
 refine ⟨hl, x, hx, ?_⟩
 obtain ⟨A, k, rfl, -⟩ := hx.form
 obtain ⟨-, m, hn, hf⟩ := rdf_struct Tryd.underlying120 h
 have h2 : RdF enc Tryd.prog w m 9 [.string x.name] := by simpa [c_str] using hf 2 _ rfl
 have h3 : RdF enc Tryd.prog w m 9 [.string x.field] := by simpa [c_str] using hf 3 _ rfl
 obtain ⟨s2, e2, l2⟩ := rdf_string Tryd.underlying9 h2
 obtain ⟨s3, e3, l3⟩ := rdf_string Tryd.underlying9 h3
 simp only [List.cons.injEq, and_true, Value.string.injEq] at e2 e3
 exact ⟨by rw [e2]; exact l2, by rw [e3]; exact l3⟩
theorem stm_sm : ∀ n cs, RdF enc Tryd.prog w n 124 cs → cs.length = 19 ∧ ∃ s, StmAt w s cs ∧ SmS s := by
 intro n
 induction n using Nat.strongRecOn with
 | _ n ih =>
  intro cs h
  obtain ⟨hl, m, hn, hf⟩ := rdf_struct Tryd.underlying124 h
  rw [c_stmt] at hl
  obtain ⟨a0, a1, a2, a3, a4, a5, a6, a7, a8, a9, b0, b1, b2, b3, b4, b5, b6, b7, b8, rfl⟩ := list_19 cs hl
  have h0 : Rd enc Tryd.prog w 3 [a0] := by simpa [c_int] using (hf 0 _ rfl).rd
  have h1 : Rd enc Tryd.prog w 9 [a1] := by simpa [c_str] using (hf 1 _ rfl).rd
  have h2 : RdF enc Tryd.prog w m 120 [a2, a3, a4, a5, a6, a7] := by simpa [c_expr] using hf 2 _ rfl
  have h3 : RdF enc Tryd.prog w m 120 [a8, a9, b0, b1, b2, b3] := by simpa [c_expr] using hf 3 _ rfl
  have h4 : RdF enc Tryd.prog w m 118 [b4] := by simpa [c_exprs] using hf 4 _ rfl
  have h5 : RdF enc Tryd.prog w m 121 [b5] := by simpa [c_rows] using hf 5 _ rfl
  have h6 : RdF enc Tryd.prog w m 115 [b6] := by simpa [c_strs] using hf 6 _ rfl
  have h7 : RdF enc Tryd.prog w m 122 [b7] := by simpa [c_blocks] using hf 7 _ rfl
  have h8 : Rd enc Tryd.prog w 3 [b8] := by simpa [c_int] using (hf 8 _ rfl).rd
  obtain ⟨x0, e0, w0⟩ := rd_int Tryd.underlying3 h0
  obtain ⟨x1, e1, w1⟩ := rd_string Tryd.underlying9 h1
  obtain ⟨-, dst, hto, hsd⟩ := ex_sm _ _ h2
  obtain ⟨-, src, hval, hss⟩ := ex_sm _ _ h3
  obtain ⟨x8, e8, w8⟩ := rd_int Tryd.underlying3 h8
  obtain ⟨A4, n4, k4, rfl⟩ := slice_form Tryd.underlying118 h4
  obtain ⟨A5, n5, k5, rfl⟩ := slice_form Tryd.underlying121 h5
  obtain ⟨A6, n6, k6, rfl⟩ := slice_form Tryd.underlying115 h6
  obtain ⟨A7, n7, k7, rfl⟩ := slice_form Tryd.underlying122 h7
  obtain ⟨conds, rfl, hconds⟩ := row_of (size := 6) (bytes := 80) (ExAt w) A4 n4 k4 Tryd.underlying118 c_expr (by kernel_rfl) (by decide) (fun k cs hk hcs => ex_of k cs hcs) h4
  obtain ⟨labels, rfl, hlabels⟩ := row_of (size := 1) (bytes := 24) (IntsC w) A5 n5 k5 Tryd.underlying121 c_ints (by kernel_rfl) (by decide) (fun k cs hk hcs => by
   have hl : cs.length = 1 := by
    rcases rdf_slice Tryd.underlying26 hcs with h | ⟨_, _, _, _, _, h, _⟩ <;> rw [h] <;> rfl
   exact ⟨hl, ints_of k cs hcs hl⟩) h5
  obtain ⟨fields, rfl, hfields⟩ := row_of (size := 1) (bytes := 16) (fun s c => c = [Value.string s]) A6 n6 k6 Tryd.underlying115 c_str (by kernel_rfl) (by decide) (fun k cs hk hcs => by
   obtain ⟨s, e, _⟩ := rd_string Tryd.underlying9 hcs.rd
   subst e
   exact ⟨rfl, s, rfl⟩) h6
  obtain ⟨blocks, rfl, hblocks'⟩ := row_of (size := 1) (bytes := 24) (fun bl c => BlockC w bl c ∧ ∀ s ∈ bl, SmS s) A7 n7 k7 Tryd.underlying122 c_stmts (by kernel_rfl) (by decide) (fun k cs hk hcs => by
   have hl : cs.length = 1 := by
    rcases rdf_slice Tryd.underlying23 hcs with h | ⟨_, _, _, _, _, h, _⟩ <;> rw [h] <;> rfl
   refine ⟨hl, ?_⟩
   obtain ⟨v, rfl⟩ := list_1 cs hl
   obtain ⟨A, len, cap, rfl⟩ := slice_form Tryd.underlying23 hcs
   obtain ⟨xs, rfl, hr⟩ := row_of (size := 19) (bytes := 288) (fun s c => StmAt w s c ∧ SmS s) A len cap Tryd.underlying23 c_stmt (by kernel_rfl) (by decide) (fun q cs hq hcs => ih q (by omega) cs hcs) hcs
   exact ⟨xs, ⟨A, cap, rfl, hr.both.1⟩, hr.both.2⟩) h7
  have hblocks := hblocks'.both.1
  simp only [List.cons.injEq, and_true] at e0 e1 e8
  subst e0 e1 e8
  exact ⟨rfl, _, .of (bounds_I64 w0) (bounds_I64 w8) hto hval hconds hlabels hfields hblocks, .mk _ hsd hss hblocks'.both.2⟩

theorem stms_sm (n : Nat) (v : Value) (h : RdF enc Tryd.prog w n 23 [v]) : ∃ A xs cap, v = .slice A xs.length cap ∧ RowT w A xs cap ∧ ∀ s ∈ xs, SmS s := by
 obtain ⟨A, len, cap, rfl⟩ := slice_form Tryd.underlying23 h
 obtain ⟨xs, rfl, hr⟩ := row_of (size := 19) (bytes := 288) (fun s c => StmAt w s c ∧ SmS s) A len cap Tryd.underlying23 c_stmt (by kernel_rfl) (by decide) (fun k cs hk hcs => stm_sm k cs hcs) h
 exact ⟨A, xs, cap, rfl, hr.both.1, hr.both.2⟩
theorem prg_sm (n : Nat) (cs : List Value) (h : RdF enc Tryd.prog w n 25 cs) : ∃ p, PrgAt w p cs ∧ ∀ s ∈ p.body, SmS s := by
 obtain ⟨hl, m, hn, hf⟩ := rdf_struct Tryd.underlying25 h
 rw [c_prog] at hl
 obtain ⟨v0, v1, v2, rfl⟩ := list_3 cs hl
 have h0 : Rd enc Tryd.prog w 9 [v0] := by simpa [c_str] using (hf 0 _ rfl).rd
 have h1 : RdF enc Tryd.prog w m 22 [v1] := by simpa [c_vars] using hf 1 _ rfl
 have h2 : RdF enc Tryd.prog w m 23 [v2] := by simpa [c_stmts] using hf 2 _ rfl
 obtain ⟨x0, e0, w0⟩ := rd_string Tryd.underlying9 h0
 obtain ⟨Av, vars, kv, rfl, hv⟩ := vars_of _ _ h1
 obtain ⟨Ab, body, kb, rfl, hb, hsm⟩ := stms_sm _ _ h2
 simp only [List.cons.injEq, and_true] at e0
 subst e0
 exact ⟨⟨x0, vars, body⟩, ⟨Av, kv, Ab, kb, rfl, hv, hb⟩, hsm⟩
end

end Go.Proofs.YtknnhnefbbjcdaaDoor
