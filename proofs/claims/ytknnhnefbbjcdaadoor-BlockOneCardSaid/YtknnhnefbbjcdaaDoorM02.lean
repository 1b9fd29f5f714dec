/- Merged: Regions that draw their order, whose callees may make memory of their own but leave what was there as it was: one walk in the text's order serves every order. A region that draws its order: first what only reads or calls quietly (the callees may make memory of their own), in whatever order; behind all of it, in one order, the rest (a store, say). A region that draws its order: what only reads or calls (the callees may make memory of their own), and ONE new variable that is made somewhere in between; behind all of it, in one order, the rest (the store into the new variable). -/
import Derived.Test.YtknnhnefbbjcdaaDoorBase
import Derived.StillTail
namespace Go.Proofs.YtknnhnefbbjcdaaDoor
open Go.RowKit
set_option linter.unusedVariables false
set_option linter.unusedSimpArgs false

structure Ext (W : World) where
 w : World
 h : Below W.heap.size W w
def ext (W : World) (x : Ext W) : World := x.1
instance ext_some (W : World) : Nonempty (Ext W) := ⟨⟨W, Below.refl _ _⟩⟩
theorem ext_cell (W : World) (x : Ext W) (b o : Nat) (h : b < W.heap.size) : (ext W x).cell? ⟨b, o, none⟩ = W.cell? ⟨b, o, none⟩ := x.2.cell (p := ⟨b, o, none⟩) h
theorem ext_frozen (W : World) (x : Ext W) (b o : Nat) (h : b < W.heap.size) : (ext W x).frozen? ⟨b, o, none⟩ = W.frozen? ⟨b, o, none⟩ := x.2.frozen (p := ⟨b, o, none⟩) h
theorem ext_below {W w' : World} (h : ∃ x, w' = ext W x) : Below W.heap.size W w' := by
 obtain ⟨x, rfl⟩ := h
 exact x.2

theorem wp_region_ext {P : Program} {id : Nat} {Q : Exit → Act → World → Prop} {a : Act} {w : World} {l : List Oper} (hm : P.follows .mixedOrders = true) (hB : Region.lexB .any l.toArray = true)
  (h : wpQuiet P l.toArray (fun w' => ∃ x, w' = ext w x) (fun a' => ∀ w', (∃ x, w' = ext w x) → Q .normal a' w') l a) : (Code.region id l.toArray true).wp P Q a w :=
 wp_region_quiet (C := fun w' => ∃ x, w' = ext w x) hm hB ⟨⟨w.drew, (Below.refl _ _).drew⟩, rfl⟩ (by simpa using h)

theorem ext_call {P : Program} {f : FuncId} {args : Array Value} {W : World} {x : Ext W} {v : Value}
  (h : Calls P f args (ext W x) fun e w' => e = .returned v ∧ Below (ext W x).heap.size (ext W x) w') : Calls P f args (ext W x) fun e w'' => e = .returned v ∧ ∃ y, w'' = ext W y :=
 h.mono fun _ _ ⟨he, hb⟩ => ⟨he, ⟨_, below_go x.2 hb (Nat.le_refl _)⟩, rfl⟩
theorem ext_same {P : Program} {f : FuncId} {args : Array Value} {W : World} {x : Ext W} {v : Value}
  (h : Calls P f args (ext W x) fun e w' => e = .returned v ∧ ext W x = w') : Calls P f args (ext W x) fun e w'' => e = .returned v ∧ ∃ y, w'' = ext W y :=
 h.mono fun _ _ ⟨he, hb⟩ => ⟨he, x, hb.symm⟩

theorem wp_name {P : Program} {c : Code} {Q : Exit → Act → World → Prop} {a : Act} {w : World} (h : ∀ W, Hid (W = w) → c.wp P Q a W) : c.wp P Q a w := h w rfl

end Go.Proofs.YtknnhnefbbjcdaaDoor

namespace Go.Proofs.YtknnhnefbbjcdaaDoor
open Go.RowKit
set_option linter.unusedVariables false
set_option linter.unusedSimpArgs false

section
variable {P : Program} {ops : Array Oper} {C : World → Prop} {n : Nat}

def quietHead (P : Program) (ops : Array Oper) (C : World → Prop) (n : Nat) (L : Array Bool → Act → Prop) : Nat → Array Bool → Act → Prop
 | 0, listed, a => L listed a
 | f + 1, listed, a => Region.ready .any ops listed ≠ [] ∧ ∀ i ∈ Region.ready .any ops listed, i < n ∧ qOp P ops C i (quietHead P ops C n L f (listed.setIfInBounds i true)) a

theorem any_of_quietHead {g : Nat} {L : Array Bool → Act → Prop} {Q : Exit → Act → World → Prop} (hL : ∀ listed a w, C w → L listed a → wpAny P .any ops Q g listed a w) (f : Nat) :
  ∀ (listed : Array Bool) (a : Act) (w : World), C w → quietHead P ops C n L f listed a → wpAny P .any ops Q (f + g) listed a w := by
 induction f with
 | zero =>
  intro listed a w hw h
  rw [Nat.zero_add]
  exact hL listed a w hw h
 | succ f ih =>
  intro listed a w hw h
  rw [show f + 1 + g = (f + g) + 1 from by omega]
  refine ⟨fun h0 => absurd h0 h.1, fun i hi => ?_⟩
  exact wpOp_of_qOp hw (fun a' w' hw' => ih _ a' w' hw') (h.2 i hi).2

theorem quietHead_first {i : Nat} {oi : Oper} {v : Value} {L : Array Bool → Act → Prop} (hi : ops[i]? = some oi) (hsel : ∀ (j : Nat) (o : Oper) cs b, ops[j]? = some o → o.op ≠ .select cs b)
  (hs : Region.sinkB .any ops n = true) (hc : Region.chainB .any ops n = true) (hn : n < ops.size) (hin : i < n)
  (hdone : ∀ listed a, L listed a → ∀ j ∈ Region.ready .any ops listed, n ≤ j) (f : Nat) :
  ∀ (listed : Array Bool) (a : Act), HeadInv .any ops n listed →
   (∀ j oj, ops[j]? = some oj → j ≠ i → listed.getD j true = false → (∀ e ∈ oj.after, Region.binds .any e = true → e.on ≠ i) → oi.apart ops oj = true) →
   i ∈ Region.ready .any ops listed → YieldsIn P ops C oi v a →
   quietHead P ops C n L f (listed.setIfInBounds i true) (a.put oi.dst v) → quietHead P ops C n L (f + 1) listed a := by
 induction f with
 | zero =>
  intro listed a inv _ hr hy H
  have hun := (mem_ready.1 hr).1
  have low : ∀ j ∈ Region.ready .any ops listed, j < n := fun j hj => Nat.lt_of_not_le fun h => tail_waits hs hc hn inv _ i rfl hin hun j h hj
  refine ⟨List.ne_nil_of_mem hr, fun j hj => ⟨low j hj, ?_⟩⟩
  by_cases hji : j = i
  ·rw [hji]
   exact hy.qOp hi H
  ·have h1 := hdone _ _ H j (ready_mono hj hji)
   have h2 := low j hj
   omega
 | succ f ih =>
  intro listed a inv hfree hr hy H
  have hun := (mem_ready.1 hr).1
  have low : ∀ j ∈ Region.ready .any ops listed, j < n := fun j hj => Nat.lt_of_not_le fun h => tail_waits hs hc hn inv _ i rfl hin hun j h hj
  refine ⟨List.ne_nil_of_mem hr, fun j hj => ⟨low j hj, ?_⟩⟩
  by_cases hji : j = i
  ·rw [hji]
   exact hy.qOp hi H
  ·obtain ⟨hjun, oj, hoj, hall⟩ := mem_ready.1 hj
   have hap : oi.apart ops oj = true := hfree j oj hoj hji hjun fun e he hb heq => by
    have h1 := hall e he hb
    rw [heq, getD_both hun] at h1
    cases h1
   have hput := qOp_put hoj hap (fun cs b => hsel i oi cs b hi) (fun cs b => hsel j oj cs b hoj) hy (H.2 j (ready_mono hj hji)).2
   refine qOp_mono (fun a' h3 => ih (listed.setIfInBounds j true) a' (inv.set hj (low j hj)) ?_ (ready_mono hr (Ne.symm hji)) h3.1 ?_) hput
   ·intro k ok hk hki hkun hno
    refine hfree k ok hk hki ?_ hno
    by_cases hjk : j = k
    ·rw [← hjk]
     exact hjun
    ·rwa [getD_set_ne true hjk] at hkun
   ·rw [Array.setIfInBounds_comm _ _ hji]
    exact h3.2

theorem quietHead_lex {g : Nat} {K : Act → Prop} (hsel : Region.noSelect ops = true) (hs : Region.sinkB .any ops n = true) (hc : Region.chainB .any ops n = true) (hn : n < ops.size) (l : List Oper) :
  ∀ (k : Nat) (listed : Array Bool) (a : Act), (∀ j, j < l.length → l[j]? = ops[k + j]?) → k + l.length = n → HeadInv .any ops n listed →
   Region.lexHead .any ops g l.length k listed = true → wpQuiet P ops C K l a →
   quietHead P ops C n (fun listed' a' => Region.seqB .any ops g n listed' = true ∧ K a') l.length listed a := by
 induction l with
 | nil =>
  intro k listed a _ hk _ hB h
  have hkn : k = n := by simpa using hk
  rw [← hkn]
  exact ⟨by simpa [Region.lexHead] using hB, h⟩
 | cons o l ih =>
  intro k listed a hl hk inv hB h
  have h0 : ops[k]? = some o := by simpa using (hl 0 (by simp)).symm
  have hkn : k < n := by simp only [List.length_cons] at hk; omega
  simp only [List.length_cons, Region.lexHead, Bool.and_eq_true] at hB
  have hr : k ∈ Region.ready .any ops listed := by simpa using hB.1.1
  obtain ⟨v, hy, hK⟩ := yieldsIn_of_qOp (C := C) (K := wpQuiet P ops C K l) h0 (by unfold qOp; simp only [h0]; exact h)
  refine quietHead_first h0 (Region.noSelect_spec hsel) hs hc hn hkn (fun listed' a' hL => seqB_ready hL.1) l.length listed a inv (Region.free_spec h0 hB.1.2) hr hy ?_
  refine ih (k + 1) _ _ (fun j hj => ?_) (by simp only [List.length_cons] at hk; omega) (inv.set hr hkn) hB.2 hK
  have := hl (j + 1) (by simp; omega)
  simpa [Nat.add_assoc, Nat.add_comm 1 j] using this

theorem wp_region_ext_tail {id : Nat} {Q : Exit → Act → World → Prop} {a : Act} {w : World} {l : List Oper} (n : Nat) (hm : P.follows .mixedOrders = true) (hB : Region.lexTailB .any l.toArray n = true)
  (h : wpQuiet P l.toArray (fun w' => ∃ x, w' = ext w x) (fun a' => ∀ w', (∃ x, w' = ext w x) → wpList P l.toArray Q (l.drop n) a' w') (l.take n) a) : (Code.region id l.toArray true).wp P Q a w := by
 simp only [Region.lexTailB, Bool.and_eq_true, decide_eq_true_eq] at hB
 obtain ⟨⟨⟨⟨hsel, hn⟩, hs⟩, hc⟩, hlex⟩ := hB
 have hn' : n < l.length := by simpa using hn
 have htl : (l.take n).length = n := by simp; omega
 have hdl : (l.drop n).length = l.toArray.size - n := by simp
 have inv0 : HeadInv .any l.toArray n (Array.replicate l.toArray.size false) :=
  ⟨by simp, fun j oj _ hl => (by rw [getD_replicate_false] at hl; cases hl), fun t _ ht => getD_in (by simpa using ht) (getD_replicate_false _ _)⟩
 have H := quietHead_lex (g := l.toArray.size - n) hsel hs hc hn (l.take n) 0 (Array.replicate l.toArray.size false) a (fun j hj => by
  have hj' : j < n := by rw [htl] at hj; exact hj
  simp [hj']) (by rw [htl, Nat.zero_add]) inv0 (by rw [htl]; exact hlex) h
 refine wp_region_any hm ?_
 have := any_of_quietHead (Q := Q) (g := l.toArray.size - n) (fun listed a' w' hw' hL => by
  have := wpAny_of_seq (md := .any) (Q' := Q) (l.drop n) n listed a' w' (fun j => by simp [List.getElem?_drop]) (by rw [hdl]; exact hL.1) (hL.2 w' hw')
  rwa [hdl] at this) (l.take n).length (Array.replicate l.toArray.size false) a { w with drawn := w.drawn + 1 } ⟨⟨w.drew, (Below.refl _ _).drew⟩, rfl⟩ H
 rw [htl, show n + (l.toArray.size - n) = l.toArray.size from by omega] at this
 exact this
end

end Go.Proofs.YtknnhnefbbjcdaaDoor

namespace Go.Proofs.YtknnhnefbbjcdaaDoor
open Go.RowKit
set_option linter.unusedVariables false
set_option linter.unusedSimpArgs false

def Keeps (S : World → Prop) : Prop := ∀ w w', S w → Below w.heap.size w w' → S w'
structure ExtS (W : World) (S : World → Prop) where
 w : World
 h : Below W.heap.size W w
 s : S w
def extS {W : World} {S : World → Prop} (x : ExtS W S) : World := x.1
def CS (W : World) (S : World → Prop) (w' : World) : Prop := ∃ x : ExtS W S, w' = extS x
theorem extS_cell {W : World} {S : World → Prop} (x : ExtS W S) (b o : Nat) (h : b < W.heap.size) : (extS x).cell? ⟨b, o, none⟩ = W.cell? ⟨b, o, none⟩ := x.2.cell (p := ⟨b, o, none⟩) h
theorem extS_frozen {W : World} {S : World → Prop} (x : ExtS W S) (b o : Nat) (h : b < W.heap.size) : (extS x).frozen? ⟨b, o, none⟩ = W.frozen? ⟨b, o, none⟩ := x.2.frozen (p := ⟨b, o, none⟩) h
theorem extS_call {P : Program} {f : FuncId} {args : Array Value} {W : World} {S : World → Prop} (hS : Keeps S) {x : ExtS W S} {v : Value}
  (h : Calls P f args (extS x) fun e w' => e = .returned v ∧ Below (extS x).heap.size (extS x) w') : Calls P f args (extS x) fun e w'' => e = .returned v ∧ ∃ y : ExtS W S, w'' = extS y :=
 h.mono fun _ w'' ⟨he, hb⟩ => ⟨he, ⟨w'', below_go x.2 hb (Nat.le_refl _), hS _ _ x.3 hb⟩, rfl⟩
theorem extS_same {P : Program} {f : FuncId} {args : Array Value} {W : World} {S : World → Prop} {x : ExtS W S} {v : Value}
  (h : Calls P f args (extS x) fun e w' => e = .returned v ∧ extS x = w') : Calls P f args (extS x) fun e w'' => e = .returned v ∧ ∃ y : ExtS W S, w'' = extS y :=
 h.mono fun _ _ ⟨he, hb⟩ => ⟨he, x, hb.symm⟩

section
variable {P : Program} {ops : Array Oper} {C : World → Prop}

def freshLex (ops : Array Oper) (g N : Nat) : Nat → Nat → Array Bool → Bool
 | 0, _, listed => Region.seqB .any ops g N listed
 | f + 1, k, listed => (Region.ready .any ops listed).contains k && Region.free .any ops listed k && freshLex ops g N f (k + 1) (listed.setIfInBounds k true)
def dstOf (ops : Array Oper) (i : Nat) : Option Tmp := (ops[i]?).bind (·.dst)
def freeOf (ops : Array Oper) (n j : Nat) : Bool :=
 (match ops[n]?, ops[j]? with | some x, some y => x.apart ops y | _, _ => false) && (List.range j).all fun i => (dstOf ops i).isNone || dstOf ops i != dstOf ops j
def freshB (ops : Array Oper) (n : Nat) : Bool :=
 Region.noSelect ops && decide (n + 1 < ops.size) && Region.sinkB .any ops (n + 1) && Region.chainB .any ops (n + 1) &&
 freshLex ops (ops.size - (n + 1)) (n + 1) n 0 ((Array.replicate ops.size false).setIfInBounds n true) && (List.range n).all fun j => freeOf ops n j

theorem quietHead_lexF {n g : Nat} {K : Act → Prop} (hsel : Region.noSelect ops = true) (hs : Region.sinkB .any ops (n + 1) = true) (hc : Region.chainB .any ops (n + 1) = true) (hn : n + 1 < ops.size) (l : List Oper) :
  ∀ (k : Nat) (listed : Array Bool) (a : Act), (∀ j, j < l.length → l[j]? = ops[k + j]?) → k + l.length = n → HeadInv .any ops (n + 1) listed →
   freshLex ops g (n + 1) l.length k listed = true → wpQuiet P ops C K l a →
   quietHead P ops C (n + 1) (fun listed' a' => Region.seqB .any ops g (n + 1) listed' = true ∧ K a') l.length listed a := by
 induction l with
 | nil =>
  intro k listed a _ hk _ hB h
  exact ⟨by simpa [freshLex] using hB, h⟩
 | cons o l ih =>
  intro k listed a hl hk inv hB h
  have h0 : ops[k]? = some o := by simpa using (hl 0 (by simp)).symm
  have hkn : k < n := by simp only [List.length_cons] at hk; omega
  simp only [List.length_cons, freshLex, Bool.and_eq_true] at hB
  have hr : k ∈ Region.ready .any ops listed := by simpa using hB.1.1
  obtain ⟨v, hy, hK⟩ := yieldsIn_of_qOp (C := C) (K := wpQuiet P ops C K l) h0 (by unfold qOp; simp only [h0]; exact h)
  refine quietHead_first h0 (Region.noSelect_spec hsel) hs hc hn (by omega) (fun listed' a' hL => seqB_ready hL.1) l.length listed a inv (Region.free_spec h0 hB.1.2) hr hy ?_
  refine ih (k + 1) _ _ (fun j hj => ?_) (by simp only [List.length_cons] at hk; omega) (inv.set hr (by omega)) hB.2 hK
  have := hl (j + 1) (by simp; omega)
  simpa [Nat.add_assoc, Nat.add_comm 1 j] using this

theorem quietHead_put {n N : Nat} {L : Array Bool → Act → Prop} {o : Oper} {v : Value} (ho : ops[n]? = some o) (hsel : ∀ (j : Nat) (o : Oper) cs b, ops[j]? = some o → o.op ≠ .select cs b)
  (hap : ∀ j oj, j < N → j ≠ n → ops[j]? = some oj → o.apart ops oj = true) (f : Nat) :
  ∀ (listed : Array Bool) (a : Act), listed.getD n true = true → quietHead P ops C N L f listed a →
   quietHead P ops C N (fun l a' => ∃ a0, L l a0 ∧ a' = a0.put o.dst v) f listed (a.put o.dst v) := by
 induction f with
 | zero => exact fun listed a _ h => ⟨a, h, rfl⟩
 | succ f ih =>
  intro listed a hl h
  refine ⟨h.1, fun i hi => ⟨(h.2 i hi).1, ?_⟩⟩
  obtain ⟨hin, hq⟩ := h.2 i hi
  obtain ⟨hun, oi, hoi, _⟩ := mem_ready.1 hi
  have hne : i ≠ n := fun e => by rw [e, hl] at hun; cases hun
  obtain ⟨h1, h2, _⟩ := Oper.apart_spec (hap i oi hin hne hoi)
  have hseli : ∀ cs b, oi.op ≠ .select cs b := fun cs b => hsel i oi cs b hoi
  have hl' : (listed.setIfInBounds i true).getD n true = true := by
   rw [getD_set_ne true hne]
   exact hl
  unfold qOp at *
  simp only [hoi] at *
  rw [wanted_put oi a o.dst v h1]
  split
  ·rename_i hw
   simp only [hw, if_true] at hq
   obtain ⟨u, hu, hk⟩ := hq
   refine ⟨u, fun w' hw' => ?_, ?_⟩
   ·have := hu w' hw'
    unfold Oper.quietAt at *
    rwa [execOp_put oi hseli a o.dst v h1]
   ·rw [Act.put_comm a v u h2]
    exact ih _ _ hl' hk
  ·rename_i hw
   simp only [hw] at hq
   rw [Act.put_comm a v undef h2]
   exact ih _ _ hl' hq

theorem put_other {a : Act} {x : Option Tmp} {d : Tmp} {v : Value} (h : x ≠ some d) : (a.put x v).tmps[d]? = a.tmps[d]? := by
 cases x with
 | none => rfl
 | some e =>
  have : e ≠ d := fun he => h (by rw [he])
  simp [Act.put, Array.getElem?_setIfInBounds, this]

theorem quietHead_kept {N : Nat} {L : Array Bool → Act → Prop} {A : Act} (hL : ∀ l a, L l a → a = A) (d : Tmp) (f : Nat) :
  ∀ (listed : Array Bool) (a : Act), (∀ j oj, j < N → ops[j]? = some oj → listed.getD j true = false → oj.dst ≠ some d) →
   quietHead P ops C N L f listed a → A.tmps[d]? = a.tmps[d]? := by
 induction f with
 | zero => exact fun listed a _ h => by rw [hL _ _ h]
 | succ f ih =>
  intro listed a hd h
  obtain ⟨i, hi⟩ := List.exists_mem_of_ne_nil _ h.1
  obtain ⟨hin, hq⟩ := h.2 i hi
  obtain ⟨hun, oi, hoi, _⟩ := mem_ready.1 hi
  have hdi := hd i oi hin hoi hun
  have hd' : ∀ j oj, j < N → ops[j]? = some oj → (listed.setIfInBounds i true).getD j true = false → oj.dst ≠ some d := fun j oj hj hoj hu => by
   by_cases e : i = j
   ·subst e
    rw [hoi] at hoj
    cases hoj
    exact hdi
   ·rw [getD_set_ne true e] at hu
    exact hd j oj hj hoj hu
  obtain ⟨v, _, hK⟩ := yieldsIn_of_qOp hoi hq
  rw [ih _ _ hd' hK, put_other hdi]

theorem any_of_fresh {n g : Nat} {A : Act} {Q : Exit → Act → World → Prop} {W : World} {o : Oper} {d : Tmp} {obj : Obj} (ho : ops[n]? = some o) (hod : o.dst = some d) (hoa : o.after = #[]) (hog : o.guard = none)
  (hrun : ∀ (a : Act) (w' : World), (execOp a.eval o).run P w' = .ok (.value (.pointer (some ⟨w'.heap.size, 0, none⟩))) (w'.alloc obj))
  (hsel : ∀ (j : Nat) (o : Oper) cs b, ops[j]? = some o → o.op ≠ .select cs b)
  (hap : ∀ j oj, j < n + 1 → j ≠ n → ops[j]? = some oj → o.apart ops oj = true)
  (hdst : ∀ i j oi oj, i < n → j < n → i ≠ j → ops[i]? = some oi → ops[j]? = some oj → ∀ d, oi.dst = some d → oj.dst ≠ some d)
  (hs : Region.sinkB .any ops (n + 1) = true) (hc : Region.chainB .any ops (n + 1) = true) (hn : n + 1 < ops.size)
  (hend : ∀ listed p w', Region.seqB .any ops g (n + 1) listed = true → W.heap.size ≤ p → p < w'.heap.size → Below W.heap.size W w' → w'.heap[p]? = some obj → wpAny P .any ops Q g listed (A.put (some d) (.pointer (some ⟨p, 0, none⟩))) w') (f : Nat) :
  ∀ (listed : Array Bool) (a : Act) (w0 : World), HeadInv .any ops (n + 1) listed → listed.getD n true = false → Below W.heap.size W w0 →
   (∀ S, Keeps S → Nonempty (ExtS W S) → quietHead P ops (CS W S) (n + 1) (fun listed' a' => Region.seqB .any ops g (n + 1) listed' = true ∧ a' = A) f (listed.setIfInBounds n true) a) →
   wpAny P .any ops Q (f + 1 + g) listed a w0 := by
 induction f with
 | zero =>
  intro listed a w0 inv hun hb0 h
  rw [show 0 + 1 + g = g + 1 by omega]
  have hm : n ∈ Region.ready .any ops listed := mem_ready.2 ⟨hun, o, ho, by rw [hoa]; simp⟩
  refine ⟨fun h0 => (by rw [h0] at hm; cases hm), fun i hi => ?_⟩
  have hiN : i < n + 1 := Nat.lt_of_not_le fun hle => tail_waits hs hc hn inv _ n rfl (by omega) hun i hle hi
  by_cases hin : i = n
  ·subst hin
   unfold wpOp
   simp only [ho, Region.wanted, hog, if_true]
   refine .inl ?_
   unfold Oper.wp
   rw [hrun a w0]
   simp only [Oper.upon, hod]
   obtain ⟨hq, rfl⟩ := h (fun w' => i < w'.heap.size ∨ True) (fun _ _ _ _ => .inr trivial) ⟨⟨W, Below.refl _ _, .inr trivial⟩⟩
   exact hend _ _ _ hq hb0.size (by simp) (below_new hb0 (Nat.le_refl _) _) (by show (w0.heap.push obj)[w0.heap.size]? = _; simp)
  ·obtain ⟨hq, _⟩ := h (fun _ => True) (fun _ _ _ _ => trivial) ⟨⟨W, Below.refl _ _, trivial⟩⟩
   have := seqB_ready hq i (ready_mono hi hin)
   omega
 | succ f ih =>
  intro listed a w0 inv hun hb0 h
  rw [show f + 1 + 1 + g = (f + 1 + g) + 1 by omega]
  have hm : n ∈ Region.ready .any ops listed := mem_ready.2 ⟨hun, o, ho, by rw [hoa]; simp⟩
  refine ⟨fun h0 => (by rw [h0] at hm; cases hm), fun i hi => ?_⟩
  have hiN : i < n + 1 := Nat.lt_of_not_le fun hle => tail_waits hs hc hn inv _ n rfl (by omega) hun i hle hi
  by_cases hin : i = n
  ·subst hin
   unfold wpOp
   simp only [ho, Region.wanted, hog, if_true]
   refine .inl ?_
   unfold Oper.wp
   rw [hrun a w0]
   simp only [Oper.upon, hod]
   have H := h (fun w' => w0.heap.size < w'.heap.size ∧ w'.heap[w0.heap.size]? = some obj) (fun u u' hu hb => ⟨Nat.lt_of_lt_of_le hu.1 hb.size, by rw [hb.block _ hu.1]; exact hu.2⟩)
    ⟨⟨w0.alloc obj, below_new hb0 (Nat.le_refl _) _, by simp, by show (w0.heap.push obj)[w0.heap.size]? = _; simp⟩⟩
   have hlt : i < listed.size := by rw [inv.size]; omega
   have H2 := quietHead_put (v := .pointer (some ⟨w0.heap.size, 0, none⟩)) ho hsel hap (f + 1) _ _ (by simp [hlt]) H
   rw [hod] at H2
   refine any_of_quietHead (C := CS W (fun w' => w0.heap.size < w'.heap.size ∧ w'.heap[w0.heap.size]? = some obj)) ?_ (f + 1) _ _ _ ⟨⟨w0.alloc obj, below_new hb0 (Nat.le_refl _) _, by simp, by show (w0.heap.push obj)[w0.heap.size]? = _; simp⟩, rfl⟩ H2
   rintro l a' w' ⟨x, rfl⟩ ⟨a0, ⟨hq, rfl⟩, rfl⟩
   exact hend _ _ _ hq hb0.size x.3.1 x.2 x.3.2
  ·have hi' := ready_mono hi hin
   obtain ⟨hun', oi, hoi, _⟩ := mem_ready.1 hi
   have h0 := h (fun _ => True) (fun _ _ _ _ => trivial) ⟨⟨W, Below.refl _ _, trivial⟩⟩
   obtain ⟨v0, hy0, hK0⟩ := yieldsIn_of_qOp hoi (h0.2 i hi').2
   have hun2 : (listed.setIfInBounds i true).getD n true = false := by
    rw [getD_set_ne true hin]
    exact hun
   refine wpOp_of_qOp (C := CS W (fun _ => True)) (K := fun a' => a' = a.put oi.dst v0) ⟨⟨w0, hb0, trivial⟩, rfl⟩ ?_ (hy0.qOp hoi rfl)
   rintro a' w' ⟨x, rfl⟩ rfl
   refine ih _ _ _ (inv.set hi hiN) hun2 x.2 (fun S hS hne => ?_)
   obtain ⟨v, hy, hK⟩ := yieldsIn_of_qOp hoi ((h S hS hne).2 i hi').2
   rw [Array.setIfInBounds_comm _ _ hin]
   have hsame : a.put oi.dst v = a.put oi.dst v0 := by
    cases hd : oi.dst with
    | none => rfl
    | some e =>
     have hfree : ∀ j oj, j < n + 1 → ops[j]? = some oj → ((listed.setIfInBounds n true).setIfInBounds i true).getD j true = false → oj.dst ≠ some e := fun j oj hj hoj hu => by
      have hji : i ≠ j := fun e2 => by
       subst e2
       have hlt : i < listed.size := by rw [inv.size]; omega
       simp [hlt] at hu
      rw [getD_set_ne true hji] at hu
      have hjn : n ≠ j := fun e2 => by
       subst e2
       have hlt : n < listed.size := by rw [inv.size]; omega
       simp [hlt] at hu
      exact hdst i j oi oj (by omega) (by omega) hji hoi hoj e hd
     have k1 := quietHead_kept (fun _ _ hx => hx.2) e f _ _ hfree hK
     have k0 := quietHead_kept (fun _ _ hx => hx.2) e f _ _ hfree hK0
     rw [k1] at k0
     rw [hd] at k0
     by_cases he : e < a.tmps.size
     ·simp [Act.put, he] at k0
      rw [k0]
     ·simp [Act.put, Array.setIfInBounds, he]
   rw [hsame] at hK
   exact hK

theorem wp_region_fresh {id : Nat} {Q : Exit → Act → World → Prop} {a : Act} {w : World} {l : List Oper} (n : Nat) (hm : P.follows .mixedOrders = true) (hB : freshB l.toArray n = true)
  (o : Oper) (ho : l[n]? = some o) (d : Tmp) (hod : o.dst = some d) (hoa : o.after = #[]) (hog : o.guard = none) (obj : Obj)
  (hrun : ∀ (a : Act) (w' : World), (execOp a.eval o).run P w' = .ok (.value (.pointer (some ⟨w'.heap.size, 0, none⟩))) (w'.alloc obj))
  (h : ∃ A : Act, (∀ S, Keeps S → Nonempty (ExtS w S) → wpQuiet P l.toArray (CS w S) (fun a' => a' = A) (l.take n) a) ∧
   ∀ p w', w.heap.size ≤ p → p < w'.heap.size → Below w.heap.size w w' → w'.heap[p]? = some obj → wpList P l.toArray Q (l.drop (n + 1)) (A.put (some d) (.pointer (some ⟨p, 0, none⟩))) w') : (Code.region id l.toArray true).wp P Q a w := by
 obtain ⟨A, hq, ht⟩ := h
 simp only [freshB, Bool.and_eq_true, decide_eq_true_eq] at hB
 obtain ⟨⟨⟨⟨⟨hsel, hn⟩, hs⟩, hc⟩, hlex⟩, hfree⟩ := hB
 have hn' : n + 1 < l.length := by simpa using hn
 have htl : (l.take n).length = n := by simp; omega
 have hdl : (l.drop (n + 1)).length = l.toArray.size - (n + 1) := by simp
 have ho' : l.toArray[n]? = some o := by simpa using ho
 have hfr : ∀ j, j < n → freeOf l.toArray n j = true := fun j hj => List.all_eq_true.1 hfree j (List.mem_range.2 hj)
 have invR : HeadInv .any l.toArray (n + 1) (Array.replicate l.toArray.size false) :=
  ⟨by simp, fun j oj _ hl => (by rw [getD_replicate_false] at hl; cases hl), fun t _ ht => getD_in (by simpa using ht) (getD_replicate_false _ _)⟩
 have hready : n ∈ Region.ready .any l.toArray (Array.replicate l.toArray.size false) := mem_ready.2 ⟨getD_in (by simp; omega) (getD_replicate_false _ _), o, ho', by rw [hoa]; simp⟩
 have inv0 := invR.set hready (by omega)
 refine wp_region_any hm ?_
 have H := any_of_fresh (g := l.toArray.size - (n + 1)) (A := A) (Q := Q) (W := w) (obj := obj) ho' hod hoa hog hrun (Region.noSelect_spec hsel)
  (fun j oj hj hne hoj => by
   have := hfr j (by omega)
   simp only [freeOf, Bool.and_eq_true, ho', hoj] at this
   exact this.1)
  (fun i j oi oj hi hj hne hoi hoj d hd hd2 => by
   rcases Nat.lt_or_gt_of_ne hne with hlt | hlt
   ·have := hfr j (by omega)
    simp only [freeOf, Bool.and_eq_true] at this
    have := List.all_eq_true.1 this.2 i (List.mem_range.2 hlt)
    simp [dstOf, hoi, hoj, hd, hd2] at this
   ·have := hfr i (by omega)
    simp only [freeOf, Bool.and_eq_true] at this
    have := List.all_eq_true.1 this.2 j (List.mem_range.2 hlt)
    simp [dstOf, hoi, hoj, hd, hd2] at this)
  hs hc hn
  (fun listed p w' hq h1 h2 h3 h4 => by
   have := wpAny_of_seq (md := .any) (Q' := Q) (l.drop (n + 1)) (n + 1) listed (A.put (some d) (.pointer (some ⟨p, 0, none⟩))) w' (fun j => by simp [List.getElem?_drop]) (by rw [hdl]; exact hq) (ht p w' h1 h2 h3 h4)
   rwa [hdl] at this)
  n (Array.replicate l.toArray.size false) a { w with drawn := w.drawn + 1 } invR (getD_in (by simp; omega) (getD_replicate_false _ _)) (Below.refl _ _).drew
  (fun S hS hne => by
   have := quietHead_lexF (g := l.toArray.size - (n + 1)) hsel hs hc hn (l.take n) 0 _ a (fun j hj => by
    have hj' : j < n := by rw [htl] at hj; exact hj
    simp [hj']) (by rw [htl, Nat.zero_add]) inv0 (by rw [htl]; exact hlex) (hq S hS hne)
   rwa [htl] at this)
 rw [show n + 1 + (l.toArray.size - (n + 1)) = l.toArray.size by omega] at H
 exact H
end

theorem heap_cell {w : World} {p : Nat} {vs : Array Value} {T : TypeId} (i : Nat) (v : Value) (h : w.heap[p]? = some (.cells vs T)) (hv : vs[i]? = some v) : w.cell? ⟨p, i, none⟩ = some v := by
 unfold World.cell?
 simp [h, hv]
theorem heap_free {w : World} {p : Nat} {vs : Array Value} {T : TypeId} (i : Nat) (h : w.heap[p]? = some (.cells vs T)) : w.frozen? ⟨p, i, none⟩ = false := by
 unfold World.frozen?
 simp [h]

end Go.Proofs.YtknnhnefbbjcdaaDoor
