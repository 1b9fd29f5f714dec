/- Merged: The frame that all laws share: a call that answers true and leaves all memory as it was meets its row. Readings of arguments, cell by cell: what a value of a type looks like in memory. Slices of structs (or of whatever reads cell by cell), as they lie in memory. -/
import Derived.Test.YtknnhnefbbjcdaaDoorRows
import Derived.WalkKit
import Derived.ProofKit
import Derived.OpenShut
namespace Go.Proofs.YtknnhnefbbjcdaaDoor
open Go.ChangeShapes Go.WideShapes Go.ChangeAt Go.RowKit
set_option linter.unusedVariables false
set_option linter.unusedSimpArgs false

theorem own : ownKnob Tryd.prog.godebug = none := by kernel_rfl
theorem laid_out : laidOutB Tryd.prog = true := by kernel_rfl

theorem trod_below {P : Program} (hl : laidOutB P = true) {H : Type} {enc : TypeId × Value → H} {W W' : World} (hb : Below W.heap.size W W') :
  ∀ {ts : List TypeId} {vs : List Value} {ds : List (DataW H)} {ps : List MemPlace}, (ts.all fun t => P.readableRec t && decide (t < P.types.size)) = true →
   DataW.TrodAll enc P W 0 (fun _ => true) true ts vs ds ps → (∀ x ∈ ps, x.block < W.heap.size) →
   DataW.TrodAll enc P W' 0 (fun b => decide (b < W.heap.size)) true ts vs ds ps
 | [], [], [], _, _, h, _ => h
 | t :: ts, v :: vs, d :: ds, _, hT, ⟨p, q, h1, h2, e⟩, hs => by
  simp only [List.all_cons, Bool.and_eq_true, decide_eq_true_eq] at hT
  refine ⟨p, q, Below.trod hl hT.1.1 hT.1.2 h1 hb (fun x hx => hs x (by rw [e]; exact List.mem_append_left _ hx)), trod_below hl hb hT.2 h2 (fun x hx => hs x (by rw [e]; exact List.mem_append_right _ hx)), e⟩

variable {base : Nat}
theorem law_post_any {P : Program} (hl : laidOutB P = true) {B : TypeId} (hB : P.underlying B = some .bool) {H : Type} {enc : TypeId × Value → H} {f : Func} {s : ChangeSpec} {W W' : World} {args : Array Value} {ds gs : List (DataW H)} {before : List MemPlace}
  (hW : DataW.Whole enc P f.params.toList s.vars false W args.toList ds gs before) (hv : s.vars = [])
  (hs : (s.fn H ds).results = [.lit (.bool true)] ∧ (s.fn H ds).args = ds ∧ (s.fn H ds).vars = [])
  (hr : f.resultTypes = #[B]) (hT : (f.params.toList.all fun t => P.readableRec t && decide (t < P.types.size)) = true)
  (hb : Below W.heap.size W W') : s.post enc P f false true false false W args (.bool true) W' := by
 have hlt : ∀ p ∈ before, p.block < W.heap.size := fun p hp => by simpa using hW.lt p hp
 have hW' := hW
 obtain ⟨p, q, hA, hV, rfl, hfz, hnd⟩ := hW'
 rw [hv] at hV
 obtain ⟨rfl, rfl⟩ := trodVars_none hV
 have ha := trod_below hl hb hT hA (fun x hx => hlt x (List.mem_append_left _ hx))
 refine ⟨ds, [], p ++ [], [], p, [], hW, ?_, ?_, ?_, hb.frame _, fun h => by cases h⟩
 ·rw [List.append_nil, hr, hs.1]
  exact trodAll_cons_mk (shut_bool hB _) trodAll_mk0
 ·rw [List.append_nil, hs.2.1]
  exact ha
 ·rw [List.append_nil, hv, hs.2.2]
  rfl

def IntsAt (k : IntKind) (w : World) (v : Value) (zs : List Int) : Prop :=
 ∃ (a : Option Addr) (cap : Nat), v = .slice a zs.length cap ∧ zs.length ≤ cap ∧ cap ≤ 9223372036854775807 ∧ (∀ z ∈ zs, (Lit.int k z).wf = true) ∧
  (zs ≠ [] → ∃ b off, a = some ⟨b, off, none⟩ ∧ ∀ i, i < zs.length → w.cell? ⟨b, off + i, none⟩ = some (.int k (zs[i]?.getD 0)))

theorem open_ints_at {P : Program} {H : Type} {enc : TypeId × Value → H} {w : World} {t e : TypeId} {k : IntKind} {v : Value} {d : DataW H} {ps : List MemPlace} (ht : P.underlying t = some (.slice e)) (he : P.underlying e = some (.int k)) (hc : P.cellsOf e = 1)
  (hv : Value.okWide P w .any base t v) (h : DataW.Trod enc P w 0 (fun _ => true) true t v d ps) : ∃ zs, IntsAt k w v zs := by
 obtain ⟨a0, len, cap, rfl⟩ := okWide_slice ht hv
 obtain ⟨fuel, hf⟩ := h
 rcases open_ints ht he hc hf with ⟨hcs, hx⟩ | ⟨a, len', cap', zs, hcs, _, hl, hm, hz, hx, hcell, hwz⟩
 ·simp [Value.cells] at hcs
  obtain ⟨rfl, rfl, rfl⟩ := hcs
  exact ⟨[], none, 0, rfl, by simp, by simp, by simp, fun h => absurd rfl h⟩
 ·simp [Value.cells] at hcs
  obtain ⟨rfl, rfl, rfl⟩ := hcs
  simp at hz
  have hlen : (zs.take len).length = len := by simp; omega
  unfold maxLen at hm
  refine ⟨zs.take len, some a, cap, by rw [hlen], by omega, by omega, fun z hz => hwz z (List.mem_of_mem_take hz), fun hne => ?_⟩
  have hpos : 0 < zs.length := by
   cases zs with
   | nil => simp at hne
   | cons _ _ => simp
  obtain ⟨b, off, rfl, hc⟩ := ints_at hcell hpos
  refine ⟨b, off, rfl, fun i hi => ?_⟩
  rw [hlen] at hi
  rw [hc i (by omega), List.getElem?_take_of_lt hi, List.getD_eq_getElem?_getD]

end Go.Proofs.YtknnhnefbbjcdaaDoor

namespace Go.Proofs.YtknnhnefbbjcdaaDoor
open Go.ChangeShapes Go.WideShapes Go.ChangeAt Go.RowKit
set_option linter.unusedVariables false
set_option linter.unusedSimpArgs false

section
variable {P : Program} {H : Type} {enc : TypeId × Value → H} {w : World} {t e : TypeId} {cs : List Value}

def Rd (enc : TypeId × Value → H) (P : Program) (w : World) (t : TypeId) (cs : List Value) : Prop := ∃ fuel x, DataW.trod enc P w 0 (fun _ => true) true fuel t cs = some x

theorem rd_of {v : Value} {d : DataW H} {ps : List MemPlace} (h : DataW.Trod enc P w 0 (fun _ => true) true t v d ps) : Rd enc P w t v.cells.toList :=
 let ⟨n, hn⟩ := h
 ⟨n, _, hn⟩

theorem rd_int {k : IntKind} (ht : P.underlying t = some (.int k)) (h : Rd enc P w t cs) : ∃ n, cs = [.int k n] ∧ (Lit.int k n).wf = true := by
 obtain ⟨fuel, x, h⟩ := h
 cases fuel with
 | zero => simp [DataW.trod] at h
 | succ n =>
  unfold DataW.trod at h
  rw [ht] at h
  split at h <;> simp_all

theorem rd_bool (ht : P.underlying t = some .bool) (h : Rd enc P w t cs) : ∃ b, cs = [.bool b] := by
 obtain ⟨fuel, x, h⟩ := h
 cases fuel with
 | zero => simp [DataW.trod] at h
 | succ n =>
  unfold DataW.trod at h
  rw [ht] at h
  split at h <;> simp_all

theorem rd_string (ht : P.underlying t = some .string) (h : Rd enc P w t cs) : ∃ s : ByteArray, cs = [.string s] ∧ s.size ≤ maxLen := by
 obtain ⟨fuel, x, h⟩ := h
 cases fuel with
 | zero => simp [DataW.trod] at h
 | succ n =>
  unfold DataW.trod at h
  rw [ht] at h
  split at h <;> simp_all

theorem rd_struct {fs : Array Field} (ht : P.underlying t = some (.struct fs)) (h : Rd enc P w t cs) :
  cs.length = P.cellsOf t ∧ ∀ (i : Nat) (f : Field), fs[i]? = some f → Rd enc P w f.type ((cs.drop f.offset).take (P.cellsOf f.type)) := by
 obtain ⟨fuel, x, h⟩ := h
 obtain ⟨xs, n, _, _, hl, hs, hg⟩ := DataW.trod_struct ht h
 refine ⟨hl, fun i f hf => ?_⟩
 have hi : i < xs.length := by
  rw [hs]
  exact (Array.getElem?_eq_some_iff.1 hf).1
 exact ⟨n, xs[i], by rw [hg i f hf, List.getElem?_eq_getElem hi]⟩

theorem rd_slice (ht : P.underlying t = some (.slice e)) (h : Rd enc P w t cs) :
  cs = [.slice none 0 0] ∨ ∃ (a : Addr) (len cap : Nat), cs = [.slice (some a) len cap] ∧ len ≤ cap ∧ cap ≤ maxLen ∧
   ∀ i, i < len → ∃ cs', w.cells? 0 (a.add (i * P.cellsOf e)) (P.cellsOf e) = some cs' ∧ Rd enc P w e cs' := by
 obtain ⟨fuel, x, h⟩ := h
 rcases DataW.trod_slice ht h with h0 | ⟨a, len, cap, elems, rest, n, _, rfl, rfl, hb, hl, hm, hlen, hel, hsp, hns⟩
 ·exact .inl h0.1
 ·refine .inr ⟨a, len, cap, rfl, hl, hm, fun i hi => ?_⟩
  have h1 := hel i hi
  have h2 : i < elems.length := by omega
  rw [List.getElem?_eq_getElem h2] at h1
  cases hc : w.cells? 0 (a.add (i * P.cellsOf e)) (P.cellsOf e) with
  | none => rw [hc] at h1; simp at h1
  | some cs' => rw [hc] at h1; exact ⟨cs', rfl, n, _, by simpa using h1⟩

end

theorem rd_agg {P : Program} {H : Type} {enc : TypeId × Value → H} {w : World} {t : TypeId} {fs : Array Field} {base : Nat} {v : Value} {d : DataW H} {ps : List MemPlace} (hs : P.underlying t = some (.struct fs))
  (hv : Value.okWide P w .any base t v) (h : DataW.Trod enc P w 0 (fun _ => true) true t v d ps) : ∃ cs : List Value, v = .agg cs.toArray ∧ Rd enc P w t cs := by
 obtain ⟨cs, rfl, hsz⟩ := okWide_struct hs hv
 exact ⟨cs.toList, by simp, by simpa [Value.cells] using rd_of h⟩

theorem array_list {α : Type} (a : Array α) (n : Nat) (h : a.size = n) : ∃ l : List α, l.length = n ∧ a = l.toArray := ⟨a.toList, by simpa using h, by simp⟩
theorem list_1 {α : Type} (l : List α) (h : l.length = 1) : ∃ a, l = [a] := by match l, h with | [a], _ => exact ⟨a, rfl⟩
theorem list_2 {α : Type} (l : List α) (h : l.length = 2) : ∃ a b, l = [a, b] := by match l, h with | [a, b], _ => exact ⟨a, b, rfl⟩
theorem list_3 {α : Type} (l : List α) (h : l.length = 3) : ∃ a b c, l = [a, b, c] := by match l, h with | [a, b, c], _ => exact ⟨a, b, c, rfl⟩
theorem list_4 {α : Type} (l : List α) (h : l.length = 4) : ∃ a b c d, l = [a, b, c, d] := by match l, h with | [a, b, c, d], _ => exact ⟨a, b, c, d, rfl⟩
theorem list_5 {α : Type} (l : List α) (h : l.length = 5) : ∃ a b c d e, l = [a, b, c, d, e] := by match l, h with | [a, b, c, d, e], _ => exact ⟨a, b, c, d, e, rfl⟩
theorem list_6 {α : Type} (l : List α) (h : l.length = 6) : ∃ a b c d e f, l = [a, b, c, d, e, f] := by match l, h with | [a, b, c, d, e, f], _ => exact ⟨a, b, c, d, e, f, rfl⟩
theorem list_7 {α : Type} (l : List α) (h : l.length = 7) : ∃ a b c d e f g, l = [a, b, c, d, e, f, g] := by match l, h with | [a, b, c, d, e, f, g], _ => exact ⟨a, b, c, d, e, f, g, rfl⟩

end Go.Proofs.YtknnhnefbbjcdaaDoor

namespace Go.Proofs.YtknnhnefbbjcdaaDoor
open Go.ChangeShapes Go.WideShapes Go.ChangeAt Go.RowKit
set_option linter.unusedVariables false
set_option linter.unusedSimpArgs false

def SliceAt {α : Type} (n : Nat) (f : α → List Value) (good : α → Prop) (w : World) (v : Value) (xs : List α) : Prop :=
 ∃ (a : Option Addr) (cap : Nat), v = .slice a xs.length cap ∧ xs.length ≤ cap ∧ cap ≤ 9223372036854775807 ∧ (∀ x ∈ xs, good x) ∧
  (xs ≠ [] → ∃ b off, a = some ⟨b, off, none⟩ ∧ b < w.heap.size ∧ ∀ (i : Nat) (x : α), xs[i]? = some x → ∀ j, j < n → w.cell? ⟨b, off + i * n + j, none⟩ = (f x)[j]?)

theorem slice_pick {α : Type} (Q : Nat → α → Prop) (len : Nat) (h : ∀ i, i < len → ∃ x, Q i x) : ∃ xs : List α, xs.length = len ∧ ∀ i x, xs[i]? = some x → Q i x := by
 induction len with
 | zero => exact ⟨[], rfl, fun i x hx => by simp at hx⟩
 | succ m ih =>
  obtain ⟨xs, hl, hx⟩ := ih (fun i hi => h i (by omega))
  obtain ⟨y, hy⟩ := h m (by omega)
  refine ⟨xs ++ [y], by simp [hl], fun i x hi => ?_⟩
  by_cases c : i < xs.length
  ·rw [List.getElem?_append_left c] at hi
   exact hx i x hi
  ·rw [List.getElem?_append_right (by omega)] at hi
   have hi0 : i - xs.length = 0 := by
    by_cases z : i - xs.length = 0
    ·exact z
    ·rw [List.getElem?_eq_none (by simp; omega)] at hi
     cases hi
   rw [hi0] at hi
   simp at hi
   subst hi
   have : i = m := by omega
   subst this
   exact hy

theorem rd_slice_at {α : Type} {P : Program} {H : Type} {enc : TypeId × Value → H} {w : World} {t e : TypeId} {n : Nat} (f : α → List Value) (good : α → Prop) {v : Value}
  (ht : P.underlying t = some (.slice e)) (hn : P.cellsOf e = n) (h0 : 0 < n) (hr : ∀ cs, Rd enc P w e cs → ∃ x, cs = f x ∧ good x) (h : Rd enc P w t [v]) : ∃ xs, SliceAt n f good w v xs := by
 rcases rd_slice ht h with h1 | ⟨a, len, cap, h1, hl, hm, hc⟩
 ·simp only [List.cons.injEq, and_true] at h1
  subst h1
  exact ⟨[], none, 0, rfl, by simp, by simp, by simp, fun h => absurd rfl h⟩
 ·simp only [List.cons.injEq, and_true] at h1
  subst h1
  rw [hn] at hc
  obtain ⟨xs, hlen, hx⟩ := slice_pick (fun i x => good x ∧ w.cells? 0 (a.add (i * n)) n = some (f x)) len (fun i hi => by
   obtain ⟨cs, h2, h3⟩ := hc i hi
   obtain ⟨x, rfl, hg⟩ := hr cs h3
   exact ⟨x, hg, h2⟩)
  unfold maxLen at hm
  refine ⟨xs, some a, cap, by rw [hlen], by omega, by omega, fun x hm => ?_, fun hne => ?_⟩
  ·obtain ⟨i, hi⟩ := List.getElem?_of_mem hm
   exact (hx i x hi).1
  ·obtain ⟨x0, hx0⟩ : ∃ x, xs[0]? = some x := by
    cases xs with
    | nil => exact absurd rfl hne
    | cons y _ => exact ⟨y, rfl⟩
   have hcell := fun (i : Nat) (x : α) (hi : xs[i]? = some x) => (World.cells?_some (hx i x hi).2).2
   obtain ⟨b, off, spot⟩ := a
   have h00 := (hcell 0 x0 hx0).2 0 h0
   have hl0 := (hcell 0 x0 hx0).1
   rw [List.getElem?_eq_getElem (by omega)] at h00
   have hspot : spot = none := by simpa [Addr.add] using World.cell?_spot h00
   subst hspot
   refine ⟨b, off, rfl, by simpa [Addr.add] using World.block_lt_of_cell? _ _ h00, fun i x hi j hj => ?_⟩
   have := (hcell i x hi).2 j hj
   rw [add_plain, add_plain] at this
   exact this

end Go.Proofs.YtknnhnefbbjcdaaDoor
