/- Merged: The frame that all laws share: a call that answers true and leaves all memory as it was meets its row. Small lemmas that all my walks use: minimum and maximum in the walk's spelling; what 'Below' gives. Regions that draw their order, whose callees may make memory of their own but leave what was there as it was: one walk in the text's order serves every order. A region that draws its order: first what only reads or calls quietly (the callees may make memory of their own), in whatever order; behind all of it, in one order, the rest (a store, say). A region that draws its order: what only reads or calls (the callees may make memory of their own), and ONE new variable that is made somewhere in between; behind all of it, in one order, the rest (the store into the new variable). Layer 16: the table of the standard blocks; the block of a kind, the kind of a name. Layer 16: the block of a kind, the kind of a name. Small lemmas for appends to a row of the call's own: what stays beside it. Rows of cells as they lie behind a slice value, whatever its address; appends of such a row to a row of the call's own. -/
import Derived.Test.YtahjijdadifkaaaDoorRows
import Derived.WalkKit
import Derived.ProofKit
import Derived.OpenShut
import Derived.WalkSpells
import Derived.WalkLawsBesides
import Derived.Lib.Hide
import Derived.Deep.QuietTactic
import Derived.BigQuiet
import Derived.Deep.RegionWith
import Derived.Deep.DeepFit
import Derived.Deep.DeepMust
import Derived.StillTail
import Derived.Deep.AppendLies
import Derived.Deep.DeepCutAuto
import Derived.OneCell
import Derived.Maps.AppendAt
import Derived.Lib.AppendZeros
set_option linter.unusedVariables false
set_option linter.unusedSimpArgs false
set_option maxHeartbeats 2000000
namespace Go.Proofs.YtahjijdadifkaaaDoor
open Go.ChangeShapes Go.WideShapes Go.ChangeAt Go.RowKit

theorem own : ownKnob Tryd.prog.godebug = none := by kernel_rfl
theorem laid_out : laidOutB Tryd.prog = true := by kernel_rfl

theorem trod_below {P : Program} (hl : laidOutB P = true) {H : Type} {enc : TypeId × Value → H} {W W' : World} (hb : Below W.heap.size W W') :
  ∀ {ts : List TypeId} {vs : List Value} {ds : List (DataW H)} {ps : List MemPlace}, (ts.all fun t => P.readableRec t && decide (t < P.types.size)) = true →
   DataW.TrodAll enc P W 0 (fun _ => true) true ts vs ds ps → (∀ x ∈ ps, x.block < W.heap.size) →
   DataW.TrodAll enc P W' 0 (fun b => decide (b < W.heap.size)) true ts vs ds ps
 | [], [], [], _, _, h, _ => h
 | t :: ts, v :: vs, d :: ds, _, hT, ⟨p, q, h1, h2, e⟩, hs => by
  simp only [List.all_cons, Bool.and_eq_true, decide_eq_true_eq] at hT
  refine ⟨p, q, Below.trod hl hT.1.1 hT.1.2 h1 hb (fun x hx => hs x (by rw [e]; exact List.mem_append_left _ hx)), trod_below hl hb hT.2 h2 (fun x hx => hs x (by rw [e]; exact List.mem_append_right _ hx)), e⟩

variable {base : Nat}
theorem law_post_any {P : Program} (hl : laidOutB P = true) {B : TypeId} (hB : P.underlying B = some .bool) {H : Type} {enc : TypeId × Value → H} {f : Func} {s : ChangeSpec} {W W' : World} {args : Array Value} {ds gs : List (DataW H)} {before : List MemPlace}
  (hW : DataW.Whole enc P f.params.toList s.vars false W args.toList ds gs before) (hv : s.vars = [])
  (hs : (s.fn H ds).results = [.lit (.bool true)] ∧ (s.fn H ds).args = ds ∧ (s.fn H ds).vars = [])
  (hr : f.resultTypes = #[B]) (hT : (f.params.toList.all fun t => P.readableRec t && decide (t < P.types.size)) = true)
  (hb : Below W.heap.size W W') : s.post enc P f false true false false W args (.bool true) W' := by
 have hlt : ∀ p ∈ before, p.block < W.heap.size := fun p hp => by simpa using hW.lt p hp
 have hW' := hW
 obtain ⟨p, q, hA, hV, rfl, hfz, hnd⟩ := hW'
 rw [hv] at hV
 obtain ⟨rfl, rfl⟩ := trodVars_none hV
 have ha := trod_below hl hb hT hA (fun x hx => hlt x (List.mem_append_left _ hx))
 refine ⟨ds, [], p ++ [], [], p, [], hW, ?_, ?_, ?_, hb.frame _, fun h => by cases h⟩
 ·rw [List.append_nil, hr, hs.1]
  exact trodAll_cons_mk (shut_bool hB _) trodAll_mk0
 ·rw [List.append_nil, hs.2.1]
  exact ha
 ·rw [List.append_nil, hv, hs.2.2]
  rfl

end Go.Proofs.YtahjijdadifkaaaDoor

namespace Go.Proofs.YtahjijdadifkaaaDoor
open Go.RowKit

theorem ite_max (a b : Int) : (if a < b then b else a) = max a b := by
 rw [Int.max_def]; split <;> split <;> omega
theorem ite_min (a b : Int) : (if a < b then a else b) = min a b := by
 rw [Int.min_def]; split <;> split <;> omega
theorem vite_max (k : IntKind) (a b : Int) : (if a < b then Value.int k b else Value.int k a) = Value.int k (max a b) := by
 rw [← ite_max]; split <;> rfl
theorem vite_min (k : IntKind) (a b : Int) : (if a < b then Value.int k a else Value.int k b) = Value.int k (min a b) := by
 rw [← ite_min]; split <;> rfl

theorem bcell {W w1 : World} (hb : Below W.heap.size W w1) : (∀ b o, b < W.heap.size → w1.cell? ⟨b, o, none⟩ = W.cell? ⟨b, o, none⟩) ∧ (∀ b o, b < W.heap.size → w1.frozen? ⟨b, o, none⟩ = W.frozen? ⟨b, o, none⟩) :=
 ⟨fun b o h => hb.cell (p := ⟨b, o, none⟩) h, fun b o h => hb.frozen (p := ⟨b, o, none⟩) h⟩
theorem below_go {B : Nat} {w W w1 : World} (h1 : Below B w W) (hb : Below W.heap.size W w1) (hB : B ≤ w.heap.size) : Below B w w1 := h1.trans (hb.mono (Nat.le_trans hB h1.size))
theorem below_new {B : Nat} {w W : World} (h1 : Below B w W) (hB : B ≤ w.heap.size) (o : Obj) : Below B w (W.alloc o) := h1.alloc (Nat.le_trans hB h1.size) o
theorem below_lt {b : Nat} {W w1 : World} (hb : Below W.heap.size W w1) (h : b < W.heap.size) : b < w1.heap.size := Nat.lt_of_lt_of_le h hb.size
theorem below_drewN {B : Nat} {a w : World} (h : Below B a w) (n : Nat) : Below B a (w.drewN n) := h.trans ⟨rfl, rfl, rfl, Nat.le_refl _, fun _ _ => rfl⟩
theorem belowBy {p : Prop} (h : p := by (repeat' (first | with_reducible (first | exact Below.refl _ _ | assumption | refine below_drewN ?_ _ | refine Below.drew ?_ | refine below_new ?_ (Nat.le_refl _) _ | refine Below.setCell ?_ ?_ _ | refine below_go ?_ (by assumption) (Nat.le_refl _)) | (simp; done) | (simp; omega) | omega))) : p := h
theorem sideBy {p : Prop} (h : p := by first | (simp; done) | (simp; omega) | (simp at *; omega) | omega) : p := h
theorem ly : (∀ (a : Act) (t : Tmp) (v : Value), a.put (some t) v = { a with tmps := a.tmps.setIfInBounds t v }) ∧ (∀ (a : Act) (v : Value), a.put none v = a) ∧ (∀ (l : List Value) (i : Nat) (v : Value), l.toArray.setIfInBounds i v = (l.set i v).toArray) ∧ (∀ (x v : Value) (l : List Value), (x :: l).set 0 v = v :: l) ∧ ∀ (x v : Value) (l : List Value) (n : Nat), (x :: l).set (n + 1) v = x :: l.set n v :=
 ⟨fun _ _ _ => rfl, fun _ _ => rfl, fun _ _ _ => by simp only [List.setIfInBounds_toArray], fun _ _ _ => rfl, fun _ _ _ _ => rfl⟩

theorem quiet_left {P : Program} {f : FuncId} {args : Array Value} {w : World} {n : Nat} {v : Value}
  (h : Calls P f args (w.drewN n) fun e w' => e = .returned v ∧ w.drewN n = w') : Calls P f args (w.drewN n) fun e w'' => e = .returned v ∧ ∃ m, w'' = w.drewN m :=
 h.mono fun _ _ ⟨he, hm⟩ => ⟨he, n, hm.symm⟩

structure Ext (W : World) where
 w : World
 h : Below W.heap.size W w
def ext (W : World) (x : Ext W) : World := x.1
instance ext_some (W : World) : Nonempty (Ext W) := ⟨⟨W, Below.refl _ _⟩⟩
theorem ext_cell (W : World) (x : Ext W) (b o : Nat) (h : b < W.heap.size) : (ext W x).cell? ⟨b, o, none⟩ = W.cell? ⟨b, o, none⟩ := x.2.cell (p := ⟨b, o, none⟩) h
theorem ext_frozen (W : World) (x : Ext W) (b o : Nat) (h : b < W.heap.size) : (ext W x).frozen? ⟨b, o, none⟩ = W.frozen? ⟨b, o, none⟩ := x.2.frozen (p := ⟨b, o, none⟩) h
theorem ext_below {W w' : World} (h : ∃ x, w' = ext W x) : Below W.heap.size W w' := by
 obtain ⟨x, rfl⟩ := h
 exact x.2

theorem wp_region_ext {P : Program} {id : Nat} {Q : Exit → Act → World → Prop} {a : Act} {w : World} {l : List Oper} (hm : P.follows .mixedOrders = true) (hB : Region.lexB .any l.toArray = true)
  (h : wpQuiet P l.toArray (fun w' => ∃ x, w' = ext w x) (fun a' => ∀ w', (∃ x, w' = ext w x) → Q .normal a' w') l a) : (Code.region id l.toArray true).wp P Q a w :=
 wp_region_quiet (C := fun w' => ∃ x, w' = ext w x) hm hB ⟨⟨w.drew, (Below.refl _ _).drew⟩, rfl⟩ (by simpa using h)

theorem wp_name {P : Program} {c : Code} {Q : Exit → Act → World → Prop} {a : Act} {w : World} (h : ∀ W, Hid (W = w) → c.wp P Q a W) : c.wp P Q a w := h w rfl


section
variable {P : Program} {ops : Array Oper} {C : World → Prop} {n : Nat}

end


def Keeps (S : World → Prop) : Prop := ∀ w w', S w → Below w.heap.size w w' → S w'
structure ExtS (W : World) (S : World → Prop) where
 w : World
 h : Below W.heap.size W w
 s : S w
def extS {W : World} {S : World → Prop} (x : ExtS W S) : World := x.1
def CS (W : World) (S : World → Prop) (w' : World) : Prop := ∃ x : ExtS W S, w' = extS x
theorem extS_cell {W : World} {S : World → Prop} (x : ExtS W S) (b o : Nat) (h : b < W.heap.size) : (extS x).cell? ⟨b, o, none⟩ = W.cell? ⟨b, o, none⟩ := x.2.cell (p := ⟨b, o, none⟩) h
theorem extS_frozen {W : World} {S : World → Prop} (x : ExtS W S) (b o : Nat) (h : b < W.heap.size) : (extS x).frozen? ⟨b, o, none⟩ = W.frozen? ⟨b, o, none⟩ := x.2.frozen (p := ⟨b, o, none⟩) h
section
variable {P : Program} {ops : Array Oper} {C : World → Prop}

def dstOf (ops : Array Oper) (i : Nat) : Option Tmp := (ops[i]?).bind (·.dst)
theorem put_other {a : Act} {x : Option Tmp} {d : Tmp} {v : Value} (h : x ≠ some d) : (a.put x v).tmps[d]? = a.tmps[d]? := by
 cases x with
 | none => rfl
 | some e =>
  have : e ≠ d := fun he => h (by rw [he])
  simp [Act.put, Array.getElem?_setIfInBounds, this]

end

theorem heap_cell {w : World} {p : Nat} {vs : Array Value} {T : TypeId} (i : Nat) (v : Value) (h : w.heap[p]? = some (.cells vs T)) (hv : vs[i]? = some v) : w.cell? ⟨p, i, none⟩ = some v := by
 unfold World.cell?
 simp [h, hv]
theorem heap_free {w : World} {p : Nat} {vs : Array Value} {T : TypeId} (i : Nat) (h : w.heap[p]? = some (.cells vs T)) : w.frozen? ⟨p, i, none⟩ = false := by
 unfold World.frozen?
 simp [h]

end Go.Proofs.YtahjijdadifkaaaDoor

namespace Go.Proofs.YtahjijdadifkaaaDoor
open Go.RowKit
attribute [local go_sem] ite_max ite_min vite_max vite_min ext_cell ext_frozen

structure Sh where
 kind : Int
 name : ByteArray
 inp : ByteArray
 out : ByteArray
 inner : Int
def Sh.cells (s : Sh) : List Value := [.int .i64 s.kind, .string s.name, .string s.inp, .string s.out, .int .i64 s.inner]
def shL : List Sh := [⟨10, ⟨#[84, 79, 78]⟩, ⟨#[73, 78, 32, 80, 84, 35]⟩, ⟨#[81, 32, 69, 84, 35]⟩, 0⟩,
 ⟨11, ⟨#[84, 79, 70]⟩, ⟨#[73, 78, 32, 80, 84, 35]⟩, ⟨#[81, 32, 69, 84, 35]⟩, 0⟩,
 ⟨12, ⟨#[84, 80]⟩, ⟨#[73, 78, 32, 80, 84, 35]⟩, ⟨#[81, 32, 69, 84, 35]⟩, 2⟩,
 ⟨13, ⟨#[67, 84, 85]⟩, ⟨#[67, 85, 32, 82, 32, 80, 86, 35]⟩, ⟨#[81, 32, 67, 86, 35]⟩, 1⟩,
 ⟨14, ⟨#[67, 84, 68]⟩, ⟨#[67, 68, 32, 76, 68, 32, 80, 86, 35]⟩, ⟨#[81, 32, 67, 86, 35]⟩, 1⟩,
 ⟨15, ⟨#[82, 95, 84, 82, 73, 71]⟩, ⟨#[67, 76, 75]⟩, ⟨#[81]⟩, 1⟩,
 ⟨16, ⟨#[70, 95, 84, 82, 73, 71]⟩, ⟨#[67, 76, 75]⟩, ⟨#[81]⟩, 1⟩,
 ⟨17, ⟨#[83, 82]⟩, ⟨#[83, 49, 32, 82]⟩, ⟨#[81, 49]⟩, 0⟩,
 ⟨18, ⟨#[82, 83]⟩, ⟨#[83, 32, 82, 49]⟩, ⟨#[81, 49]⟩, 0⟩,
 ⟨20, ⟨#[77, 67, 95, 80, 111, 119, 101, 114]⟩, ⟨#[65, 120, 105, 115, 35, 32, 69, 110, 97, 98, 108, 101]⟩, ⟨#[83, 116, 97, 116, 117, 115, 32, 69, 114, 114, 111, 114]⟩, 0⟩,
 ⟨21, ⟨#[77, 67, 95, 72, 111, 109, 101]⟩, ⟨#[65, 120, 105, 115, 35, 32, 69, 120, 101, 99, 117, 116, 101]⟩, ⟨#[68, 111, 110, 101, 32, 66, 117, 115, 121, 32, 65, 99, 116, 105, 118, 101, 32, 67, 111, 109, 109, 97, 110, 100, 65, 98, 111, 114, 116, 101, 100, 32, 69, 114, 114, 111, 114]⟩, 2⟩,
 ⟨22, ⟨#[77, 67, 95, 83, 116, 111, 112]⟩, ⟨#[65, 120, 105, 115, 35, 32, 69, 120, 101, 99, 117, 116, 101]⟩, ⟨#[68, 111, 110, 101, 32, 66, 117, 115, 121, 32, 65, 99, 116, 105, 118, 101, 32, 67, 111, 109, 109, 97, 110, 100, 65, 98, 111, 114, 116, 101, 100, 32, 69, 114, 114, 111, 114]⟩, 2⟩,
 ⟨23, ⟨#[77, 67, 95, 72, 97, 108, 116]⟩, ⟨#[65, 120, 105, 115, 35, 32, 69, 120, 101, 99, 117, 116, 101]⟩, ⟨#[68, 111, 110, 101, 32, 66, 117, 115, 121, 32, 65, 99, 116, 105, 118, 101, 32, 67, 111, 109, 109, 97, 110, 100, 65, 98, 111, 114, 116, 101, 100, 32, 69, 114, 114, 111, 114]⟩, 2⟩,
 ⟨24, ⟨#[77, 67, 95, 77, 111, 118, 101, 65, 98, 115, 111, 108, 117, 116, 101]⟩, ⟨#[65, 120, 105, 115, 35, 32, 69, 120, 101, 99, 117, 116, 101, 32, 80, 111, 115, 105, 116, 105, 111, 110, 35, 32, 86, 101, 108, 111, 99, 105, 116, 121, 35, 32, 66, 117, 102, 102, 101, 114, 77, 111, 100, 101, 35]⟩, ⟨#[68, 111, 110, 101, 32, 66, 117, 115, 121, 32, 65, 99, 116, 105, 118, 101, 32, 67, 111, 109, 109, 97, 110, 100, 65, 98, 111, 114, 116, 101, 100, 32, 69, 114, 114, 111, 114]⟩, 2⟩,
 ⟨25, ⟨#[77, 67, 95, 77, 111, 118, 101, 82, 101, 108, 97, 116, 105, 118, 101]⟩, ⟨#[65, 120, 105, 115, 35, 32, 69, 120, 101, 99, 117, 116, 101, 32, 68, 105, 115, 116, 97, 110, 99, 101, 35, 32, 86, 101, 108, 111, 99, 105, 116, 121, 35, 32, 66, 117, 102, 102, 101, 114, 77, 111, 100, 101, 35]⟩, ⟨#[68, 111, 110, 101, 32, 66, 117, 115, 121, 32, 65, 99, 116, 105, 118, 101, 32, 67, 111, 109, 109, 97, 110, 100, 65, 98, 111, 114, 116, 101, 100, 32, 69, 114, 114, 111, 114]⟩, 2⟩,
 ⟨26, ⟨#[77, 67, 95, 77, 111, 118, 101, 65, 100, 100, 105, 116, 105, 118, 101]⟩, ⟨#[65, 120, 105, 115, 35, 32, 69, 120, 101, 99, 117, 116, 101, 32, 68, 105, 115, 116, 97, 110, 99, 101, 35, 32, 86, 101, 108, 111, 99, 105, 116, 121, 35, 32, 66, 117, 102, 102, 101, 114, 77, 111, 100, 101, 35]⟩, ⟨#[68, 111, 110, 101, 32, 66, 117, 115, 121, 32, 65, 99, 116, 105, 118, 101, 32, 67, 111, 109, 109, 97, 110, 100, 65, 98, 111, 114, 116, 101, 100, 32, 69, 114, 114, 111, 114]⟩, 2⟩,
 ⟨27, ⟨#[77, 67, 95, 77, 111, 118, 101, 86, 101, 108, 111, 99, 105, 116, 121]⟩, ⟨#[65, 120, 105, 115, 35, 32, 69, 120, 101, 99, 117, 116, 101, 32, 86, 101, 108, 111, 99, 105, 116, 121, 35]⟩, ⟨#[73, 110, 86, 101, 108, 111, 99, 105, 116, 121, 32, 66, 117, 115, 121, 32, 65, 99, 116, 105, 118, 101, 32, 67, 111, 109, 109, 97, 110, 100, 65, 98, 111, 114, 116, 101, 100, 32, 69, 114, 114, 111, 114]⟩, 2⟩,
 ⟨28, ⟨#[77, 67, 95, 71, 101, 97, 114, 73, 110]⟩, ⟨#[65, 120, 105, 115, 35, 32, 69, 120, 101, 99, 117, 116, 101, 32, 77, 97, 115, 116, 101, 114, 35, 32, 78, 117, 109, 101, 114, 97, 116, 111, 114, 35, 32, 68, 101, 110, 111, 109, 105, 110, 97, 116, 111, 114, 35]⟩, ⟨#[73, 110, 71, 101, 97, 114, 32, 66, 117, 115, 121, 32, 65, 99, 116, 105, 118, 101, 32, 67, 111, 109, 109, 97, 110, 100, 65, 98, 111, 114, 116, 101, 100, 32, 69, 114, 114, 111, 114]⟩, 2⟩,
 ⟨29, ⟨#[77, 67, 95, 82, 101, 115, 101, 116]⟩, ⟨#[65, 120, 105, 115, 35, 32, 69, 120, 101, 99, 117, 116, 101]⟩, ⟨#[68, 111, 110, 101, 32, 69, 114, 114, 111, 114]⟩, 1⟩,
 ⟨30, ⟨#[77, 67, 95, 83, 101, 116, 80, 111, 115, 105, 116, 105, 111, 110]⟩, ⟨#[65, 120, 105, 115, 35, 32, 69, 120, 101, 99, 117, 116, 101, 32, 80, 111, 115, 105, 116, 105, 111, 110, 35]⟩, ⟨#[68, 111, 110, 101, 32, 69, 114, 114, 111, 114]⟩, 1⟩,
 ⟨31, ⟨#[77, 67, 95, 83, 101, 116, 79, 118, 101, 114, 114, 105, 100, 101]⟩, ⟨#[65, 120, 105, 115, 35, 32, 69, 110, 97, 98, 108, 101, 32, 80, 101, 114, 99, 101, 110, 116, 35]⟩, ⟨#[69, 110, 97, 98, 108, 101, 100]⟩, 0⟩]
def shC : List Value := [.int .i64 10, .string ⟨#[84, 79, 78]⟩, .string ⟨#[73, 78, 32, 80, 84, 35]⟩, .string ⟨#[81, 32, 69, 84, 35]⟩, .int .i64 0,
 .int .i64 11, .string ⟨#[84, 79, 70]⟩, .string ⟨#[73, 78, 32, 80, 84, 35]⟩, .string ⟨#[81, 32, 69, 84, 35]⟩, .int .i64 0,
 .int .i64 12, .string ⟨#[84, 80]⟩, .string ⟨#[73, 78, 32, 80, 84, 35]⟩, .string ⟨#[81, 32, 69, 84, 35]⟩, .int .i64 2,
 .int .i64 13, .string ⟨#[67, 84, 85]⟩, .string ⟨#[67, 85, 32, 82, 32, 80, 86, 35]⟩, .string ⟨#[81, 32, 67, 86, 35]⟩, .int .i64 1,
 .int .i64 14, .string ⟨#[67, 84, 68]⟩, .string ⟨#[67, 68, 32, 76, 68, 32, 80, 86, 35]⟩, .string ⟨#[81, 32, 67, 86, 35]⟩, .int .i64 1,
 .int .i64 15, .string ⟨#[82, 95, 84, 82, 73, 71]⟩, .string ⟨#[67, 76, 75]⟩, .string ⟨#[81]⟩, .int .i64 1,
 .int .i64 16, .string ⟨#[70, 95, 84, 82, 73, 71]⟩, .string ⟨#[67, 76, 75]⟩, .string ⟨#[81]⟩, .int .i64 1,
 .int .i64 17, .string ⟨#[83, 82]⟩, .string ⟨#[83, 49, 32, 82]⟩, .string ⟨#[81, 49]⟩, .int .i64 0,
 .int .i64 18, .string ⟨#[82, 83]⟩, .string ⟨#[83, 32, 82, 49]⟩, .string ⟨#[81, 49]⟩, .int .i64 0,
 .int .i64 20, .string ⟨#[77, 67, 95, 80, 111, 119, 101, 114]⟩, .string ⟨#[65, 120, 105, 115, 35, 32, 69, 110, 97, 98, 108, 101]⟩, .string ⟨#[83, 116, 97, 116, 117, 115, 32, 69, 114, 114, 111, 114]⟩, .int .i64 0,
 .int .i64 21, .string ⟨#[77, 67, 95, 72, 111, 109, 101]⟩, .string ⟨#[65, 120, 105, 115, 35, 32, 69, 120, 101, 99, 117, 116, 101]⟩, .string ⟨#[68, 111, 110, 101, 32, 66, 117, 115, 121, 32, 65, 99, 116, 105, 118, 101, 32, 67, 111, 109, 109, 97, 110, 100, 65, 98, 111, 114, 116, 101, 100, 32, 69, 114, 114, 111, 114]⟩, .int .i64 2,
 .int .i64 22, .string ⟨#[77, 67, 95, 83, 116, 111, 112]⟩, .string ⟨#[65, 120, 105, 115, 35, 32, 69, 120, 101, 99, 117, 116, 101]⟩, .string ⟨#[68, 111, 110, 101, 32, 66, 117, 115, 121, 32, 65, 99, 116, 105, 118, 101, 32, 67, 111, 109, 109, 97, 110, 100, 65, 98, 111, 114, 116, 101, 100, 32, 69, 114, 114, 111, 114]⟩, .int .i64 2,
 .int .i64 23, .string ⟨#[77, 67, 95, 72, 97, 108, 116]⟩, .string ⟨#[65, 120, 105, 115, 35, 32, 69, 120, 101, 99, 117, 116, 101]⟩, .string ⟨#[68, 111, 110, 101, 32, 66, 117, 115, 121, 32, 65, 99, 116, 105, 118, 101, 32, 67, 111, 109, 109, 97, 110, 100, 65, 98, 111, 114, 116, 101, 100, 32, 69, 114, 114, 111, 114]⟩, .int .i64 2,
 .int .i64 24, .string ⟨#[77, 67, 95, 77, 111, 118, 101, 65, 98, 115, 111, 108, 117, 116, 101]⟩, .string ⟨#[65, 120, 105, 115, 35, 32, 69, 120, 101, 99, 117, 116, 101, 32, 80, 111, 115, 105, 116, 105, 111, 110, 35, 32, 86, 101, 108, 111, 99, 105, 116, 121, 35, 32, 66, 117, 102, 102, 101, 114, 77, 111, 100, 101, 35]⟩, .string ⟨#[68, 111, 110, 101, 32, 66, 117, 115, 121, 32, 65, 99, 116, 105, 118, 101, 32, 67, 111, 109, 109, 97, 110, 100, 65, 98, 111, 114, 116, 101, 100, 32, 69, 114, 114, 111, 114]⟩, .int .i64 2,
 .int .i64 25, .string ⟨#[77, 67, 95, 77, 111, 118, 101, 82, 101, 108, 97, 116, 105, 118, 101]⟩, .string ⟨#[65, 120, 105, 115, 35, 32, 69, 120, 101, 99, 117, 116, 101, 32, 68, 105, 115, 116, 97, 110, 99, 101, 35, 32, 86, 101, 108, 111, 99, 105, 116, 121, 35, 32, 66, 117, 102, 102, 101, 114, 77, 111, 100, 101, 35]⟩, .string ⟨#[68, 111, 110, 101, 32, 66, 117, 115, 121, 32, 65, 99, 116, 105, 118, 101, 32, 67, 111, 109, 109, 97, 110, 100, 65, 98, 111, 114, 116, 101, 100, 32, 69, 114, 114, 111, 114]⟩, .int .i64 2,
 .int .i64 26, .string ⟨#[77, 67, 95, 77, 111, 118, 101, 65, 100, 100, 105, 116, 105, 118, 101]⟩, .string ⟨#[65, 120, 105, 115, 35, 32, 69, 120, 101, 99, 117, 116, 101, 32, 68, 105, 115, 116, 97, 110, 99, 101, 35, 32, 86, 101, 108, 111, 99, 105, 116, 121, 35, 32, 66, 117, 102, 102, 101, 114, 77, 111, 100, 101, 35]⟩, .string ⟨#[68, 111, 110, 101, 32, 66, 117, 115, 121, 32, 65, 99, 116, 105, 118, 101, 32, 67, 111, 109, 109, 97, 110, 100, 65, 98, 111, 114, 116, 101, 100, 32, 69, 114, 114, 111, 114]⟩, .int .i64 2,
 .int .i64 27, .string ⟨#[77, 67, 95, 77, 111, 118, 101, 86, 101, 108, 111, 99, 105, 116, 121]⟩, .string ⟨#[65, 120, 105, 115, 35, 32, 69, 120, 101, 99, 117, 116, 101, 32, 86, 101, 108, 111, 99, 105, 116, 121, 35]⟩, .string ⟨#[73, 110, 86, 101, 108, 111, 99, 105, 116, 121, 32, 66, 117, 115, 121, 32, 65, 99, 116, 105, 118, 101, 32, 67, 111, 109, 109, 97, 110, 100, 65, 98, 111, 114, 116, 101, 100, 32, 69, 114, 114, 111, 114]⟩, .int .i64 2,
 .int .i64 28, .string ⟨#[77, 67, 95, 71, 101, 97, 114, 73, 110]⟩, .string ⟨#[65, 120, 105, 115, 35, 32, 69, 120, 101, 99, 117, 116, 101, 32, 77, 97, 115, 116, 101, 114, 35, 32, 78, 117, 109, 101, 114, 97, 116, 111, 114, 35, 32, 68, 101, 110, 111, 109, 105, 110, 97, 116, 111, 114, 35]⟩, .string ⟨#[73, 110, 71, 101, 97, 114, 32, 66, 117, 115, 121, 32, 65, 99, 116, 105, 118, 101, 32, 67, 111, 109, 109, 97, 110, 100, 65, 98, 111, 114, 116, 101, 100, 32, 69, 114, 114, 111, 114]⟩, .int .i64 2,
 .int .i64 29, .string ⟨#[77, 67, 95, 82, 101, 115, 101, 116]⟩, .string ⟨#[65, 120, 105, 115, 35, 32, 69, 120, 101, 99, 117, 116, 101]⟩, .string ⟨#[68, 111, 110, 101, 32, 69, 114, 114, 111, 114]⟩, .int .i64 1,
 .int .i64 30, .string ⟨#[77, 67, 95, 83, 101, 116, 80, 111, 115, 105, 116, 105, 111, 110]⟩, .string ⟨#[65, 120, 105, 115, 35, 32, 69, 120, 101, 99, 117, 116, 101, 32, 80, 111, 115, 105, 116, 105, 111, 110, 35]⟩, .string ⟨#[68, 111, 110, 101, 32, 69, 114, 114, 111, 114]⟩, .int .i64 1,
 .int .i64 31, .string ⟨#[77, 67, 95, 83, 101, 116, 79, 118, 101, 114, 114, 105, 100, 101]⟩, .string ⟨#[65, 120, 105, 115, 35, 32, 69, 110, 97, 98, 108, 101, 32, 80, 101, 114, 99, 101, 110, 116, 35]⟩, .string ⟨#[69, 110, 97, 98, 108, 101, 100]⟩, .int .i64 0]
theorem shL_len : shL.length = 21 := by kernel_rfl
theorem shC_flat : shC = shL.flatMap Sh.cells := by kernel_rfl

theorem flat_get {α : Type} (f : α → List Value) (n : Nat) (hf : ∀ x, (f x).length = n) : ∀ (l : List α) (i : Nat) (x : α), l[i]? = some x → ∀ j, j < n → (l.flatMap f)[i * n + j]? = (f x)[j]?
 | [], i, x, h, _, _ => by simp at h
 | y :: l, 0, x, h, j, hj => by
  simp at h
  subst h
  rw [List.flatMap_cons, Nat.zero_mul, Nat.zero_add, List.getElem?_append_left (by rw [hf]; exact hj)]
 | y :: l, i + 1, x, h, j, hj => by
  simp at h
  rw [List.flatMap_cons, List.getElem?_append_right (by rw [hf, Nat.succ_mul]; omega), hf, show (i + 1) * n + j - n = i * n + j by rw [Nat.succ_mul]; omega]
  exact flat_get f n hf l i x h j hj

def ShAt (b : Nat) (w : World) : Prop := ∀ i s, shL[i]? = some s → ∀ j, j < 5 → w.cell? ⟨b, i * 5 + j, none⟩ = s.cells[j]?
theorem ShAt.of {b : Nat} {w : World} {T : TypeId} (h : w.heap[b]? = some (.cells shC.toArray T)) : ShAt b w := by
 intro i s hs j hj
 have h1 := flat_get Sh.cells 5 (fun _ => rfl) shL i s hs j hj
 rw [← shC_flat] at h1
 obtain ⟨u, hu⟩ : ∃ u, s.cells[j]? = some u := ⟨s.cells[j]'(by show j < 5; exact hj), List.getElem?_eq_getElem _⟩
 rw [hu] at h1 ⊢
 exact heap_cell _ _ h (by rw [List.getElem?_toArray]; exact h1)
theorem ShAt.below {b : Nat} {w w' : World} (h : ShAt b w) (hl : b < w.heap.size) (hb : Below w.heap.size w w') : ShAt b w' :=
 fun i s hs j hj => (hb.cell (p := ⟨b, _, none⟩) hl).trans (h i s hs j hj)

set_option maxRecDepth 100000 in
theorem sheets_any (w : World) : Calls Tryd.prog 76 #[] w fun e w' => e = .returned (.slice (some ⟨w.heap.size, 0, none⟩) 21 21) ∧ Below w.heap.size w w' ∧ ShAt w.heap.size w' ∧ w.heap.size < w'.heap.size := by
 go_enter Tryd.func76, Tryd.ntmps76
 go_wp2
 go_ret
 refine ⟨rfl, by exact belowBy, ShAt.of (heap_alloc_new w _), by simp⟩

def findI (p : Sh → Bool) : Int := match shL.findIdx? p with | some i => (i : Int) | none => -1
theorem findI_some (p : Sh → Bool) (i : Nat) (s : Sh) (hs : shL[i]? = some s) (hp : p s = true) (hn : ∀ j, j < i → ∀ t, shL[j]? = some t → p t = false) : findI p = (i : Int) := by
 obtain ⟨hi, hs2⟩ := List.getElem?_eq_some_iff.1 hs
 have : shL.findIdx? p = some i := by
  rw [List.findIdx?_eq_some_iff_getElem]
  refine ⟨hi, by rw [hs2]; exact hp, fun j hj => ?_⟩
  have := hn j hj _ (List.getElem?_eq_getElem (by omega))
  simp [this]
 unfold findI
 rw [this]
theorem findI_none (p : Sh → Bool) (hn : ∀ j, j < 21 → ∀ t, shL[j]? = some t → p t = false) : findI p = -1 := by
 have : shL.findIdx? p = none := by
  rw [List.findIdx?_eq_none_iff]
  intro x hx
  obtain ⟨j, hj⟩ := List.getElem?_of_mem hx
  have hj2 := (List.getElem?_eq_some_iff.1 hj).1
  rw [shL_len] at hj2
  rw [hn j hj2 x hj]
 unfold findI
 rw [this]

set_option maxRecDepth 100000 in
theorem ix_sheet (F : FuncId) (caps : Array Value) (p : Sh → Bool) (b : Nat) (w : World) (hb : b < w.heap.size) (hc : ShAt b w)
  (hcf : ∀ (args : Array Value) (w : World), Sem.run Tryd.prog (callFunc F args) w = .ok (.enter F args) w)
  (hF : ∀ (s : Sh) w', Below w.heap.size w w' → Calls Tryd.prog F (#[.agg #[.int .i64 s.kind, .string s.name, .string s.inp, .string s.out, .int .i64 s.inner]] ++ caps) w' fun e w'' => e = .returned (.bool (p s)) ∧ Below w'.heap.size w' w'') :
  Calls Tryd.prog 77 #[.slice (some ⟨b, 0, none⟩) 21 21, .func (.func F) #[] caps] w fun e w' => e = .returned (.int .i64 (findI p)) ∧ Below w.heap.size w w' := by
 have HF := Lib.hid hF
 have HC := Lib.hid hc
 clear hF hc
 go_enter Tryd.func77, Tryd.ntmps77
 go_wp2_with fail
 go_loopw [8] (fun u wr => ∃ k : Nat, k ≤ 21 ∧ u = .int .i64 k ∧ Hid (∀ j, j < k → ∀ t, shL[j]? = some t → p t = false) ∧ Below w.heap.size w wr) (fun u _ => 21 - (intOf u).toNat)
 case atStart => exact ⟨0, by omega, rfl, Lib.hid (fun j hj => by omega), Below.refl _ _⟩
 case round =>
  obtain ⟨k, hk, rfl, HK, hbr⟩ := hrel
  by_cases hlt : k < 21
  ·obtain ⟨s, hs⟩ : ∃ s, shL[k]? = some s := ⟨shL[k]'(by rw [shL_len]; exact hlt), List.getElem?_eq_getElem _⟩
   have hcells := HC.out.below hb hbr k s hs
   have c0 : wr.cell? ⟨b, k * 5, none⟩ = some (.int .i64 s.kind) := hcells 0 (by omega)
   have c1 : wr.cell? ⟨b, k * 5 + 1, none⟩ = some (.string s.name) := hcells 1 (by omega)
   have c2 : wr.cell? ⟨b, k * 5 + 2, none⟩ = some (.string s.inp) := hcells 2 (by omega)
   have c3 : wr.cell? ⟨b, k * 5 + 3, none⟩ = some (.string s.out) := hcells 3 (by omega)
   have c4 : wr.cell? ⟨b, k * 5 + 4, none⟩ = some (.int .i64 s.inner) := hcells 4 (by omega)
   have hk0 : (0 : Int) ≤ (k : Int) := by omega
   have hkn : (k : Int) < 21 := by omega
   have HS := Lib.hid hs
   clear hs hcells
   have HFk := HF.out s wr hbr
   cases hp : p s
   ·rw [hp] at HFk
    have HP := Lib.hid hp
    have HF2 := Lib.hid HFk
    clear hp HFk
    go_wp2_with fail
    refine HF2.out.mono ?_
    rintro e w' ⟨rfl, hb2⟩
    go_wp2
    go_roundw
    case rel =>
     refine ⟨k + 1, by omega, by go_num, Lib.hid (fun j hj t ht => ?_), by exact belowBy⟩
     rcases Nat.lt_succ_iff_lt_or_eq.1 hj with h | rfl
     ·exact HK.out j h t ht
     ·rw [HS.out] at ht
      cases ht
      exact HP.out
    case measure => simp [intOf]; omega
   ·rw [hp] at HFk
    have HP := Lib.hid hp
    have HF2 := Lib.hid HFk
    clear hp HFk
    go_wp2_with fail
    refine HF2.out.mono ?_
    rintro e w' ⟨rfl, hb2⟩
    go_wp2
    go_ret
    rw [findI_some p k s HS.out HP.out HK.out]
    exact ⟨rfl, by exact belowBy⟩
  ·obtain rfl : k = 21 := by omega
   go_wp2
   go_ret
   rw [findI_none p HK.out]
   exact ⟨rfl, by exact belowBy⟩


theorem cf_of1 (args : Array Value) (w : World) : Sem.run Tryd.prog (callFunc 78 args) w = .ok (.enter 78 args) w := by
 go_simp



theorem of1_any (s : Sh) (c : Nat) (kind : Int) (w : World) (hc : w.cell? ⟨c, 0, none⟩ = some (.int .i64 kind)) (hl : c < w.heap.size) :
  Calls Tryd.prog 78 #[.agg #[.int .i64 s.kind, .string s.name, .string s.inp, .string s.out, .int .i64 s.inner], .pointer (some ⟨c, 0, none⟩)] w fun e w' => e = .returned (.bool (decide (s.kind = kind))) ∧ Below w.heap.size w w' := by
 go_enter Tryd.func78, Tryd.ntmps78
 go_wp2
 go_ret
 exact ⟨rfl, by exact belowBy⟩



def ofV (kind : Int) : Value := match shL.find? (fun s => decide (s.kind = kind)) with
 | some s => .tuple #[.agg s.cells.toArray, .bool true]
 | none => .tuple #[.agg #[.int .i64 0, .string ⟨#[]⟩, .string ⟨#[]⟩, .string ⟨#[]⟩, .int .i64 0], .bool false]
theorem ofV_some {kind : Int} {s : Sh} (h : shL.find? (fun s => decide (s.kind = kind)) = some s) : ofV kind = .tuple #[.agg #[.int .i64 s.kind, .string s.name, .string s.inp, .string s.out, .int .i64 s.inner], .bool true] := by
 unfold ofV
 rw [h]
 rfl
theorem ofV_none {kind : Int} (h : shL.find? (fun s => decide (s.kind = kind)) = none) : ofV kind = .tuple #[.agg #[.int .i64 0, .string ⟨#[]⟩, .string ⟨#[]⟩, .string ⟨#[]⟩, .int .i64 0], .bool false] := by
 unfold ofV
 rw [h]
theorem findI_cases (p : Sh → Bool) : (∃ (i : Nat) (s : Sh), findI p = (i : Int) ∧ i < 21 ∧ shL[i]? = some s ∧ shL.find? p = some s) ∨ (findI p = -1 ∧ shL.find? p = none) := by
 unfold findI
 cases h : shL.findIdx? p with
 | none =>
  refine Or.inr ⟨rfl, ?_⟩
  rw [List.findIdx?_eq_none_iff] at h
  rw [List.find?_eq_none]
  intro x hx
  simp [h x hx]
 | some i =>
  have h' := h
  rw [List.findIdx?_eq_some_iff_getElem] at h
  obtain ⟨hi, hp, hn⟩ := h
  refine Or.inl ⟨i, shL[i], rfl, by rw [shL_len] at hi; exact hi, List.getElem?_eq_getElem hi, ?_⟩
  rw [List.find?_eq_some_iff_getElem]
  refine ⟨hp, i, hi, rfl, fun j hj => ?_⟩
  have := hn j hj
  simp only [Bool.not_eq_true] at this
  simp [this]

set_option maxRecDepth 100000 in
theorem of_any (kind : Int) (w : World) : Calls Tryd.prog 70 #[.int .i64 kind] w fun e w' => e = .returned (ofV kind) ∧ Below w.heap.size w w' := by
 have HFI := Lib.hid (findI_cases fun s => decide (s.kind = kind))
 have hP : ∃ p : Sh → Bool, p = fun s => decide (s.kind = kind) := ⟨_, rfl⟩
 obtain ⟨p, hp⟩ := hP
 rw [← hp] at HFI
 have HP := Lib.hid hp
 clear hp
 go_enter Tryd.func70, Tryd.ntmps70
 go_wp2_with fail
 refine (sheets_any _).mono ?_
 rintro e w1 ⟨rfl, hb1, hs1, hl1⟩
 have hz : w.heap.size + 2 < w1.heap.size := by simpa using hl1
 obtain ⟨b, hb⟩ : ∃ b, b = w.heap.size + 2 := ⟨_, rfl⟩
 have hs1' : ShAt b w1 := by
  rw [hb]
  simpa using hs1
 obtain ⟨hb1c, hb1f⟩ := bcell hb1
 have hb1z := hb1.size
 have hb1c0 := fun o => hb1c (w.heap.size) o sideBy
 have hb1f0 := fun o => hb1f (w.heap.size) o sideBy
 have hb1l0 := below_lt (b := w.heap.size) hb1 sideBy
 have hb1c1 := fun o => hb1c (w.heap.size + 1) o sideBy
 have hb1f1 := fun o => hb1f (w.heap.size + 1) o sideBy
 have hb1l1 := below_lt (b := w.heap.size + 1) hb1 sideBy
 have HS1 := Lib.hid hs1'
 clear hs1 hs1'
 go_wp2_with fail
 subst hb
 rw [show w.heap.size + 1 + 1 = w.heap.size + 2 from rfl]
 refine (ix_sheet 78 _ p (w.heap.size + 2) w1 (by omega) HS1.out cf_of1 (fun s w' hb' => ?_)).mono ?_
 ·rw [HP.out]
  refine of1_any s w.heap.size kind w' ?_ ?_
  ·rw [hb'.cell (p := ⟨w.heap.size, 0, none⟩) (by show w.heap.size < w1.heap.size; omega), hb1c0]
   go_simp
  ·have := hb'.size
   omega
 rintro e w2 ⟨rfl, hb2⟩
 rcases HFI.out with ⟨i, s, hi, hi21, hs, hf⟩ | ⟨hi, hf⟩
 ·rw [hi]
  have hcells := HS1.out.below (by omega) hb2 i s hs
  have c0 : w2.cell? ⟨w.heap.size + 2, i * 5, none⟩ = some (.int .i64 s.kind) := hcells 0 (by omega)
  have c1 : w2.cell? ⟨w.heap.size + 2, i * 5 + 1, none⟩ = some (.string s.name) := hcells 1 (by omega)
  have c2 : w2.cell? ⟨w.heap.size + 2, i * 5 + 2, none⟩ = some (.string s.inp) := hcells 2 (by omega)
  have c3 : w2.cell? ⟨w.heap.size + 2, i * 5 + 3, none⟩ = some (.string s.out) := hcells 3 (by omega)
  have c4 : w2.cell? ⟨w.heap.size + 2, i * 5 + 4, none⟩ = some (.int .i64 s.inner) := hcells 4 (by omega)
  have hk0 : (0 : Int) ≤ (i : Int) := by omega
  have hkn : (i : Int) < 21 := by omega
  have hno : ¬ ((i : Int) < 0) := by omega
  have hV := ofV_some (kind := kind) (s := s) (by rw [← HP.out]; exact hf)
  have HV := Lib.hid hV
  obtain ⟨hb2c, hb2f⟩ := bcell hb2
  have hb2z := hb2.size
  have hb2c0 := fun o => hb2c (w.heap.size + 1) o sideBy
  have hb2f0 := fun o => hb2f (w.heap.size + 1) o sideBy
  have hb2l0 := below_lt (b := w.heap.size + 1) hb2 sideBy
  clear hcells hs hi hf HFI hV
  go_wp2
  refine bodyPost_ret (v := .tuple #[.agg #[.int .i64 s.kind, .string s.name, .string s.inp, .string s.out, .int .i64 s.inner], .bool true]) ?_ rfl ⟨?_, ?_⟩
  ·simp [results, Tryd.results70, go_sem, hb2c0, hb1c1, hb2f0, hb1f1]
  ·rw [HV.out]
  ·exact belowBy
 ·rw [hi]
  have hV := ofV_none (kind := kind) (by rw [← HP.out]; exact hf)
  have HV := Lib.hid hV
  obtain ⟨hb2c, hb2f⟩ := bcell hb2
  have hb2z := hb2.size
  have hb2c0 := fun o => hb2c (w.heap.size + 1) o sideBy
  have hb2f0 := fun o => hb2f (w.heap.size + 1) o sideBy
  have hb2l0 := below_lt (b := w.heap.size + 1) hb2 sideBy
  clear hi hf HFI hV
  go_wp2
  refine bodyPost_ret (v := .tuple #[.agg #[.int .i64 0, .string ⟨#[]⟩, .string ⟨#[]⟩, .string ⟨#[]⟩, .int .i64 0], .bool false]) ?_ rfl ⟨?_, ?_⟩
  ·simp [results, Tryd.results70, go_sem, hb2c0, hb1c1, hb2f0, hb1f1]
  ·rw [HV.out]
  ·exact belowBy

end Go.Proofs.YtahjijdadifkaaaDoor

namespace Go.Proofs.YtahjijdadifkaaaDoor
open Go.RowKit

def Apart (v : Value) (l : List Nat) : Prop := ∀ b ∈ l, v.ownBlock ≠ some b
theorem Apart.nil (l : List Nat) : Apart (.slice none 0 0) l := fun b _ h => by cases h
theorem Apart.at {v : Value} {l : List Nat} (h : Apart v l) {b : Nat} (hb : b ∈ l) : some b ≠ v.ownBlock := fun e => h b hb e.symm
theorem Apart.next {v : Value} {l : List Nat} {g H n c : Nat} (h : Apart v l) (hat : v.ownBlock = some g ∨ g = H) (hl : ∀ b ∈ l, b < H) : Apart (.slice (some ⟨g, 0, none⟩) n c) l := by
 intro b hb he
 have hg : g = b := by simpa [Value.ownBlock] using he
 rcases hat with h1 | h1
 ·exact h b hb (by rw [h1, hg])
 ·have := hl b hb
  omega
theorem Apart.cons {v : Value} {l : List Nat} {b : Nat} (h1 : Apart v [b]) (h : Apart v l) : Apart v (b :: l) := by
 intro c hc
 rcases List.mem_cons.1 hc with rfl | hc
 ·exact h1 c (by simp)
 ·exact h c hc
theorem Apart.sub {v : Value} {l m : List Nat} (h : Apart v l) (hs : ∀ b ∈ m, b ∈ l) : Apart v m := fun b hb => h b (hs b hb)

theorem owns_below {w w' : World} {base : Nat} {e : TypeId} {size : Nat} {v : Value} {n : Nat} {xs : List Value} (h : w.ownsRow base e size v n xs) (hb : Below w.heap.size w w') : w'.ownsRow base e size v n xs := by
 obtain ⟨h1, h2⟩ := h
 refine ⟨h1, ?_⟩
 rcases h2 with h2 | ⟨g, cap, cur, hv, hg, hh, r⟩
 ·exact Or.inl h2
 ·exact Or.inr ⟨g, cap, cur, hv, hg, by rw [hb.block g (Array.getElem?_eq_some_iff.1 hh).1]; exact hh, r⟩
theorem below_grown {B : Nat} {a w w' : World} {base : Nat} {e : TypeId} {size : Nat} {v : Value} {n : Nat} {xs : List Value} (h : Below B a w) (hg : w.grownBy w' v.ownBlock) (ho : w.ownsRow base e size v n xs) (hB : B ≤ base) (hs : B ≤ w.heap.size) : Below B a w' :=
 h.grown hg hs fun k hk => Nat.le_trans hB (ho.lt k hk).1
def intsV (k : IntKind) (zs : List Int) : List Value := zs.map (Value.int k)
theorem intsV_snoc (k : IntKind) (zs : List Int) (z : Int) : intsV k zs ++ [.int k z] = intsV k (zs ++ [z]) := by simp [intsV]
theorem intsV_len (k : IntKind) (zs : List Int) : (intsV k zs).length = zs.length := by simp [intsV]
theorem one_cell (v : Value) (h : v.oneCell' = true) : ∀ u ∈ [v], u.oneCell' = true := fun u hu => by rw [List.mem_singleton.1 hu]; exact h


def Lies (w : World) (B size : Nat) (A : Option Addr) (n : Nat) (xs : List Value) : Prop :=
 xs.length = n * size ∧ (0 < n → ∃ b off, A = some ⟨b, off, none⟩ ∧ b < B ∧ ∀ j u, xs[j]? = some u → w.cell? ⟨b, off + j, none⟩ = some u)

section
variable {w w' : World} {B B' size n : Nat} {A : Option Addr} {xs : List Value}
theorem Lies.turn (h : Lies w B size A n xs) (hk : ∀ b o, b < B → w'.cell? ⟨b, o, none⟩ = w.cell? ⟨b, o, none⟩) : Lies w' B size A n xs :=
 ⟨h.1, fun hn => by
  obtain ⟨b, off, e, hb, hc⟩ := h.2 hn
  exact ⟨b, off, e, hb, fun j u hu => (hk _ _ hb).trans (hc j u hu)⟩⟩
theorem Lies.wide (h : Lies w B size A n xs) (hB : B ≤ B') : Lies w B' size A n xs :=
 ⟨h.1, fun hn => by
  obtain ⟨b, off, e, hb, hc⟩ := h.2 hn
  exact ⟨b, off, e, by omega, hc⟩⟩
theorem Lies.below (h : Lies w B size A n xs) (hb : Below B w w') : Lies w' B size A n xs := h.turn fun b o hlt => hb.cell (p := ⟨b, o, none⟩) hlt
theorem Lies.on (h : Lies w w.heap.size size A n xs) (hb : Below w.heap.size w w') : Lies w' w'.heap.size size A n xs := (h.below hb).wide hb.size
theorem Lies.own {base c : Nat} {e : TypeId} (h : w.ownsRow base e size (.slice A n c) n xs) : Lies w w.heap.size size A n xs := by
 refine ⟨h.1, fun hn => ?_⟩
 obtain ⟨g, cap, hv, _, hlt⟩ := h.form hn
 injection hv with hA
 subst hA
 refine ⟨g, 0, rfl, hlt, fun j u hu => ?_⟩
 have := h.cells (g := g) rfl j u hu
 have hadd : (⟨g, 0, none⟩ : Addr).add j = ⟨g, 0 + j, none⟩ := by cases j <;> simp [Addr.add]
 rwa [hadd] at this
end

section
variable {P : Program} (w : World)
end

theorem own_form {w : World} {base : Nat} {e : TypeId} {size : Nat} {v : Value} {n : Nat} {xs : List Value} (h : w.ownsRow base e size v n xs) : ∃ A c, v = .slice A n c ∧ n ≤ c ∧ c ≤ maxLen ∧ (∀ b o s, A = some ⟨b, o, s⟩ → base ≤ b) := by
 rcases h.2 with ⟨rfl, rfl⟩ | ⟨g, cap, cur, rfl, hb, _, hn, hc, _⟩
 ·exact ⟨none, 0, rfl, Nat.le_refl _, by unfold maxLen; omega, fun _ _ _ h => by cases h⟩
 ·refine ⟨some ⟨g, 0, none⟩, cap, rfl, hn, hc, fun b o s h => ?_⟩
  injection h with h
  injection h with h1
  omega

end Go.Proofs.YtahjijdadifkaaaDoor
