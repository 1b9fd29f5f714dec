/- Loads of many cells in a region that draws its order. -/
import Derived.Test.YtcamegfnhbbaeaaTreeY
import Derived.Test.YtcamegfnhbbaeaaTreeT
import Derived.Test.YtcamegfnhbbaeaaTreeS
import Derived.Deep.RegionHeld3
namespace Go.Proofs.Ytcamegfnhbbaeaa
open Go.RowKit
set_option linter.unusedVariables false
set_option linter.unusedSimpArgs false

/-- one value -/
def isOne (u v : Value) (_ : World) : Prop := v = u ∧ True
theorem isOne.below {u v : Value} {w w' : World} (h : isOne u v w) (_ : Below w.heap.size w w') : isOne u v w' := h
theorem wild_load_mid {P : Program} {w : World} {op : Oper} {ev : Operand → Value} (ty : TypeId) (x : Operand) (ho : op.op = .load ty x) (b o : Nat) (hx : ev x = .pointer (some ⟨b, o, none⟩)) (cs : List Value) (d : TypeDesc) (hc : w.rangeAt b o cs)
    (hu : P.underlying ty = some d) (hd : d.isRow = true) (hi : (P.info? ty).map (·.size) = some cs.length) : wildUpon P w (isOne (.agg cs.toArray)) (fun _ => []) ((execOp ev op).run P w) := by
  unfold execOp
  simp only [ho, hx, Instr.loadAt, Instr.sureAddr, Sem.run_bind, Sem.run_pure, Result.andThen_ok, run_loadVar_mid w b o ty cs d hc hu hd hi]
  exact wildUpon_value ⟨⟨rfl, trivial⟩, Below.refl _ _, fun b hb => by cases hb⟩
/-- a statement's variable, at first -/
def stm0 : Array Value := #[.int .i64 0, .string ⟨#[]⟩, .int .i64 0, .int .i64 0, .string ⟨#[]⟩, .string ⟨#[]⟩, .slice none 0 0, .int .i64 0, .int .i64 0, .int .i64 0, .string ⟨#[]⟩, .string ⟨#[]⟩, .slice none 0 0, .int .i64 0, .slice none 0 0, .slice none 0 0, .slice none 0 0, .slice none 0 0, .int .i64 0]
theorem range_below {w w' : World} {b o : Nat} {cs : List Value} (h : w.rangeAt b o cs) (hb : Below w.heap.size w w') : w'.rangeAt b o cs := fun j v hv => by
  have := h j v hv
  exact (hb.cell (p := ⟨b, o + j, none⟩) (cell_lt this)).trans this

section
variable {P : Program} {md : Region.Mode} {l : List Oper} {Q : Exit → Act → World → Prop} {S : World → Prop} {fuel : Nat} {listed : Array Bool} {a : Act} {w : World} {i : Nat} {o : Oper}
/-- 'wpAnyH_take', the operation written out -/
theorem takeH {v : Value} (hi : l[i]? = some o) (hs : Region.noSelect l.toArray = true) (hf : Region.free md l.toArray listed i = true) (hr : (Region.ready md l.toArray listed).contains i = true)
    (hQ : ∀ c a w, Q (.panic c) (a.put o.dst v) w → Q (.panic c) a w) (hy : YieldsIf P l.toArray S o v a) (hS : S w)
    (h : wpAnyH P md l.toArray Q S fuel (listed.setIfInBounds i true) (a.put o.dst v) w) : wpAnyH P md l.toArray Q S (fuel + 1) listed a w :=
  wpAnyH_take (by simpa using hi) hs hf hr hQ hy hS h
/-- one operation alone may come up -/
theorem oneH (hr : Region.ready md l.toArray listed = [i]) (ho : l[i]? = some o)
    (h : ∀ K' : Act → World → Prop, Shut (∀ a w, S w → (S w → wpAnyH P md l.toArray Q S fuel (listed.setIfInBounds i true) a w) → K' a w) → if Region.wanted o (yielded l.toArray a.tmps) = true then Oper.wp P o a w K' Q else K' (a.put o.dst undef) w) :
    wpAnyH P md l.toArray Q S (fuel + 1) listed a w :=
  wpAnyH_ready hr (by simp) (AllReadyH.cons (by simpa using ho) h AllReadyH.nil)
end

/-- two ranges -/
def TwoR (w : World) (b1 o1 : Nat) (c1 : List Value) (b2 o2 : Nat) (c2 : List Value) : Prop := w.rangeAt b1 o1 c1 ∧ w.rangeAt b2 o2 c2
theorem TwoR.below {w w' : World} {b1 o1 : Nat} {c1 : List Value} {b2 o2 : Nat} {c2 : List Value} (h : TwoR w b1 o1 c1 b2 o2 c2) (hb : Below w.heap.size w w') : TwoR w' b1 o1 c1 b2 o2 c2 := ⟨range_below h.1 hb, range_below h.2 hb⟩

theorem rowI_ext {W : World} {A : Option Addr} {zs : List Int} {c : Nat} (h : RowI W A zs c) (x : Ext W) : RowI (ext W x) A zs c := RowOf.mono h x.2 fun _ _ _ h => h
theorem rowT_ext {W : World} {A : Option Addr} {xs : List Stm} {c : Nat} (h : RowT W A xs c) (x : Ext W) : RowT (ext W x) A xs c := h.below x.2

end Go.Proofs.Ytcamegfnhbbaeaa
