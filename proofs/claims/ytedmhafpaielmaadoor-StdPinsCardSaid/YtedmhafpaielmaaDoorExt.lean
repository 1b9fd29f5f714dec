/- Regions that draw their order, whose callees may make memory of their own but leave what was there as it was: one walk in the text's order serves every order. -/
import Derived.Test.YtedmhafpaielmaaDoorBase
namespace Go.Proofs.YtedmhafpaielmaaDoor
open Go.RowKit
set_option linter.unusedVariables false
set_option linter.unusedSimpArgs false

/-- a world that is as W was, below W's end -/
structure Ext (W : World) where
  w : World
  h : Below W.heap.size W w
def ext (W : World) (x : Ext W) : World := x.1
instance ext_some (W : World) : Nonempty (Ext W) := ⟨⟨W, Below.refl _ _⟩⟩
theorem ext_cell (W : World) (x : Ext W) (b o : Nat) (h : b < W.heap.size) : (ext W x).cell? ⟨b, o, none⟩ = W.cell? ⟨b, o, none⟩ := x.2.cell (p := ⟨b, o, none⟩) h
theorem ext_frozen (W : World) (x : Ext W) (b o : Nat) (h : b < W.heap.size) : (ext W x).frozen? ⟨b, o, none⟩ = W.frozen? ⟨b, o, none⟩ := x.2.frozen (p := ⟨b, o, none⟩) h
theorem ext_below {W w' : World} (h : ∃ x, w' = ext W x) : Below W.heap.size W w' := by
  obtain ⟨x, rfl⟩ := h
  exact x.2

theorem wp_region_ext {P : Program} {id : Nat} {Q : Exit → Act → World → Prop} {a : Act} {w : World} {l : List Oper} (hm : P.follows .mixedOrders = true) (hB : Region.lexB .any l.toArray = true)
    (h : wpQuiet P l.toArray (fun w' => ∃ x, w' = ext w x) (fun a' => ∀ w', (∃ x, w' = ext w x) → Q .normal a' w') l a) : (Code.region id l.toArray true).wp P Q a w :=
  wp_region_quiet (C := fun w' => ∃ x, w' = ext w x) hm hB ⟨⟨w.drew, (Below.refl _ _).drew⟩, rfl⟩ (by simpa using h)

theorem ext_call {P : Program} {f : FuncId} {args : Array Value} {W : World} {x : Ext W} {v : Value}
    (h : Calls P f args (ext W x) fun e w' => e = .returned v ∧ Below (ext W x).heap.size (ext W x) w') : Calls P f args (ext W x) fun e w'' => e = .returned v ∧ ∃ y, w'' = ext W y :=
  h.mono fun _ _ ⟨he, hb⟩ => ⟨he, ⟨_, below_go x.2 hb (Nat.le_refl _)⟩, rfl⟩
theorem ext_same {P : Program} {f : FuncId} {args : Array Value} {W : World} {x : Ext W} {v : Value}
    (h : Calls P f args (ext W x) fun e w' => e = .returned v ∧ ext W x = w') : Calls P f args (ext W x) fun e w'' => e = .returned v ∧ ∃ y, w'' = ext W y :=
  h.mono fun _ _ ⟨he, hb⟩ => ⟨he, x, hb.symm⟩

theorem wp_name {P : Program} {c : Code} {Q : Exit → Act → World → Prop} {a : Act} {w : World} (h : ∀ W, Hid (W = w) → c.wp P Q a W) : c.wp P Q a w := h w rfl

end Go.Proofs.YtedmhafpaielmaaDoor
