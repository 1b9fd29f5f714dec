/- Layer 10: empty rows. -/
import Derived.Test.YtddakmlnkffgiaaSmW0
namespace Go.Proofs.Ytddakmlnkffgiaa
open Go.RowKit
set_option linter.unusedVariables false
set_option linter.unusedSimpArgs false
attribute [local go_sem] ite_max ite_min vite_max vite_min ext_cell ext_frozen

theorem run_clone_none (w : World) (ty : TypeId) (b : Addr) (sa : Option Addr) (cap : Nat) :
    (Builtin.append_ #[69, 69] ty #[.slice (some b) 0 0, .slice sa 0 cap]).run Try.prog w = .ok (.slice (some b) 0 0) w := by
  have hinf : (Try.prog.info? 2).map (fun i => (i.zero, i.size, i.bytes)) = some (some (.int .i64 0), 1, 8) := by kernel_rfl
  obtain ⟨i0, hi0, _, _, _⟩ := info_parts hinf
  cases sa <;> simp [Builtin.append_, run_underlying Try.underlying69, run_underlying Try.underlying2, sizeOf, Builtin.lenOf, Builtin.firstCells, loadCells, loadCellsFrom, storeCells, typeInfo, hi0]

theorem wp_append_0 {w : World} {ops : Array Oper} {rest : List Oper} {o : Oper} {a : Act} {Q : Exit → Act → World → Prop} (hgd : o.guard = none) (s x : Operand)
    (ho : o.op = .call { callee := .builtin .append, args := #[s, x], argTypes := #[69, 69] }) (b : Addr) (sa : Option Addr) (cap : Nat) (hs : a.eval s = .slice (some b) 0 0) (hx : a.eval x = .slice sa 0 cap)
    (h : wpList Try.prog ops Q rest (a.put o.dst (.slice (some b) 0 0)) w) : wpList Try.prog ops Q (o :: rest) a w := by
  refine wpList_plain hgd fun K hK => ?_
  unfold Oper.wp execOp
  simp only [ho, resolve, invoke, builtin, Sem.run_bind, Sem.run_pure, Result.andThen_ok, List.map_toArray, List.map_cons, List.map_nil, hs, hx, run_clone_none]
  exact hK _ _ h
theorem wild_clone0 {a : Act} {o : Oper} {w : World} (s x : Operand) (ho : o.op = .call { callee := .builtin .append, args := #[s, x], argTypes := #[69, 69] }) (B : Nat) (sa : Option Addr) (cap : Nat) (hs : a.eval s = .slice (some ⟨B, 0, none⟩) 0 0) (hx : a.eval x = .slice sa 0 cap) (hB : B < w.heap.size) {R : Value → World → Prop} (hR : R (.slice (some ⟨B, 0, none⟩) 0 0) w) :
    wildUpon Try.prog w R (fun _ => []) ((execOp a.eval o).run Try.prog w) := by
  unfold execOp
  simp only [ho, resolve, invoke, builtin, Sem.run_bind, Sem.run_pure, Result.andThen_ok, List.map_toArray, List.map_cons, List.map_nil, hs, hx, run_clone_none]
  exact wildUpon_value ⟨hR, Below.refl _ _, fun q hq => by cases hq⟩

set_option maxHeartbeats 1000000 in
theorem lawsame_nil (a b : Option Addr) (k l : Nat) (w : World) :
    Calls Try.prog 48 #[.agg #[.slice a 0 k], .agg #[.slice b 0 l]] w fun e w' => e = .returned (.bool true) ∧ Below w.heap.size w w' := by
  go_enter Try.func48, Try.ntmps48
  go_wp2_with fail
  go_loopw [5] (fun u w' => u = .int .i64 0 ∧ Below w.heap.size w w' ∧ w.heap.size + 1 < w'.heap.size ∧
    w'.cell? ⟨w.heap.size, 0, none⟩ = some (.slice a 0 k) ∧ w'.cell? ⟨w.heap.size + 1, 0, none⟩ = some (.slice b 0 l)) (fun _ _ => 0)
  case atStart => exact ⟨rfl, by (repeat' (first | (with_reducible exact Below.refl _ _) | (with_reducible assumption) | (with_reducible refine below_drewN ?_ _) | (with_reducible refine Below.drew ?_) | (with_reducible refine below_new ?_ (Nat.le_refl _) _) | (with_reducible refine Below.setCell ?_ ?_ _) | (with_reducible refine below_go ?_ (by assumption) (Nat.le_refl _)) | (simp; done) | (simp; omega) | omega)), by simp, by go_simp, by go_simp⟩
  case round =>
    obtain ⟨rfl, hbr, hsz, c1, c2⟩ := hrel
    go_wp2
    go_ret
    exact ⟨rfl, by (repeat' (first | (with_reducible exact Below.refl _ _) | (with_reducible assumption) | (with_reducible refine below_drewN ?_ _) | (with_reducible refine Below.drew ?_) | (with_reducible refine below_new ?_ (Nat.le_refl _) _) | (with_reducible refine Below.setCell ?_ ?_ _) | (with_reducible refine below_go ?_ (by assumption) (Nat.le_refl _)) | (simp; done) | (simp; omega) | omega))⟩

def isEmp (v : Value) (w : World) : Prop := ∃ B : Nat, v = .slice (some ⟨B, 0, none⟩) 0 0 ∧ B < w.heap.size
theorem isEmp.below {v : Value} {w w' : World} (h : isEmp v w) (hb : Below w.heap.size w w') : isEmp v w' := by
  obtain ⟨B, rfl, hl⟩ := h
  exact ⟨B, rfl, Nat.lt_of_lt_of_le hl hb.size⟩
theorem emp_on {w : World} {B : Nat} (h : B < w.heap.size) : OnW w [] 0 B 0 := ⟨Nat.le_refl _, by omega, h, fun i hi => by omega⟩

end Go.Proofs.Ytddakmlnkffgiaa
