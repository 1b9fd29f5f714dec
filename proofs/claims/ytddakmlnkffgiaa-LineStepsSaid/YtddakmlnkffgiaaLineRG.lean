/- Layer 12: copies of rows in a drawn region; variables that hold lines and commands. -/
import Derived.Test.YtddakmlnkffgiaaLineRF
namespace Go.Proofs.Ytddakmlnkffgiaa
open Go.RowKit
set_option linter.unusedVariables false
set_option linter.unusedSimpArgs false
attribute [local go_sem] ite_max ite_min vite_max vite_min ext_cell ext_frozen extS_cell extS_frozen

theorem run_clone1 {P : Program} (w : World) (t ty e : TypeId) (i : TypeInfo) (z : Value) (size bytes : Nat) (ht : P.underlying t = some (.slice e)) (hi : P.info? e = some i) (hz : i.zero = some z) (hsize : i.size = size) (hby : i.bytes = bytes) (hzs : z.cells.size = size)
    (b a : Addr) (n c : Nat) (news : List Value) (hl : news.length = n * size) (hnews : ∀ j u, news[j]? = some u → w.cell? (a.add j) = some u) (hn : 0 < n) (h63 : n ≤ maxLen) (hbytes : n * bytes ≤ 140737488355328) :
    ∃ k cur, (Builtin.append_ #[t, t] ty #[.slice (some b) 0 0, .slice (some a) n c]).run P w = .ok (.slice (some ⟨w.heap.size, 0, none⟩) n k) (w.drew.alloc (.cells cur e)) ∧ n ≤ k ∧ k ≤ maxLen ∧ cur.size = k * size ∧ cur.toList.take (n * size) = news := by
  subst hsize
  subst hby
  have hsmall : n ≤ 9223372036854775807 := by simp only [maxLen] at h63; omega
  have hge := grownCap_ge w (0 + n) 0 e
  have hcm : grownCap w (0 + n) 0 e ≤ maxLen := grownCap_le_maxLen w (0 + n) 0 e (by omega)
  have hr := run_append_grow (P := P) w t ty e i z ht hi hz b 0 0 [] (by simp) (fun j v h => by simp at h) a n c news hl hnews (by omega) (by omega) (growslice_fits (by omega) (by rw [Nat.zero_add]; exact hbytes))
  simp only [Nat.zero_add] at hge hcm hr
  refine ⟨_, _, hr, hge, hcm, ?_, ?_⟩
  · simp only [Array.size_append, List.size_toArray, size_zeroCells, hzs, hl, List.length_nil, Nat.zero_add, ← Nat.add_mul]
    congr 1
    omega
  · simp only [Array.toList_append, List.append_assoc, List.nil_append]
    rw [← hl]
    exact List.take_left

def isNil0 (v : Value) (_ : World) : Prop := ∃ B : Nat, v = .slice (some ⟨B, 0, none⟩) 0 0
theorem isNil0.below {v : Value} {w w' : World} (h : isNil0 v w) (_ : Below w.heap.size w w') : isNil0 v w' := h
/-- a copy, in a block of its own -/
def isCl (n : Nat) (xs : List Value) (v : Value) (w : World) : Prop := ∃ g k, v = .slice (some ⟨g, 0, none⟩) n k ∧ n ≤ k ∧ k ≤ 9223372036854775807 ∧ Lies w w.heap.size 7 (some ⟨g, 0, none⟩) n xs
theorem isCl.below {n : Nat} {xs : List Value} {v : Value} {w w' : World} (h : isCl n xs v w) (hb : Below w.heap.size w w') : isCl n xs v w' := by
  obtain ⟨g, k, e, h1, h2, h3⟩ := h
  exact ⟨g, k, e, h1, h2, h3.on hb⟩
def newN (n : Nat) (v : Value) : List Nat := if n = 0 then [] else newB v
theorem newN_pos {n : Nat} (hn : 0 < n) (a : Addr) (m k : Nat) : newN n (.slice (some a) m k) = [a.block] := by
  unfold newN
  rw [if_neg (by omega)]
  rfl
theorem wild_cl {a : Act} {o : Oper} {w : World} (s x : Operand) (ho : o.op = .call { callee := .builtin .append, args := #[s, x], argTypes := #[43, 43] }) (B : Nat) (xs : List CmdS) (A : Option Addr) (n c : Nat) (hs : a.eval s = .slice (some ⟨B, 0, none⟩) 0 0) (hx : a.eval x = .slice A n c)
    (h : Lies w w.heap.size 7 A n (cmdsC xs)) (hn2 : n ≤ 400) :
    wildUpon Try.prog w (isCl n (cmdsC xs)) (newN n) ((execOp a.eval o).run Try.prog w) := by
  obtain ⟨i0, hi0, hz0, hz1, hz2⟩ := info_parts cmd_info
  have hm : maxLen = 9223372036854775807 := rfl
  by_cases h0 : n = 0
  · subst h0
    have hx0 : cmdsC xs = [] := List.eq_nil_of_length_eq_zero (by have := h.1; omega)
    have hr : (Builtin.append_ #[43, 43] o.type #[.slice (some ⟨B, 0, none⟩) 0 0, .slice A 0 c]).run Try.prog w = .ok (.slice (some ⟨B, 0, none⟩) 0 0) w := by
      cases A <;> simp [Builtin.append_, run_underlying Try.underlying43, sizeOf, typeInfo, hi0, Builtin.lenOf, Builtin.firstCells, storeCells, loadCells, loadCellsFrom]
    unfold execOp
    simp only [ho, resolve, invoke, builtin, Sem.run_bind, Sem.run_pure, Result.andThen_ok, List.map_toArray, List.map_cons, List.map_nil, hs, hx, hr]
    rw [hx0]
    exact wildUpon_value ⟨⟨_, _, rfl, Nat.le_refl _, by omega, Lies.empty⟩, Below.refl _ _, fun q hq => by cases hq⟩
  · obtain ⟨b, off, rfl, hb, hc⟩ := h.2 (by omega)
    have hsz : i0.size = 7 := hz1
    obtain ⟨k, cur, hr, h1, h2, h3, h4⟩ := run_clone1 (P := Try.prog) w 43 o.type 51 i0 (.agg #[.int .i64 0, .int .i64 0, .int .i64 0, .int .i64 0, .int .i64 0, .int .i64 0, .int .i64 0]) 7 56 Try.underlying43 hi0 hz0 hz1 hz2 rfl ⟨B, 0, none⟩ ⟨b, off, none⟩ n c (cmdsC xs) h.1 (fun j u hu => by
      have had : (⟨b, off, none⟩ : Addr).add j = ⟨b, off + j, none⟩ := by cases j <;> simp [Addr.add]
      rw [had]
      exact hc j u hu) (by omega) (by omega) (by omega)
    unfold execOp
    simp only [ho, resolve, invoke, builtin, Sem.run_bind, Sem.run_pure, Result.andThen_ok, List.map_toArray, List.map_cons, List.map_nil, hs, hx, hr]
    refine wildUpon_value ⟨⟨_, _, rfl, h1, by omega, ⟨h.1, fun _ => ⟨w.heap.size, 0, rfl, by simp, fun j u hu => ?_⟩⟩⟩, (Below.refl _ _).drew.alloc (Nat.le_refl _) _, fun q hq => ?_⟩
    · rw [Nat.zero_add]
      refine heap_cell j _ (heap_alloc_new w.drew _) ?_
      have hj : j < n * 7 := by
        have := (List.getElem?_eq_some_iff.1 hu).1
        rw [h.1] at this
        exact this
      rw [← h4, List.getElem?_take, if_pos hj] at hu
      simpa using hu
    · rw [newN_pos (by omega), List.mem_singleton] at hq
      subst hq
      exact ⟨Nat.le_refl _, by simp⟩

/-- a variable that holds a line -/
structure LV (w : World) (p : Nat) (ns ws : List CmdS) (A D : Option Addr) (n m c d : Nat) : Prop where
  lt : p < w.heap.size
  c0 : w.cell? ⟨p, 0, none⟩ = some (.slice A n c)
  c1 : w.cell? ⟨p, 1, none⟩ = some (.slice D m d)
  line : LineV w 0 ns ws (.agg #[.slice A n c, .slice D m d])
theorem LV.below {w w' : World} {p : Nat} {ns ws : List CmdS} {A D : Option Addr} {n m c d : Nat} (h : LV w p ns ws A D n m c d) (hb : Below w.heap.size w w') : LV w' p ns ws A D n m c d :=
  ⟨Nat.lt_of_lt_of_le h.lt hb.size, (hb.cell h.lt).trans h.c0, (hb.cell h.lt).trans h.c1, h.line.below hb⟩
/-- a variable that holds a command -/
structure CV (w : World) (p : Nat) (x : CmdS) : Prop where
  lt : p < w.heap.size
  c : ∀ j, j < 7 → w.cell? ⟨p, j, none⟩ = x.cells[j]?
theorem CV.below {w w' : World} {p : Nat} {x : CmdS} (h : CV w p x) (hb : Below w.heap.size w w') : CV w' p x :=
  ⟨Nat.lt_of_lt_of_le h.lt hb.size, fun j hj => (hb.cell (p := ⟨p, j, none⟩) h.lt).trans (h.c j hj)⟩
theorem LineV.lens {w : World} {base : Nat} {ns ws : List CmdS} {A D : Option Addr} {n m c d : Nat} (h : LineV w base ns ws (.agg #[.slice A n c, .slice D m d])) : n = ns.length ∧ m = ws.length := by
  obtain ⟨a, b, e, ⟨A1, c1, e1, -⟩, ⟨A2, c2, e2, -⟩⟩ := h
  subst e1 e2
  simp only [Value.agg.injEq, Array.mk.injEq, List.cons.injEq, Value.slice.injEq, and_true] at e
  exact ⟨e.1.2.1, e.2.2.1⟩

end Go.Proofs.Ytddakmlnkffgiaa
