/- Merged: A program, as it lies in memory. A program out of the row's reading, with the sizes of some strings. -/
import Derived.Test.YtahjijdadifkaaaDoorM01
set_option linter.unusedVariables false
set_option linter.unusedSimpArgs false
namespace Go.Proofs.YtahjijdadifkaaaDoor
open Go.ChangeShapes Go.WideShapes Go.ChangeAt Go.RowKit

structure VarS where
 name : ByteArray
 type : Int
 sect : Int
 arr : Bool
 lo : Int
 hi : Int
 init : Int
 line : Int
def VarS.cells (v : VarS) : List Value := [.string v.name, .int .i64 v.type, .int .i64 v.sect, .bool v.arr, .int .i64 v.lo, .int .i64 v.hi, .int .i64 v.init, .int .i64 v.line]
structure VarS.Ok (v : VarS) : Prop where
 type : I64 v.type
 sect : I64 v.sect
 lo : I64 v.lo
 hi : I64 v.hi
 init : I64 v.init
 line : I64 v.line
def VarAt (v : VarS) (cs : List Value) : Prop := cs = v.cells ∧ v.Ok
def RowV (w : World) (A : Option Addr) (xs : List VarS) (cap : Nat) : Prop := RowOf w 8 72 VarAt A xs cap
theorem RowV.below {w w' : World} {A : Option Addr} {xs : List VarS} {cap : Nat} (h : RowV w A xs cap) (hb : Below w.heap.size w w') : RowV w' A xs cap := RowOf.mono h hb fun _ _ _ h => h

structure Prg where
 name : ByteArray
 vars : List VarS
 body : List Stm
def PrgAt (w : World) (p : Prg) (cs : List Value) : Prop := ∃ Av kv Ab kb, cs = [.string p.name, .slice Av p.vars.length kv, .slice Ab p.body.length kb] ∧ RowV w Av p.vars kv ∧ RowT w Ab p.body kb
theorem PrgAt.keep {w w' : World} {p : Prg} {cs : List Value} (h : PrgAt w p cs) (hb : Below w.heap.size w w') : PrgAt w' p cs := by
 obtain ⟨Av, kv, Ab, kb, e, h1, h2⟩ := h
 exact ⟨Av, kv, Ab, kb, e, h1.below hb, h2.below hb⟩

section
variable {H : Type} {enc : TypeId × Value → H} {w : World}
theorem c_bool : Tryd.prog.cellsOf 4 = 1 := by kernel_rfl
theorem c_var : Tryd.prog.cellsOf 47 = 8 := by kernel_rfl
theorem c_vars : Tryd.prog.cellsOf 22 = 1 := by kernel_rfl
theorem c_prog : Tryd.prog.cellsOf 25 = 3 := by kernel_rfl
theorem list_8 {α : Type} (l : List α) (h : l.length = 8) : ∃ a b c d e f g i, l = [a, b, c, d, e, f, g, i] := by match l, h with | [a, b, c, d, e, f, g, i], _ => exact ⟨a, b, c, d, e, f, g, i, rfl⟩

theorem var_of (n : Nat) (cs : List Value) (h : RdF enc Tryd.prog w n 47 cs) : cs.length = 8 ∧ ∃ v, VarAt v cs := by
 obtain ⟨hl, m, hn, hf⟩ := rdf_struct Tryd.underlying47 h
 rw [c_var] at hl
 obtain ⟨v0, v1, v2, v3, v4, v5, v6, v7, rfl⟩ := list_8 cs hl
 have h0 : Rd enc Tryd.prog w 9 [v0] := by simpa [c_str] using (hf 0 _ rfl).rd
 have h1 : Rd enc Tryd.prog w 3 [v1] := by simpa [c_int] using (hf 1 _ rfl).rd
 have h2 : Rd enc Tryd.prog w 3 [v2] := by simpa [c_int] using (hf 2 _ rfl).rd
 have h3 : Rd enc Tryd.prog w 4 [v3] := by simpa [c_bool] using (hf 3 _ rfl).rd
 have h4 : Rd enc Tryd.prog w 2 [v4] := by simpa [c_i64] using (hf 4 _ rfl).rd
 have h5 : Rd enc Tryd.prog w 2 [v5] := by simpa [c_i64] using (hf 5 _ rfl).rd
 have h6 : Rd enc Tryd.prog w 2 [v6] := by simpa [c_i64] using (hf 6 _ rfl).rd
 have h7 : Rd enc Tryd.prog w 3 [v7] := by simpa [c_int] using (hf 7 _ rfl).rd
 obtain ⟨x0, e0, w0⟩ := rd_string Tryd.underlying9 h0
 obtain ⟨x1, e1, w1⟩ := rd_int Tryd.underlying3 h1
 obtain ⟨x2, e2, w2⟩ := rd_int Tryd.underlying3 h2
 obtain ⟨x3, e3⟩ := rd_bool Tryd.underlying4 h3
 obtain ⟨x4, e4, w4⟩ := rd_int Tryd.underlying2 h4
 obtain ⟨x5, e5, w5⟩ := rd_int Tryd.underlying2 h5
 obtain ⟨x6, e6, w6⟩ := rd_int Tryd.underlying2 h6
 obtain ⟨x7, e7, w7⟩ := rd_int Tryd.underlying3 h7
 simp only [List.cons.injEq, and_true] at e0 e1 e2 e3 e4 e5 e6 e7
 subst e0 e1 e2 e3 e4 e5 e6 e7
 exact ⟨rfl, ⟨x0, x1, x2, x3, x4, x5, x6, x7⟩, rfl, ⟨bounds_I64 w1, bounds_I64 w2, bounds_I64 w4, bounds_I64 w5, bounds_I64 w6, bounds_I64 w7⟩⟩
theorem vars_of (n : Nat) (v : Value) (h : RdF enc Tryd.prog w n 22 [v]) : ∃ A xs cap, v = .slice A xs.length cap ∧ RowV w A xs cap := by
 obtain ⟨A, len, cap, rfl⟩ := slice_form Tryd.underlying22 h
 obtain ⟨xs, rfl, hr⟩ := row_of (size := 8) (bytes := 72) VarAt A len cap Tryd.underlying22 c_var (by kernel_rfl) (by decide) (fun k cs hk hcs => var_of k cs hcs) h
 exact ⟨A, xs, cap, rfl, hr⟩
end


def SmE (x : Ex) : Prop := x.name.size ≤ 140737488355328 ∧ x.field.size ≤ 140737488355328
inductive SmS : Stm → Prop where
 | mk (s : Stm) (h1 : SmE s.dst) (h2 : SmE s.src) (hb : ∀ bl ∈ s.blocks, ∀ t ∈ bl, SmS t) : SmS s
theorem RowOf.both {α : Type} {w : World} {size bytes : Nat} {Q : α → List Value → Prop} {R : α → Prop} {A : Option Addr} {xs : List α} {cap : Nat} (h : RowOf w size bytes (fun x c => Q x c ∧ R x) A xs cap) : RowOf w size bytes Q A xs cap ∧ ∀ x ∈ xs, R x := by
 obtain ⟨h1, h2, h3, f, h4, h5⟩ := h
 refine ⟨⟨h1, h2, h3, f, h4, fun i x hx => (h5 i x hx).1⟩, fun x hx => ?_⟩
 obtain ⟨i, hi⟩ := List.getElem?_of_mem hx
 exact (h5 i x hi).2
theorem rdf_string {H : Type} {enc : TypeId × Value → H} {P : Program} {w : World} {t : TypeId} {cs : List Value} {n : Nat} (ht : P.underlying t = some .string) (h : RdF enc P w n t cs) : ∃ s : ByteArray, cs = [.string s] ∧ s.size ≤ 140737488355328 := by
 obtain ⟨x, h, hw⟩ := h
 cases n with
 | zero => simp [DataW.trod] at h
 | succ n =>
  unfold DataW.trod at h
  rw [ht] at h
  split at h <;> simp_all
  obtain ⟨_, h2⟩ := h
  rename_i s _
  have := hw s.data.toList.length (by rw [← h2]; simp [DataW.weights])
  have hr : reachBytes ≤ 140737488355328 := by decide
  have hz : s.data.toList.length = s.size := rfl
  omega
section
variable {H : Type} {enc : TypeId × Value → H} {w : World}
theorem ex_sm (n : Nat) (cs : List Value) (h : RdF enc Tryd.prog w n 28 cs) : cs.length = 6 ∧ ∃ x, ExAt w x cs ∧ SmE x := by
 obtain ⟨hl, x, hx⟩ := ex_of n cs h
 refine ⟨hl, x, hx, ?_⟩
 obtain ⟨A, k, rfl, -⟩ := hx.form
 obtain ⟨-, m, hn, hf⟩ := rdf_struct Tryd.underlying28 h
 have h2 : RdF enc Tryd.prog w m 9 [.string x.name] := by simpa [c_str] using hf 2 _ rfl
 have h3 : RdF enc Tryd.prog w m 9 [.string x.field] := by simpa [c_str] using hf 3 _ rfl
 obtain ⟨s2, e2, l2⟩ := rdf_string Tryd.underlying9 h2
 obtain ⟨s3, e3, l3⟩ := rdf_string Tryd.underlying9 h3
 simp only [List.cons.injEq, and_true, Value.string.injEq] at e2 e3
 exact ⟨by rw [e2]; exact l2, by rw [e3]; exact l3⟩
theorem stm_sm : ∀ n cs, RdF enc Tryd.prog w n 63 cs → cs.length = 19 ∧ ∃ s, StmAt w s cs ∧ SmS s := by
 intro n
 induction n using Nat.strongRecOn with
 | _ n ih =>
  intro cs h
  obtain ⟨hl, m, hn, hf⟩ := rdf_struct Tryd.underlying63 h
  rw [c_stmt] at hl
  obtain ⟨a0, a1, a2, a3, a4, a5, a6, a7, a8, a9, b0, b1, b2, b3, b4, b5, b6, b7, b8, rfl⟩ := list_19 cs hl
  have h0 : Rd enc Tryd.prog w 3 [a0] := by simpa [c_int] using (hf 0 _ rfl).rd
  have h1 : Rd enc Tryd.prog w 9 [a1] := by simpa [c_str] using (hf 1 _ rfl).rd
  have h2 : RdF enc Tryd.prog w m 28 [a2, a3, a4, a5, a6, a7] := by simpa [c_expr] using hf 2 _ rfl
  have h3 : RdF enc Tryd.prog w m 28 [a8, a9, b0, b1, b2, b3] := by simpa [c_expr] using hf 3 _ rfl
  have h4 : RdF enc Tryd.prog w m 26 [b4] := by simpa [c_exprs] using hf 4 _ rfl
  have h5 : RdF enc Tryd.prog w m 60 [b5] := by simpa [c_rows] using hf 5 _ rfl
  have h6 : RdF enc Tryd.prog w m 61 [b6] := by simpa [c_strs] using hf 6 _ rfl
  have h7 : RdF enc Tryd.prog w m 59 [b7] := by simpa [c_blocks] using hf 7 _ rfl
  have h8 : Rd enc Tryd.prog w 3 [b8] := by simpa [c_int] using (hf 8 _ rfl).rd
  obtain ⟨x0, e0, w0⟩ := rd_int Tryd.underlying3 h0
  obtain ⟨x1, e1, w1⟩ := rd_string Tryd.underlying9 h1
  obtain ⟨-, dst, hto, hsd⟩ := ex_sm _ _ h2
  obtain ⟨-, src, hval, hss⟩ := ex_sm _ _ h3
  obtain ⟨x8, e8, w8⟩ := rd_int Tryd.underlying3 h8
  obtain ⟨A4, n4, k4, rfl⟩ := slice_form Tryd.underlying26 h4
  obtain ⟨A5, n5, k5, rfl⟩ := slice_form Tryd.underlying60 h5
  obtain ⟨A6, n6, k6, rfl⟩ := slice_form Tryd.underlying61 h6
  obtain ⟨A7, n7, k7, rfl⟩ := slice_form Tryd.underlying59 h7
  obtain ⟨conds, rfl, hconds⟩ := row_of (size := 6) (bytes := 80) (ExAt w) A4 n4 k4 Tryd.underlying26 c_expr (by kernel_rfl) (by decide) (fun k cs hk hcs => ex_of k cs hcs) h4
  obtain ⟨labels, rfl, hlabels⟩ := row_of (size := 1) (bytes := 24) (IntsC w) A5 n5 k5 Tryd.underlying60 c_ints (by kernel_rfl) (by decide) (fun k cs hk hcs => by
   have hl : cs.length = 1 := by
    rcases rdf_slice Tryd.underlying42 hcs with h | ⟨_, _, _, _, _, h, _⟩ <;> rw [h] <;> rfl
   exact ⟨hl, ints_of k cs hcs hl⟩) h5
  obtain ⟨fields, rfl, hfields⟩ := row_of (size := 1) (bytes := 16) (fun s c => c = [Value.string s]) A6 n6 k6 Tryd.underlying61 c_str (by kernel_rfl) (by decide) (fun k cs hk hcs => by
   obtain ⟨s, e, _⟩ := rd_string Tryd.underlying9 hcs.rd
   subst e
   exact ⟨rfl, s, rfl⟩) h6
  obtain ⟨blocks, rfl, hblocks'⟩ := row_of (size := 1) (bytes := 24) (fun bl c => BlockC w bl c ∧ ∀ s ∈ bl, SmS s) A7 n7 k7 Tryd.underlying59 c_stmts (by kernel_rfl) (by decide) (fun k cs hk hcs => by
   have hl : cs.length = 1 := by
    rcases rdf_slice Tryd.underlying23 hcs with h | ⟨_, _, _, _, _, h, _⟩ <;> rw [h] <;> rfl
   refine ⟨hl, ?_⟩
   obtain ⟨v, rfl⟩ := list_1 cs hl
   obtain ⟨A, len, cap, rfl⟩ := slice_form Tryd.underlying23 hcs
   obtain ⟨xs, rfl, hr⟩ := row_of (size := 19) (bytes := 288) (fun s c => StmAt w s c ∧ SmS s) A len cap Tryd.underlying23 c_stmt (by kernel_rfl) (by decide) (fun q cs hq hcs => ih q (by omega) cs hcs) hcs
   exact ⟨xs, ⟨A, cap, rfl, hr.both.1⟩, hr.both.2⟩) h7
  have hblocks := hblocks'.both.1
  simp only [List.cons.injEq, and_true] at e0 e1 e8
  subst e0 e1 e8
  exact ⟨rfl, _, .of (bounds_I64 w0) (bounds_I64 w8) hto hval hconds hlabels hfields hblocks, .mk _ hsd hss hblocks'.both.2⟩

theorem stms_sm (n : Nat) (v : Value) (h : RdF enc Tryd.prog w n 23 [v]) : ∃ A xs cap, v = .slice A xs.length cap ∧ RowT w A xs cap ∧ ∀ s ∈ xs, SmS s := by
 obtain ⟨A, len, cap, rfl⟩ := slice_form Tryd.underlying23 h
 obtain ⟨xs, rfl, hr⟩ := row_of (size := 19) (bytes := 288) (fun s c => StmAt w s c ∧ SmS s) A len cap Tryd.underlying23 c_stmt (by kernel_rfl) (by decide) (fun k cs hk hcs => stm_sm k cs hcs) h
 exact ⟨A, xs, cap, rfl, hr.both.1, hr.both.2⟩
theorem prg_sm (n : Nat) (cs : List Value) (h : RdF enc Tryd.prog w n 25 cs) : ∃ p, PrgAt w p cs ∧ ∀ s ∈ p.body, SmS s := by
 obtain ⟨hl, m, hn, hf⟩ := rdf_struct Tryd.underlying25 h
 rw [c_prog] at hl
 obtain ⟨v0, v1, v2, rfl⟩ := list_3 cs hl
 have h0 : Rd enc Tryd.prog w 9 [v0] := by simpa [c_str] using (hf 0 _ rfl).rd
 have h1 : RdF enc Tryd.prog w m 22 [v1] := by simpa [c_vars] using hf 1 _ rfl
 have h2 : RdF enc Tryd.prog w m 23 [v2] := by simpa [c_stmts] using hf 2 _ rfl
 obtain ⟨x0, e0, w0⟩ := rd_string Tryd.underlying9 h0
 obtain ⟨Av, vars, kv, rfl, hv⟩ := vars_of _ _ h1
 obtain ⟨Ab, body, kb, rfl, hb, hsm⟩ := stms_sm _ _ h2
 simp only [List.cons.injEq, and_true] at e0
 subst e0
 exact ⟨⟨x0, vars, body⟩, ⟨Av, kv, Ab, kb, rfl, hv, hb⟩, hsm⟩
end

end Go.Proofs.YtahjijdadifkaaaDoor
