/- A program out of the row's reading: its parts are no more than the reading's bulk. -/
import Derived.Test.YtcamegfnhbbaeaaM01
import Derived.Test.YtcamegfnhbbaeaaM18
import Derived.Test.YtcamegfnhbbaeaaM00
namespace Go.Proofs.Ytcamegfnhbbaeaa
open Go.ChangeShapes Go.WideShapes Go.ChangeAt Go.RowKit
set_option linter.unusedVariables false
set_option linter.unusedSimpArgs false

theorem bulkAll_sum {H : Type} : ∀ l : List (DataW H), Rows.uptoBulkAll l = (l.map Rows.uptoBulk).sum
  | [] => by simp [Rows.uptoBulkAll]
  | d :: r => by simp [Rows.uptoBulkAll, bulkAll_sum r]
theorem sum_le {α : Type} {f : α → Nat} : ∀ {xs : List α} {ks : List Nat}, xs.length = ks.length → (∀ (i : Nat) (x : α), xs[i]? = some x → f x ≤ ks[i]?.getD 0) → (xs.map f).sum ≤ ks.sum
  | [], [], _, _ => by simp
  | [], _ :: _, h, _ => by simp at h
  | _ :: _, [], h, _ => by simp at h
  | x :: xs, k :: ks, h, hf => by
    have h1 := hf 0 x rfl
    have h2 := sum_le (f := f) (xs := xs) (ks := ks) (by simpa using h) fun i y hy => by simpa using hf (i + 1) y (by simpa using hy)
    simp only [List.getElem?_cons_zero, Option.getD_some] at h1
    simp only [List.map_cons, List.sum_cons]
    omega
section
variable {H : Type} {enc : TypeId × Value → H} {P : Program} {w : World} {t e : TypeId} {cs : List Value}
/-- as 'RdF'; the reading's bulk is k -/
def RdB (enc : TypeId × Value → H) (P : Program) (w : World) (n : Nat) (t : TypeId) (cs : List Value) (k : Nat) : Prop := ∃ x, DataW.trod enc P w 0 (fun _ => true) true n t cs = some x ∧ (∀ m ∈ x.1.weights P t, m ≤ reachBytes) ∧ Rows.uptoBulk x.1 = k
theorem RdB.rdf {n k : Nat} (h : RdB enc P w n t cs k) : RdF enc P w n t cs := by
  obtain ⟨x, h, hw, _⟩ := h
  exact ⟨x, h, hw⟩
theorem bulk_pos {H : Type} (d : DataW H) : 1 ≤ Rows.uptoBulk d := by
  unfold Rows.uptoBulk
  split <;> omega
theorem RdB.pos {n k : Nat} (h : RdB enc P w n t cs k) : 1 ≤ k := by
  obtain ⟨x, _, _, rfl⟩ := h
  exact bulk_pos _
theorem rdb_struct {fs : Array Field} {n k : Nat} (ht : P.underlying t = some (.struct fs)) (h : RdB enc P w n t cs k) :
    cs.length = P.cellsOf t ∧ ∃ (m : Nat) (ks : List Nat), n = m + 1 ∧ ks.length = fs.size ∧ k = ks.sum + 1 ∧ ∀ (i : Nat) (f : Field), fs[i]? = some f → RdB enc P w m f.type ((cs.drop f.offset).take (P.cellsOf f.type)) (ks[i]?.getD 0) := by
  obtain ⟨x, h, hw, hk⟩ := h
  obtain ⟨xs, m, hn, hx, hl, hs, hg⟩ := DataW.trod_struct ht h
  refine ⟨hl, m, xs.map fun y => Rows.uptoBulk y.1, hn, by simpa using hs, ?_, fun i f hf => ?_⟩
  · rw [← hk, hx]
    simp only [Rows.uptoBulk, bulkAll_sum, List.map_map, Function.comp_def]
  · have hi : i < xs.length := by
      rw [hs]
      exact (Array.getElem?_eq_some_iff.1 hf).1
    refine ⟨xs[i], by rw [hg i f hf, List.getElem?_eq_getElem hi], fun k hk => hw k ?_, ?_⟩
    · rw [hx]
      simp only [DataW.weights, ht]
      refine DataW.weights_mem_each (j := i) (t := f.type) (d := xs[i].1) ?_ ?_ k hk
      · rw [List.getElem?_map, Array.getElem?_toList, hf]
        rfl
      · rw [List.getElem?_map, List.getElem?_eq_getElem hi]
        rfl
    · rw [List.getElem?_map, List.getElem?_eq_getElem hi]
      rfl
theorem rdb_slice {n k : Nat} (ht : P.underlying t = some (.slice e)) (h : RdB enc P w n t cs k) :
    cs = [.slice none 0 0] ∨ ∃ (a : Addr) (len cap m : Nat) (ks : List Nat), n = m + 1 ∧ cs = [.slice (some a) len cap] ∧ len ≤ cap ∧ cap ≤ maxLen ∧ len * P.bytesOf e ≤ reachBytes ∧ ks.length = len ∧ ks.sum + 1 ≤ k ∧
      ∀ i, i < len → ∃ cs', w.cells? 0 (a.add (i * P.cellsOf e)) (P.cellsOf e) = some cs' ∧ RdB enc P w m e cs' (ks[i]?.getD 0) := by
  obtain ⟨x, h, hw, hk⟩ := h
  rcases DataW.trod_slice ht h with h0 | ⟨a, len, cap, elems, rest, m, hn, hcs, hx, hb, hl, hm, hlen, hel, hsp, hns⟩
  · exact .inl h0.1
  · rw [hx] at hw
    simp only [DataW.weights, ht, List.mem_cons, List.length_map] at hw
    refine .inr ⟨a, len, cap, m, elems.map fun y => Rows.uptoBulk y.1, hn, hcs, hl, hm, Nat.le_trans (Nat.mul_le_mul_right _ (by omega)) (hw _ (.inl rfl)), by simpa using hlen, ?_, fun i hi => ?_⟩
    · rw [← hk, hx]
      simp only [Rows.uptoBulk, bulkAll_sum, List.map_map, Function.comp_def]
      omega
    · have h1 := hel i hi
      have h2 : i < elems.length := by omega
      rw [List.getElem?_eq_getElem h2] at h1
      cases hc : w.cells? 0 (a.add (i * P.cellsOf e)) (P.cellsOf e) with
      | none => rw [hc] at h1; simp at h1
      | some cs' =>
        rw [hc] at h1
        refine ⟨cs', rfl, elems[i], by simpa using h1, fun k hk => hw k (.inr (List.mem_append_left _ (mem_all (d := elems[i].1) ?_ k hk))), ?_⟩
        · exact List.mem_map.2 ⟨elems[i], List.getElem_mem h2, rfl⟩
        · rw [List.getElem?_map, List.getElem?_eq_getElem h2]
          rfl
theorem rowb_of {α : Type} {n size bytes k : Nat} (Q : α → List Value → Prop) (f : α → Nat) (A : Option Addr) (len cap : Nat) (ht : P.underlying t = some (.slice e)) (hs : P.cellsOf e = size) (hby : P.bytesOf e = bytes) (h0 : 0 < size)
    (hr : ∀ m cs q, m < n → RdB enc P w m e cs q → cs.length = size ∧ ∃ x, Q x cs ∧ f x ≤ q) (h : RdB enc P w n t [.slice A len cap] k) : ∃ xs, xs.length = len ∧ RowOf w size bytes Q A xs cap ∧ (xs.map f).sum + 1 ≤ k := by
  have hpos := h.pos
  rcases rdb_slice ht h with h1 | ⟨a, len', cap', m, ks, hn, h1, hl, hm, hb, hkl, hks, hel⟩
  · simp only [List.cons.injEq, and_true, Value.slice.injEq] at h1
    obtain ⟨rfl, rfl, rfl⟩ := h1
    exact ⟨[], rfl, RowOf.nil _ _ _ _ _ _ (by omega), by simpa using hpos⟩
  · simp only [List.cons.injEq, and_true, Value.slice.injEq] at h1
    obtain ⟨rfl, rfl, rfl⟩ := h1
    rw [hs] at hel
    rw [hby] at hb
    unfold maxLen at hm
    have hch : ∀ i, ∃ cs', i < len → w.cells? 0 (a.add (i * size)) size = some cs' ∧ ∃ x, Q x cs' ∧ f x ≤ ks[i]?.getD 0 := by
      intro i
      by_cases hi : i < len
      · obtain ⟨cs', h1, h2⟩ := hel i hi
        exact ⟨cs', fun _ => ⟨h1, (hr m cs' _ (by omega) h2).2⟩⟩
      · exact ⟨[], fun h => absurd h hi⟩
    obtain ⟨F, hf⟩ := Classical.axiomOfChoice hch
    obtain ⟨xs, hxl, hx⟩ := slice_pick (fun i x => Q x (F i) ∧ f x ≤ ks[i]?.getD 0) len (fun i hi => (hf i hi).2)
    have hsum := sum_le (f := f) (xs := xs) (ks := ks) (by omega) fun i x hxx => (hx i x hxx).2
    refine ⟨xs, hxl, ⟨by omega, by omega, ?_, F, fun hne => ?_, fun i x hxx => (hx i x hxx).1⟩, by omega⟩
    · rw [hxl]
      have : reachBytes ≤ 140737488355328 := by decide
      omega
    · have hpos : 0 < len := by
        rw [← hxl]
        exact List.length_pos_iff.2 hne
      obtain ⟨b, off, spot⟩ := a
      have hcell := fun i hi => (World.cells?_some (hf i hi).1)
      have h00 := (hcell 0 hpos).2.2 0 h0
      have hlen : ∀ i, i < len → (F i).length = size := fun i hi => (hcell i hi).2.1
      rw [List.getElem?_eq_getElem (by rw [hlen 0 hpos]; exact h0)] at h00
      have hspot : spot = none := by simpa [Addr.add] using World.cell?_spot h00
      subst hspot
      refine ⟨b, off, rfl, by simpa [Addr.add] using World.block_lt_of_cell? _ _ h00, fun i hi j hj => ?_⟩
      have := (hcell i (by omega)).2.2 j hj
      rw [add_plain, add_plain] at this
      exact this
end
theorem nodesEs_sum : ∀ l, nodesEs l = (l.map nodesE).sum
  | [] => by simp [nodesEs]
  | x :: l => by simp [nodesEs, nodesEs_sum l]
theorem nodesSs_sum : ∀ l, nodesSs l = (l.map nodesS).sum
  | [] => by simp [nodesSs]
  | x :: l => by simp [nodesSs, nodesSs_sum l]
theorem nodesBs_sum : ∀ l, nodesBs l = (l.map fun b => 1 + nodesSs b).sum
  | [] => by simp [nodesBs]
  | x :: l => by simp [nodesBs, nodesBs_sum l]
theorem labN_sum : ∀ l, labN l = (l.map fun (b : List Int) => 1 + b.length).sum
  | [] => by simp [labN]
  | x :: l => by simp [labN, labN_sum l]
theorem ones_sum {α : Type} : ∀ l : List α, l.length = (l.map fun _ => 1).sum
  | [] => by simp
  | x :: l => by simp [← ones_sum l]; omega
section
variable {H : Type} {enc : TypeId × Value → H} {w : World}
theorem six_sum {ks : List Nat} (h : ks.length = 6) : ks[4]?.getD 0 ≤ ks.sum := by
  match ks, h with | [a0, a1, a2, a3, a4, a5], _ => simp; omega
theorem nine_sum {ks : List Nat} (h : ks.length = 9) : ks[2]?.getD 0 + ks[3]?.getD 0 + ks[4]?.getD 0 + ks[5]?.getD 0 + ks[6]?.getD 0 + ks[7]?.getD 0 ≤ ks.sum := by
  match ks, h with | [a0, a1, a2, a3, a4, a5, a6, a7, a8], _ => simp; omega
theorem three_sum {ks : List Nat} (h : ks.length = 3) : ks[2]?.getD 0 ≤ ks.sum := by
  match ks, h with | [a0, a1, a2], _ => simp; omega
theorem ex_bk : ∀ n cs k, RdB enc Try.prog w n 39 cs k → cs.length = 6 ∧ ∃ x, (ExAt w x cs ∧ SmE x) ∧ nodesE x ≤ k := by
  intro n
  induction n using Nat.strongRecOn with
  | _ n ih =>
    intro cs k h
    obtain ⟨hl, m, ks, hn, hkl, hk, hf⟩ := rdb_struct Try.underlying39 h
    have hkl : ks.length = 6 := hkl
    have h6 := six_sum hkl
    rw [c_expr] at hl
    obtain ⟨v0, v1, v2, v3, v4, v5, rfl⟩ := list_6 cs hl
    have h0 : Rd enc Try.prog w 3 [v0] := by simpa [c_int] using (hf 0 _ rfl).rdf.rd
    have h1 : Rd enc Try.prog w 2 [v1] := by simpa [c_i64] using (hf 1 _ rfl).rdf.rd
    have h2 : RdF enc Try.prog w m 9 [v2] := by simpa [c_str] using (hf 2 _ rfl).rdf
    have h3 : RdF enc Try.prog w m 9 [v3] := by simpa [c_str] using (hf 3 _ rfl).rdf
    have h4 : RdB enc Try.prog w m 37 [v4] (ks[4]?.getD 0) := by simpa [c_exprs] using hf 4 _ rfl
    have h5 : Rd enc Try.prog w 3 [v5] := by simpa [c_int] using (hf 5 _ rfl).rdf.rd
    obtain ⟨x0, e0, w0⟩ := rd_int Try.underlying3 h0
    obtain ⟨x1, e1, w1⟩ := rd_int Try.underlying2 h1
    obtain ⟨x2, e2, w2⟩ := rdf_string Try.underlying9 h2
    obtain ⟨x3, e3, w3⟩ := rdf_string Try.underlying9 h3
    obtain ⟨x5, e5, w5⟩ := rd_int Try.underlying3 h5
    obtain ⟨A, len, cap, rfl⟩ := slice_form Try.underlying37 h4.rdf
    obtain ⟨xs, hx, hr, hs⟩ := rowb_of (size := 6) (bytes := 80) (fun x cs => ExAt w x cs ∧ SmE x) nodesE A len cap Try.underlying37 c_expr (by kernel_rfl) (by decide) (fun k cs q hk hcs => ih k (by omega) cs q hcs) h4
    simp only [List.cons.injEq, and_true] at e0 e1 e2 e3 e5
    subst e0 e1 e2 e3 e5 hx
    refine ⟨rfl, .mk x0 x1 x2 x3 xs x5, ⟨.of (bounds_I64 w0) (bounds_I64 w1) (bounds_I64 w5) hr.both.1, w2, w3⟩, ?_⟩
    show 1 + nodesEs xs ≤ k
    rw [nodesEs_sum]
    omega
theorem ints_bk (n : Nat) (cs : List Value) (k : Nat) (h : RdB enc Try.prog w n 22 cs k) (hl : cs.length = 1) : ∃ zs, IntsC w zs cs ∧ 1 + zs.length ≤ k := by
  obtain ⟨v, rfl⟩ := list_1 cs hl
  obtain ⟨A, len, cap, rfl⟩ := slice_form Try.underlying22 h.rdf
  obtain ⟨xs, rfl, hr, hs⟩ := rowb_of (size := 1) (bytes := 8) (fun z c => c = [Value.int .i64 z] ∧ I64 z) (fun _ => 1) A len cap Try.underlying22 c_i64 (by kernel_rfl) (by decide) (fun k cs q hk hcs => by
    obtain ⟨z, e, wz⟩ := rd_int Try.underlying2 hcs.rdf.rd
    subst e
    exact ⟨rfl, z, ⟨rfl, bounds_I64 wz⟩, hcs.pos⟩) h
  rw [← ones_sum] at hs
  exact ⟨xs, ⟨A, cap, rfl, hr⟩, by omega⟩
theorem stm_bk : ∀ n cs k, RdB enc Try.prog w n 63 cs k → cs.length = 19 ∧ ∃ s, (StmAt w s cs ∧ SmS s) ∧ nodesS s ≤ k := by
  intro n
  induction n using Nat.strongRecOn with
  | _ n ih =>
    intro cs k h
    obtain ⟨hl, m, ks, hn, hkl, hk, hf⟩ := rdb_struct Try.underlying63 h
    have hkl : ks.length = 9 := hkl
    have h9 := nine_sum hkl
    rw [c_stmt] at hl
    obtain ⟨a0, a1, a2, a3, a4, a5, a6, a7, a8, a9, b0, b1, b2, b3, b4, b5, b6, b7, b8, rfl⟩ := list_19 cs hl
    have h0 : Rd enc Try.prog w 3 [a0] := by simpa [c_int] using (hf 0 _ rfl).rdf.rd
    have h1 : Rd enc Try.prog w 9 [a1] := by simpa [c_str] using (hf 1 _ rfl).rdf.rd
    have h2 : RdB enc Try.prog w m 39 [a2, a3, a4, a5, a6, a7] (ks[2]?.getD 0) := by simpa [c_expr] using hf 2 _ rfl
    have h3 : RdB enc Try.prog w m 39 [a8, a9, b0, b1, b2, b3] (ks[3]?.getD 0) := by simpa [c_expr] using hf 3 _ rfl
    have h4 : RdB enc Try.prog w m 37 [b4] (ks[4]?.getD 0) := by simpa [c_exprs] using hf 4 _ rfl
    have h5 : RdB enc Try.prog w m 59 [b5] (ks[5]?.getD 0) := by simpa [c_rows] using hf 5 _ rfl
    have h6 : RdB enc Try.prog w m 60 [b6] (ks[6]?.getD 0) := by simpa [c_strs] using hf 6 _ rfl
    have h7 : RdB enc Try.prog w m 61 [b7] (ks[7]?.getD 0) := by simpa [c_blocks] using hf 7 _ rfl
    have h8 : Rd enc Try.prog w 3 [b8] := by simpa [c_int] using (hf 8 _ rfl).rdf.rd
    obtain ⟨x0, e0, w0⟩ := rd_int Try.underlying3 h0
    obtain ⟨x1, e1, w1⟩ := rd_string Try.underlying9 h1
    obtain ⟨-, dst, ⟨hto, hsd⟩, hkd⟩ := ex_bk _ _ _ h2
    obtain ⟨-, src, ⟨hval, hss⟩, hkv⟩ := ex_bk _ _ _ h3
    obtain ⟨x8, e8, w8⟩ := rd_int Try.underlying3 h8
    obtain ⟨A4, n4, k4, rfl⟩ := slice_form Try.underlying37 h4.rdf
    obtain ⟨A5, n5, k5, rfl⟩ := slice_form Try.underlying59 h5.rdf
    obtain ⟨A6, n6, k6, rfl⟩ := slice_form Try.underlying60 h6.rdf
    obtain ⟨A7, n7, k7, rfl⟩ := slice_form Try.underlying61 h7.rdf
    obtain ⟨conds, rfl, hconds, s4⟩ := rowb_of (size := 6) (bytes := 80) (ExAt w) nodesE A4 n4 k4 Try.underlying37 c_expr (by kernel_rfl) (by decide) (fun k cs q hk hcs => by
      obtain ⟨a, x, ⟨b, _⟩, c⟩ := ex_bk k cs q hcs
      exact ⟨a, x, b, c⟩) h4
    obtain ⟨labels, rfl, hlabels, s5⟩ := rowb_of (size := 1) (bytes := 24) (IntsC w) (fun b => 1 + b.length) A5 n5 k5 Try.underlying59 c_ints (by kernel_rfl) (by decide) (fun k cs q hk hcs => by
      have hl : cs.length = 1 := by
        rcases rdf_slice Try.underlying22 hcs.rdf with h | ⟨_, _, _, _, _, h, _⟩ <;> rw [h] <;> rfl
      exact ⟨hl, ints_bk k cs q hcs hl⟩) h5
    obtain ⟨fields, rfl, hfields, s6⟩ := rowb_of (size := 1) (bytes := 16) (fun s c => c = [Value.string s]) (fun _ => 1) A6 n6 k6 Try.underlying60 c_str (by kernel_rfl) (by decide) (fun k cs q hk hcs => by
      obtain ⟨s, e, _⟩ := rd_string Try.underlying9 hcs.rdf.rd
      subst e
      exact ⟨rfl, s, rfl, hcs.pos⟩) h6
    obtain ⟨blocks, rfl, hblocks', s7⟩ := rowb_of (size := 1) (bytes := 24) (fun bl c => BlockC w bl c ∧ ∀ s ∈ bl, SmS s) (fun b => 1 + nodesSs b) A7 n7 k7 Try.underlying61 c_stmts (by kernel_rfl) (by decide) (fun k cs q hk hcs => by
      have hl : cs.length = 1 := by
        rcases rdf_slice Try.underlying28 hcs.rdf with h | ⟨_, _, _, _, _, h, _⟩ <;> rw [h] <;> rfl
      refine ⟨hl, ?_⟩
      obtain ⟨v, rfl⟩ := list_1 cs hl
      obtain ⟨A, len, cap, rfl⟩ := slice_form Try.underlying28 hcs.rdf
      obtain ⟨xs, rfl, hr, hs⟩ := rowb_of (size := 19) (bytes := 288) (fun s c => StmAt w s c ∧ SmS s) nodesS A len cap Try.underlying28 c_stmt (by kernel_rfl) (by decide) (fun k' cs q' hq hcs => ih k' (by omega) cs q' hcs) hcs
      rw [← nodesSs_sum] at hs
      exact ⟨xs, ⟨⟨A, cap, rfl, hr.both.1⟩, hr.both.2⟩, by omega⟩) h7
    have hblocks := hblocks'.both.1
    rw [← nodesEs_sum] at s4
    rw [← labN_sum] at s5
    rw [← ones_sum] at s6
    rw [← nodesBs_sum] at s7
    simp only [List.cons.injEq, and_true] at e0 e1 e8
    subst e0 e1 e8
    refine ⟨rfl, .mk x0 x1 dst src conds labels fields blocks x8, ⟨.of (bounds_I64 w0) (bounds_I64 w8) hto hval hconds hlabels hfields hblocks, .mk _ hsd hss hblocks'.both.2⟩, ?_⟩
    show 1 + nodesE dst + nodesE src + nodesEs conds + labN labels + fields.length + nodesBs blocks ≤ k
    omega
theorem prg_bk (n : Nat) (cs : List Value) (k : Nat) (h : RdB enc Try.prog w n 30 cs k) : ∃ p, PrgAt w p cs ∧ (∀ s ∈ p.body, SmS s) ∧ nodesSs p.body ≤ k := by
  obtain ⟨hl, m, ks, hn, hkl, hk, hf⟩ := rdb_struct Try.underlying30 h
  have hkl : ks.length = 3 := hkl
  have h3s := three_sum hkl
  rw [c_prog] at hl
  obtain ⟨v0, v1, v2, rfl⟩ := list_3 cs hl
  have h0 : Rd enc Try.prog w 9 [v0] := by simpa [c_str] using (hf 0 _ rfl).rdf.rd
  have h1 : RdF enc Try.prog w m 27 [v1] := by simpa [c_vars] using (hf 1 _ rfl).rdf
  have h2 : RdB enc Try.prog w m 28 [v2] (ks[2]?.getD 0) := by simpa [c_stmts] using hf 2 _ rfl
  obtain ⟨x0, e0, w0⟩ := rd_string Try.underlying9 h0
  obtain ⟨Av, vars, kv, rfl, hv⟩ := vars_of _ _ h1
  obtain ⟨A, len, cap, rfl⟩ := slice_form Try.underlying28 h2.rdf
  obtain ⟨body, rfl, hr, hs⟩ := rowb_of (size := 19) (bytes := 288) (fun s c => StmAt w s c ∧ SmS s) nodesS A len cap Try.underlying28 c_stmt (by kernel_rfl) (by decide) (fun k' cs q' hq hcs => stm_bk k' cs q' hcs) h2
  rw [← nodesSs_sum] at hs
  simp only [List.cons.injEq, and_true] at e0
  subst e0
  exact ⟨⟨x0, vars, body⟩, ⟨Av, kv, A, cap, rfl, hv, hr.both.1⟩, hr.both.2, by show nodesSs body ≤ k; omega⟩
end

end Go.Proofs.Ytcamegfnhbbaeaa
