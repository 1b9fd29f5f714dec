/- Layer 10: rows of one's own that may be written; a row appended to nothing. -/
import Derived.Test.YtddakmlnkffgiaaSmU
import Derived.Test.YtddakmlnkffgiaaWild
namespace Go.Proofs.Ytddakmlnkffgiaa
open Go.RowKit
set_option linter.unusedVariables false
set_option linter.unusedSimpArgs false

/-- what is appended to an empty row without room lies in a new block -/
theorem run_clone0 {P : Program} (w : World) (t ty e : TypeId) (i : TypeInfo) (z : Value) (size bytes : Nat) (ht : P.underlying t = some (.slice e)) (hi : P.info? e = some i) (hz : i.zero = some z) (hsize : i.size = size) (hby : i.bytes = bytes) (hzs : z.cells.size = size)
    (b a : Addr) (n c : Nat) (news : List Value) (hl : news.length = n * size) (hnews : ∀ j u, news[j]? = some u → w.cell? (a.add j) = some u) (hn : 0 < n) (h63 : n ≤ maxLen) (hbytes : n * bytes ≤ 140737488355328) :
    ∃ k cur, (Builtin.append_ #[t, t] ty #[.slice (some b) 0 0, .slice (some a) n c]).run P w = .ok (.slice (some ⟨w.heap.size, 0, none⟩) n k) (w.drew.alloc (.cells cur e)) ∧ n ≤ k ∧ k ≤ maxLen ∧ cur.size = k * size ∧ cur.toList.take (n * size) = news := by
  subst hsize
  subst hby
  have hsmall : n ≤ 9223372036854775807 := by simp only [maxLen] at h63; omega
  have hge := grownCap_ge w (0 + n) 0 e
  have hcm : grownCap w (0 + n) 0 e ≤ maxLen := grownCap_le_maxLen w (0 + n) 0 e (by omega)
  have hr := run_append_grow (P := P) w t ty e i z ht hi hz b 0 0 [] (by simp) (fun j v h => by simp at h) a n c news hl hnews (by omega) (by omega) (growslice_fits (by omega) (by rw [Nat.zero_add]; exact hbytes))
  simp only [Nat.zero_add] at hge hcm hr
  refine ⟨_, _, hr, hge, hcm, ?_, ?_⟩
  · simp only [Array.size_append, List.size_toArray, size_zeroCells, hzs, hl, List.length_nil, Nat.zero_add, ← Nat.add_mul]
    congr 1
    omega
  · simp only [Array.toList_append, List.append_assoc, List.nil_append]
    rw [← hl]
    exact List.take_left

/-- n numbers at the head of a block that may be written -/
def OwnW (w : World) (zs : List Int) (n g k : Nat) : Prop := ∃ cur : List Value, w.heap[g]? = some (.cells cur.toArray 2) ∧ cur.length = k ∧ n ≤ k ∧ k ≤ 9223372036854775807 ∧ cur.take n = rowsL zs n
theorem OwnW.lt {w : World} {zs : List Int} {n g k : Nat} (h : OwnW w zs n g k) : g < w.heap.size := by
  obtain ⟨cur, h1, _⟩ := h
  exact (Array.getElem?_eq_some_iff.1 h1).1
theorem OwnW.on {w : World} {zs : List Int} {n g k : Nat} (h : OwnW w zs n g k) : OnW w zs n g k := by
  have hl := h.lt
  obtain ⟨cur, h1, h2, h3, h4, h5⟩ := h
  refine ⟨h3, h4, hl, fun i hi => heap_cell i _ h1 ?_⟩
  have h6 := rowsL_get zs n i hi
  rw [← h5, List.getElem?_take, if_pos hi] at h6
  rw [List.getElem?_toArray]
  exact h6
theorem OwnW.free {w : World} {zs : List Int} {n g k : Nat} (h : OwnW w zs n g k) (i : Nat) : w.frozen? ⟨g, i, none⟩ = false := by
  obtain ⟨cur, h1, _⟩ := h
  exact heap_free i h1
theorem OwnW.below {w w' : World} {zs : List Int} {n g k : Nat} (h : OwnW w zs n g k) (hb : Below w.heap.size w w') : OwnW w' zs n g k := by
  have hl := h.lt
  obtain ⟨cur, h1, h2⟩ := h
  exact ⟨cur, by rw [hb.block g hl]; exact h1, h2⟩
theorem OwnW.store {w : World} {zs : List Int} {n g k : Nat} (h : OwnW w zs n g k) {a : Addr} (hne : g ≠ a.block) (u : Value) : OwnW (w.setCell a u) zs n g k := by
  obtain ⟨cur, h1, h2⟩ := h
  exact ⟨cur, by rw [Below.heap_setCell _ _ _ _ hne]; exact h1, h2⟩
theorem rowsL_set (zs : List Int) (n i : Nat) (z : Int) (hl : n ≤ zs.length) (hi : i < n) : (rowsL zs n).set i (.int .i64 z) = rowsL (zs.set i z) n := by
  refine List.ext_getElem? fun j => ?_
  by_cases hj : j < n
  · rw [rowsL_get _ _ _ hj, List.getElem?_set]
    by_cases c : i = j
    · subst c
      simp [rowsL_len, hi, Nat.lt_of_lt_of_le hi hl]
    · rw [if_neg c, rowsL_get _ _ _ hj, List.getElem?_set, if_neg c]
  · rw [List.getElem?_eq_none (by simp [rowsL_len]; omega), List.getElem?_eq_none (by rw [rowsL_len]; omega)]
theorem OwnW.set {w : World} {zs : List Int} {n g k : Nat} (h : OwnW w zs n g k) (i : Nat) (z : Int) (hi : i < n) (hl : n ≤ zs.length) : OwnW (w.setCell ⟨g, i, none⟩ (.int .i64 z)) (zs.set i z) n g k := by
  obtain ⟨cur, h1, h2, h3, h4, h5⟩ := h
  refine ⟨cur.set i (.int .i64 z), ?_, by rw [List.length_set, h2], h3, h4, ?_⟩
  · rw [heap_setCell_same _ _ _ _ _ _ h1, List.setIfInBounds_toArray]
  · rw [List.take_set, h5, rowsL_set _ _ _ _ hl hi]

/-- a row (a window) of one's own -/
def isRow (zs : List Int) (n : Nat) (v : Value) (w : World) : Prop := ∃ g k, v = .slice (some ⟨g, 0, none⟩) n k ∧ OwnW w zs n g k
theorem isRow.below {zs : List Int} {n : Nat} {v : Value} {w w' : World} (h : isRow zs n v w) (hb : Below w.heap.size w w') : isRow zs n v w' := by
  obtain ⟨g, k, rfl, o⟩ := h
  exact ⟨g, k, rfl, o.below hb⟩
def isOwn (zs : List Int) (n : Nat) (v : Value) (w : World) : Prop := ∃ g k, v = .agg #[.slice (some ⟨g, 0, none⟩) n k] ∧ OwnW w zs n g k
theorem isOwn.below {zs : List Int} {n : Nat} {v : Value} {w w' : World} (h : isOwn zs n v w) (hb : Below w.heap.size w w') : isOwn zs n v w' := by
  obtain ⟨g, k, rfl, o⟩ := h
  exact ⟨g, k, rfl, o.below hb⟩
def isNone (v : Value) (_ : World) : Prop := ∃ B : Nat, v = .slice (some ⟨B, 0, none⟩) 0 0
theorem isNone.below {v : Value} {w w' : World} (h : isNone v w) (_ : Below w.heap.size w w') : isNone v w' := h

/-- the cells of a row in an argument -/
theorem at_news {w : World} {zs : List Int} {n b off k : Nat} (h : AtW w zs n b off k) : ∀ j u, (rowsL zs n)[j]? = some u → w.cell? ((⟨b, off, none⟩ : Addr).add j) = some u := by
  intro j u hj
  have hjn : j < n := by
    have := (List.getElem?_eq_some_iff.1 hj).1
    rwa [rowsL_len] at this
  rw [rowsL_get zs n j hjn] at hj
  have had : (⟨b, off, none⟩ : Addr).add j = ⟨b, off + j, none⟩ := by cases j <;> simp [Addr.add]
  rw [← Option.some.inj hj, had]
  exact h.cs j hjn
theorem rowsL_one (zs : List Int) (n : Nat) : ∀ u ∈ rowsL zs n, u.oneCell' = true := by
  intro u hu
  simp only [rowsL, List.mem_map] at hu
  obtain ⟨i, _, rfl⟩ := hu
  rfl
/-- what owns the cells of a row -/
theorem own_of_row {w : World} {base g n cap : Nat} {zs : List Int} (h : w.ownsRow base 2 1 (.slice (some ⟨g, 0, none⟩) n cap) n (rowsL zs n)) : OwnW w zs n g cap := by
  rcases h.2 with ⟨h0, _⟩ | ⟨g', cap', cur', hv, hb', hh, hn1, hn2, hn3, hn4⟩
  · cases h0
  · simp at hv
    obtain ⟨rfl, rfl⟩ := hv
    have : maxLen = 9223372036854775807 := rfl
    exact ⟨cur'.toList, by simpa using hh, by simpa using hn3, hn1, by omega, by simpa using hn4⟩
theorem run_clone_row (w : World) (ty : TypeId) (b : Addr) (zs : List Int) (n a off c : Nat) (h : AtW w zs n a off c) (hn : 0 < n) (hn2 : n ≤ 1000) :
    ∃ k w', (Builtin.append_ #[69, 69] ty #[.slice (some b) 0 0, .slice (some ⟨a, off, none⟩) n c]).run Try.prog w = .ok (.slice (some ⟨w.heap.size, 0, none⟩) n k) w' ∧ Below w.heap.size w w' ∧ OwnW w' zs n w.heap.size k ∧ w.heap.size < w'.heap.size := by
  have hinf : (Try.prog.info? 2).map (fun i => (i.zero, i.size, i.bytes)) = some (some (.int .i64 0), 1, 8) := by kernel_rfl
  obtain ⟨i0, hi0, hz0, hz1, hz2⟩ := info_parts hinf
  have hm : maxLen = 9223372036854775807 := rfl
  obtain ⟨k, cur, hr, h1, h2, h3, h4⟩ := run_clone0 (P := Try.prog) w 69 ty 2 i0 (.int .i64 0) 1 8 Try.underlying69 hi0 hz0 hz1 hz2 rfl b ⟨a, off, none⟩ n c (rowsL zs n) (by rw [rowsL_len]; omega) (at_news h) hn (by omega) (by omega)
  exact ⟨k, _, hr, (Below.refl _ _).drew.alloc (Nat.le_refl _) _, ⟨cur.toList, by simpa using heap_alloc_new w.drew (.cells cur 2), by simpa using h3, h1, by omega, by simpa using h4⟩, by simp⟩

theorem wild_clone {a : Act} {o : Oper} {w : World} (s x : Operand) (ho : o.op = .call { callee := .builtin .append, args := #[s, x], argTypes := #[69, 69] }) (b : Addr) (zs : List Int) (n a0 off c : Nat) (hs : a.eval s = .slice (some b) 0 0) (hx : a.eval x = .slice (some ⟨a0, off, none⟩) n c) (h : AtW w zs n a0 off c) (hn : 0 < n) (hn2 : n ≤ 1000) :
    wildUpon Try.prog w (isRow zs n) newB ((execOp a.eval o).run Try.prog w) := by
  obtain ⟨k, w', hr, hb, ho', hl⟩ := run_clone_row w o.type b zs n a0 off c h hn hn2
  unfold execOp
  simp only [ho, resolve, invoke, builtin, Sem.run_bind, Sem.run_pure, Result.andThen_ok, List.map_toArray, List.map_cons, List.map_nil, hs, hx, hr]
  exact wildUpon_value ⟨⟨_, _, rfl, ho'⟩, hb, fun q hq => by
    rw [newB_row, List.mem_singleton] at hq
    subst hq
    exact ⟨Nat.le_refl _, hl⟩⟩

/-- what the law itself reckons: the sum, whether it may be moved, the rows -/
def sumL (zs : List Int) (n : Nat) : Int := bif rightW zs n then sumK zs n else 0
def farL (zs : List Int) (n : Nat) (d : Int) : Bool := farB d && !(anyK (fun z => !plB (z + d)) zs n)
def pushL (zs : List Int) (n : Nat) (pos : Int) : List Int := bif rightW zs n && plB pos then pos :: zs else zs
def shiftL (zs : List Int) (n : Nat) (d : Int) : List Int := bif rightW zs n && farB d then shR zs n d else zs
theorem farL_right (zs : List Int) (n : Nat) (d : Int) (hr : rightW zs n = true) (hf : farB d = true) : farL zs n d = rightW (shW zs n d) n := by
  have hn := rightW_yes hr
  unfold farL
  rw [hf, Bool.true_and]
  cases hq : anyK (fun z => !plB (z + d)) zs n
  · refine (rightW_of ⟨hn.1, hn.2.1⟩ fun i hi => ?_).symm
    have := anyK_no _ _ _ hq i hi
    rw [shW_get _ _ _ i hi]
    simpa using this
  · cases hw : rightW (shW zs n d) n
    · rfl
    · have : anyK (fun z => !plB (z + d)) zs n = false := anyK_of _ _ _ fun i hi => by
        have h1 := (rightW_yes hw).2.2 i hi
        rw [shW_get _ _ _ i hi] at h1
        have h2 : plB (zs[i]?.getD 0 + d) = true := decide_eq_true h1
        simp [h2]
      rw [this] at hq
      cases hq

end Go.Proofs.Ytddakmlnkffgiaa
