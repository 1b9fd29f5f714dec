/- Layer 12, for LineOne: what a step does to a line and to the numbers, in plain Lean. -/
import Derived.Test.YtddakmlnkffgiaaLineI
namespace Go.Proofs.Ytddakmlnkffgiaa
open Go.RowKit
set_option linter.unusedVariables false
set_option linter.unusedSimpArgs false
attribute [local go_sem] ite_max ite_min vite_max vite_min ext_cell ext_frozen extS_cell extS_frozen

structure OpS where
  kind : Int
  mode : Int
def OpS.cells (x : OpS) : List Value := [.int .i64 x.kind, .int .i64 x.mode]

structure StL (w wr : World) (B : Nat) (ns ws : List CmdS) (A D : Option Addr) (n m c d : Nat) : Prop where
  bel : Below w.heap.size w wr
  lt : B < wr.heap.size
  c0 : wr.cell? ⟨B, 0, none⟩ = some (.slice A n c)
  c1 : wr.cell? ⟨B, 1, none⟩ = some (.slice D m d)
  fr : ∀ o, wr.frozen? ⟨B, o, none⟩ = false
  line : LineV wr (B + 1) ns ws (.agg #[.slice A n c, .slice D m d])
theorem StL.below {w wr wx : World} {B : Nat} {ns ws : List CmdS} {A D : Option Addr} {n m c d : Nat} (h : StL w wr B ns ws A D n m c d) (hb : Below wr.heap.size wr wx) : StL w wx B ns ws A D n m c d :=
  ⟨h.bel.trans (hb.mono h.bel.size), Nat.lt_of_lt_of_le h.lt hb.size, (hb.cell h.lt).trans h.c0, (hb.cell h.lt).trans h.c1, fun o => (hb.frozen h.lt).trans (h.fr o), h.line.below hb⟩
structure AddM (wr wx : World) (q : Nat) (R : AddR) (A D : Option Addr) (c d : Nat) (o : Value) : Prop where
  bel : Below wr.heap.size wr wx
  lq : wr.heap.size ≤ q
  lt : q < wx.heap.size
  c0 : wx.cell? ⟨q, 0, none⟩ = some (.slice A R.ns.length c)
  c1 : wx.cell? ⟨q, 1, none⟩ = some (.slice D R.ws.length d)
  line : LineV wx wr.heap.size R.ns R.ws (.agg #[.slice A R.ns.length c, .slice D R.ws.length d])
  ids : IdsV wx R.ids wr.heap.size o
theorem IdsV.below {w w' : World} {xs : List CmdS} {base : Nat} {v : Value} (h : IdsV w xs base v) (hb : Below w.heap.size w w') : IdsV w' xs base v := owns_below h hb
theorem IdsV.base0 {w : World} {xs : List CmdS} {b b' : Nat} {v : Value} (h : IdsV w xs b v) (hb : b' ≤ b) : IdsV w xs b' v := own_base h hb
def seqIds (xs : List CmdS) (g : Nat) : Prop := ∀ k x, xs[k]? = some x → x.id = ((g + k + 1 : Nat) : Int)
structure StN (ns ws : List CmdS) (n m g t : Nat) : Prop where
  hn : ns.length = n
  hm : ws.length = m
  ok : lineB ns ws = true
  ids : seqIds (ns ++ ws) g
  sum : g + n + m = t

/-- the row of numbers that leave: g + 1, g + 2, .. -/
def OutV (w : World) (v : Value) (L g : Nat) : Prop :=
  ∃ I c is, v = .slice I L c ∧ L ≤ c ∧ c ≤ 9223372036854775807 ∧ Lies w w.heap.size 1 I L (intsC is) ∧ ∀ k, k < L → is[k]? = some ((g + k + 1 : Nat) : Int)
theorem OutV.of_ids {w : World} {xs : List CmdS} {base g : Nat} {v : Value} (h : IdsV w xs base v) (hs : seqIds xs g) : OutV w v xs.length g := by
  obtain ⟨A, c, rfl, h1, h2, h3⟩ := own_nums (xs := xs.map CmdS.id) (by simpa [IdsV, idsC, intsC, List.map_map, Function.comp_def] using h)
  refine ⟨A, c, xs.map CmdS.id, rfl, h1, h2, h3, fun k hk => ?_⟩
  rw [List.getElem?_map, List.getElem?_eq_getElem hk]
  exact congrArg some (hs k _ (List.getElem?_eq_getElem hk))
theorem OutV.nil {w : World} {g : Nat} : OutV w (.slice none 0 0) 0 g := ⟨none, 0, [], rfl, Nat.le_refl _, by omega, Lies.empty, fun k hk => absurd hk (by omega)⟩
theorem OutV.below {w w' : World} {v : Value} {L g : Nat} (h : OutV w v L g) (hb : Below w.heap.size w w') : OutV w' v L g := by
  obtain ⟨I, c, is, e, h1, h2, h3, h4⟩ := h
  exact ⟨I, c, is, e, h1, h2, h3.on hb, h4⟩

theorem modeB_no {m : Int} (h : modeB m = false) : m < 0 ∨ (0 ≤ m ∧ 5 < m) := by
  unfold modeB at h
  have := of_decide_eq_false h
  omega
theorem lineB_of {ns ws : List CmdS} (h1 : ns.length ≤ 1) (h2 : ws.length ≤ 4) (h3 : ns.length = 0 → ws.length = 0) (h4 : ∀ x ∈ ns ++ ws, modeB x.mode = true) : lineB ns ws = true := by
  unfold lineB
  rw [decide_eq_true ⟨h1, h2, h3⟩, Bool.true_and, Bool.not_eq_true', List.any_eq_false]
  intro x hx
  simp [h4 x hx]
theorem seqIds_append {xs : List CmdS} {x : CmdS} {g : Nat} (h : seqIds xs g) (hx : x.id = ((g + xs.length + 1 : Nat) : Int)) : seqIds (xs ++ [x]) g := by
  intro k y hy
  rcases Nat.lt_trichotomy k xs.length with hk | hk | hk
  · rw [List.getElem?_append_left hk] at hy
    exact h k y hy
  · subst hk
    rw [List.getElem?_append_right (Nat.le_refl _), Nat.sub_self] at hy
    obtain rfl : x = y := by simpa using hy
    exact hx
  · rw [List.getElem?_eq_none (by simp only [List.length_append, List.length_cons, List.length_nil]; omega)] at hy
    cases hy
theorem seqIds_nil (g : Nat) : seqIds [] g := fun k x h => by simp at h
theorem take_drop_one (xs : List CmdS) : xs.take 1 ++ xs.drop 1 = xs := List.take_append_drop 1 xs

theorem addR_all {ns ws : List CmdS} {n m g t : Nat} {x : CmdS} {R : AddR} (h : StN ns ws n m g t) (hR : addR ns ws x = R) (hx : x.id = ((t + 1 : Nat) : Int)) :
    (R.e = 1 ∧ (x.mode < 0 ∨ (0 ≤ x.mode ∧ 5 < x.mode))) ∨ (R.e = 8 ∧ m = 4) ∨ (R.e = 0 ∧ StN R.ns R.ws R.ns.length R.ws.length (g + R.ids.length) (t + 1) ∧ seqIds R.ids g) := by
  subst hR
  unfold addR
  have hy := lineB_yes h.ok
  rw [h.ok, Bool.true_and]
  rcases hm : modeB x.mode with _ | _
  · rw [if_pos rfl]
    exact Or.inl ⟨rfl, modeB_no hm⟩
  · rw [if_neg (by simp)]
    by_cases h0 : x.mode = 0
    · rw [if_pos h0]
      refine Or.inr (Or.inr ⟨rfl, ⟨rfl, rfl, lineB_of (by simp) (by simp) (by simp) (fun y hy => ?_), fun k y hy => ?_, ?_⟩, h.ids⟩)
      · obtain rfl : y = x := by simpa using hy
        exact hm
      · rcases k with _ | k
        · obtain rfl : x = y := by simpa using hy
          rw [hx]
          have := h.sum
          have h1 := h.hn
          have h2 := h.hm
          simp only [List.length_append]
          congr 1
          omega
        · simp at hy
      · have := h.sum
        have h1 := h.hn
        have h2 := h.hm
        simp only [List.length_append, List.length_cons, List.length_nil]
        omega
    · rw [if_neg h0]
      by_cases h4 : ws.length = 4
      · rw [if_pos h4]
        exact Or.inr (Or.inl ⟨rfl, h.hm ▸ h4⟩)
      · rw [if_neg h4]
        have hl : (ns ++ ws ++ [x]).length = n + m + 1 := by
          rw [List.length_append, List.length_append, h.hn, h.hm]
          rfl
        have h1 := h.hn
        have h2 := h.hm
        have hs := h.sum
        refine Or.inr (Or.inr ⟨rfl, ⟨rfl, rfl, lineB_of ?_ ?_ ?_ ?_, ?_, ?_⟩, seqIds_nil _⟩)
        · simp only [List.length_take]
          omega
        · simp only [List.length_drop]
          omega
        · simp only [List.length_take, List.length_drop]
          omega
        · rw [take_drop_one]
          intro y hy'
          rcases List.mem_append.1 hy' with hy' | hy'
          · exact hy.2.2.2 y hy'
          · obtain rfl : y = x := by simpa using hy'
            exact hm
        · rw [take_drop_one]
          refine seqIds_append h.ids ?_
          rw [hx, List.length_append]
          simp only [List.length_nil]
          congr 1
          omega
        · simp only [List.length_take, List.length_drop, List.length_nil]
          omega

theorem end_all {x : CmdS} {ws : List CmdS} {m g t : Nat} (h : StN [x] ws 1 m g t) : x.id = (g : Int) + 1 ∧ StN (ws.take 1) (ws.drop 1) (ws.take 1).length (ws.drop 1).length (g + 1) t := by
  have hi := h.ids 0 x (by simp)
  have hy := lineB_yes h.ok
  have h2 := h.hm
  have hs := h.sum
  refine ⟨by rw [hi]; omega, rfl, rfl, lineB_of ?_ ?_ ?_ ?_, ?_, ?_⟩
  · simp only [List.length_take]
    omega
  · simp only [List.length_drop]
    omega
  · simp only [List.length_take, List.length_drop]
    omega
  · rw [take_drop_one]
    exact fun y hy' => hy.2.2.2 y (by simp [hy'])
  · rw [take_drop_one]
    intro k y hy'
    have := h.ids (k + 1) y (by simpa using hy')
    rw [this]
    congr 1
    omega
  · simp only [List.length_take, List.length_drop]
    omega
theorem clear_all {ns ws : List CmdS} {n m g t : Nat} (h : StN ns ws n m g t) : StN [] [] 0 0 (g + (ns ++ ws).length) t :=
  ⟨rfl, rfl, rfl, fun k x h => by simp at h, by have := h.sum; have h1 := h.hn; have h2 := h.hm; rw [List.length_append]; omega⟩
end Go.Proofs.Ytddakmlnkffgiaa
