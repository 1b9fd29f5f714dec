/- Layer 12: what ends, clears, comes last and next, of any line. -/
import Derived.Test.YthhfnageadckkaaGreatM14
import Derived.Deep.RegionHeld3
namespace Go.Proofs.YthhfnageadckkaaGreat
open Go.RowKit
set_option linter.unusedVariables false
set_option linter.unusedSimpArgs false
attribute [local go_sem] ite_max ite_min vite_max vite_min ext_cell ext_frozen extS_cell extS_frozen

theorem Lies.apart {w : World} {B g n k p : Nat} {xs : List Value} (h : Lies w B 7 (some ⟨g, 0, none⟩) n xs) (hp : ¬ p ∈ newN n (.slice (some ⟨g, 0, none⟩) n k)) (o : Nat) (u : Value) : Lies (w.setCell ⟨p, o, none⟩ u) B 7 (some ⟨g, 0, none⟩) n xs := by
 refine ⟨h.1, fun hn => ?_⟩
 rw [newN_pos hn, List.mem_singleton] at hp
 obtain ⟨b, off, e, hb, hc⟩ := h.2 hn
 injection e with e
 injection e with e1 e2
 subst e1 e2
 exact ⟨_, _, rfl, hb, fun j u' hu => by
  rw [World.cell?_setCell_other w ⟨p, o, none⟩ ⟨_, _, none⟩ u (fun he => by injection he with h1 h2; exact hp h1)]
  exact hc j u' hu⟩

structure EndR where
 ns : List CmdS
 ws : List CmdS
 id : Int
def endR (ns ws : List CmdS) : EndR := if lineB ns ws = true then (match ns with | [] => ⟨[], [], 0⟩ | y :: _ => ⟨ws.take 1, ws.drop 1, y.id⟩) else ⟨[], [], 0⟩
theorem line_cases {ns ws : List CmdS} (h : lineB ns ws = true) : (ns = [] ∧ ws = []) ∨ ∃ y, ns = [y] := by
 have h1 := lineB_yes h
 match ns, h1.1, h1.2.2.1 with
 | [], _, h3 => exact Or.inl ⟨rfl, List.eq_nil_of_length_eq_zero (h3 rfl)⟩
 | [x], _, _ => exact Or.inr ⟨x, rfl⟩
 | _ :: _ :: _, h2, _ => simp at h2
theorem lend_at (ns ws : List CmdS) (v : Value) (base : Nat) (w : World) (h : LineV w base ns ws v) :
  Calls Tryz.prog 70 #[v] w fun e w' => EndPost w (endR ns ws).ns (endR ns ws).ws (endR ns ws).id e w' := by
 unfold endR
 cases hq : lineB ns ws
 ·exact lend_noline ns ws v base w h hq
 ·rcases line_cases hq with ⟨rfl, rfl⟩ | ⟨y, rfl⟩
  ·exact lend_none [] v base w h hq
  ·exact lend_some y ws v base w h hq
def clearR (ns ws : List CmdS) : List CmdS := if lineB ns ws = true then ns ++ ws else []
theorem lclear_at (ns ws : List CmdS) (v : Value) (base : Nat) (w : World) (h : LineV w base ns ws v) : Calls Tryz.prog 84 #[v] w fun e w' => ClearPost w (clearR ns ws) e w' := by
 unfold clearR
 cases hq : lineB ns ws
 ·exact lclear_noline ns ws v base w h hq
 ·exact lclear_yes ns ws v base w h hq
structure OneR where
 x : CmdS
 ok : Bool
def lastR (ns ws : List CmdS) : OneR := if lineB ns ws = true then (match ns ++ ws with | [] => ⟨cmd0, false⟩ | y :: l => ⟨(y :: l)[l.length]'(by simp), true⟩) else ⟨cmd0, false⟩
theorem llast_at (ns ws : List CmdS) (v : Value) (base : Nat) (w : World) (h : LineV w base ns ws v) (g1 : ns.length ≤ 400) (g2 : ws.length ≤ 400) : Calls Tryz.prog 109 #[v] w fun e w' => OnePost w (lastR ns ws).x (lastR ns ws).ok e w' := by
 unfold lastR
 cases hq : lineB ns ws
 ·exact llast_no ns ws v base w h g1 g2 hq
 ·rcases line_cases hq with ⟨rfl, rfl⟩ | ⟨y, rfl⟩
  ·exact llast_nil v base w h
  ·exact llast_some [y] ws _ ws.length v base w h g1 g2 hq (by simp) (by simp)
def nextR (ns ws : List CmdS) : OneR := if lineB ns ws = true then (match ws with | [] => ⟨cmd0, false⟩ | y :: _ => ⟨y, true⟩) else ⟨cmd0, false⟩
theorem lnext_at (ns ws : List CmdS) (v : Value) (base : Nat) (w : World) (h : LineV w base ns ws v) : Calls Tryz.prog 114 #[v] w fun e w' => OnePost w (nextR ns ws).x (nextR ns ws).ok e w' := by
 unfold nextR
 cases hq : lineB ns ws
 ·exact lnext_no ns ws v base w h hq
 ·cases ws with
  | nil => exact lnext_nil ns v base w h hq
  | cons y l => exact lnext_some ns (y :: l) y v base w h hq rfl
theorem LineV.lies {w : World} {base : Nat} {ns ws : List CmdS} {A D : Option Addr} {n m c d : Nat} (h : LineV w base ns ws (.agg #[.slice A n c, .slice D m d])) (hn : n = ns.length) (hm : m = ws.length) : Lies w w.heap.size 7 A n (cmdsC ns) ∧ Lies w w.heap.size 7 D m (cmdsC ws) := by
 subst hn hm
 obtain ⟨a, b, e, ⟨A1, c1, e1, -, -, h1, -⟩, ⟨A2, c2, e2, -, -, h2, -⟩⟩ := h
 subst e1 e2
 simp only [Value.agg.injEq, Array.mk.injEq, List.cons.injEq, Value.slice.injEq, and_true, true_and] at e
 obtain ⟨⟨rfl, -⟩, rfl, -⟩ := e
 exact ⟨h1, h2⟩
section
variable {P : Program} {md : Region.Mode} {l : List Oper} {Q : Exit → Act → World → Prop} {S : World → Prop} {fuel : Nat} {listed : Array Bool} {a : Act} {w : World} {i : Nat} {o : Oper}
theorem takeH {v : Value} (hi : l[i]? = some o) (hs : Region.noSelect l.toArray = true) (hf : Region.free md l.toArray listed i = true) (hr : (Region.ready md l.toArray listed).contains i = true)
  (hQ : ∀ c a w, Q (.panic c) (a.put o.dst v) w → Q (.panic c) a w) (hy : YieldsIf P l.toArray S o v a) (hS : S w)
  (h : wpAnyH P md l.toArray Q S fuel (listed.setIfInBounds i true) (a.put o.dst v) w) : wpAnyH P md l.toArray Q S (fuel + 1) listed a w :=
 wpAnyH_take (by simpa using hi) hs hf hr hQ hy hS h
theorem takeT {v : Value} (hi : l[i]? = some o) (hy : ∀ w, S w → (execOp a.eval o).run P w = .ok (.value v) w) (h : wpAnyH P md l.toArray Q S fuel (listed.setIfInBounds i true) (a.put o.dst v) w)
  (hs : Region.noSelect l.toArray = true := by kernel_rfl) (hf : Region.free md l.toArray listed i = true := by kernel_rfl) (hr : (Region.ready md l.toArray listed).contains i = true := by kernel_rfl)
  (hQ : ∀ c a w, Q (.panic c) (a.put o.dst v) w → Q (.panic c) a w := by exact fun _ _ _ h => h) (hw : Region.wanted o (yielded l.toArray a.tmps) = true := by first | kernel_rfl | rfl) (hS : S w := by assumption) : wpAnyH P md l.toArray Q S (fuel + 1) listed a w :=
 takeH hi hs hf hr hQ (Or.inl ⟨hw, hy⟩) hS h
theorem tT {o : Oper} (i : Nat) (v : Value) (hi : l[i]? = some o) (hy : ∀ w, S w → (execOp a.eval o).run P w = .ok (.value v) w) (h : wpAnyH P md l.toArray Q S fuel (listed.setIfInBounds i true) (a.put o.dst v) w)
  (hs : Region.noSelect l.toArray = true := by kernel_rfl) (hf : Region.free md l.toArray listed i = true := by kernel_rfl) (hr : (Region.ready md l.toArray listed).contains i = true := by kernel_rfl)
  (hQ : ∀ c a w, Q (.panic c) (a.put o.dst v) w → Q (.panic c) a w := by exact fun _ _ _ h => h) (hw : Region.wanted o (yielded l.toArray a.tmps) = true := by first | kernel_rfl | rfl) (hS : S w := by assumption) : wpAnyH P md l.toArray Q S (fuel + 1) listed a w :=
 takeH hi hs hf hr hQ (Or.inl ⟨hw, hy⟩) hS h
theorem takeU (hi : l[i]? = some o) (h : wpAnyH P md l.toArray Q S fuel (listed.setIfInBounds i true) (a.put o.dst undef) w)
  (hs : Region.noSelect l.toArray = true := by kernel_rfl) (hf : Region.free md l.toArray listed i = true := by kernel_rfl) (hr : (Region.ready md l.toArray listed).contains i = true := by kernel_rfl)
  (hQ : ∀ c a w, Q (.panic c) (a.put o.dst undef) w → Q (.panic c) a w := by exact fun _ _ _ h => h) (hw : Region.wanted o (yielded l.toArray a.tmps) = false := by first | kernel_rfl | rfl) (hS : S w := by assumption) : wpAnyH P md l.toArray Q S (fuel + 1) listed a w :=
 takeH hi hs hf hr hQ (Or.inr ⟨hw, rfl⟩) hS h
theorem oneH (hr : Region.ready md l.toArray listed = [i]) (ho : l[i]? = some o)
  (h : ∀ K' : Act → World → Prop, Shut (∀ a w, S w → (S w → wpAnyH P md l.toArray Q S fuel (listed.setIfInBounds i true) a w) → K' a w) → if Region.wanted o (yielded l.toArray a.tmps) = true then Oper.wp P o a w K' Q else K' (a.put o.dst undef) w) :
  wpAnyH P md l.toArray Q S (fuel + 1) listed a w :=
 wpAnyH_ready hr (by simp) (AllReadyH.cons (by simpa using ho) h AllReadyH.nil)
end
theorem Lies.at_cmd {w : World} {B b off n : Nat} {xs : List CmdS} (h : Lies w B 7 (some ⟨b, off, none⟩) n (cmdsC xs)) (k : Nat) (x : CmdS) (hx : xs[k]? = some x) : b < B ∧ ∀ j, j < 7 → w.cell? ⟨b, off + k * 7 + j, none⟩ = x.cells[j]? := by
 have hl := h.1
 rw [cmdsC_len] at hl
 have hk : k < xs.length := (List.getElem?_eq_some_iff.1 hx).1
 have hn : n = xs.length := by omega
 subst hn
 obtain ⟨b', off', y, e, hb, hy, hc⟩ := h.cmd k hk
 injection e with e
 injection e with e1 e2
 subst e1 e2
 rw [hx] at hy
 obtain rfl := Option.some.inj hy
 exact ⟨hb, hc⟩
theorem isReadC.lies {n base c : Nat} {xs : List Value} {L : Option Addr} {w : World} (h : isReadC n xs base (.slice L n c) w) : Lies w w.heap.size 7 L n xs ∧ n ≤ c ∧ c ≤ 9223372036854775807 := by
 obtain ⟨A, c', e, h1, h2, h3, -⟩ := h
 injection e with e1 e2 e3
 subst e1 e3
 exact ⟨h3, h1, h2⟩
theorem Lies.some {w : World} {B n : Nat} {A : Option Addr} {xs : List Value} (h : Lies w B 7 A n xs) (hn : 0 < n) : ∃ b off, A = some ⟨b, off, none⟩ := by
 obtain ⟨b, off, e, -⟩ := h.2 hn
 exact ⟨b, off, e⟩
theorem IdsV.form {w : World} {xs : List CmdS} {b : Nat} {v : Value} (h : IdsV w xs b v) : ∃ I c, v = .slice I xs.length c ∧ xs.length ≤ c ∧ c ≤ 9223372036854775807 ∧ Lies w w.heap.size 1 I xs.length (intsC (xs.map CmdS.id)) :=
 own_nums (xs := xs.map CmdS.id) (by simpa [IdsV, idsC, intsC, List.map_map, Function.comp_def] using h)
theorem told_one {y : CmdS} {ws : List CmdS} (h : lineB [y] ws = true) : endR [y] ws = ⟨ws.take 1, ws.drop 1, y.id⟩ ∧ clearR [y] ws = y :: ws ∧ (lastR [y] ws).ok = true ∧ (y :: ws)[ws.length]? = some (lastR [y] ws).x ∧ (nextR [y] ws).ok = decide (0 < ws.length) ∧ (0 < ws.length → (y :: ws)[1]? = some (nextR [y] ws).x) := by
 unfold endR clearR lastR nextR
 rw [if_pos h, if_pos h, if_pos h, if_pos h]
 refine ⟨rfl, rfl, rfl, ?_, ?_, ?_⟩
 ·simp
 ·cases ws <;> simp
 ·cases ws with
  | nil => intro h; simp at h
  | cons a l => intro _; simp

end Go.Proofs.YthhfnageadckkaaGreat
