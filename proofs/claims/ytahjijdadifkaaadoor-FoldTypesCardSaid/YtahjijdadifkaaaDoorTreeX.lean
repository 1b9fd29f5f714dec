/- Layer 21: an expression folded, any. -/
import Derived.Test.YtahjijdadifkaaaDoorM11
import Derived.Test.YtahjijdadifkaaaDoorFoldG
import Derived.Laws.CopyOwn
namespace Go.Proofs.YtahjijdadifkaaaDoor
open Go.RowKit
set_option linter.unusedVariables false
set_option linter.unusedSimpArgs false
attribute [local go_sem] ite_max ite_min vite_max vite_min ext_cell ext_frozen

theorem post_row {P : Program} {fn : Func} {R : Ending → World → Prop} {a : Act} {w : World} {p : Tmp} {ty : TypeId} {g : Nat} {t : TypeId} {cs : Array Value} {fr : Nat × Nat} {d : TypeDesc} (h : fn.results = #[.cell p ty])
  (hp : a.tmps.getD p undef = .pointer (some ⟨g, 0, none⟩)) (hg : w.heap[g]? = some (.cells cs t fr)) (hu : P.underlying ty = some d) (hd : (match d with | .struct _ | .array _ _ => true | _ => false) = true) (hi : (P.info? ty).map (·.size) = some cs.size)
  (hdf : a.defers = []) (hR : R (.returned (.agg cs)) w) : bodyPost P fn R .ret a w := bodyPost_ret (results_cell_row h a.tmps w g t cs fr d hp hg hu hd hi) hdf hR
def ExRes (H : Nat) (y : Ex) (e : Ending) (w' : World) : Prop := ∃ A c, e = .returned (.agg #[.int .i64 y.op, .int .i64 y.n, .string y.name, .string y.field, .slice A y.sub.length c, .int .i64 y.line]) ∧ ExAt (only w' (news H)) y (ExC y A c)
def exA (op n : Int) (nm fd : ByteArray) (A : Option Addr) (m c : Nat) (ln : Int) : Array Value := #[.int .i64 op, .int .i64 n, .string nm, .string fd, .slice A m c, .int .i64 ln]
theorem exA_one (op n : Int) (nm fd : ByteArray) (A : Option Addr) (m c : Nat) (ln : Int) : (exA op n nm fd A m c ln).all (·.oneCell') = true := by
 simp [exA, Value.oneCell']
theorem rangeAt_of_heap {w : World} {H : Nat} {cs : Array Value} {T : TypeId} (h : w.heap[H]? = some (.cells cs T)) : w.rangeAt H 0 cs.toList := fun j u hu => by
 rw [Nat.zero_add]
 exact heap_cell j u h (by rw [← Array.getElem?_toList]; exact hu)

structure XV (w V : World) (H : Nat) (op n : Int) (nm fd : ByteArray) (A : Option Addr) (m c : Nat) (ln : Int) (ys : List Ex) : Prop where
 x : V.heap[H]? = some (.cells (exA op n nm fd A m c ln) 28)
 z : V.heap[H + 1]? = some (.cells (exA 0 0 ⟨#[]⟩ ⟨#[]⟩ none 0 0 0) 28)
 b : Below H w V
 r : RowE (only V (news (H + 2))) A ys c
 lt : H + 2 ≤ V.heap.size
section
variable {w V V' : World} {H : Nat} {op n : Int} {nm fd : ByteArray} {A : Option Addr} {m c : Nat} {ln : Int} {ys : List Ex}
theorem XV.below (h : XV w V H op n nm fd A m c ln ys) (hb : Below V.heap.size V V') : XV w V' H op n nm fd A m c ln ys :=
 ⟨(hb.block H (by have := h.lt; omega)).trans h.x, (hb.block (H + 1) (by have := h.lt; omega)).trans h.z, h.b.trans (hb.mono (by have := h.lt; omega)), h.r.move (.onlyB hb fun b _ h => h), Nat.le_trans h.lt hb.size⟩
theorem XV.row (h : XV w V H op n nm fd A m c ln ys) : RowE V A ys c := h.r.move (Moves.only _ _)
theorem res_set {y : Ex} {k : Nat} {cs : Array Value} (hat : ExAt (only V (news (H + 2))) y (ExC y A k)) (hb : Below H w V) : ExRes H y (.returned (.agg (ExC y A k).toArray)) (V.setRow (H + 1) cs) ∧ Below H w (V.setRow (H + 1) cs) := by
 refine ⟨⟨A, k, rfl, hat.move (.onlyW (by simp [World.setRow]) fun b _ hp => ?_)⟩, below_setRow hb (by omega) _⟩
 simp only [news, decide_eq_true_eq] at hp ⊢
 exact ⟨by omega, setRow_other _ _ _ _ (by omega)⟩
theorem XV.done (h : XV w V H op n nm fd A m c ln ys) {x : Ex} (he : foldE opF x = .mk op n nm fd ys ln) (ho : I64 op) (hn : I64 n) (hl : I64 ln) (hm : ys.length = m) (cs : Array Value) :
  ExRes H (foldE opF x) (.returned (.agg (exA op n nm fd A m c ln))) (V.setRow (H + 1) cs) ∧ Below H w (V.setRow (H + 1) cs) := by
 rw [he]
 subst hm
 exact res_set (y := .mk op n nm fd ys ln) (ExAt.of ho hn hl h.r) h.b
theorem made_res1 {r ln : Int} {cs : Array Value} (h : 0 ≤ r) (hr : I64 r) (hl : I64 ln) (hb : Below H w V) : ExRes H (madeX r false ln) (.returned (.agg (exA 1 r ⟨#[]⟩ ⟨#[]⟩ none 0 0 ln))) (V.setRow (H + 1) cs) ∧ Below H w (V.setRow (H + 1) cs) := by
 unfold madeX
 rw [if_neg (by decide), if_pos h]
 exact res_set (y := .mk 1 r ⟨#[]⟩ ⟨#[]⟩ [] ln) (A := none) (k := 0) (ExAt.of ⟨by decide, by decide⟩ hr hl (RowOf.nil _ _ _ _ _ _ (by decide))) hb
theorem made_res2 {r ln : Int} {cs : Array Value} (hr : I64 r) (hl : I64 ln) (hb : Below H w V) : ExRes H (madeX r true ln) (.returned (.agg (exA 2 r ⟨#[]⟩ ⟨#[]⟩ none 0 0 ln))) (V.setRow (H + 1) cs) ∧ Below H w (V.setRow (H + 1) cs) := by
 unfold madeX
 rw [if_pos rfl]
 exact res_set (y := .mk 2 r ⟨#[]⟩ ⟨#[]⟩ [] ln) (A := none) (k := 0) (ExAt.of ⟨by decide, by decide⟩ hr hl (RowOf.nil _ _ _ _ _ _ (by decide))) hb
theorem made_res6 {r ln : Int} {cs : Array Value} {q : Nat} (h : r < 0) (hl : I64 ln) (hb : Below H w V) (hq1 : H + 2 ≤ q) (hq2 : q < V.heap.size)
  (hc : ∀ j u, (#[Value.int .i64 1, .int .i64 (IntKind.i64.wrap (-r)), .string ⟨#[]⟩, .string ⟨#[]⟩, .slice none 0 0, .int .i64 ln] : Array Value)[j]? = some u → V.cell? ⟨q, j, none⟩ = some u) :
  ExRes H (madeX r false ln) (.returned (.agg (exA 6 0 ⟨#[]⟩ ⟨#[]⟩ (some ⟨q, 0, none⟩) 1 1 ln))) (V.setRow (H + 1) cs) ∧ Below H w (V.setRow (H + 1) cs) := by
 unfold madeX
 rw [if_neg (by decide), if_neg (by omega)]
 refine res_set (y := .mk 6 0 ⟨#[]⟩ ⟨#[]⟩ [.mk 1 (IntKind.i64.wrap (-r)) ⟨#[]⟩ ⟨#[]⟩ [] ln] ln) (A := some ⟨q, 0, none⟩) (k := 1) (ExAt.of ⟨by decide, by decide⟩ zero_I64 hl ?_) hb
 refine ⟨Nat.le_refl _, by decide, by show 1 * 80 ≤ _; decide, fun _ => ExC (.mk 1 (IntKind.i64.wrap (-r)) ⟨#[]⟩ ⟨#[]⟩ [] ln) none 0, fun _ => ⟨q, 0, rfl, by rw [only_size]; exact hq2, fun i hi j hj => ?_⟩, fun i x hx => ?_⟩
 ·have h0 : i = 0 := by
   have : i < 1 := hi
   omega
  subst h0
  rw [cell_only (by simp only [news, decide_eq_true_eq]; exact hq1), Nat.zero_mul, Nat.zero_add]
  show _ = (ExC (.mk 1 (IntKind.i64.wrap (-r)) ⟨#[]⟩ ⟨#[]⟩ [] ln) none 0)[j]?
  have hl6 : (ExC (.mk 1 (IntKind.i64.wrap (-r)) ⟨#[]⟩ ⟨#[]⟩ [] ln) none 0).length = 6 := rfl
  rw [List.getElem?_eq_getElem (by omega)]
  refine hc j _ ?_
  show (ExC (.mk 1 (IntKind.i64.wrap (-r)) ⟨#[]⟩ ⟨#[]⟩ [] ln) none 0).toArray[j]? = _
  rw [List.getElem?_toArray, List.getElem?_eq_getElem (by omega)]
 ·rcases i with _ | i
  ·simp at hx
   subst hx
   exact ExAt.of (w := only V (news (H + 2))) ⟨by decide, by decide⟩ (wrap_I64 _) hl (RowOf.nil _ _ _ _ _ _ (by decide))
  ·simp at hx
theorem XV.const (h : XV w V H op n nm fd A m c ln ys) (ho : I64 op) (hn : I64 n) (hl : I64 ln) (hm : ys.length = m) :
  Calls Tryd.prog 22 #[.agg (exA op n nm fd A m c ln)] V fun e w' => e = .returned (constT (.mk op n nm fd ys ln)) ∧ Below V.heap.size V w' := by
 subst hm
 exact constant_any (.mk op n nm fd ys ln) A c V (ExAt.of ho hn hl h.row)
end
theorem fd_i64 : (Tryd.prog.info? 2).map (fun i => (i.zero, i.size, i.bytes)) = some (some (.int .i64 0), 1, 8) := by kernel_rfl

set_option maxRecDepth 100000 in
set_option maxHeartbeats 4000000 in
theorem fexpr_any : ∀ (k : Nat) (x : Ex), SizeOf.sizeOf x < k → ∀ (w : World) (A : Option Addr) (cap : Nat), ExAt w x (ExC x A cap) → Calls Tryd.prog 11 #[.agg (ExC x A cap).toArray] w fun e w' => ExRes w.heap.size (foldE opF x) e w' ∧ Below w.heap.size w w' := by
 intro k
 induction k with
 | zero => intro x h; omega
 | succ k ih =>
  intro x hsz w A cap hat
  obtain ⟨i0, hi0, hz0, hz1, hz2⟩ := info_parts expr_info
  have HI := Lib.hid hi0
  have HZ0 := Lib.hid hz0
  have HZ1 := Lib.hid hz1
  have HZ2 := Lib.hid hz2
  clear hi0 hz0 hz1 hz2
  obtain ⟨op, n, nm, fd, sub, ln⟩ := x
  obtain ⟨hrow, ho, hn, hln⟩ : RowE w A sub cap ∧ I64 op ∧ I64 n ∧ I64 ln := by
   obtain ⟨A', k', he, hr, h1, h2, h3⟩ := hat.form
   simp only [ExC, List.cons.injEq, Value.slice.injEq, and_true, true_and] at he
   obtain ⟨rfl, rfl⟩ := he
   exact ⟨hr, h1, h2, h3⟩
  have HIH := Lib.hid (fun y (hy : y ∈ sub) => ih y (by
   have h1 := List.sizeOf_lt_of_mem hy
   simp at hsz
   omega))
  have HR := Lib.hid hrow
  have HO := Lib.hid ho
  have HNr := Lib.hid hn
  have HLN := Lib.hid hln
  have hsl := hrow.1
  have hsc := hrow.2.1
  have hsb := hrow.2.2.1
  show Calls Tryd.prog 11 #[.agg #[.int .i64 op, .int .i64 n, .string nm, .string fd, .slice A sub.length cap, .int .i64 ln]] w _
  obtain ⟨m, hm⟩ : ∃ m, sub.length = m := ⟨_, rfl⟩
  rw [hm] at hsl hsb ⊢
  have HM := Lib.hid hm
  obtain ⟨H, hH⟩ : ∃ H, w.heap.size = H := ⟨_, rfl⟩
  have HH := Lib.hid hH
  have hHw : w.heap.size ≤ H := by omega
  have hHw2 : H ≤ w.heap.size := by omega
  rw [hH]
  clear ih hrow hat hm ho hn hln hsz
  go_enter Tryd.func11, Tryd.ntmps11
  go_wp2_with fail
  refine wp_name fun W hW => ?_
  have hX0 : W.heap[H]? = some (.cells (exA op n nm fd A m cap ln) 28) := by
   rw [hW.out, ← hH, heap_alloc_old _ _ (by simp)]
   exact heap_alloc_new _ _
  have hZ0 : W.heap[H + 1]? = some (.cells (exA 0 0 ⟨#[]⟩ ⟨#[]⟩ none 0 0 0) 28) := by
   rw [hW.out, ← hH]
   have := heap_alloc_new (w.alloc (.cells (exA op n nm fd A m cap ln) 28)) (.cells (exA 0 0 ⟨#[]⟩ ⟨#[]⟩ none 0 0 0) 28)
   rw [World.size_alloc] at this
   exact this
  have hWs : W.heap.size = H + 2 := by rw [hW.out, ← hH]; simp
  have hB : Below w.heap.size w W := by rw [hW.out]; exact belowBy
  have HX0 := Lib.hid hX0
  have HZ0' := Lib.hid hZ0
  have HB := Lib.hid hB
  clear hW hX0 hZ0 hB
  go_loopw [3, 22] (fun v u wr => ∃ (i : Nat) (v' : Value), v' = v ∧ i ≤ m ∧ u = .int .i64 i ∧ Hid (BuiltE wr (H + 2) (foldEs opF (sub.take i)) v') ∧ Below W.heap.size W wr) (fun _ u _ => m - (intOf u).toNat)
  case atStart => exact ⟨0, _, rfl, by omega, rfl, Lib.hid (by rw [List.take_zero, foldEs]; exact BuiltE.nil _ _), Below.refl _ _⟩
  case round =>
   obtain ⟨i, v', rfl, hi, rfl, HBU, hbr⟩ := hrel
   have hbs := hbr.size
   by_cases hlt : i < m
   ·obtain ⟨b, off, y, As, ks, rfl, hbl, hy, hat, hsub, hrng⟩ := RowE.at (HR.out.below (HB.out.trans (hbr.mono HB.out.size))) (i := i) (by rw [HM.out]; exact hlt)
    have hi0 : (0 : Int) ≤ (i : Int) ∧ (i : Int) < (m : Int) := by omega
    have HY := Lib.hid hy
    have HRG := Lib.hid hrng
    have HAT := Lib.hid hat
    have HSB := Lib.hid hsub
    clear hy hrng hat hsub
    go_upto_region 5 with (first
     | refine wpList_load_mid rfl 28 _ rfl b (off + i * 6) rfl (ExC y As ks) _ HRG.out Tryd.underlying28 rfl expr_size ?_
     | refine wpList_store_new rfl 28 _ _ rfl wr _ (ExC y As ks).toArray rfl rfl rfl expr_size rfl (exC_one y As ks) ?_)
    refine wp_name fun W2 hW2 => ?_
    obtain ⟨G, hG⟩ : ∃ G, G = wr.heap.size := ⟨_, rfl⟩
    rw [← hG]
    have hB2 : Below wr.heap.size wr W2 := by rw [hW2.out]; exact belowBy
    have hh : W2.heap[G]? = some (.cells (ExC y As ks).toArray 28) := by rw [hW2.out, hG]; exact heap_alloc_new _ _
    have HV := Lib.hid (EV.mk0 HAT.out HSB.out hB2 hh)
    have HBU2 := Lib.hid (HBU.out.below hB2)
    have HBW := Lib.hid (hbr.trans (hB2.mono hbr.size))
    have hz2 := hB2.size
    have HRW := Lib.hid (rangeAt_of_heap hh)
    clear hW2 hB2 hh HAT HSB HRG HBU hbr hG
    go_wp2_with (refine wpList_load_mid rfl 28 _ rfl G 0 rfl (ExC y As ks) _ HRW.out Tryd.underlying28 rfl expr_size ?_)
    refine (HIH.out y (List.mem_of_getElem? HY.out) _ As ks HV.out.ats).mono ?_
    rintro e w1 ⟨⟨A1, c1, rfl, hat1⟩, hb1⟩
    obtain ⟨y', hy'⟩ : ∃ y', foldE opF y = y' := ⟨_, rfl⟩
    rw [hy'] at hat1 ⊢
    have hz1 := hb1.size
    obtain ⟨cs, hown, hcs⟩ := HBU2.out.below hb1
    rw [foldEs_len, List.length_take, Nat.min_eq_left (by rw [HM.out]; omega)] at hown
    have hb1a : Below w1.heap.size w1 (w1.alloc (.cells (exA y'.op y'.n y'.name y'.field A1 y'.sub.length c1 y'.line) 28)) := below_new (Below.refl _ _) (Nat.le_refl _) _
    have hat2 : ExAt (only (w1.alloc (.cells (exA y'.op y'.n y'.name y'.field A1 y'.sub.length c1 y'.line) 28)) (frees (H + 2) v')) y' (ExC y' A1 c1) := hat1.move (.onlyB hb1a fun b hb hp => by
     simp only [news, decide_eq_true_eq] at hp
     simp only [frees, Bool.and_eq_true, decide_eq_true_eq]
     refine ⟨by omega, fun e => ?_⟩
     obtain ⟨cs0, ho0, -⟩ := HBU2.out
     have := (ho0.lt b e.symm).2
     omega)
    have HAT2 := Lib.hid hat2
    have HCS := Lib.hid (hcs.mono fun z c hz => hz.move (.onlyB hb1a fun b _ h => h))
    have HOWN := Lib.hid hown
    have HB1 := Lib.hid (HBW.out.trans (hb1.mono HBW.out.size))
    have HYY := Lib.hid hy'
    clear hat1 hat2 hcs hown hb1 hb1a hy'
    go_wp2_with (at_builtin; refine wpList_append_lies _ rfl _ _ 26 rfl (H + 2) 28 i0 (.agg #[.int .i64 0, .int .i64 0, .string ⟨#[]⟩, .string ⟨#[]⟩, .slice none 0 0, .int .i64 0]) 6 80 Tryd.underlying26 HI.out HZ0.out HZ1.out HZ2.out rfl (by decide) _ i _ rfl (HOWN.out.alloc _) ⟨w1.heap.size, 0, none⟩ 1 1 (ExC y' A1 c1) rfl rfl ?c4 ?c6 (by decide) ?c1 ?c2 ?c3 (w1.heap.size + 1) ?c5 ?_)
    case c4 =>
     intro j u hu
     have had : (⟨w1.heap.size, 0, none⟩ : Addr).add j = ⟨w1.heap.size, j, none⟩ := by cases j <;> simp [Addr.add]
     rw [had]
     exact heap_cell j _ (heap_alloc_new w1 _) (by rw [List.getElem?_toArray]; exact hu)
    case c6 => intro u hu; exact (List.all_eq_true.1 (by simpa using exC_one y' A1 c1) u hu)
    case c1 => unfold maxLen; omega
    case c2 => omega
    case c3 => first | omega | (simp; omega)
    case c5 => simp
    intro g cap2 w2 hown2 hgrow hatg hg2
    have HBU3 : Hid (BuiltE w2 (H + 2) (foldEs opF (sub.take (i + 1))) (.slice (some ⟨g, 0, none⟩) (i + 1) cap2)) := Lib.hid (by
     rw [foldEs_snoc opF HY.out, HYY.out]
     exact BuiltE.snoc HCS.out HAT2.out hown2 (by rw [foldEs_len, List.length_take, Nat.min_eq_left (by rw [HM.out]; omega)]) hgrow (hatg.imp id fun h => by rw [h]; simp))
    have hb2 : Below W.heap.size W w2 := below_grown (below_new HB1.out (by have := HBW.out.size; omega) _) hgrow (HOWN.out.alloc _) (by omega) (by have := HBW.out.size; simp; omega)
    clear hown2 hgrow hatg HAT2 HCS HOWN
    go_wp2
    go_roundw
    case rel => exact ⟨i + 1, _, rfl, by omega, by go_num, HBU3, hb2⟩
    case measure => simp [intOf]; omega
   ·obtain rfl : i = m := by omega
    obtain ⟨ys, hys⟩ : ∃ ys, foldEs opF sub = ys := ⟨_, rfl⟩
    have hbu := HBU.out
    rw [List.take_of_length_le (by rw [HM.out]; exact Nat.le_refl _), hys] at hbu
    have hyl : ys.length = i := by rw [← hys, foldEs_len, HM.out]
    obtain ⟨A1, c1, rfl, hrow1⟩ := hbu.row (by rw [hyl]; exact hsb)
    have HR1 := Lib.hid hrow1
    have HYS := Lib.hid hys
    have HYL := Lib.hid hyl
    rw [hyl]
    have hc1 := hrow1.2.1
    have hc1' : i ≤ c1 := by rw [← hyl]; exact hrow1.1
    clear HBU hbu hrow1 hys hyl
    have hX1 := (hbr.block H (by omega)).trans HX0.out
    have hZ1 := (hbr.block (H + 1) (by omega)).trans HZ0'.out
    have d4 : wr.cell? ⟨H, 4, none⟩ = some (.slice A i cap) := heap_cell 4 _ hX1 rfl
    have df : wr.frozen? ⟨H, 4, none⟩ = false := heap_free 4 hX1
    have HX1 := Lib.hid hX1
    have HZ1' := Lib.hid hZ1
    clear hX1 hZ1
    go_upto_region 8 with (fail)
    refine wp_name fun W1 hW1 => ?_
    have hX2 : W1.heap[H]? = some (.cells (exA op n nm fd A1 i c1 ln) 28) := by
     rw [hW1.out, setCell_eq_setRow _ _ _ _ _ _ _ HX1.out]
     exact setRow_heap _ _ _ _ _ _ HX1.out
    have hZ2 : W1.heap[H + 1]? = some (.cells (exA 0 0 ⟨#[]⟩ ⟨#[]⟩ none 0 0 0) 28) := by
     rw [hW1.out, heap_setCell_other _ _ _ _ (by simp)]
     exact HZ1'.out
    have hb1 : Below w.heap.size w W1 := by
     rw [hW1.out]
     exact (HB.out.trans (hbr.mono HB.out.size)).setCell (by simp; omega) _
    have hm1 : Moves (only wr (news (H + 2))) (only W1 (news (H + 2))) := .onlyW (by rw [hW1.out]; simp) fun b _ hp => ⟨hp, by
     simp only [news, decide_eq_true_eq] at hp
     rw [hW1.out, heap_setCell_other _ _ _ _ (by simp; omega)]⟩
    have HXV := Lib.hid (show XV w W1 H op n nm fd A1 i c1 ln ys from ⟨hX2, hZ2, by rw [← HH.out]; exact hb1, HR1.out.move hm1, by rw [hW1.out]; simp; omega⟩)
    have e0 : W1.cell? ⟨H, 0, none⟩ = some (.int .i64 op) := heap_cell 0 _ hX2 rfl
    have e5 : W1.cell? ⟨H, 5, none⟩ = some (.int .i64 ln) := heap_cell 5 _ hX2 rfl
    have HT : Hid (foldE opF (.mk op n nm fd sub ln) = topX opF op n nm fd ys ln) := Lib.hid (by rw [foldE, HYS.out])
    have hzW := HXV.out.lt
    clear hW1 hX2 hZ2 hb1 hm1 HX1 HZ1' HR1 d4 df hbr hbs HR HIH
    by_cases hop : op < 6
    ·have HEQ := Lib.hid (HT.out.trans (topX_low hop))
     clear e5
     go_wp2_with (first
      | refine wpList_load_row rfl 28 _ rfl H rfl 28 (exA op n nm fd A1 i c1 ln) (0, 0) _ HXV.out.x Tryd.underlying28 rfl expr_size ?_
      | refine wpList_store_row rfl 28 _ _ rfl (H + 1) (exA op n nm fd A1 i c1 ln) rfl rfl 28 _ HXV.out.z expr_size rfl (exA_one op n nm fd A1 i c1 ln) ?_)
     exact post_row Tryd.results11 rfl (setRow_heap _ _ _ _ _ _ HXV.out.z) Tryd.underlying28 rfl expr_size rfl (HXV.out.done HEQ.out HO.out HNr.out HLN.out HYL.out _)
    obtain ⟨R0, hR0⟩ : ∃ R, constV (.mk op n nm fd ys ln) = R := ⟨_, rfl⟩
    obtain ⟨z0, is0, ok0⟩ := R0
    have HT0 : Hid (constT (.mk op n nm fd ys ln) = .tuple #[.int .i64 z0, .bool is0, .bool ok0]) := Lib.hid (by unfold constT; rw [hR0])
    have HR0 := Lib.hid hR0
    clear hR0
    go_wp2_with (refine wpList_load_row rfl 28 _ rfl H rfl 28 (exA op n nm fd A1 i c1 ln) (0, 0) _ HXV.out.x Tryd.underlying28 rfl expr_size ?_)
    refine (HXV.out.const HO.out HNr.out HLN.out HYL.out).mono ?_
    rintro e w2 ⟨rfl, hb2⟩
    rw [HT0.out]
    have HXV2 := Lib.hid (HXV.out.below hb2)
    have f0 := (hb2.cell (p := ⟨H, 0, none⟩) (by show H < _; omega)).trans e0
    have f5 := (hb2.cell (p := ⟨H, 5, none⟩) (by show H < _; omega)).trans e5
    clear HXV hb2 e0 e5 hzW
    have HXV := HXV2
    clear HXV2
    cases ok0
    case true =>
     have HEQ := Lib.hid (HT.out.trans (topX_const (by rw [HR0.out])))
     clear f0 f5
     go_wp2_with (first
      | refine wpList_load_row rfl 28 _ rfl H rfl 28 (exA op n nm fd A1 i c1 ln) (0, 0) _ HXV.out.x Tryd.underlying28 rfl expr_size ?_
      | refine wpList_store_row rfl 28 _ _ rfl (H + 1) (exA op n nm fd A1 i c1 ln) rfl rfl 28 _ HXV.out.z expr_size rfl (exA_one op n nm fd A1 i c1 ln) ?_)
     exact post_row Tryd.results11 rfl (setRow_heap _ _ _ _ _ _ HXV.out.z) Tryd.underlying28 rfl expr_size rfl (HXV.out.done HEQ.out HO.out HNr.out HLN.out HYL.out _)
    obtain ⟨j0, hj0, jz0, jz1, jz2⟩ := info_parts fd_i64
    have JI := Lib.hid hj0
    have JZ0 := Lib.hid jz0
    have JZ1 := Lib.hid jz1
    have JZ2 := Lib.hid jz2
    clear hj0 jz0 jz1 jz2
    go_wp2_with fail
    refine wp_name fun W2 hW2 => ?_
    obtain rfl : W2 = w2 := hW2.out
    clear hW2
    go_loopw [9, 10, 48] (fun v s u wr2 => ∃ (j : Nat) (v' : Value) (tc : Nat), v' = v ∧ j ≤ i ∧ s = .int .i64 tc ∧ u = .int .i64 j ∧ tc ≤ j ∧ Hid (tc = trN (ys.take j)) ∧ Hid (∀ q y, q < j → ys[q]? = some y → (constV y).2.2 = true) ∧ Hid (wr2.ownsRow W2.heap.size 2 1 v' j (intsF (valsX (ys.take j)))) ∧ Below W2.heap.size W2 wr2) (fun _ _ u _ => i - (intOf u).toNat)
    case atStart => exact ⟨0, _, 0, rfl, by omega, rfl, rfl, by omega, Lib.hid rfl, Lib.hid (fun q y h => by omega), Lib.hid (World.ownsRow_nil _ _ _ _), Below.refl _ _⟩
    case round =>
     obtain ⟨j, v', tc, rfl, hj, rfl, rfl, htc, HTC, HALL, HOW, hbr2⟩ := hrel
     have HXVr := Lib.hid (HXV.out.below hbr2)
     have hlt2 := HXV.out.lt
     have hz2 := hbr2.size
     by_cases hlt : j < i
     ·obtain ⟨b2, o2, y, As, ks, hA1, hbl, hy, hat, hsub, hrng⟩ := RowE.at HXVr.out.row (i := j) (by rw [HYL.out]; exact hlt)
      obtain ⟨q2, hq2⟩ : ∃ q : Option Addr, q = some ⟨b2, o2, none⟩ := ⟨_, rfl⟩
      have hi0 : (0 : Int) ≤ (j : Int) ∧ (j : Int) < (i : Int) := by omega
      have HY := Lib.hid hy
      have HRG := Lib.hid hrng
      have HAT := Lib.hid hat
      have HSB := Lib.hid hsub
      clear hy hrng hat hsub hq2 q2
      subst hA1
      go_upto_region 18 with (first
       | refine wpList_load_mid rfl 28 _ rfl b2 (o2 + j * 6) rfl (ExC y As ks) _ HRG.out Tryd.underlying28 rfl expr_size ?_
       | refine wpList_store_new rfl 28 _ _ rfl wr _ (ExC y As ks).toArray rfl rfl rfl expr_size rfl (exC_one y As ks) ?_)
      refine wp_name fun W3 hW3 => ?_
      obtain ⟨G, hG⟩ : ∃ G, G = wr.heap.size := ⟨_, rfl⟩
      rw [← hG]
      have hB3 : Below wr.heap.size wr W3 := by rw [hW3.out]; exact belowBy
      have hh : W3.heap[G]? = some (.cells (ExC y As ks).toArray 28) := by rw [hW3.out, hG]; exact heap_alloc_new _ _
      have HV := Lib.hid (EV.mk0 HAT.out HSB.out hB3 hh)
      have HRW := Lib.hid (rangeAt_of_heap hh)
      have HB3 := Lib.hid hB3
      have hz3 := hB3.size
      obtain ⟨R1, hR1⟩ : ∃ R, constV y = R := ⟨_, rfl⟩
      obtain ⟨z1, is1, ok1⟩ := R1
      have HT1 : Hid (constT y = .tuple #[.int .i64 z1, .bool is1, .bool ok1]) := Lib.hid (by unfold constT; rw [hR1])
      have HR1 := Lib.hid hR1
      clear hW3 hB3 hh HAT HSB HRG hG hR1
      go_wp2_with (refine wpList_load_mid rfl 28 _ rfl G 0 rfl (ExC y As ks) _ HRW.out Tryd.underlying28 rfl expr_size ?_)
      refine (constant_any y As ks _ HV.out.ats).mono ?_
      rintro e w4 ⟨rfl, hb4⟩
      rw [HT1.out]
      have hB4 := HB3.out.trans (hb4.mono HB3.out.size)
      have hz4 := hb4.size
      have HXV4 := Lib.hid (HXVr.out.below hB4)
      cases ok1
      ·have HEQ := Lib.hid (HT.out.trans (topX_not HY.out (by rw [HR1.out])))
       have HXVold := HXV
       clear HXV
       have HXV := HXV4
       go_wp2_with (first
        | refine wpList_load_row rfl 28 _ rfl H rfl 28 (exA op n nm fd (some ⟨b2, o2, none⟩) i c1 ln) (0, 0) _ HXV.out.x Tryd.underlying28 rfl expr_size ?_
        | refine wpList_store_row rfl 28 _ _ rfl (H + 1) (exA op n nm fd (some ⟨b2, o2, none⟩) i c1 ln) rfl rfl 28 _ HXV.out.z expr_size rfl (exA_one op n nm fd (some ⟨b2, o2, none⟩) i c1 ln) ?_)
       exact post_row Tryd.results11 rfl (setRow_heap _ _ _ _ _ _ HXV.out.z) Tryd.underlying28 rfl expr_size rfl (HXV.out.done HEQ.out HO.out HNr.out HLN.out HYL.out _)
      ·have HOW4 := Lib.hid (owns_below HOW.out hB4)
       have HB4 := Lib.hid (hbr2.trans (hB4.mono hbr2.size))
       clear hb4 hB4
       go_wp2_with (at_builtin; refine wpList_append_own _ rfl _ _ 42 rfl W2.heap.size 2 j0 (.int .i64 0) 1 8 Tryd.underlying42 JI.out JZ0.out JZ1.out JZ2.out rfl (by decide) _ j _ rfl (HOW4.out.alloc _) ⟨w4.heap.size, 0, none⟩ 1 1 [.int .i64 z1] rfl rfl ?c14 (one_cell _ rfl) ?c11 ?c12 ?c13 ?_)
       case c14 =>
        intro q u hu
        have had : (⟨w4.heap.size, 0, none⟩ : Addr).add q = ⟨w4.heap.size, q, none⟩ := by cases q <;> simp [Addr.add]
        rw [had]
        exact heap_cell q _ (heap_alloc_new w4 _) (by rw [List.getElem?_toArray]; exact hu)
       case c11 => unfold maxLen; omega
       case c12 => omega
       case c13 => first | omega | (simp; omega)
       intro v2 w5 hown5 hgrow _
       have HO5 : Hid (w5.ownsRow W2.heap.size 2 1 v2 (j + 1) (intsF (valsX (ys.take (j + 1))))) := Lib.hid (by
        rw [valsX_snoc HY.out, HR1.out]
        simpa [intsF] using hown5)
       have hb5 : Below W2.heap.size W2 w5 := below_grown (below_new HB4.out (by have := HB4.out.size; omega) _) hgrow (HOW4.out.alloc _) (by omega) (by simp; omega)
       have HA5 : Hid (∀ q y, q < j + 1 → ys[q]? = some y → (constV y).2.2 = true) := Lib.hid (fun q y' hq hy' => by
        by_cases hqj : q < j
        ·exact HALL.out q y' hqj hy'
        ·obtain rfl : q = j := by omega
         rw [HY.out] at hy'
         cases hy'
         rw [HR1.out])
       have HT5 : Hid (trN (ys.take (j + 1)) = tc + (bif is1 then 1 else 0)) := Lib.hid (by rw [trN_snoc HY.out, HR1.out, HTC.out])
       clear hown5 hgrow HOW HOW4
       cases is1
       all_goals
        go_wp2_with fail
        refine (ftruth_any _ _).mono ?_
        rintro e w' ⟨rfl, rfl⟩
       ·rw [show tvI false = 0 from rfl]
        go_wp2
        go_roundw
        case rel => exact ⟨j + 1, _, tc, rfl, by omega, by go_num, by go_num, by omega, Lib.hid (by rw [HT5.out]; rfl), HA5, HO5, hb5⟩
        case measure => simp [intOf]; omega
       ·rw [show tvI true = 1 from rfl]
        go_wp2
        go_roundw
        case rel => exact ⟨j + 1, _, tc + 1, rfl, by omega, by go_num, by go_num, by omega, Lib.hid (by rw [HT5.out]; rfl), HA5, HO5, hb5⟩
        case measure => simp [intOf]; omega
     ·obtain rfl : i = j := by omega
      have hysT : ys.take i = ys := List.take_of_length_le (by rw [HYL.out]; exact Nat.le_refl _)
      have HTC2 : Hid (tc = trN ys) := Lib.hid (by rw [HTC.out, hysT])
      have hown := HOW.out
      rw [hysT] at hown
      obtain ⟨Al, cl, rfl, hlc, hcm, -⟩ := own_form hown
      unfold maxLen at hcm
      have HLI := Lib.hid (Lies.own hown)
      have HAL : Hid (∀ y ∈ ys, (constV y).2.2 = true) := Lib.hid (fun y hy => by
       obtain ⟨q, hq⟩ := List.mem_iff_getElem?.1 hy
       exact HALL.out q y (by rw [← HYL.out]; exact (List.getElem?_eq_some_iff.1 hq).1) hq)
      have HVR : Hid (∀ z ∈ valsX ys, I64 z) := Lib.hid (fun z hz => by
       obtain ⟨y, hy, rfl⟩ := List.mem_map.1 hz
       obtain ⟨q, hq⟩ := List.mem_iff_getElem?.1 hy
       obtain ⟨b3, o3, y3, As3, ks3, -, -, hy3, hat3, hsub3, -⟩ := RowE.at HXVr.out.row (i := q) (List.getElem?_eq_some_iff.1 hq).1
       rw [hq] at hy3
       cases hy3
       obtain ⟨_, _, _, _, _, hn3, _⟩ := hat3.form
       refine constV_rng hn3 fun s hs => ?_
       obtain ⟨q4, hq4⟩ := List.mem_iff_getElem?.1 hs
       obtain ⟨b4, o4, y4, As4, ks4, -, -, hy4, hat4, -, -⟩ := RowE.at hsub3 (i := q4) (List.getElem?_eq_some_iff.1 hq4).1
       rw [hq4] at hy4
       cases hy4
       obtain ⟨_, _, _, _, _, hn4, _⟩ := hat4.form
       exact hn4)
      have e0 : wr.cell? ⟨H, 0, none⟩ = some (.int .i64 op) := heap_cell 0 _ HXVr.out.x rfl
      have e5 : wr.cell? ⟨H, 5, none⟩ = some (.int .i64 ln) := heap_cell 5 _ HXVr.out.x rfl
      have HXVold := HXV
      clear HXV
      have HXV := HXVr
      clear HXVold HXVr HOW hown hysT HTC HALL f0 f5
      have hzr := HXV.out.lt
      by_cases hmix : tc ≠ 0 ∧ tc ≠ i
      ·have HEQ := Lib.hid (HT.out.trans (topX_mixed (by rw [← HTC2.out]; exact hmix.1) (by rw [← HTC2.out, HYL.out]; exact hmix.2)))
       have u1 : ((tc : Int) == 0) = false := by simp; omega
       have u2 : ((tc : Int) == (i : Int)) = false := by simp; omega
       have u2n : ((tc : Int) != (i : Int)) = true := by simp; omega
       have u1n : ((tc : Int) != 0) = true := by simp; omega
       have u3 : ¬ tc = 0 := hmix.1
       have u4 : ¬ tc = i := hmix.2
       clear hmix e0 e5
       go_wp2_with (first
        | refine wpList_load_row rfl 28 _ rfl H rfl 28 (exA op n nm fd A1 i c1 ln) (0, 0) _ HXV.out.x Tryd.underlying28 rfl expr_size ?_
        | refine wpList_store_row rfl 28 _ _ rfl (H + 1) (exA op n nm fd A1 i c1 ln) rfl rfl 28 _ HXV.out.z expr_size rfl (exA_one op n nm fd A1 i c1 ln) ?_)
       exact post_row Tryd.results11 rfl (setRow_heap _ _ _ _ _ _ HXV.out.z) Tryd.underlying28 rfl expr_size rfl (HXV.out.done HEQ.out HO.out HNr.out HLN.out HYL.out _)
      obtain ⟨tr, htr⟩ : ∃ tr : Bool, tr = true ∧ tc ≠ 0 ∧ tc = i ∨ tr = false ∧ tc = 0 := by
       by_cases h0 : tc = 0
       ·exact ⟨false, .inr ⟨rfl, h0⟩⟩
       ·exact ⟨true, .inl ⟨rfl, h0, by omega⟩⟩
      obtain ⟨R2, hR2⟩ : ∃ R, opF op (valsX ys) tr = R := ⟨_, rfl⟩
      have HRR : Hid (I64 R2.1) := Lib.hid (by rw [← hR2]; exact opF_rng _ _ _ HVR.out)
      obtain ⟨r, isr, flt⟩ := R2
      have HTA : Hid (foldE opF (.mk op n nm fd sub ln) = if flt ≠ 0 ∨ (isr = false ∧ r = -9223372036854775808) then .mk op n nm fd ys ln else madeX r isr ln) := Lib.hid (by
       rw [HT.out, topX_all (by omega) (by rw [HR0.out]; exact Bool.false_ne_true) HAL.out tr (by rw [← HTC2.out, HYL.out]; exact htr), hR2])
      have HR2 := Lib.hid hR2
      clear hR2 hmix HAL HT HR0 hop
      rcases htr with ⟨rfl, h0, htci⟩ | ⟨rfl, h0⟩
      ·have u1 : ((tc : Int) == 0) = false := by simp; omega
       have u2 : ((tc : Int) == (i : Int)) = true := by simp; omega
       have u2n : ((tc : Int) != (i : Int)) = false := by simp; omega
       have u1n : ((tc : Int) != 0) = true := by simp; omega
       have u3 : ¬ tc = 0 := h0
       have u5 : 0 < tc := by omega
       have u6 : (0 : Int) < (tc : Int) := by omega
       clear h0
       have HTI := Lib.hid htci
       clear htci
       go_wp2_with fail
       refine (fop_any op (valsX ys) true Al i cl _ HLI.out hlc (by omega) HVR.out).mono ?_
       rintro e w6 ⟨rfl, hb6⟩
       rw [HR2.out]
       show _
       simp only [opV]
       have HXV6 := Lib.hid (HXV.out.below hb6)
       have g5 := (hb6.cell (p := ⟨H, 5, none⟩) (by show H < _; omega)).trans e5
       have HXVold := HXV
       clear HXV
       have HXV := HXV6
       clear HXVold HXV6 hb6 e0 e5 HLI
       by_cases hf : flt = 0
       ·subst hf
        cases isr
        ·by_cases hr : r = -9223372036854775808
         ·have HEQ := Lib.hid (HTA.out.trans (if_pos (.inr ⟨rfl, hr⟩)))
          subst hr
          clear g5
          go_wp2_with (first
           | refine wpList_load_row rfl 28 _ rfl H rfl 28 (exA op n nm fd A1 i c1 ln) (0, 0) _ HXV.out.x Tryd.underlying28 rfl expr_size ?_
           | refine wpList_store_row rfl 28 _ _ rfl (H + 1) (exA op n nm fd A1 i c1 ln) rfl rfl 28 _ HXV.out.z expr_size rfl (exA_one op n nm fd A1 i c1 ln) ?_)
          exact post_row Tryd.results11 rfl (setRow_heap _ _ _ _ _ _ HXV.out.z) Tryd.underlying28 rfl expr_size rfl (HXV.out.done HEQ.out HO.out HNr.out HLN.out HYL.out _)
         ·have HEQ := Lib.hid (HTA.out.trans (if_neg (fun h => h.elim (fun h => h rfl) (fun h => hr h.2))))
          have hrB : (r == -9223372036854775808) = false := by simp; exact hr
          by_cases h0r : 0 ≤ r
          ·go_wp2_with fail
           refine (made_num r ln _ h0r).mono ?_
           rintro e w7 ⟨rfl, hb7⟩
           have HXV7 := Lib.hid (HXV.out.below hb7)
           have HZ7 := Lib.hid HXV7.out.z
           clear HXV
           go_wp2_with (refine wpList_store_row rfl 28 _ _ rfl (H + 1) (exA 1 r ⟨#[]⟩ ⟨#[]⟩ none 0 0 ln) rfl rfl 28 _ HZ7.out expr_size rfl (exA_one _ _ _ _ _ _ _ _) ?_)
           refine post_row Tryd.results11 rfl (setRow_heap _ _ _ _ _ _ HZ7.out) Tryd.underlying28 rfl expr_size rfl ?_
           rw [HEQ.out]
           exact made_res1 h0r HRR.out HLN.out HXV7.out.b
          ·go_wp2_with fail
           refine (made_neg r ln _ (by omega)).mono ?_
           rintro e w7 ⟨q, rfl, hq1, hq2, hq3, hb7⟩
           have HXV7 := Lib.hid (HXV.out.below hb7)
           have HZ7 := Lib.hid HXV7.out.z
           have HXl := HXV.out.lt
           go_wp2_with (refine wpList_store_row rfl 28 _ _ rfl (H + 1) (exA 6 0 ⟨#[]⟩ ⟨#[]⟩ (some ⟨q, 0, none⟩) 1 1 ln) rfl rfl 28 _ HZ7.out expr_size rfl (exA_one _ _ _ _ _ _ _ _) ?_)
           refine post_row Tryd.results11 rfl (setRow_heap _ _ _ _ _ _ HZ7.out) Tryd.underlying28 rfl expr_size rfl ?_
           rw [HEQ.out]
           exact made_res6 (by omega) HLN.out HXV7.out.b (Nat.le_trans HXV.out.lt hq1) hq2 hq3
        ·have HEQ := Lib.hid (HTA.out.trans (if_neg (fun h => h.elim (fun h => h rfl) (fun h => absurd h.1 (by decide)))))
         go_wp2_with fail
         refine (made_truth r ln _).mono ?_
         rintro e w7 ⟨rfl, hb7⟩
         have HXV7 := Lib.hid (HXV.out.below hb7)
         have HZ7 := Lib.hid HXV7.out.z
         clear HXV
         go_wp2_with (refine wpList_store_row rfl 28 _ _ rfl (H + 1) (exA 2 r ⟨#[]⟩ ⟨#[]⟩ none 0 0 ln) rfl rfl 28 _ HZ7.out expr_size rfl (exA_one _ _ _ _ _ _ _ _) ?_)
         refine post_row Tryd.results11 rfl (setRow_heap _ _ _ _ _ _ HZ7.out) Tryd.underlying28 rfl expr_size rfl ?_
         rw [HEQ.out]
         exact made_res2 HRR.out HLN.out HXV7.out.b
       ·have hfB : (flt == 0) = false := by simp; exact hf
        have hfN : (flt != 0) = true := by simp; exact hf
        have HEQ := Lib.hid (HTA.out.trans (if_pos (.inl hf)))
        clear g5
        go_wp2_with (first
         | refine wpList_load_row rfl 28 _ rfl H rfl 28 (exA op n nm fd A1 i c1 ln) (0, 0) _ HXV.out.x Tryd.underlying28 rfl expr_size ?_
         | refine wpList_store_row rfl 28 _ _ rfl (H + 1) (exA op n nm fd A1 i c1 ln) rfl rfl 28 _ HXV.out.z expr_size rfl (exA_one op n nm fd A1 i c1 ln) ?_)
        exact post_row Tryd.results11 rfl (setRow_heap _ _ _ _ _ _ HXV.out.z) Tryd.underlying28 rfl expr_size rfl (HXV.out.done HEQ.out HO.out HNr.out HLN.out HYL.out _)
      ·have u1 : ((tc : Int) == 0) = true := by simp; omega
       have u1n : ((tc : Int) != 0) = false := by simp; omega
       have u3 : tc = 0 := h0
       have u6 : ¬ (0 : Int) < (tc : Int) := by omega
       clear h0
       go_wp2_with fail
       refine (fop_any op (valsX ys) false Al i cl _ HLI.out hlc (by omega) HVR.out).mono ?_
       rintro e w6 ⟨rfl, hb6⟩
       rw [HR2.out]
       show _
       simp only [opV]
       have HXV6 := Lib.hid (HXV.out.below hb6)
       have g5 := (hb6.cell (p := ⟨H, 5, none⟩) (by show H < _; omega)).trans e5
       have HXVold := HXV
       clear HXV
       have HXV := HXV6
       clear HXVold HXV6 hb6 e0 e5 HLI
       by_cases hf : flt = 0
       ·subst hf
        cases isr
        ·by_cases hr : r = -9223372036854775808
         ·have HEQ := Lib.hid (HTA.out.trans (if_pos (.inr ⟨rfl, hr⟩)))
          subst hr
          clear g5
          go_wp2_with (first
           | refine wpList_load_row rfl 28 _ rfl H rfl 28 (exA op n nm fd A1 i c1 ln) (0, 0) _ HXV.out.x Tryd.underlying28 rfl expr_size ?_
           | refine wpList_store_row rfl 28 _ _ rfl (H + 1) (exA op n nm fd A1 i c1 ln) rfl rfl 28 _ HXV.out.z expr_size rfl (exA_one op n nm fd A1 i c1 ln) ?_)
          exact post_row Tryd.results11 rfl (setRow_heap _ _ _ _ _ _ HXV.out.z) Tryd.underlying28 rfl expr_size rfl (HXV.out.done HEQ.out HO.out HNr.out HLN.out HYL.out _)
         ·have HEQ := Lib.hid (HTA.out.trans (if_neg (fun h => h.elim (fun h => h rfl) (fun h => hr h.2))))
          have hrB : (r == -9223372036854775808) = false := by simp; exact hr
          by_cases h0r : 0 ≤ r
          ·go_wp2_with fail
           refine (made_num r ln _ h0r).mono ?_
           rintro e w7 ⟨rfl, hb7⟩
           have HXV7 := Lib.hid (HXV.out.below hb7)
           have HZ7 := Lib.hid HXV7.out.z
           clear HXV
           go_wp2_with (refine wpList_store_row rfl 28 _ _ rfl (H + 1) (exA 1 r ⟨#[]⟩ ⟨#[]⟩ none 0 0 ln) rfl rfl 28 _ HZ7.out expr_size rfl (exA_one _ _ _ _ _ _ _ _) ?_)
           refine post_row Tryd.results11 rfl (setRow_heap _ _ _ _ _ _ HZ7.out) Tryd.underlying28 rfl expr_size rfl ?_
           rw [HEQ.out]
           exact made_res1 h0r HRR.out HLN.out HXV7.out.b
          ·go_wp2_with fail
           refine (made_neg r ln _ (by omega)).mono ?_
           rintro e w7 ⟨q, rfl, hq1, hq2, hq3, hb7⟩
           have HXV7 := Lib.hid (HXV.out.below hb7)
           have HZ7 := Lib.hid HXV7.out.z
           have HXl := HXV.out.lt
           go_wp2_with (refine wpList_store_row rfl 28 _ _ rfl (H + 1) (exA 6 0 ⟨#[]⟩ ⟨#[]⟩ (some ⟨q, 0, none⟩) 1 1 ln) rfl rfl 28 _ HZ7.out expr_size rfl (exA_one _ _ _ _ _ _ _ _) ?_)
           refine post_row Tryd.results11 rfl (setRow_heap _ _ _ _ _ _ HZ7.out) Tryd.underlying28 rfl expr_size rfl ?_
           rw [HEQ.out]
           exact made_res6 (by omega) HLN.out HXV7.out.b (Nat.le_trans HXV.out.lt hq1) hq2 hq3
        ·have HEQ := Lib.hid (HTA.out.trans (if_neg (fun h => h.elim (fun h => h rfl) (fun h => absurd h.1 (by decide)))))
         go_wp2_with fail
         refine (made_truth r ln _).mono ?_
         rintro e w7 ⟨rfl, hb7⟩
         have HXV7 := Lib.hid (HXV.out.below hb7)
         have HZ7 := Lib.hid HXV7.out.z
         clear HXV
         go_wp2_with (refine wpList_store_row rfl 28 _ _ rfl (H + 1) (exA 2 r ⟨#[]⟩ ⟨#[]⟩ none 0 0 ln) rfl rfl 28 _ HZ7.out expr_size rfl (exA_one _ _ _ _ _ _ _ _) ?_)
         refine post_row Tryd.results11 rfl (setRow_heap _ _ _ _ _ _ HZ7.out) Tryd.underlying28 rfl expr_size rfl ?_
         rw [HEQ.out]
         exact made_res2 HRR.out HLN.out HXV7.out.b
       ·have hfB : (flt == 0) = false := by simp; exact hf
        have hfN : (flt != 0) = true := by simp; exact hf
        have HEQ := Lib.hid (HTA.out.trans (if_pos (.inl hf)))
        clear g5
        go_wp2_with (first
         | refine wpList_load_row rfl 28 _ rfl H rfl 28 (exA op n nm fd A1 i c1 ln) (0, 0) _ HXV.out.x Tryd.underlying28 rfl expr_size ?_
         | refine wpList_store_row rfl 28 _ _ rfl (H + 1) (exA op n nm fd A1 i c1 ln) rfl rfl 28 _ HXV.out.z expr_size rfl (exA_one op n nm fd A1 i c1 ln) ?_)
        exact post_row Tryd.results11 rfl (setRow_heap _ _ _ _ _ _ HXV.out.z) Tryd.underlying28 rfl expr_size rfl (HXV.out.done HEQ.out HO.out HNr.out HLN.out HYL.out _)

end Go.Proofs.YtahjijdadifkaaaDoor
