/- Merged: Statements in part of the memory; a row of one's own as a row of whatever; statements folded, plain. Layer 21: a row of expressions folded. -/
import Derived.Test.YtahjijdadifkaaaDoorTreeX
import Derived.Test.YtahjijdadifkaaaDoorM05
set_option linter.unusedVariables false
set_option linter.unusedSimpArgs false
namespace Go.Proofs.YtahjijdadifkaaaDoor
open Go.RowKit

theorem IntsC.len {w : World} {zs : List Int} {cs : List Value} (h : IntsC w zs cs) : cs.length = 1 := by
 obtain ⟨A, cap, rfl, _⟩ := h
 rfl
theorem IntsC.move {w w' : World} (hm : Moves w w') {zs : List Int} {cs : List Value} (h : IntsC w zs cs) : IntsC w' zs cs := by
 obtain ⟨A, cap, e, r⟩ := h
 exact ⟨A, cap, e, r.move hm fun z c _ hc => ⟨by rw [hc.1]; rfl, hc⟩⟩
theorem RowL.move {w w' : World} (hm : Moves w w') {A : Option Addr} {xs : List (List Int)} {cap : Nat} (h : RowL w A xs cap) : RowL w' A xs cap := RowOf.move h hm fun _ _ _ h => ⟨h.len, h.move hm⟩
theorem RowS.move {w w' : World} (hm : Moves w w') {A : Option Addr} {xs : List ByteArray} {cap : Nat} (h : RowS w A xs cap) : RowS w' A xs cap := RowOf.move h hm fun _ _ _ h => ⟨by rw [h]; rfl, h⟩
theorem StmAt.len {w : World} {s : Stm} {cs : List Value} (h : StmAt w s cs) : cs.length = 19 := by
 obtain ⟨m, rfl, -⟩ := h.form19
 rfl
theorem StmAt.move {w w' : World} (hm : Moves w w') {s : Stm} {cs : List Value} (h : StmAt w s cs) : StmAt w' s cs := by
 induction h with
 | mk op line name dst src conds labels fields blocks tc vc ho hi hto hval Ac Al Af Ab kc kl kf kb hcs hls hfs g h f h1 h2 h3 hB h4 hr ih =>
  refine .mk op line name dst src conds labels fields blocks tc vc ho hi (hto.move hm) (hval.move hm) Ac Al Af Ab kc kl kf kb (hcs.move hm) (hls.move hm) (hfs.move hm) g h f h1 h2 h3 (fun hne => ?_) (fun i bl hbl => ?_) ih
  ·obtain ⟨b, off, ha, hbl, hcell⟩ := hB hne
   exact ⟨b, off, ha, Nat.lt_of_lt_of_le hbl hm.1, fun i bl hi => hm.2 _ _ _ (hcell i bl hi)⟩
  ·obtain ⟨a1, a2, a3, a4⟩ := h4 i bl hbl
   refine ⟨a1, a2, a3, fun hne => ?_⟩
   obtain ⟨b, off, ha, hbl', hcell⟩ := a4 hne
   refine ⟨b, off, ha, Nat.lt_of_lt_of_le hbl' hm.1, fun k hk j hj => ?_⟩
   have hlen := (hr i bl k _ hbl (List.getElem?_eq_getElem hk)).len
   have := hcell k hk j hj
   rw [List.getElem?_eq_getElem (by omega)] at this ⊢
   exact hm.2 _ _ _ this
theorem RowT.move {w w' : World} (hm : Moves w w') {A : Option Addr} {xs : List Stm} {cap : Nat} (h : RowT w A xs cap) : RowT w' A xs cap := RowOf.move h hm fun _ _ _ h => ⟨h.len, h.move hm⟩
theorem BlockC.len {w : World} {bl : List Stm} {cs : List Value} (h : BlockC w bl cs) : cs.length = 1 := by
 obtain ⟨A, cap, rfl, _⟩ := h
 rfl
theorem BlockC.move {w w' : World} (hm : Moves w w') {bl : List Stm} {cs : List Value} (h : BlockC w bl cs) : BlockC w' bl cs := by
 obtain ⟨A, cap, e, r⟩ := h
 exact ⟨A, cap, e, r.move hm⟩
theorem RowB.move {w w' : World} (hm : Moves w w') {A : Option Addr} {xs : List (List Stm)} {cap : Nat} (h : RowB w A xs cap) : RowB w' A xs cap := RowOf.move h hm fun _ _ _ h => ⟨h.len, h.move hm⟩

def orNew (p : Nat → Bool) (H : Nat) : Nat → Bool := fun i => (decide (i < H) && p i) || decide (H ≤ i)
def orFree (p : Nat → Bool) (H : Nat) (v : Value) : Nat → Bool := fun i => (decide (i < H) && p i) || (decide (H ≤ i) && decide (some i ≠ v.ownBlock))
theorem orNew_iff {p : Nat → Bool} {H i : Nat} : orNew p H i = true ↔ (i < H ∧ p i = true) ∨ H ≤ i := by simp [orNew]
theorem orFree_iff {p : Nat → Bool} {H i : Nat} {v : Value} : orFree p H v i = true ↔ (i < H ∧ p i = true) ∨ (H ≤ i ∧ some i ≠ v.ownBlock) := by simp [orFree]
theorem news_iff {H i : Nat} : news H i = true ↔ H ≤ i := by simp [news]

section
variable {α : Type} {Q : World → α → List Value → Prop} {T : TypeId} {size base : Nat} {p : Nat → Bool}
def Built (Q : World → α → List Value → Prop) (T : TypeId) (size : Nat) (p : Nat → Bool) (w : World) (base : Nat) (ys : List α) (v : Value) : Prop := ∃ cs, w.ownsRow base T size v ys.length cs ∧ CellsOf (Q (only w (orFree p base v))) size ys cs
theorem Built.nil (w : World) : Built Q T size p w base [] (.slice none 0 0) := ⟨[], World.ownsRow_nil _ _ _ _, .nil⟩
theorem Built.below (hQ : ∀ w w' y cs, Moves w w' → Q w y cs → Q w' y cs) {w w' : World} {ys : List α} {v : Value} (h : Built Q T size p w base ys v) (hb : Below w.heap.size w w') : Built Q T size p w' base ys v := by
 obtain ⟨cs, h1, h2⟩ := h
 exact ⟨cs, owns_below h1 hb, h2.mono fun y c hy => hQ _ _ _ _ (.onlyB hb fun b _ h => h) hy⟩
theorem Built.snoc (hQ : ∀ w w' y cs, Moves w w' → Q w y cs → Q w' y cs) {w1 w2 : World} {n g cap : Nat} {ys : List α} {y : α} {v : Value} {cs c : List Value} (h : CellsOf (Q (only w1 (orFree p base v))) size ys cs) (hy : Q (only w1 (orFree p base v)) y c) (hc : c.length = size)
  (ho : w2.ownsRow base T size (.slice (some ⟨g, 0, none⟩) n cap) n (cs ++ c)) (hn : n = ys.length + 1) (hg : w1.grownBy w2 v.ownBlock) (hat : v.ownBlock = some g ∨ g = w1.heap.size) (hv : ∀ b, v.ownBlock = some b → base ≤ b) (hbl : base ≤ w1.heap.size) :
  Built Q T size p w2 base (ys ++ [y]) (.slice (some ⟨g, 0, none⟩) n cap) := by
 have hm : Moves (only w1 (orFree p base v)) (only w2 (orFree p base (.slice (some ⟨g, 0, none⟩) n cap))) := .onlyW hg.size fun b hl hp => by
  rw [orFree_iff] at hp
  refine ⟨?_, hg.block b hl ?_⟩
  ·rw [orFree_iff]
   rcases hp with hp | ⟨h1, h2⟩
   ·exact .inl hp
   ·refine .inr ⟨h1, ?_⟩
    show some b ≠ some g
    intro e
    rcases hat with h | h
    ·exact h2 (e.trans h.symm)
    ·injection e with e
     omega
  ·rcases hp with hp | ⟨h1, h2⟩
   ·intro e
    have := hv b e.symm
    omega
   ·exact h2
 refine ⟨cs ++ c, ?_, ?_⟩
 ·rw [List.length_append, List.length_singleton, ← hn]
  exact ho
 ·exact (h.mono fun y c hy => hQ _ _ _ _ hm hy).snoc (hQ _ _ _ _ hm hy) hc
theorem Built.row (hQ : ∀ w w' y cs, Moves w w' → Q w y cs → Q w' y cs) {w : World} {ys : List α} {v : Value} {bytes : Nat} (h : Built Q T size p w base ys v) (hb : ys.length * bytes ≤ 140737488355328) (h0 : 0 < size) : ∃ A cap, v = .slice A ys.length cap ∧ RowOf (only w (orNew p base)) size bytes (Q (only w (orNew p base))) A ys cap := by
 obtain ⟨cs, h1, h2⟩ := h
 have h3 : CellsOf (Q (only w (orNew p base))) size ys cs := h2.mono fun y c hy => hQ _ _ _ _ (.onlyW (Nat.le_refl _) fun b _ hp => ⟨by
  rw [orFree_iff] at hp
  rw [orNew_iff]
  exact hp.imp id And.left, rfl⟩) hy
 exact h3.row h1 rfl hb (fun b hb => by rw [orNew_iff]; exact .inr hb) h0
end

def setsFrom : Array Value → Nat → List Value → Array Value
 | cur, _, [] => cur
 | cur, o, v :: r => setsFrom (cur.setIfInBounds o v) (o + 1) r
theorem heap_setCells {b : Nat} {T : TypeId} : ∀ (vs : List Value) (o : Nat) (w : World) (cur : Array Value), w.heap[b]? = some (.cells cur T) → (w.setCells b o vs).heap[b]? = some (.cells (setsFrom cur o vs) T)
 | [], _, _, _, h => h
 | v :: r, o, w, cur, h => by
  rw [World.setCells, setsFrom]
  refine heap_setCells r (o + 1) _ _ ?_
  rw [setCell_eq_setRow _ _ _ _ _ _ _ h]
  exact setRow_heap _ _ _ _ _ _ h

mutual
def foldS (F : Int → List Int → Bool → Int × Bool × Int) : Stm → Stm
 | .mk op nm dst src conds labels fields blocks ln => .mk op nm (foldE F dst) (foldE F src) (foldEs F conds) labels fields (foldBs F blocks) ln
def foldSs (F : Int → List Int → Bool → Int × Bool × Int) : List Stm → List Stm
 | [] => []
 | x :: l => foldS F x :: foldSs F l
def foldBs (F : Int → List Int → Bool → Int × Bool × Int) : List (List Stm) → List (List Stm)
 | [] => []
 | x :: l => foldSs F x :: foldBs F l
end
mutual
theorem foldS_again (F : Int → List Int → Bool → Int × Bool × Int) : ∀ s : Stm, foldS F (foldS F s) = foldS F s
 | .mk op nm dst src conds labels fields blocks ln => by rw [foldS, foldS, foldE_again, foldE_again, foldEs_again, foldBs_again F blocks]
theorem foldSs_again (F : Int → List Int → Bool → Int × Bool × Int) : ∀ l : List Stm, foldSs F (foldSs F l) = foldSs F l
 | [] => by rw [foldSs, foldSs]
 | x :: l => by rw [foldSs, foldSs, foldS_again F x, foldSs_again F l]
theorem foldBs_again (F : Int → List Int → Bool → Int × Bool × Int) : ∀ l : List (List Stm), foldBs F (foldBs F l) = foldBs F l
 | [] => by rw [foldBs, foldBs]
 | x :: l => by rw [foldBs, foldBs, foldSs_again F x, foldBs_again F l]
end
theorem foldSs_map (F : Int → List Int → Bool → Int × Bool × Int) : ∀ l, foldSs F l = l.map (foldS F)
 | [] => by rw [foldSs]; rfl
 | x :: l => by rw [foldSs, foldSs_map F l]; rfl
theorem foldBs_map (F : Int → List Int → Bool → Int × Bool × Int) : ∀ l, foldBs F l = l.map (foldSs F)
 | [] => by rw [foldBs]; rfl
 | x :: l => by rw [foldBs, foldBs_map F l]; rfl
theorem foldSs_len (F : Int → List Int → Bool → Int × Bool × Int) (l : List Stm) : (foldSs F l).length = l.length := by rw [foldSs_map, List.length_map]
theorem foldBs_len (F : Int → List Int → Bool → Int × Bool × Int) (l : List (List Stm)) : (foldBs F l).length = l.length := by rw [foldBs_map, List.length_map]
theorem foldSs_snoc (F : Int → List Int → Bool → Int × Bool × Int) {l : List Stm} {i : Nat} {y : Stm} (h : l[i]? = some y) : foldSs F (l.take (i + 1)) = foldSs F (l.take i) ++ [foldS F y] := by
 rw [foldSs_map, foldSs_map, List.take_add_one, h]
 simp
theorem foldBs_snoc (F : Int → List Int → Bool → Int × Bool × Int) {l : List (List Stm)} {i : Nat} {y : List Stm} (h : l[i]? = some y) : foldBs F (l.take (i + 1)) = foldBs F (l.take i) ++ [foldSs F y] := by
 rw [foldBs_map, foldBs_map, List.take_add_one, h]
 simp

end Go.Proofs.YtahjijdadifkaaaDoor

namespace Go.Proofs.YtahjijdadifkaaaDoor
open Go.RowKit
attribute [local go_sem] ite_max ite_min vite_max vite_min ext_cell ext_frozen

def RowRes (H : Nat) (ys : List Ex) (e : Ending) (w' : World) : Prop := ∃ A c, e = .returned (.slice A ys.length c) ∧ RowE (only w' (news H)) A ys c

set_option maxRecDepth 100000 in
set_option maxHeartbeats 2000000 in
theorem fexprs_any (xs : List Ex) (w : World) (A : Option Addr) (cap : Nat) (hrow : RowE w A xs cap) : Calls Tryd.prog 40 #[.slice A xs.length cap] w fun e w' => RowRes w.heap.size (foldEs opF xs) e w' ∧ Below w.heap.size w w' := by
 obtain ⟨i0, hi0, hz0, hz1, hz2⟩ := info_parts expr_info
 have HI := Lib.hid hi0
 have HZ0 := Lib.hid hz0
 have HZ1 := Lib.hid hz1
 have HZ2 := Lib.hid hz2
 clear hi0 hz0 hz1 hz2
 have HR := Lib.hid hrow
 have hsl := hrow.1
 have hsc := hrow.2.1
 have hsb := hrow.2.2.1
 obtain ⟨m, hm⟩ : ∃ m, xs.length = m := ⟨_, rfl⟩
 rw [hm] at hsl hsb ⊢
 have HM := Lib.hid hm
 clear hrow hm
 go_enter Tryd.func40, Tryd.ntmps40
 go_wp2_with fail
 go_loopw [3, 8] (fun v u wr => ∃ (i : Nat) (v' : Value), v' = v ∧ i ≤ m ∧ u = .int .i64 i ∧ Hid (BuiltE wr w.heap.size (foldEs opF (xs.take i)) v') ∧ Below w.heap.size w wr) (fun _ u _ => m - (intOf u).toNat)
 case atStart => exact ⟨0, _, rfl, by omega, rfl, Lib.hid (by rw [List.take_zero, foldEs]; exact BuiltE.nil _ _), Below.refl _ _⟩
 case round =>
  obtain ⟨i, v', rfl, hi, rfl, HBU, hbr⟩ := hrel
  have hbs := hbr.size
  by_cases hlt : i < m
  ·obtain ⟨b, off, y, As, ks, rfl, hbl, hy, hat, hsub, hrng⟩ := RowE.at (HR.out.below hbr) (i := i) (by rw [HM.out]; exact hlt)
   have hi0 : (0 : Int) ≤ (i : Int) ∧ (i : Int) < (m : Int) := by omega
   have HY := Lib.hid hy
   have HRG := Lib.hid hrng
   have HAT := Lib.hid hat
   have HSB := Lib.hid hsub
   clear hy hrng hat hsub
   go_upto_region 5 with (first
    | refine wpList_load_mid rfl 28 _ rfl b (off + i * 6) rfl (ExC y As ks) _ HRG.out Tryd.underlying28 rfl expr_size ?_
    | refine wpList_store_new rfl 28 _ _ rfl wr _ (ExC y As ks).toArray rfl rfl rfl expr_size rfl (exC_one y As ks) ?_)
   refine wp_name fun W2 hW2 => ?_
   obtain ⟨G, hG⟩ : ∃ G, G = wr.heap.size := ⟨_, rfl⟩
   rw [← hG]
   have hB2 : Below wr.heap.size wr W2 := by rw [hW2.out]; exact belowBy
   have hh : W2.heap[G]? = some (.cells (ExC y As ks).toArray 28) := by rw [hW2.out, hG]; exact heap_alloc_new _ _
   have HV := Lib.hid (EV.mk0 HAT.out HSB.out hB2 hh)
   have HBU2 := Lib.hid (HBU.out.below hB2)
   have HBW := Lib.hid (hbr.trans (hB2.mono hbr.size))
   have hz2 := hB2.size
   have HRW := Lib.hid (rangeAt_of_heap hh)
   clear hW2 hB2 hh HAT HSB HRG HBU hbr hG
   go_wp2_with (refine wpList_load_mid rfl 28 _ rfl G 0 rfl (ExC y As ks) _ HRW.out Tryd.underlying28 rfl expr_size ?_)
   refine (fexpr_any _ y (Nat.lt_succ_self _) _ As ks HV.out.ats).mono ?_
   rintro e w1 ⟨⟨A1, c1, rfl, hat1⟩, hb1⟩
   obtain ⟨y', hy'⟩ : ∃ y', foldE opF y = y' := ⟨_, rfl⟩
   rw [hy'] at hat1 ⊢
   have hz1 := hb1.size
   obtain ⟨cs, hown, hcs⟩ := HBU2.out.below hb1
   rw [foldEs_len, List.length_take, Nat.min_eq_left (by rw [HM.out]; omega)] at hown
   have hb1a : Below w1.heap.size w1 (w1.alloc (.cells (exA y'.op y'.n y'.name y'.field A1 y'.sub.length c1 y'.line) 28)) := below_new (Below.refl _ _) (Nat.le_refl _) _
   have hat2 : ExAt (only (w1.alloc (.cells (exA y'.op y'.n y'.name y'.field A1 y'.sub.length c1 y'.line) 28)) (frees w.heap.size v')) y' (ExC y' A1 c1) := hat1.move (.onlyB hb1a fun b hb hp => by
    simp only [news, decide_eq_true_eq] at hp
    simp only [frees, Bool.and_eq_true, decide_eq_true_eq]
    refine ⟨by omega, fun e => ?_⟩
    obtain ⟨cs0, ho0, -⟩ := HBU2.out
    have := (ho0.lt b e.symm).2
    omega)
   have HAT2 := Lib.hid hat2
   have HCS := Lib.hid (hcs.mono fun z c hz => hz.move (.onlyB hb1a fun b _ h => h))
   have HOWN := Lib.hid hown
   have HB1 := Lib.hid (HBW.out.trans (hb1.mono HBW.out.size))
   have HYY := Lib.hid hy'
   clear hat1 hat2 hcs hown hb1 hb1a hy'
   go_wp2_with (at_builtin; refine wpList_append_lies _ rfl _ _ 26 rfl w.heap.size 28 i0 (.agg #[.int .i64 0, .int .i64 0, .string ⟨#[]⟩, .string ⟨#[]⟩, .slice none 0 0, .int .i64 0]) 6 80 Tryd.underlying26 HI.out HZ0.out HZ1.out HZ2.out rfl (by decide) _ i _ rfl (HOWN.out.alloc _) ⟨w1.heap.size, 0, none⟩ 1 1 (ExC y' A1 c1) rfl rfl ?c4 ?c6 (by decide) ?c1 ?c2 ?c3 (w1.heap.size + 1) ?c5 ?_)
   case c4 =>
    intro j u hu
    have had : (⟨w1.heap.size, 0, none⟩ : Addr).add j = ⟨w1.heap.size, j, none⟩ := by cases j <;> simp [Addr.add]
    rw [had]
    exact heap_cell j _ (heap_alloc_new w1 _) (by rw [List.getElem?_toArray]; exact hu)
   case c6 => intro u hu; exact (List.all_eq_true.1 (by simpa using exC_one y' A1 c1) u hu)
   case c1 => unfold maxLen; omega
   case c2 => omega
   case c3 => first | omega | (simp; omega)
   case c5 => simp
   intro g cap2 w2 hown2 hgrow hatg hg2
   have HBU3 : Hid (BuiltE w2 w.heap.size (foldEs opF (xs.take (i + 1))) (.slice (some ⟨g, 0, none⟩) (i + 1) cap2)) := Lib.hid (by
    rw [foldEs_snoc opF HY.out, HYY.out]
    exact BuiltE.snoc HCS.out HAT2.out hown2 (by rw [foldEs_len, List.length_take, Nat.min_eq_left (by rw [HM.out]; omega)]) hgrow (hatg.imp id fun h => by rw [h]; simp))
   have hb2 : Below w.heap.size w w2 := below_grown (below_new HB1.out (by have := HBW.out.size; omega) _) hgrow (HOWN.out.alloc _) (by omega) (by have := HBW.out.size; simp; omega)
   clear hown2 hgrow hatg HAT2 HCS HOWN
   go_wp2
   go_roundw
   case rel => exact ⟨i + 1, _, rfl, by omega, by go_num, HBU3, hb2⟩
   case measure => simp [intOf]; omega
  ·obtain rfl : i = m := by omega
   have hbu := HBU.out
   rw [List.take_of_length_le (by rw [HM.out]; exact Nat.le_refl _)] at hbu
   obtain ⟨A1, c1, hv, hrow1⟩ := hbu.row (by rw [foldEs_len, HM.out]; exact hsb)
   have HRES : Hid (RowRes w.heap.size (foldEs opF xs) (.returned v') wr) := Lib.hid ⟨A1, c1, by rw [hv], hrow1⟩
   clear HBU hbu hv hrow1
   go_wp2
   go_ret
   exact ⟨HRES.out, hbr⟩

end Go.Proofs.YtahjijdadifkaaaDoor
